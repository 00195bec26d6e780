/- Lemmas: part 3. -/
import Derived.Test.YtbdolnbgjkhdnaaGreatDoorD2
import Derived.Shelf.SlIter.Nil
import Derived.Shelf.SlIter.Sorted
import Derived.Shelf.SortM.Plain
import Derived.Shelf.SortM.SortNone
import Derived.Test.YtbdolnbgjkhdnaaGreatDoorProg
import Derived.StringKeys
set_option linter.all false
set_option maxRecDepth 100000
set_option maxHeartbeats 20000000
namespace Go.Proofs.YtbdolnbgjkhdnaaGreatDoor
open Go.RowKit
/- tree: contracts by what is owned (printed by walk.py). -/

def linkN (N : ND) (m : Int) : ND := { N with kind := N.kind, size := ndSize N, links := N.links + m, upn := N.upn, upg := N.upg }
def touchN (N : ND) : ND := { N with change := N.change + 1 }
def keepN (N : ND) (a0 a1 a2 a4 a5 : Int) : ND := { N with kind := a0, size := a1, links := a2, upn := a4, upg := a5 }
theorem atOf_self {ps : List (Option Nat)} {gs : List Int} {k nb : Nat} {x : Int} (h1 : k < ps.length) (h2 : k < gs.length) : atOf (ps.set k (some nb)) (gs.set k (x + 1)) (k : Int) x = some nb := by
  rw [atOf_in (p := some nb) (x := x + 1) (List.getElem?_set_self h1) (List.getElem?_set_self h2)]
  simp
theorem atOf_ne {ps : List (Option Nat)} {gs : List Int} {k i nb : Nat} {p : Option Nat} {y g : Int} (h : atOf ps gs (i : Int) g = some nb) (hn : k ≠ i) : atOf (ps.set k p) (gs.set k y) (i : Int) g = some nb := by
  have hl : i < ps.length ∧ i < gs.length := by
    unfold atOf at h
    split at h
    · cases h
    · rename_i hb
      refine ⟨by omega, ?_⟩
      simp only [Int.toNat_natCast] at h
      split at h
      · rename_i h1 h2; exact (List.getElem?_eq_some_iff.1 h2).1
      · cases h
  rw [← h, atOf_in (List.getElem?_eq_getElem hl.1) (List.getElem?_eq_getElem hl.2), atOf_in (p := ps[i]) (x := gs[i]) (by rw [List.getElem?_set_ne hn, List.getElem?_eq_getElem hl.1]) (by rw [List.getElem?_set_ne hn, List.getElem?_eq_getElem hl.2])]
theorem get_ne {α : Type} {l : List α} {k i : Nat} {x y : α} (h : l[i]? = some y) (hn : k ≠ i) : (l.set k x)[i]? = some y := by rw [List.getElem?_set_ne hn, h]
theorem get_at {α : Type} {l : List α} {k : Nat} {x : α} (h : k < l.length) : (l.set k x)[k]? = some x := List.getElem?_set_self h
theorem get_lt {α : Type} {l : List α} {k : Nat} {x : α} (h : l[k]? = some x) : k < l.length := (List.getElem?_eq_some_iff.1 h).1
theorem rng_set {gs : List Int} {k : Nat} {x : Int} (hr : ∀ y ∈ gs, 0 ≤ y ∧ y ≤ 1000000) (hx : gs[k]? = some x) (hb : x ≤ 1000) : ∀ y ∈ gs.set k (x + 1), 0 ≤ y ∧ y ≤ 1000000 := fun y hy => by
  rcases List.mem_or_eq_of_mem_set hy with hy | rfl
  · exact hr y hy
  · have := hr x (List.mem_of_getElem? hx); omega
theorem len_set {α β : Type} {l : List α} {m : List β} {k j : Nat} {x : α} {y : β} (h : l.length = m.length) : (l.set k x).length = (m.set j y).length := by simpa using h

theorem links_spec {B : Nat} (ad : Nat → Addr) (b most tb dm pm : Nat) (ps : List (Option Nat)) (gs : List Int) (vl vg : Value) (T : TypeId) (Sl Sg : Nat → Prop) (l : List (Option ND)) (ds : List DN) (pn : List ((Int × Int) × Int)) (hl : ps.length = gs.length) (hr : ∀ x ∈ gs, 0 ≤ x ∧ x ≤ 1000000) (n g : Int) (k : Nat) (N : ND) (hlk : l[k]? = some (some N)) (ha : atOf ps gs n g = some N.nb) (m : Int) (hm : -1 ≤ m ∧ m ≤ 1) (hli : 0 ≤ N.links ∧ N.links ≤ 1000000)  : Spec Tryz.prog 17 #[.pointer (some ⟨b, 0, none⟩), .agg #[.int .i64 n, .int .i64 g], .int .i64 m] [rCell true b [.pointer (some ⟨tb, 0, none⟩), .int .i64 (most : Int), .int .i64 0, .int .i64 0, .map (some dm), .map (some pm)] 46, rTab tb ps gs vl vg T Sl Sg, rNds l, rEnv B ad [10]] (fun u L => L = [rCell true b [.pointer (some ⟨tb, 0, none⟩), .int .i64 (most : Int), .int .i64 0, .int .i64 0, .map (some dm), .map (some pm)] 46, rTab tb ps gs vl vg T Sl Sg, rNds (l.set k (some (linkN N m))), rEnv B ad [10]]) := by
  refine spec_of (#[.pointer (some ⟨b, 0, none⟩), .agg #[.int .i64 n, .int .i64 g], .int .i64 m, undef, undef, undef, undef, undef, undef, undef, undef, undef, undef, undef, undef, undef, undef, undef, undef, undef, undef, undef, undef, undef, undef, undef, undef, undef, undef]) Tryz.func17 rfl (by kernel_rfl) fun E w0 w h => ?_
  refine c_seq ?_
  refine c_reg ?_
  refine sq_new rfl (fun b => .pointer (some ⟨b, 0, none⟩)) [.int .i64 n, .int .i64 g] 29 (fun _ => by kernel_rfl) h ?_; intro k1 w h
  refine lnil ?_
  refine thn_n ?_
  refine c_seq ?_
  refine d_start 12 [0, 0] (by kernel_rfl) h fun w h => ?_
  refine d_take 0 528 [0, 0] rfl (v := .pointer (some ⟨b, 0, none⟩)) (by kernel_rfl) (qp_thn qp_body) (yq (by kernel_rfl) (g_pure (v := .pointer (some ⟨b, 0, none⟩)) fun _ => by kernel_rfl)) h (by kernel_rfl) ?_
  refine d_take 1 529 [0, 0] rfl (v := .pointer (some ⟨b, 0, none⟩)) (by kernel_rfl) (qp_thn qp_body) (yq (by kernel_rfl) (g_pure (v := .pointer (some ⟨b, 0, none⟩)) fun _ => by kernel_rfl)) h (by kernel_rfl) ?_
  refine d_take 2 531 [0, 0] rfl (v := .pointer (some ⟨b, 0, none⟩)) (by kernel_rfl) (qp_thn qp_body) (yq (by kernel_rfl) (g_pure (v := .pointer (some ⟨b, 0, none⟩)) fun _ => by kernel_rfl)) h (by kernel_rfl) ?_
  refine d_take 3 535 [0, 0] rfl (v := .pointer (some ⟨tb, 0, none⟩)) (by kernel_rfl) (qp_thn qp_body) (yq (by kernel_rfl) (g_ld 0 [.pointer (some ⟨tb, 0, none⟩)] (.pointer (some ⟨tb, 0, none⟩)) (by kernel_rfl) 1 rfl)) h (by kernel_rfl) ?_
  refine d_take 4 527 [0, 0] rfl (v := .agg #[.int .i64 n, .int .i64 g]) (by kernel_rfl) (qp_thn qp_body) (yq (by kernel_rfl) (g_ld 0 [.int .i64 n, .int .i64 g] (.agg #[.int .i64 n, .int .i64 g]) (by kernel_rfl) 0 rfl)) h (by kernel_rfl) ?_
  refine d_ready [5, 9] (by kernel_rfl) rfl ?_
  refine ad_call #[.pointer (some ⟨tb, 0, none⟩), .agg #[.int .i64 n, .int .i64 g]] [2, 2, 2] [3, 3] rfl (by kernel_rfl) (attrY_spec ad tb ps gs vl vg T Sl Sg l hl hr n g k N hlk ha) (fun _ => by kernel_rfl) h ?_ ?_
  · skip
    rintro v_ L_ w ⟨rfl, rfl⟩ h
    refine ⟨by kernel_rfl, ?_⟩
    refine d_take 6 575 [3, 3] rfl (v := .tuple #[.agg #[.int .i64 N.kind, .int .i64 (ndSize N), .int .i64 N.links, .int .i64 N.change, .int .i64 N.upn, .int .i64 N.upg], .nilIface]) (by kernel_rfl) (qp_thn qp_body) (yq (by kernel_rfl) (g_pure (v := .tuple #[.agg #[.int .i64 N.kind, .int .i64 (ndSize N), .int .i64 N.links, .int .i64 N.change, .int .i64 N.upn, .int .i64 N.upg], .nilIface]) fun _ => by kernel_rfl)) h (by kernel_rfl) ?_
    refine d_take 7 895 [3, 3] rfl (v := .agg #[.int .i64 N.kind, .int .i64 (ndSize N), .int .i64 N.links, .int .i64 N.change, .int .i64 N.upn, .int .i64 N.upg]) (by kernel_rfl) (qp_thn qp_body) (yq (by kernel_rfl) (g_pure (v := .agg #[.int .i64 N.kind, .int .i64 (ndSize N), .int .i64 N.links, .int .i64 N.change, .int .i64 N.upn, .int .i64 N.upg]) fun _ => by kernel_rfl)) h (by kernel_rfl) ?_
    refine d_take 8 1791 [3, 3] rfl (v := .nilIface) (by kernel_rfl) (qp_thn qp_body) (yq (by kernel_rfl) (g_pure (v := .nilIface) fun _ => by kernel_rfl)) h (by kernel_rfl) ?_
    refine d_ready [9] (by kernel_rfl) rfl ?_
    refine ad_new [4, 4] rfl (by kernel_rfl) (fun b => .pointer (some ⟨b, 0, none⟩)) [.int .i64 0, .int .i64 0, .int .i64 0, .int .i64 0, .int .i64 0, .int .i64 0] 51 (fun _ => by kernel_rfl) h ?_ ?_
    · skip
      intro k2 w h; refine ⟨by kernel_rfl, ?_⟩
      refine d_ready [10] (by kernel_rfl) rfl ?_
      refine ad_st [4, 4] rfl (by kernel_rfl) 0 [.int .i64 N.kind, .int .i64 (ndSize N), .int .i64 N.links, .int .i64 N.change, .int .i64 N.upn, .int .i64 N.upg] [.int .i64 N.kind, .int .i64 (ndSize N), .int .i64 N.links, .int .i64 N.change, .int .i64 N.upn, .int .i64 N.upg] h 0 rfl (by kernel_rfl) ?_ ?_
      · skip
        intro w h; refine ⟨by kernel_rfl, ?_⟩
        refine d_take 11 2047 [4, 4] rfl (v := .nilIface) (by kernel_rfl) (qp_thn qp_body) (yq (by kernel_rfl) (g_pure (v := .nilIface) fun _ => by kernel_rfl)) h (by kernel_rfl) ?_
        refine d_done (by kernel_rfl) ?_
        refine thn_n ?_
        refine c_seq ?_
        refine c_reg ?_
        refine sq_p (.pointer (some ⟨k2, 2, none⟩)) rfl (fun _ => by kernel_rfl) ?_
        refine sq_q rfl h (g_ld 2 [.int .i64 N.links] (.int .i64 N.links) (by kernel_rfl) 0 rfl) ?_
        refine sq_p (.int .i64 m) rfl (fun _ => by kernel_rfl) ?_
        refine sq_q rfl h (g_eq (v := .int .i64 (IntKind.i64.wrap (N.links + m))) (v' := .int .i64 (N.links + m)) (g_pure fun _ => by kernel_rfl) (wr (by omega))) ?_
        refine sq_p (.pointer (some ⟨k2, 2, none⟩)) rfl (fun _ => by kernel_rfl) ?_
        refine sq_st rfl 2 [.int .i64 (N.links + m)] [.int .i64 N.kind, .int .i64 (ndSize N), .int .i64 (N.links + m), .int .i64 N.change, .int .i64 N.upn, .int .i64 N.upg] h 0 rfl (by kernel_rfl) ?_; intro w h
        refine lnil ?_
        refine thn_n ?_
        refine d_start 7 [0, 3, 3] (by kernel_rfl) h fun w h => ?_
        refine d_take 0 48 [0, 3, 3] rfl (v := .pointer (some ⟨b, 0, none⟩)) (by kernel_rfl) qp_body (yq (by kernel_rfl) (g_pure (v := .pointer (some ⟨b, 0, none⟩)) fun _ => by kernel_rfl)) h (by kernel_rfl) ?_
        refine d_take 1 49 [0, 3, 3] rfl (v := .pointer (some ⟨b, 0, none⟩)) (by kernel_rfl) qp_body (yq (by kernel_rfl) (g_pure (v := .pointer (some ⟨b, 0, none⟩)) fun _ => by kernel_rfl)) h (by kernel_rfl) ?_
        refine d_take 2 51 [0, 3, 3] rfl (v := .pointer (some ⟨b, 0, none⟩)) (by kernel_rfl) qp_body (yq (by kernel_rfl) (g_pure (v := .pointer (some ⟨b, 0, none⟩)) fun _ => by kernel_rfl)) h (by kernel_rfl) ?_
        refine d_take 3 55 [0, 3, 3] rfl (v := .pointer (some ⟨tb, 0, none⟩)) (by kernel_rfl) qp_body (yq (by kernel_rfl) (g_ld 0 [.pointer (some ⟨tb, 0, none⟩)] (.pointer (some ⟨tb, 0, none⟩)) (by kernel_rfl) 2 rfl)) h (by kernel_rfl) ?_
        refine d_take 4 47 [0, 3, 3] rfl (v := .agg #[.int .i64 n, .int .i64 g]) (by kernel_rfl) qp_body (yq (by kernel_rfl) (g_ld 0 [.int .i64 n, .int .i64 g] (.agg #[.int .i64 n, .int .i64 g]) (by kernel_rfl) 1 rfl)) h (by kernel_rfl) ?_
        refine d_take 5 31 [0, 3, 3] rfl (v := .agg #[.int .i64 N.kind, .int .i64 (ndSize N), .int .i64 (N.links + m), .int .i64 N.change, .int .i64 N.upn, .int .i64 N.upg]) (by kernel_rfl) qp_body (yq (by kernel_rfl) (g_ld 0 [.int .i64 N.kind, .int .i64 (ndSize N), .int .i64 (N.links + m), .int .i64 N.change, .int .i64 N.upn, .int .i64 N.upg] (.agg #[.int .i64 N.kind, .int .i64 (ndSize N), .int .i64 (N.links + m), .int .i64 N.change, .int .i64 N.upn, .int .i64 N.upg]) (by kernel_rfl) 0 rfl)) h (by kernel_rfl) ?_
        refine d_ready [6] (by kernel_rfl) rfl ?_
        refine ad_call #[.pointer (some ⟨tb, 0, none⟩), .agg #[.int .i64 n, .int .i64 g], .agg #[.int .i64 N.kind, .int .i64 (ndSize N), .int .i64 (N.links + m), .int .i64 N.change, .int .i64 N.upn, .int .i64 N.upg]] [1, 1, 1] [3, 3, 3] rfl (by kernel_rfl) (keep_spec ad tb ps gs vl vg T Sl Sg l hl hr n g k N hlk ha N.kind (ndSize N) (N.links + m) N.change N.upn N.upg) (fun _ => by kernel_rfl) h ?_ ?_
        · skip
          rintro _ L_ w rfl h
          refine ⟨by kernel_rfl, ?_⟩
          refine d_done (by kernel_rfl) ?_
          refine ret_end [] [5, 0, 0, 0] h (by kernel_rfl) (res_n) ?_
          exact rfl
        exact ad_nil
      exact ad_nil
    exact ad_nil
  refine ad_new [1, 1] rfl (by kernel_rfl) (fun b => .pointer (some ⟨b, 0, none⟩)) [.int .i64 0, .int .i64 0, .int .i64 0, .int .i64 0, .int .i64 0, .int .i64 0] 51 (fun _ => by kernel_rfl) h ?_ ?_
  · skip
    intro k3 w h; refine ⟨by kernel_rfl, ?_⟩
    refine d_ready [5] (by kernel_rfl) rfl ?_
    refine ad_call #[.pointer (some ⟨tb, 0, none⟩), .agg #[.int .i64 n, .int .i64 g]] [3, 3, 3] [4, 4] rfl (by kernel_rfl) (attrY_spec ad tb ps gs vl vg T Sl Sg l hl hr n g k N hlk ha) (fun _ => by kernel_rfl) h ?_ ?_
    · skip
      rintro v_ L_ w ⟨rfl, rfl⟩ h
      refine ⟨by kernel_rfl, ?_⟩
      refine d_take 6 575 [4, 4] rfl (v := .tuple #[.agg #[.int .i64 N.kind, .int .i64 (ndSize N), .int .i64 N.links, .int .i64 N.change, .int .i64 N.upn, .int .i64 N.upg], .nilIface]) (by kernel_rfl) (qp_thn qp_body) (yq (by kernel_rfl) (g_pure (v := .tuple #[.agg #[.int .i64 N.kind, .int .i64 (ndSize N), .int .i64 N.links, .int .i64 N.change, .int .i64 N.upn, .int .i64 N.upg], .nilIface]) fun _ => by kernel_rfl)) h (by kernel_rfl) ?_
      refine d_take 7 895 [4, 4] rfl (v := .agg #[.int .i64 N.kind, .int .i64 (ndSize N), .int .i64 N.links, .int .i64 N.change, .int .i64 N.upn, .int .i64 N.upg]) (by kernel_rfl) (qp_thn qp_body) (yq (by kernel_rfl) (g_pure (v := .agg #[.int .i64 N.kind, .int .i64 (ndSize N), .int .i64 N.links, .int .i64 N.change, .int .i64 N.upn, .int .i64 N.upg]) fun _ => by kernel_rfl)) h (by kernel_rfl) ?_
      refine d_take 8 1791 [4, 4] rfl (v := .nilIface) (by kernel_rfl) (qp_thn qp_body) (yq (by kernel_rfl) (g_pure (v := .nilIface) fun _ => by kernel_rfl)) h (by kernel_rfl) ?_
      refine d_ready [10] (by kernel_rfl) rfl ?_
      refine ad_st [4, 4] rfl (by kernel_rfl) 0 [.int .i64 N.kind, .int .i64 (ndSize N), .int .i64 N.links, .int .i64 N.change, .int .i64 N.upn, .int .i64 N.upg] [.int .i64 N.kind, .int .i64 (ndSize N), .int .i64 N.links, .int .i64 N.change, .int .i64 N.upn, .int .i64 N.upg] h 3 rfl (by kernel_rfl) ?_ ?_
      · skip
        intro w h; refine ⟨by kernel_rfl, ?_⟩
        refine d_take 11 2047 [4, 4] rfl (v := .nilIface) (by kernel_rfl) (qp_thn qp_body) (yq (by kernel_rfl) (g_pure (v := .nilIface) fun _ => by kernel_rfl)) h (by kernel_rfl) ?_
        refine d_done (by kernel_rfl) ?_
        refine thn_n ?_
        refine c_seq ?_
        refine c_reg ?_
        refine sq_p (.pointer (some ⟨k3, 2, none⟩)) rfl (fun _ => by kernel_rfl) ?_
        refine sq_q rfl h (g_ld 2 [.int .i64 N.links] (.int .i64 N.links) (by kernel_rfl) 3 rfl) ?_
        refine sq_p (.int .i64 m) rfl (fun _ => by kernel_rfl) ?_
        refine sq_q rfl h (g_eq (v := .int .i64 (IntKind.i64.wrap (N.links + m))) (v' := .int .i64 (N.links + m)) (g_pure fun _ => by kernel_rfl) (wr (by omega))) ?_
        refine sq_p (.pointer (some ⟨k3, 2, none⟩)) rfl (fun _ => by kernel_rfl) ?_
        refine sq_st rfl 2 [.int .i64 (N.links + m)] [.int .i64 N.kind, .int .i64 (ndSize N), .int .i64 (N.links + m), .int .i64 N.change, .int .i64 N.upn, .int .i64 N.upg] h 3 rfl (by kernel_rfl) ?_; intro w h
        refine lnil ?_
        refine thn_n ?_
        refine d_start 7 [3, 3, 3] (by kernel_rfl) h fun w h => ?_
        refine d_take 0 48 [3, 3, 3] rfl (v := .pointer (some ⟨b, 0, none⟩)) (by kernel_rfl) qp_body (yq (by kernel_rfl) (g_pure (v := .pointer (some ⟨b, 0, none⟩)) fun _ => by kernel_rfl)) h (by kernel_rfl) ?_
        refine d_take 1 49 [3, 3, 3] rfl (v := .pointer (some ⟨b, 0, none⟩)) (by kernel_rfl) qp_body (yq (by kernel_rfl) (g_pure (v := .pointer (some ⟨b, 0, none⟩)) fun _ => by kernel_rfl)) h (by kernel_rfl) ?_
        refine d_take 2 51 [3, 3, 3] rfl (v := .pointer (some ⟨b, 0, none⟩)) (by kernel_rfl) qp_body (yq (by kernel_rfl) (g_pure (v := .pointer (some ⟨b, 0, none⟩)) fun _ => by kernel_rfl)) h (by kernel_rfl) ?_
        refine d_take 3 55 [3, 3, 3] rfl (v := .pointer (some ⟨tb, 0, none⟩)) (by kernel_rfl) qp_body (yq (by kernel_rfl) (g_ld 0 [.pointer (some ⟨tb, 0, none⟩)] (.pointer (some ⟨tb, 0, none⟩)) (by kernel_rfl) 2 rfl)) h (by kernel_rfl) ?_
        refine d_take 4 47 [3, 3, 3] rfl (v := .agg #[.int .i64 n, .int .i64 g]) (by kernel_rfl) qp_body (yq (by kernel_rfl) (g_ld 0 [.int .i64 n, .int .i64 g] (.agg #[.int .i64 n, .int .i64 g]) (by kernel_rfl) 1 rfl)) h (by kernel_rfl) ?_
        refine d_take 5 31 [3, 3, 3] rfl (v := .agg #[.int .i64 N.kind, .int .i64 (ndSize N), .int .i64 (N.links + m), .int .i64 N.change, .int .i64 N.upn, .int .i64 N.upg]) (by kernel_rfl) qp_body (yq (by kernel_rfl) (g_ld 0 [.int .i64 N.kind, .int .i64 (ndSize N), .int .i64 (N.links + m), .int .i64 N.change, .int .i64 N.upn, .int .i64 N.upg] (.agg #[.int .i64 N.kind, .int .i64 (ndSize N), .int .i64 (N.links + m), .int .i64 N.change, .int .i64 N.upn, .int .i64 N.upg]) (by kernel_rfl) 0 rfl)) h (by kernel_rfl) ?_
        refine d_ready [6] (by kernel_rfl) rfl ?_
        refine ad_call #[.pointer (some ⟨tb, 0, none⟩), .agg #[.int .i64 n, .int .i64 g], .agg #[.int .i64 N.kind, .int .i64 (ndSize N), .int .i64 (N.links + m), .int .i64 N.change, .int .i64 N.upn, .int .i64 N.upg]] [0, 0, 0] [3, 3, 3] rfl (by kernel_rfl) (keep_spec ad tb ps gs vl vg T Sl Sg l hl hr n g k N hlk ha N.kind (ndSize N) (N.links + m) N.change N.upn N.upg) (fun _ => by kernel_rfl) h ?_ ?_
        · skip
          rintro _ L_ w rfl h
          refine ⟨by kernel_rfl, ?_⟩
          refine d_done (by kernel_rfl) ?_
          refine ret_end [] [5, 0, 0, 0] h (by kernel_rfl) (res_n) ?_
          exact rfl
        exact ad_nil
      exact ad_nil
    exact ad_nil
  exact ad_nil
theorem root_spec (b most tb dm pm : Nat)  : Spec Tryz.prog 6 #[.pointer (some ⟨b, 0, none⟩)] [rCell true b [.pointer (some ⟨tb, 0, none⟩), .int .i64 (most : Int), .int .i64 0, .int .i64 0, .map (some dm), .map (some pm)] 46] (fun u L => u = .agg #[.int .i64 0, .int .i64 0] ∧ L = [rCell true b [.pointer (some ⟨tb, 0, none⟩), .int .i64 (most : Int), .int .i64 0, .int .i64 0, .map (some dm), .map (some pm)] 46]) := by
  refine spec_of (#[.pointer (some ⟨b, 0, none⟩), undef, undef, undef, undef, undef, undef]) Tryz.func6 rfl (by kernel_rfl) fun E w0 w h => ?_
  refine c_seq ?_
  refine c_reg ?_
  refine sq_new rfl (fun b => .pointer (some ⟨b, 0, none⟩)) [.int .i64 0, .int .i64 0] 29 (fun _ => by kernel_rfl) h ?_; intro k1 w h
  refine lnil ?_
  refine thn_n ?_
  refine c_seq ?_
  refine c_reg ?_
  refine sq_p (.pointer (some ⟨b, 0, none⟩)) rfl (fun _ => by kernel_rfl) ?_
  refine sq_p (.pointer (some ⟨b, 0, none⟩)) rfl (fun _ => by kernel_rfl) ?_
  refine sq_p (.pointer (some ⟨b, 2, none⟩)) rfl (fun _ => by kernel_rfl) ?_
  refine sq_q rfl h (g_ld 2 [.int .i64 0, .int .i64 0] (.agg #[.int .i64 0, .int .i64 0]) (by kernel_rfl) 1 rfl) ?_
  refine sq_st rfl 0 [.int .i64 0, .int .i64 0] [.int .i64 0, .int .i64 0] h 0 rfl (by kernel_rfl) ?_; intro w h
  refine lnil ?_
  refine thn_n ?_
  refine c_ret ?_
  refine ret_end [.agg #[.int .i64 0, .int .i64 0]] [1] h (by kernel_rfl) (res_c 0 [.int .i64 0, .int .i64 0] (.agg #[.int .i64 0, .int .i64 0]) 0 rfl (by kernel_rfl) res_n) ?_
  exact ⟨rfl, rfl⟩
theorem nodes_spec (b most tb dm pm : Nat) (ps : List (Option Nat)) (gs : List Int) (vl vg : Value) (T : TypeId) (Sl Sg : Nat → Prop) (hlen : ps.length ≤ 300)  : Spec Tryz.prog 9 #[.pointer (some ⟨b, 0, none⟩)] [rCell true b [.pointer (some ⟨tb, 0, none⟩), .int .i64 (most : Int), .int .i64 0, .int .i64 0, .map (some dm), .map (some pm)] 46, rTab tb ps gs vl vg T Sl Sg] (fun u L => u = .int .i64 (usedN ps : Nat) ∧ L = [rCell true b [.pointer (some ⟨tb, 0, none⟩), .int .i64 (most : Int), .int .i64 0, .int .i64 0, .map (some dm), .map (some pm)] 46, rTab tb ps gs vl vg T Sl Sg]) := by
  refine spec_of (#[.pointer (some ⟨b, 0, none⟩), undef, undef, undef, undef, undef, undef, undef]) Tryz.func9 rfl (by kernel_rfl) fun E w0 w h => ?_
  refine c_seq ?_
  refine c_reg ?_
  refine sq_p (.int .i64 0) rfl (fun _ => by kernel_rfl) ?_
  refine lnil ?_
  refine thn_n ?_
  refine c_seq ?_
  refine c_reg ?_
  refine sq_p (.pointer (some ⟨b, 0, none⟩)) rfl (fun _ => by kernel_rfl) ?_
  refine sq_p (.pointer (some ⟨b, 0, none⟩)) rfl (fun _ => by kernel_rfl) ?_
  refine sq_p (.pointer (some ⟨b, 0, none⟩)) rfl (fun _ => by kernel_rfl) ?_
  refine sq_q rfl h (g_ld 0 [.pointer (some ⟨tb, 0, none⟩)] (.pointer (some ⟨tb, 0, none⟩)) (by kernel_rfl) 0 rfl) ?_
  refine sq_call #[.pointer (some ⟨tb, 0, none⟩)] [1] rfl (tabCount_spec tb ps gs vl vg T Sl Sg hlen) (fun _ => by kernel_rfl) h ?_; rintro v_ L_ w ⟨rfl, rfl⟩ h
  refine sq_p (.int .i64 (usedN ps : Nat)) rfl (fun _ => by kernel_rfl) ?_
  refine lnil ?_
  refine thn_n ?_
  refine c_ret ?_
  refine ret_end [.int .i64 (usedN ps : Nat)] [1, 0] h (by kernel_rfl) (res_t (by kernel_rfl) res_n) ?_
  exact ⟨rfl, rfl⟩
theorem lookupY_spec {B : Nat} (ad : Nat → Addr) (b most tb dm pm : Nat) (ps : List (Option Nat)) (gs : List Int) (vl vg : Value) (T : TypeId) (Sl Sg : Nat → Prop) (l : List (Option ND)) (ds : List DN) (pn : List ((Int × Int) × Int)) (hl : ps.length = gs.length) (hr : ∀ x ∈ gs, 0 ≤ x ∧ x ≤ 1000000) (n g : Int) (k : Nat) (N : ND) (hlk : l[k]? = some (some N)) (ha : atOf ps gs n g = some N.nb) (j : Nat) (d : DN) (hj : ds[j]? = some d) (hdh : d.h = (n, g)) (hdd : (ds.map (·.h)).Nodup) (s : ByteArray) (hs : s.size ≤ 9223372036854775807) (hok : nameOk s) (x : Int × Int) (hx : aget d.es s = some x)  : Spec Tryz.prog 31 #[.pointer (some ⟨b, 0, none⟩), .agg #[.int .i64 n, .int .i64 g], .string s] [rCell true b [.pointer (some ⟨tb, 0, none⟩), .int .i64 (most : Int), .int .i64 0, .int .i64 0, .map (some dm), .map (some pm)] 46, rTab tb ps gs vl vg T Sl Sg, rNds l, rMap true dm hk (ds.map dnKV), rDirs ds, rEnv B ad [10], rEnv B ad [4]] (fun u L => u = .tuple #[.agg #[.int .i64 x.1, .int .i64 x.2], .nilIface] ∧ L = [rCell true b [.pointer (some ⟨tb, 0, none⟩), .int .i64 (most : Int), .int .i64 0, .int .i64 0, .map (some dm), .map (some pm)] 46, rTab tb ps gs vl vg T Sl Sg, rNds l, rMap true dm hk (ds.map dnKV), rDirs ds, rEnv B ad [10], rEnv B ad [4]]) := by
  refine spec_of (#[.pointer (some ⟨b, 0, none⟩), .agg #[.int .i64 n, .int .i64 g], .string s, undef, undef, undef, undef, undef, undef, undef, undef, undef, undef, undef, undef, undef, undef, undef, undef, undef, undef, undef, undef, undef, undef, undef, undef, undef, undef, undef, undef, undef, undef, undef]) Tryz.func31 rfl (by kernel_rfl) fun E w0 w h => ?_
  refine c_seq ?_
  refine c_reg ?_
  refine sq_new rfl (fun b => .pointer (some ⟨b, 0, none⟩)) [.int .i64 n, .int .i64 g] 29 (fun _ => by kernel_rfl) h ?_; intro k1 w h
  refine sq_new rfl (fun b => .pointer (some ⟨b, 0, none⟩)) [.int .i64 0, .int .i64 0] 29 (fun _ => by kernel_rfl) h ?_; intro k2 w h
  refine sq_p (.nilIface) rfl (fun _ => by kernel_rfl) ?_
  refine lnil ?_
  refine thn_n ?_
  refine c_seq ?_
  refine c_reg ?_
  refine sq_p (.pointer (some ⟨b, 0, none⟩)) rfl (fun _ => by kernel_rfl) ?_
  refine sq_q rfl h (g_ld 0 [.int .i64 n, .int .i64 g] (.agg #[.int .i64 n, .int .i64 g]) (by kernel_rfl) 1 rfl) ?_
  refine sq_p (.string s) rfl (fun _ => by kernel_rfl) ?_
  refine sq_call #[.pointer (some ⟨b, 0, none⟩), .agg #[.int .i64 n, .int .i64 g], .string s] [2, 2, 2, 2, 3, 3] rfl (namedY_spec ad b most tb dm pm ps gs vl vg T Sl Sg l ds pn hl hr n g k N hlk ha j d hj hdh hdd s hs hok) (fun _ => by kernel_rfl) h ?_; rintro v_ L_ w ⟨rfl, rfl⟩ h
  have h := h.pickE (M := [rDirs ds, rCell true b [.pointer (some ⟨tb, 0, none⟩), .int .i64 (most : Int), .int .i64 0, .int .i64 0, .map (some dm), .map (some pm)] 46, rTab tb ps gs vl vg T Sl Sg, rNds l, rMap true dm hk (ds.map dnKV), rEnv B ad [10], rEnv B ad [4], rCell true k2 [.int .i64 0, .int .i64 0] 29, rCell true k1 [.int .i64 n, .int .i64 g] 29]) [8, 0, 0, 0, 0, 0, 0, 0, 0] (by kernel_rfl)
  have h := h.dirOpen hj
  have h : Own w0 E [rMap true d.mb sk (d.es.map enKV), rDirsO ds j, rCell true b [.pointer (some ⟨tb, 0, none⟩), .int .i64 (most : Int), .int .i64 0, .int .i64 0, .map (some dm), .map (some pm)] 46, rTab tb ps gs vl vg T Sl Sg, rNds l, rMap true dm hk (ds.map dnKV), rEnv B ad [10], rEnv B ad [4], rCell true k2 [.int .i64 0, .int .i64 0] 29, rCell true k1 [.int .i64 n, .int .i64 g] 29] w := h
  refine sq_p (.tuple #[.map (some d.mb), .nilIface]) rfl (fun _ => by kernel_rfl) ?_
  refine sq_p (.map (some d.mb)) rfl (fun _ => by kernel_rfl) ?_
  refine sq_p (.nilIface) rfl (fun _ => by kernel_rfl) ?_
  refine sq_p (.map (some d.mb)) rfl (fun _ => by kernel_rfl) ?_
  refine sq_p (.nilIface) rfl (fun _ => by kernel_rfl) ?_
  refine lnil ?_
  refine thn_n ?_
  refine c_seq ?_
  refine c_seq ?_
  refine c_reg ?_
  refine sq_p (.nilIface) rfl (fun _ => by kernel_rfl) ?_
  refine sq_p (.bool false) rfl (fun _ => by kernel_rfl) ?_
  refine lnil ?_
  refine thn_n ?_
  refine c_false (by kernel_rfl) ?_
  refine c_skip ?_
  refine thn_n ?_
  refine c_seq ?_
  refine c_reg ?_
  refine sq_p (.map (some d.mb)) rfl (fun _ => by kernel_rfl) ?_
  refine sq_p (.string s) rfl (fun _ => by kernel_rfl) ?_
  refine sq_q rfl h (g_eq (v' := .tuple #[.agg #[.int .i64 x.1, .int .i64 x.2], .bool true]) (g_look (K := 9) (E := 29) (z := (.agg #[.int .i64 0, .int .i64 0])) (kv := (d.es.map enKV)) (ok := true) (keyStr (by kernel_rfl)) s (by kernel_rfl) (fun _ => by kernel_rfl) 0 rfl) (by rw [en_some hx]; rfl)) ?_
  refine sq_p (.tuple #[.agg #[.int .i64 x.1, .int .i64 x.2], .bool true]) rfl (fun _ => by kernel_rfl) ?_
  refine sq_p (.agg #[.int .i64 x.1, .int .i64 x.2]) rfl (fun _ => by kernel_rfl) ?_
  refine sq_p (.bool true) rfl (fun _ => by kernel_rfl) ?_
  refine sq_new rfl (fun b => .pointer (some ⟨b, 0, none⟩)) [.int .i64 0, .int .i64 0] 29 (fun _ => by kernel_rfl) h ?_; intro k3 w h
  refine sq_st rfl 0 [.int .i64 x.1, .int .i64 x.2] [.int .i64 x.1, .int .i64 x.2] h 0 rfl (by kernel_rfl) ?_; intro w h
  refine sq_p (.bool true) rfl (fun _ => by kernel_rfl) ?_
  refine lnil ?_
  refine thn_n ?_
  refine c_seq ?_
  refine c_seq ?_
  refine c_reg ?_
  refine sq_p (.bool true) rfl (fun _ => by kernel_rfl) ?_
  refine sq_p (.bool false) rfl (fun _ => by kernel_rfl) ?_
  refine lnil ?_
  refine thn_n ?_
  refine c_false (by kernel_rfl) ?_
  refine c_skip ?_
  refine thn_n ?_
  refine c_seq ?_
  refine c_reg ?_
  refine sq_q rfl h (g_ld 0 [.int .i64 x.1, .int .i64 x.2] (.agg #[.int .i64 x.1, .int .i64 x.2]) (by kernel_rfl) 0 rfl) ?_
  refine sq_st rfl 0 [.int .i64 x.1, .int .i64 x.2] [.int .i64 x.1, .int .i64 x.2] h 9 rfl (by kernel_rfl) ?_; intro w h
  refine sq_p (.nilIface) rfl (fun _ => by kernel_rfl) ?_
  refine lnil ?_
  refine thn_n ?_
  refine c_ret ?_
  have h := h.pickE (M := [rMap true d.mb sk (d.es.map enKV), rDirsO ds j, rCell true k3 [.int .i64 x.1, .int .i64 x.2] 29, rCell true b [.pointer (some ⟨tb, 0, none⟩), .int .i64 (most : Int), .int .i64 0, .int .i64 0, .map (some dm), .map (some pm)] 46, rTab tb ps gs vl vg T Sl Sg, rNds l, rMap true dm hk (ds.map dnKV), rEnv B ad [10], rEnv B ad [4], rCell true k2 [.int .i64 x.1, .int .i64 x.2] 29, rCell true k1 [.int .i64 n, .int .i64 g] 29]) [1, 1, 0, 0, 0, 0, 0, 0, 0, 0, 0] (by kernel_rfl)
  have h := h.dirBack (d := d) hj
  refine ret_end [.agg #[.int .i64 x.1, .int .i64 x.2], .nilIface] [2, 2, 2, 2, 0, 1, 1] h (by kernel_rfl) (res_c 0 [.int .i64 x.1, .int .i64 x.2] (.agg #[.int .i64 x.1, .int .i64 x.2]) 8 rfl (by kernel_rfl) (res_t (by kernel_rfl) res_n)) ?_
  exact ⟨rfl, rfl⟩
theorem createFull_spec {B : Nat} (ad : Nat → Addr) (b most tb dm pm : Nat) (ps : List (Option Nat)) (gs : List Int) (vl vg : Value) (T : TypeId) (Sl Sg : Nat → Prop) (l : List (Option ND)) (ds : List DN) (pn : List ((Int × Int) × Int)) (hl : ps.length = gs.length) (hr : ∀ x ∈ gs, 0 ≤ x ∧ x ≤ 1000000) (n g : Int) (k : Nat) (N : ND) (hlk : l[k]? = some (some N)) (ha : atOf ps gs n g = some N.nb) (j : Nat) (d : DN) (hj : ds[j]? = some d) (hdh : d.h = (n, g)) (hdd : (ds.map (·.h)).Nodup) (s : ByteArray) (hs : s.size ≤ 9223372036854775807) (hok : nameOk s) (hx : aget d.es s = none) (kind : Int) (hki : kind = 1 ∨ kind = 2) (hfew : 60 ≤ d.es.length)  : Spec Tryz.prog 7 #[.pointer (some ⟨b, 0, none⟩), .agg #[.int .i64 n, .int .i64 g], .string s, .int .i64 kind] [rCell true b [.pointer (some ⟨tb, 0, none⟩), .int .i64 (most : Int), .int .i64 0, .int .i64 0, .map (some dm), .map (some pm)] 46, rTab tb ps gs vl vg T Sl Sg, rNds l, rMap true dm hk (ds.map dnKV), rDirs ds, rEnv B ad [10], rEnv B ad [4], rEnv B ad [9]] (fun u L => u = .tuple #[.agg #[.int .i64 0, .int .i64 0], errV ad 9] ∧ L = [rCell true b [.pointer (some ⟨tb, 0, none⟩), .int .i64 (most : Int), .int .i64 0, .int .i64 0, .map (some dm), .map (some pm)] 46, rTab tb ps gs vl vg T Sl Sg, rNds l, rMap true dm hk (ds.map dnKV), rDirs ds, rEnv B ad [10], rEnv B ad [4], rEnv B ad [9]]) := by
  refine spec_of (#[.pointer (some ⟨b, 0, none⟩), .agg #[.int .i64 n, .int .i64 g], .string s, .int .i64 kind, undef, undef, undef, undef, undef, undef, undef, undef, undef, undef, undef, undef, undef, undef, undef, undef, undef, undef, undef, undef, undef, undef, undef, undef, undef, undef, undef, undef, undef, undef, undef, undef, undef, undef, undef, undef, undef, undef, undef, undef, undef, undef, undef, undef, undef, undef, undef, undef, undef, undef, undef, undef, undef, undef, undef, undef, undef, undef, undef, undef, undef, undef, undef, undef, undef, undef, undef, undef, undef, undef, undef, undef, undef, undef, undef, undef, undef, undef, undef, undef, undef, undef, undef, undef, undef, undef, undef, undef, undef, undef, undef, undef, undef, undef]) Tryz.func7 rfl (by kernel_rfl) fun E w0 w h => ?_
  refine c_seq ?_
  refine c_reg ?_
  refine sq_new rfl (fun b => .pointer (some ⟨b, 0, none⟩)) [.int .i64 n, .int .i64 g] 29 (fun _ => by kernel_rfl) h ?_; intro k1 w h
  refine sq_new rfl (fun b => .pointer (some ⟨b, 0, none⟩)) [.int .i64 0, .int .i64 0] 29 (fun _ => by kernel_rfl) h ?_; intro k2 w h
  refine sq_p (.nilIface) rfl (fun _ => by kernel_rfl) ?_
  refine lnil ?_
  refine thn_n ?_
  refine c_seq ?_
  refine c_reg ?_
  refine sq_p (.pointer (some ⟨b, 0, none⟩)) rfl (fun _ => by kernel_rfl) ?_
  refine sq_q rfl h (g_ld 0 [.int .i64 n, .int .i64 g] (.agg #[.int .i64 n, .int .i64 g]) (by kernel_rfl) 1 rfl) ?_
  refine sq_p (.string s) rfl (fun _ => by kernel_rfl) ?_
  refine sq_call #[.pointer (some ⟨b, 0, none⟩), .agg #[.int .i64 n, .int .i64 g], .string s] [2, 2, 2, 2, 3, 3] rfl (namedY_spec ad b most tb dm pm ps gs vl vg T Sl Sg l ds pn hl hr n g k N hlk ha j d hj hdh hdd s hs hok) (fun _ => by kernel_rfl) h ?_; rintro v_ L_ w ⟨rfl, rfl⟩ h
  have h := h.pickE (M := [rDirs ds, rCell true b [.pointer (some ⟨tb, 0, none⟩), .int .i64 (most : Int), .int .i64 0, .int .i64 0, .map (some dm), .map (some pm)] 46, rTab tb ps gs vl vg T Sl Sg, rNds l, rMap true dm hk (ds.map dnKV), rEnv B ad [10], rEnv B ad [4], rCell true k2 [.int .i64 0, .int .i64 0] 29, rCell true k1 [.int .i64 n, .int .i64 g] 29, rEnv B ad [9]]) [8, 0, 0, 0, 0, 0, 0, 0, 0, 0] (by kernel_rfl)
  have h := h.dirOpen hj
  have h : Own w0 E [rMap true d.mb sk (d.es.map enKV), rDirsO ds j, rCell true b [.pointer (some ⟨tb, 0, none⟩), .int .i64 (most : Int), .int .i64 0, .int .i64 0, .map (some dm), .map (some pm)] 46, rTab tb ps gs vl vg T Sl Sg, rNds l, rMap true dm hk (ds.map dnKV), rEnv B ad [10], rEnv B ad [4], rCell true k2 [.int .i64 0, .int .i64 0] 29, rCell true k1 [.int .i64 n, .int .i64 g] 29, rEnv B ad [9]] w := h
  refine sq_p (.tuple #[.map (some d.mb), .nilIface]) rfl (fun _ => by kernel_rfl) ?_
  refine sq_p (.map (some d.mb)) rfl (fun _ => by kernel_rfl) ?_
  refine sq_p (.nilIface) rfl (fun _ => by kernel_rfl) ?_
  refine sq_p (.map (some d.mb)) rfl (fun _ => by kernel_rfl) ?_
  refine sq_p (.nilIface) rfl (fun _ => by kernel_rfl) ?_
  refine lnil ?_
  refine thn_n ?_
  refine c_seq ?_
  refine c_reg ?_
  refine sq_p (.map (some d.mb)) rfl (fun _ => by kernel_rfl) ?_
  refine sq_p (.string s) rfl (fun _ => by kernel_rfl) ?_
  refine sq_q rfl h (g_eq (v' := .tuple #[.agg #[.int .i64 0, .int .i64 0], .bool false]) (g_look (K := 9) (E := 29) (z := (.agg #[.int .i64 0, .int .i64 0])) (kv := (d.es.map enKV)) (ok := true) (keyStr (by kernel_rfl)) s (by kernel_rfl) (fun _ => by kernel_rfl) 0 rfl) (by rw [en_none hx]; rfl)) ?_
  refine sq_p (.tuple #[.agg #[.int .i64 0, .int .i64 0], .bool false]) rfl (fun _ => by kernel_rfl) ?_
  refine sq_p (.agg #[.int .i64 0, .int .i64 0]) rfl (fun _ => by kernel_rfl) ?_
  refine sq_p (.bool false) rfl (fun _ => by kernel_rfl) ?_
  refine sq_new rfl (fun b => .pointer (some ⟨b, 0, none⟩)) [.int .i64 0, .int .i64 0] 29 (fun _ => by kernel_rfl) h ?_; intro k3 w h
  refine sq_st rfl 0 [.int .i64 0, .int .i64 0] [.int .i64 0, .int .i64 0] h 0 rfl (by kernel_rfl) ?_; intro w h
  refine sq_p (.bool false) rfl (fun _ => by kernel_rfl) ?_
  refine lnil ?_
  refine thn_n ?_
  refine c_seq ?_
  refine c_block ?_
  refine c_seq ?_
  refine c_reg ?_
  refine sq_p (.nilIface) rfl (fun _ => by kernel_rfl) ?_
  refine sq_p (.bool false) rfl (fun _ => by kernel_rfl) ?_
  refine sq_p (.bool false) rfl (fun _ => by kernel_rfl) ?_
  refine lnil ?_
  refine thn_n ?_
  refine c_false (by kernel_rfl) ?_
  refine c_seq ?_
  refine c_reg ?_
  refine sq_p (.int .i64 kind) rfl (fun _ => by kernel_rfl) ?_
  obtain ⟨b4, hb4⟩ : ∃ b_ : Bool, b_ = (!(decide (kind = 1))) := ⟨_, rfl⟩
  refine sq_q (v := .bool b4) rfl h (by subst hb4; exact g_pure (v := .bool (!(decide (kind = 1)))) fun _ => by kernel_rfl) ?_
  refine sq_p (.bool b4) rfl (fun _ => by kernel_rfl) ?_
  refine sq_m1 (v := .int .i64 kind) b4 (by cases b4 <;> kernel_rfl) h (fun hB => by subst hB; exact g_pure (v := .int .i64 kind) fun _ => by kernel_rfl) ?_
  obtain ⟨b5, hb5⟩ : ∃ b_ : Bool, b_ = (!(decide (kind = 2))) := ⟨_, rfl⟩
  refine sq_m1 (v := .bool b5) b4 (by cases b4 <;> kernel_rfl) h (fun hB => by subst hB; exact by subst hb5; exact g_pure (v := .bool (!(decide (kind = 2)))) fun _ => by kernel_rfl) ?_
  obtain ⟨b6, hb6⟩ : ∃ b_ : Bool, b_ = (b4 && b5) := ⟨_, rfl⟩
  refine sq_q (v := .bool b6) rfl h (by subst hb6; exact g_pure (v := .bool (b4 && b5)) fun _ => by cases b4 <;> kernel_rfl) ?_
  refine sq_p (.bool b6) rfl (fun _ => by kernel_rfl) ?_
  refine lnil ?_
  refine thn_n ?_
  refine c_cond (b6) (by kernel_rfl) (fun hc7 => ?_) (fun hc7 => ?_)
  · skip
    have q8 : (b4 && b5) = true := by rw [← hb6]; exact hc7
    have q9 : b4 = true := by revert q8; cases b4 <;> simp
    have q10 : b5 = true := by revert q8; cases b4 <;> cases b5 <;> simp
    have q11 : (!(decide (kind = 1))) = true := by rw [← hb4]; exact q9
    have q12 : (decide (kind = 1)) = false := by simpa using q11
    have q12 := of_decide_eq_false q12
    have q13 : (!(decide (kind = 2))) = true := by rw [← hb5]; exact q10
    have q14 : (decide (kind = 2)) = false := by simpa using q13
    have q14 := of_decide_eq_false q14
    exfalso; revert hc7; subst hb6; subst hb5; subst hb4; simp; omega
  · skip
    have q15 : (b4 && b5) = false := by rw [← hb6]; exact hc7
    refine c_seq ?_
    refine c_reg ?_
    refine sq_p (.bool false) rfl (fun _ => by kernel_rfl) ?_
    refine sq_p (.bool false) rfl (fun _ => by kernel_rfl) ?_
    refine lnil ?_
    refine thn_n ?_
    refine c_false (by kernel_rfl) ?_
    refine c_seq ?_
    refine c_reg ?_
    refine sq_p (.map (some d.mb)) rfl (fun _ => by kernel_rfl) ?_
    refine sq_q rfl h (g_lenm (K := 9) (E := 29) (by kernel_rfl) 1 rfl) ?_
    refine sq_p (.bool (decide (((d.es.map enKV).length : Int) ≥ 60))) rfl (fun _ => by kernel_rfl) ?_
    refine sq_p (.bool (decide (((d.es.map enKV).length : Int) ≥ 60))) rfl (fun _ => by kernel_rfl) ?_
    refine lnil ?_
    refine thn_n ?_
    refine c_cond (decide (((d.es.map enKV).length : Int) ≥ 60)) (by kernel_rfl) (fun hc16 => ?_) (fun hc16 => ?_)
    · skip
      have hc16 := of_decide_eq_true hc16
      refine c_seq ?_
      refine d_start 4 [11] (by kernel_rfl) h fun w h => ?_
      refine d_take 0 2 [11] rfl (v := .agg #[.int .i64 0, .int .i64 0]) (by kernel_rfl) (qp_thn (qp_blk (qp_thn qp_body))) (yq (by kernel_rfl) (g_pure (v := .agg #[.int .i64 0, .int .i64 0]) fun _ => by kernel_rfl)) h (by kernel_rfl) ?_
      refine d_take 1 5 [11] rfl (v := errV ad 9) (by kernel_rfl) (qp_thn (qp_blk (qp_thn qp_body))) (yq (by kernel_rfl) (g_ldr (b := gl 9) 0 [errV ad 9] (errV ad 9) (by kernel_rfl) 0 rfl (rdEnv (c := 9) (by decide) rfl))) h (by kernel_rfl) ?_
      refine d_ready [2] (by kernel_rfl) rfl ?_
      refine ad_st [11] rfl (by kernel_rfl) 0 [.int .i64 0, .int .i64 0] [.int .i64 0, .int .i64 0] h 9 rfl (by kernel_rfl) ?_ ?_
      · skip
        intro w h; refine ⟨by kernel_rfl, ?_⟩
        refine d_take 3 7 [11] rfl (v := errV ad 9) (by kernel_rfl) (qp_thn (qp_blk (qp_thn qp_body))) (yq (by kernel_rfl) (g_pure (v := errV ad 9) fun _ => by kernel_rfl)) h (by kernel_rfl) ?_
        refine d_done (by kernel_rfl) ?_
        refine thn_n ?_
        refine c_ret ?_
        refine blk_r (thn_r ?_)
        have h := h.pickE (M := [rMap true d.mb sk (d.es.map enKV), rDirsO ds j, rCell true k3 [.int .i64 0, .int .i64 0] 29, rCell true b [.pointer (some ⟨tb, 0, none⟩), .int .i64 (most : Int), .int .i64 0, .int .i64 0, .map (some dm), .map (some pm)] 46, rTab tb ps gs vl vg T Sl Sg, rNds l, rMap true dm hk (ds.map dnKV), rEnv B ad [10], rEnv B ad [4], rCell true k2 [.int .i64 0, .int .i64 0] 29, rCell true k1 [.int .i64 n, .int .i64 g] 29, rEnv B ad [9]]) [1, 1, 0, 0, 0, 0, 0, 0, 0, 0, 0, 0] (by kernel_rfl)
        have h := h.dirBack (d := d) hj
        refine ret_end [.agg #[.int .i64 0, .int .i64 0], errV ad 9] [2, 2, 2, 2, 0, 1, 1, 3] h (by kernel_rfl) (res_c 0 [.int .i64 0, .int .i64 0] (.agg #[.int .i64 0, .int .i64 0]) 8 rfl (by kernel_rfl) (res_t (by kernel_rfl) res_n)) ?_
        exact ⟨rfl, rfl⟩
      exact ad_nil
    · skip
      have hc16 := of_decide_eq_false hc16
      exfalso; revert hc16; simp; omega
theorem createF_spec {B : Nat} (ad : Nat → Addr) (b most tb dm pm : Nat) (ps : List (Option Nat)) (gs : List Int) (vl vg : Value) (T : TypeId) (Sl Sg : Nat → Prop) (l : List (Option ND)) (ds : List DN) (pn : List ((Int × Int) × Int)) (hl : ps.length = gs.length) (hr : ∀ x ∈ gs, 0 ≤ x ∧ x ≤ 1000000) (n g : Int) (k : Nat) (N : ND) (hlk : l[k]? = some (some N)) (ha : atOf ps gs n g = some N.nb) (j : Nat) (d : DN) (hj : ds[j]? = some d) (hdh : d.h = (n, g)) (hdd : (ds.map (·.h)).Nodup) (s : ByteArray) (hs : s.size ≤ 9223372036854775807) (hok : nameOk s) (hx : aget d.es s = none) (hfew : d.es.length < 60) (hnk : n = (k : Int)) (kf : Nat) (x : Int) (hf : free0 ps = some kf) (hxx : gs[kf]? = some x) (hx1 : x ≤ 1000) (hlen : ps.length ≤ 300) (hll : l.length = ps.length) (hkk : kf ≠ k) (hch : 0 ≤ N.change ∧ N.change ≤ 1000000)  : Spec Tryz.prog 7 #[.pointer (some ⟨b, 0, none⟩), .agg #[.int .i64 n, .int .i64 g], .string s, .int .i64 1] [rCell true b [.pointer (some ⟨tb, 0, none⟩), .int .i64 (most : Int), .int .i64 0, .int .i64 0, .map (some dm), .map (some pm)] 46, rTab tb ps gs vl vg T Sl Sg, rNds l, rMap true dm hk (ds.map dnKV), rDirs ds, rEnv B ad [10], rEnv B ad [4]] (fun u L => ∃ nb db, u = .tuple #[.agg #[.int .i64 (kf : Int), .int .i64 x], .nilIface] ∧ L = [rCell true b [.pointer (some ⟨tb, 0, none⟩), .int .i64 (most : Int), .int .i64 0, .int .i64 0, .map (some dm), .map (some pm)] 46, rTab tb (ps.set kf (some nb)) (gs.set kf (x + 1)) vl vg T Sl Sg, rNds (((l.set kf (some (newND nb 1 (some (newDQ db))))).set kf (some (linkN (newND nb 1 (some (newDQ db))) 1))).set k (some (touchN N))), rMap true dm hk ((ds.set j { d with es := aput d.es s ((kf : Int), x) }).map dnKV), rDirs (ds.set j { d with es := aput d.es s ((kf : Int), x) }), rEnv B ad [10], rEnv B ad [4]]) := by
  refine spec_of (#[.pointer (some ⟨b, 0, none⟩), .agg #[.int .i64 n, .int .i64 g], .string s, .int .i64 1, undef, undef, undef, undef, undef, undef, undef, undef, undef, undef, undef, undef, undef, undef, undef, undef, undef, undef, undef, undef, undef, undef, undef, undef, undef, undef, undef, undef, undef, undef, undef, undef, undef, undef, undef, undef, undef, undef, undef, undef, undef, undef, undef, undef, undef, undef, undef, undef, undef, undef, undef, undef, undef, undef, undef, undef, undef, undef, undef, undef, undef, undef, undef, undef, undef, undef, undef, undef, undef, undef, undef, undef, undef, undef, undef, undef, undef, undef, undef, undef, undef, undef, undef, undef, undef, undef, undef, undef, undef, undef, undef, undef, undef, undef]) Tryz.func7 rfl (by kernel_rfl) fun E w0 w h => ?_
  refine c_seq ?_
  refine c_reg ?_
  refine sq_new rfl (fun b => .pointer (some ⟨b, 0, none⟩)) [.int .i64 n, .int .i64 g] 29 (fun _ => by kernel_rfl) h ?_; intro k1 w h
  refine sq_new rfl (fun b => .pointer (some ⟨b, 0, none⟩)) [.int .i64 0, .int .i64 0] 29 (fun _ => by kernel_rfl) h ?_; intro k2 w h
  refine sq_p (.nilIface) rfl (fun _ => by kernel_rfl) ?_
  refine lnil ?_
  refine thn_n ?_
  refine c_seq ?_
  refine c_reg ?_
  refine sq_p (.pointer (some ⟨b, 0, none⟩)) rfl (fun _ => by kernel_rfl) ?_
  refine sq_q rfl h (g_ld 0 [.int .i64 n, .int .i64 g] (.agg #[.int .i64 n, .int .i64 g]) (by kernel_rfl) 1 rfl) ?_
  refine sq_p (.string s) rfl (fun _ => by kernel_rfl) ?_
  refine sq_call #[.pointer (some ⟨b, 0, none⟩), .agg #[.int .i64 n, .int .i64 g], .string s] [2, 2, 2, 2, 3, 3] rfl (namedY_spec ad b most tb dm pm ps gs vl vg T Sl Sg l ds pn hl hr n g k N hlk ha j d hj hdh hdd s hs hok) (fun _ => by kernel_rfl) h ?_; rintro v_ L_ w ⟨rfl, rfl⟩ h
  have h := h.pickE (M := [rDirs ds, rCell true b [.pointer (some ⟨tb, 0, none⟩), .int .i64 (most : Int), .int .i64 0, .int .i64 0, .map (some dm), .map (some pm)] 46, rTab tb ps gs vl vg T Sl Sg, rNds l, rMap true dm hk (ds.map dnKV), rEnv B ad [10], rEnv B ad [4], rCell true k2 [.int .i64 0, .int .i64 0] 29, rCell true k1 [.int .i64 n, .int .i64 g] 29]) [8, 0, 0, 0, 0, 0, 0, 0, 0] (by kernel_rfl)
  have h := h.dirOpen hj
  have h : Own w0 E [rMap true d.mb sk (d.es.map enKV), rDirsO ds j, rCell true b [.pointer (some ⟨tb, 0, none⟩), .int .i64 (most : Int), .int .i64 0, .int .i64 0, .map (some dm), .map (some pm)] 46, rTab tb ps gs vl vg T Sl Sg, rNds l, rMap true dm hk (ds.map dnKV), rEnv B ad [10], rEnv B ad [4], rCell true k2 [.int .i64 0, .int .i64 0] 29, rCell true k1 [.int .i64 n, .int .i64 g] 29] w := h
  refine sq_p (.tuple #[.map (some d.mb), .nilIface]) rfl (fun _ => by kernel_rfl) ?_
  refine sq_p (.map (some d.mb)) rfl (fun _ => by kernel_rfl) ?_
  refine sq_p (.nilIface) rfl (fun _ => by kernel_rfl) ?_
  refine sq_p (.map (some d.mb)) rfl (fun _ => by kernel_rfl) ?_
  refine sq_p (.nilIface) rfl (fun _ => by kernel_rfl) ?_
  refine lnil ?_
  refine thn_n ?_
  refine c_seq ?_
  refine c_reg ?_
  refine sq_p (.map (some d.mb)) rfl (fun _ => by kernel_rfl) ?_
  refine sq_p (.string s) rfl (fun _ => by kernel_rfl) ?_
  refine sq_q rfl h (g_eq (v' := .tuple #[.agg #[.int .i64 0, .int .i64 0], .bool false]) (g_look (K := 9) (E := 29) (z := (.agg #[.int .i64 0, .int .i64 0])) (kv := (d.es.map enKV)) (ok := true) (keyStr (by kernel_rfl)) s (by kernel_rfl) (fun _ => by kernel_rfl) 0 rfl) (by rw [en_none hx]; rfl)) ?_
  refine sq_p (.tuple #[.agg #[.int .i64 0, .int .i64 0], .bool false]) rfl (fun _ => by kernel_rfl) ?_
  refine sq_p (.agg #[.int .i64 0, .int .i64 0]) rfl (fun _ => by kernel_rfl) ?_
  refine sq_p (.bool false) rfl (fun _ => by kernel_rfl) ?_
  refine sq_new rfl (fun b => .pointer (some ⟨b, 0, none⟩)) [.int .i64 0, .int .i64 0] 29 (fun _ => by kernel_rfl) h ?_; intro k3 w h
  refine sq_st rfl 0 [.int .i64 0, .int .i64 0] [.int .i64 0, .int .i64 0] h 0 rfl (by kernel_rfl) ?_; intro w h
  refine sq_p (.bool false) rfl (fun _ => by kernel_rfl) ?_
  refine lnil ?_
  refine thn_n ?_
  refine c_seq ?_
  refine c_block ?_
  refine c_seq ?_
  refine c_reg ?_
  refine sq_p (.nilIface) rfl (fun _ => by kernel_rfl) ?_
  refine sq_p (.bool false) rfl (fun _ => by kernel_rfl) ?_
  refine sq_p (.bool false) rfl (fun _ => by kernel_rfl) ?_
  refine lnil ?_
  refine thn_n ?_
  refine c_false (by kernel_rfl) ?_
  refine c_seq ?_
  refine c_reg ?_
  refine sq_p (.int .i64 1) rfl (fun _ => by kernel_rfl) ?_
  refine sq_p (.bool false) rfl (fun _ => by kernel_rfl) ?_
  refine sq_p (.bool false) rfl (fun _ => by kernel_rfl) ?_
  refine sn (by kernel_rfl) ?_
  refine sn (by kernel_rfl) ?_
  refine sq_p (.bool false) rfl (fun _ => by kernel_rfl) ?_
  refine sq_p (.bool false) rfl (fun _ => by kernel_rfl) ?_
  refine lnil ?_
  refine thn_n ?_
  refine c_false (by kernel_rfl) ?_
  refine c_seq ?_
  refine c_reg ?_
  refine sq_p (.bool false) rfl (fun _ => by kernel_rfl) ?_
  refine sq_p (.bool false) rfl (fun _ => by kernel_rfl) ?_
  refine lnil ?_
  refine thn_n ?_
  refine c_false (by kernel_rfl) ?_
  refine c_seq ?_
  refine c_reg ?_
  refine sq_p (.map (some d.mb)) rfl (fun _ => by kernel_rfl) ?_
  refine sq_q rfl h (g_lenm (K := 9) (E := 29) (by kernel_rfl) 1 rfl) ?_
  refine sq_p (.bool (decide (((d.es.map enKV).length : Int) ≥ 60))) rfl (fun _ => by kernel_rfl) ?_
  refine sq_p (.bool (decide (((d.es.map enKV).length : Int) ≥ 60))) rfl (fun _ => by kernel_rfl) ?_
  refine lnil ?_
  refine thn_n ?_
  refine c_cond (decide (((d.es.map enKV).length : Int) ≥ 60)) (by kernel_rfl) (fun hc4 => ?_) (fun hc4 => ?_)
  · skip
    have hc4 := of_decide_eq_true hc4
    exfalso; revert hc4; simp; omega
  · skip
    have hc4 := of_decide_eq_false hc4
    refine c_skip ?_
    refine blk_n (thn_n ?_)
    refine c_seq ?_
    refine c_reg ?_
    refine sq_p (.pointer (some ⟨b, 0, none⟩)) rfl (fun _ => by kernel_rfl) ?_
    refine sq_p (.pointer (some ⟨b, 0, none⟩)) rfl (fun _ => by kernel_rfl) ?_
    refine sq_p (.pointer (some ⟨b, 0, none⟩)) rfl (fun _ => by kernel_rfl) ?_
    refine sq_q rfl h (g_ld 0 [.pointer (some ⟨tb, 0, none⟩)] (.pointer (some ⟨tb, 0, none⟩)) (by kernel_rfl) 3 rfl) ?_
    refine sq_p (.int .i64 1) rfl (fun _ => by kernel_rfl) ?_
    refine sq_call #[.pointer (some ⟨tb, 0, none⟩), .int .i64 1] [4, 4] rfl (tabAdd1_spec tb kf x ps gs vl vg T Sl Sg l hlen hl hf hxx (by have := hr x (List.mem_of_getElem? hxx); omega)) (fun _ => by kernel_rfl) h ?_; rintro v_ L_ w ⟨nb5, db6, rfl, rfl⟩ h
    have hkfl := get_lt hxx
    have hkl := get_lt hlk
    have hx0 := hr x (List.mem_of_getElem? hxx)
    have hl2 := len_set (x := some nb5) (y := x + 1) (k := kf) (j := kf) hl
    have hr2 := rng_set hr hxx hx1
    have ha2 : atOf (ps.set kf (some nb5)) (gs.set kf (x + 1)) (kf : Int) x = some nb5 := atOf_self (by omega) hkfl
    have haN : atOf (ps.set kf (some nb5)) (gs.set kf (x + 1)) n g = some N.nb := by rw [hnk] at ha ⊢; exact atOf_ne ha hkk
    refine sq_p (.tuple #[.agg #[.int .i64 (kf : Int), .int .i64 x], .nilIface]) rfl (fun _ => by kernel_rfl) ?_
    refine sq_p (.agg #[.int .i64 (kf : Int), .int .i64 x]) rfl (fun _ => by kernel_rfl) ?_
    refine sq_p (.nilIface) rfl (fun _ => by kernel_rfl) ?_
    refine sq_new rfl (fun b => .pointer (some ⟨b, 0, none⟩)) [.int .i64 0, .int .i64 0] 29 (fun _ => by kernel_rfl) h ?_; intro k7 w h
    refine sq_st rfl 0 [.int .i64 (kf : Int), .int .i64 x] [.int .i64 (kf : Int), .int .i64 x] h 0 rfl (by kernel_rfl) ?_; intro w h
    refine sq_p (.nilIface) rfl (fun _ => by kernel_rfl) ?_
    refine lnil ?_
    refine thn_n ?_
    refine c_seq ?_
    refine c_seq ?_
    refine c_reg ?_
    refine sq_p (.nilIface) rfl (fun _ => by kernel_rfl) ?_
    refine sq_p (.bool false) rfl (fun _ => by kernel_rfl) ?_
    refine lnil ?_
    refine thn_n ?_
    refine c_false (by kernel_rfl) ?_
    refine c_skip ?_
    refine thn_n ?_
    refine c_seq ?_
    refine c_reg ?_
    refine sq_p (.map (some d.mb)) rfl (fun _ => by kernel_rfl) ?_
    refine sq_p (.string s) rfl (fun _ => by kernel_rfl) ?_
    refine sq_q rfl h (g_ld 0 [.int .i64 (kf : Int), .int .i64 x] (.agg #[.int .i64 (kf : Int), .int .i64 x]) (by kernel_rfl) 0 rfl) ?_
    refine sq_mapu rfl (K := 9) (E := 29) (keyStr (by kernel_rfl)) s (.agg #[.int .i64 (kf : Int), .int .i64 x]) (by kernel_rfl) h 4 rfl ?_; intro w h
    refine lnil ?_
    refine thn_n ?_
    refine c_seq ?_
    refine c_seq ?_
    refine c_reg ?_
    refine sq_p (.int .i64 1) rfl (fun _ => by kernel_rfl) ?_
    refine sq_p (.bool false) rfl (fun _ => by kernel_rfl) ?_
    refine lnil ?_
    refine thn_n ?_
    refine c_false (by kernel_rfl) ?_
    refine c_reg ?_
    refine sq_p (.pointer (some ⟨b, 0, none⟩)) rfl (fun _ => by kernel_rfl) ?_
    refine sq_q rfl h (g_ld 0 [.int .i64 (kf : Int), .int .i64 x] (.agg #[.int .i64 (kf : Int), .int .i64 x]) (by kernel_rfl) 0 rfl) ?_
    refine sq_call #[.pointer (some ⟨b, 0, none⟩), .agg #[.int .i64 (kf : Int), .int .i64 x], .int .i64 1] [6, 1, 1, 5] rfl (links_spec ad b most tb dm pm (ps.set kf (some nb5)) (gs.set kf (x + 1)) vl vg T Sl Sg (l.set kf (some (newND nb5 1 (some (newDQ db6))))) ds pn hl2 hr2 (kf : Int) x kf (newND nb5 1 (some (newDQ db6))) (get_at (by first | omega | (simp; omega))) ha2 1 (by omega) (by first | assumption | (constructor <;> first | omega | (simp [linkN, keepN, newND, touchN] <;> omega)))) (fun _ => by kernel_rfl) h ?_; rintro _ L_ w rfl h
    refine lnil ?_
    refine thn_n ?_
    refine c_seq ?_
    refine d_start 6 [0, 10] (by kernel_rfl) h fun w h => ?_
    refine d_take 0 16 [0, 10] rfl (v := .pointer (some ⟨b, 0, none⟩)) (by kernel_rfl) (qp_thn qp_body) (yq (by kernel_rfl) (g_pure (v := .pointer (some ⟨b, 0, none⟩)) fun _ => by kernel_rfl)) h (by kernel_rfl) ?_
    refine d_take 1 17 [0, 10] rfl (v := .pointer (some ⟨b, 0, none⟩)) (by kernel_rfl) (qp_thn qp_body) (yq (by kernel_rfl) (g_pure (v := .pointer (some ⟨b, 0, none⟩)) fun _ => by kernel_rfl)) h (by kernel_rfl) ?_
    refine d_take 2 19 [0, 10] rfl (v := .pointer (some ⟨b, 0, none⟩)) (by kernel_rfl) (qp_thn qp_body) (yq (by kernel_rfl) (g_pure (v := .pointer (some ⟨b, 0, none⟩)) fun _ => by kernel_rfl)) h (by kernel_rfl) ?_
    refine d_take 3 23 [0, 10] rfl (v := .pointer (some ⟨tb, 0, none⟩)) (by kernel_rfl) (qp_thn qp_body) (yq (by kernel_rfl) (g_ld 0 [.pointer (some ⟨tb, 0, none⟩)] (.pointer (some ⟨tb, 0, none⟩)) (by kernel_rfl) 0 rfl)) h (by kernel_rfl) ?_
    refine d_take 4 15 [0, 10] rfl (v := .agg #[.int .i64 n, .int .i64 g]) (by kernel_rfl) (qp_thn qp_body) (yq (by kernel_rfl) (g_ld 0 [.int .i64 n, .int .i64 g] (.agg #[.int .i64 n, .int .i64 g]) (by kernel_rfl) 1 rfl)) h (by kernel_rfl) ?_
    refine d_ready [5] (by kernel_rfl) rfl ?_
    refine ad_call #[.pointer (some ⟨tb, 0, none⟩), .agg #[.int .i64 n, .int .i64 g]] [1, 1, 1] [3, 10] rfl (by kernel_rfl) (touch_spec ad tb (ps.set kf (some nb5)) (gs.set kf (x + 1)) vl vg T Sl Sg ((l.set kf (some (newND nb5 1 (some (newDQ db6))))).set kf (some (linkN (newND nb5 1 (some (newDQ db6))) 1))) hl2 hr2 n g k N (get_ne (get_ne hlk (by omega)) (by omega)) haN (by first | assumption | (constructor <;> first | omega | (simp [linkN, keepN, newND, touchN] <;> omega)))) (fun _ => by kernel_rfl) h ?_ ?_
    · skip
      rintro v_ L_ w ⟨rfl, rfl⟩ h
      refine ⟨by kernel_rfl, ?_⟩
      refine d_done (by kernel_rfl) ?_
      refine thn_n ?_
      refine c_seq ?_
      refine c_reg ?_
      refine sq_q rfl h (g_ld 0 [.int .i64 (kf : Int), .int .i64 x] (.agg #[.int .i64 (kf : Int), .int .i64 x]) (by kernel_rfl) 4 rfl) ?_
      refine sq_st rfl 0 [.int .i64 (kf : Int), .int .i64 x] [.int .i64 (kf : Int), .int .i64 x] h 10 rfl (by kernel_rfl) ?_; intro w h
      refine sq_p (.nilIface) rfl (fun _ => by kernel_rfl) ?_
      refine lnil ?_
      refine thn_n ?_
      refine c_ret ?_
      rw [show aput (d.es.map enKV) s (Value.agg #[Value.int .i64 (kf : Int), Value.int .i64 x]) = (aput d.es s ((kf : Int), x)).map enKV from en_put s ((kf : Int), x) d.es] at h
      have h : Own w0 E [rTab tb (ps.set kf (some nb5)) (gs.set kf (x + 1)) vl vg T Sl Sg, rNds (((l.set kf (some (newND nb5 1 (some (newDQ db6))))).set kf (some (linkN (newND nb5 1 (some (newDQ db6))) 1))).set k (some (touchN N))), rEnv B ad [10], rCell true b [.pointer (some ⟨tb, 0, none⟩), .int .i64 (most : Int), .int .i64 0, .int .i64 0, .map (some dm), .map (some pm)] 46, rCell true k7 [.int .i64 (kf : Int), .int .i64 x] 29, rCell true k3 [.int .i64 0, .int .i64 0] 29, rMap true d.mb sk ((aput d.es s ((kf : Int), x)).map enKV), rDirsO ds j, rMap true dm hk (ds.map dnKV), rEnv B ad [4], rCell true k2 [.int .i64 (kf : Int), .int .i64 x] 29, rCell true k1 [.int .i64 n, .int .i64 g] 29] w := h
      have h := h.pickE (M := [rMap true d.mb sk ((aput d.es s ((kf : Int), x)).map enKV), rDirsO ds j, rTab tb (ps.set kf (some nb5)) (gs.set kf (x + 1)) vl vg T Sl Sg, rNds (((l.set kf (some (newND nb5 1 (some (newDQ db6))))).set kf (some (linkN (newND nb5 1 (some (newDQ db6))) 1))).set k (some (touchN N))), rEnv B ad [10], rCell true b [.pointer (some ⟨tb, 0, none⟩), .int .i64 (most : Int), .int .i64 0, .int .i64 0, .map (some dm), .map (some pm)] 46, rCell true k7 [.int .i64 (kf : Int), .int .i64 x] 29, rCell true k3 [.int .i64 0, .int .i64 0] 29, rMap true dm hk (ds.map dnKV), rEnv B ad [4], rCell true k2 [.int .i64 (kf : Int), .int .i64 x] 29, rCell true k1 [.int .i64 n, .int .i64 g] 29]) [6, 6, 0, 0, 0, 0, 0, 0, 0, 0, 0, 0] (by kernel_rfl)
      have h := h.dirClose { d with es := aput d.es s ((kf : Int), x) }
      have h : Own w0 E [rDirs (ds.set j { d with es := aput d.es s ((kf : Int), x) }), rTab tb (ps.set kf (some nb5)) (gs.set kf (x + 1)) vl vg T Sl Sg, rNds (((l.set kf (some (newND nb5 1 (some (newDQ db6))))).set kf (some (linkN (newND nb5 1 (some (newDQ db6))) 1))).set k (some (touchN N))), rEnv B ad [10], rCell true b [.pointer (some ⟨tb, 0, none⟩), .int .i64 (most : Int), .int .i64 0, .int .i64 0, .map (some dm), .map (some pm)] 46, rCell true k7 [.int .i64 (kf : Int), .int .i64 x] 29, rCell true k3 [.int .i64 0, .int .i64 0] 29, rMap true dm hk (ds.map dnKV), rEnv B ad [4], rCell true k2 [.int .i64 (kf : Int), .int .i64 x] 29, rCell true k1 [.int .i64 n, .int .i64 g] 29] w := h
      rw [← dnKV_set (d' := { d with es := aput d.es s ((kf : Int), x) }) hj rfl rfl] at h
      have h : Own w0 E [rDirs (ds.set j { d with es := aput d.es s ((kf : Int), x) }), rTab tb (ps.set kf (some nb5)) (gs.set kf (x + 1)) vl vg T Sl Sg, rNds (((l.set kf (some (newND nb5 1 (some (newDQ db6))))).set kf (some (linkN (newND nb5 1 (some (newDQ db6))) 1))).set k (some (touchN N))), rEnv B ad [10], rCell true b [.pointer (some ⟨tb, 0, none⟩), .int .i64 (most : Int), .int .i64 0, .int .i64 0, .map (some dm), .map (some pm)] 46, rCell true k7 [.int .i64 (kf : Int), .int .i64 x] 29, rCell true k3 [.int .i64 0, .int .i64 0] 29, rMap true dm hk ((ds.set j { d with es := aput d.es s ((kf : Int), x) }).map dnKV), rEnv B ad [4], rCell true k2 [.int .i64 (kf : Int), .int .i64 x] 29, rCell true k1 [.int .i64 n, .int .i64 g] 29] w := h
      refine ret_end [.agg #[.int .i64 (kf : Int), .int .i64 x], .nilIface] [4, 1, 1, 4, 0, 0, 2] h (by kernel_rfl) (res_c 0 [.int .i64 (kf : Int), .int .i64 x] (.agg #[.int .i64 (kf : Int), .int .i64 x]) 9 rfl (by kernel_rfl) (res_t (by kernel_rfl) res_n)) ?_
      exact ⟨_, _, rfl, rfl⟩
    exact ad_nil
theorem createD_spec {B : Nat} (ad : Nat → Addr) (b most tb dm pm : Nat) (ps : List (Option Nat)) (gs : List Int) (vl vg : Value) (T : TypeId) (Sl Sg : Nat → Prop) (l : List (Option ND)) (ds : List DN) (pn : List ((Int × Int) × Int)) (hl : ps.length = gs.length) (hr : ∀ x ∈ gs, 0 ≤ x ∧ x ≤ 1000000) (n g : Int) (k : Nat) (N : ND) (hlk : l[k]? = some (some N)) (ha : atOf ps gs n g = some N.nb) (j : Nat) (d : DN) (hj : ds[j]? = some d) (hdh : d.h = (n, g)) (hdd : (ds.map (·.h)).Nodup) (s : ByteArray) (hs : s.size ≤ 9223372036854775807) (hok : nameOk s) (hx : aget d.es s = none) (hfew : d.es.length < 60) (hnk : n = (k : Int)) (kf : Nat) (x : Int) (hf : free0 ps = some kf) (hxx : gs[kf]? = some x) (hx1 : x ≤ 1000) (hlen : ps.length ≤ 300) (hll : l.length = ps.length) (hkk : kf ≠ k) (hch : 0 ≤ N.change ∧ N.change ≤ 1000000) (hnh : ∀ d ∈ ds, d.h ≠ ((kf : Int), x)) (hli : 0 ≤ N.links ∧ N.links ≤ 1000000)  : Spec Tryz.prog 7 #[.pointer (some ⟨b, 0, none⟩), .agg #[.int .i64 n, .int .i64 g], .string s, .int .i64 2] [rCell true b [.pointer (some ⟨tb, 0, none⟩), .int .i64 (most : Int), .int .i64 0, .int .i64 0, .map (some dm), .map (some pm)] 46, rTab tb ps gs vl vg T Sl Sg, rNds l, rMap true dm hk (ds.map dnKV), rDirs ds, rEnv B ad [10], rEnv B ad [4]] (fun u L => ∃ nb mb2, u = .tuple #[.agg #[.int .i64 (kf : Int), .int .i64 x], .nilIface] ∧ L = [rCell true b [.pointer (some ⟨tb, 0, none⟩), .int .i64 (most : Int), .int .i64 0, .int .i64 0, .map (some dm), .map (some pm)] 46, rTab tb (ps.set kf (some nb)) (gs.set kf (x + 1)) vl vg T Sl Sg, rNds ((((l.set kf (some (newND nb 2 none))).set kf (some (keepN (newND nb 2 none) 2 0 2 n g))).set k (some (linkN N 1))).set k (some (touchN (linkN N 1)))), rMap true dm hk ((ds.set j { d with es := aput d.es s ((kf : Int), x) } ++ [(⟨((kf : Int), x), mb2, []⟩ : DN)]).map dnKV), rDirs (ds.set j { d with es := aput d.es s ((kf : Int), x) } ++ [(⟨((kf : Int), x), mb2, []⟩ : DN)]), rEnv B ad [10], rEnv B ad [4]]) := by
  refine spec_of (#[.pointer (some ⟨b, 0, none⟩), .agg #[.int .i64 n, .int .i64 g], .string s, .int .i64 2, undef, undef, undef, undef, undef, undef, undef, undef, undef, undef, undef, undef, undef, undef, undef, undef, undef, undef, undef, undef, undef, undef, undef, undef, undef, undef, undef, undef, undef, undef, undef, undef, undef, undef, undef, undef, undef, undef, undef, undef, undef, undef, undef, undef, undef, undef, undef, undef, undef, undef, undef, undef, undef, undef, undef, undef, undef, undef, undef, undef, undef, undef, undef, undef, undef, undef, undef, undef, undef, undef, undef, undef, undef, undef, undef, undef, undef, undef, undef, undef, undef, undef, undef, undef, undef, undef, undef, undef, undef, undef, undef, undef, undef, undef]) Tryz.func7 rfl (by kernel_rfl) fun E w0 w h => ?_
  refine c_seq ?_
  refine c_reg ?_
  refine sq_new rfl (fun b => .pointer (some ⟨b, 0, none⟩)) [.int .i64 n, .int .i64 g] 29 (fun _ => by kernel_rfl) h ?_; intro k1 w h
  refine sq_new rfl (fun b => .pointer (some ⟨b, 0, none⟩)) [.int .i64 0, .int .i64 0] 29 (fun _ => by kernel_rfl) h ?_; intro k2 w h
  refine sq_p (.nilIface) rfl (fun _ => by kernel_rfl) ?_
  refine lnil ?_
  refine thn_n ?_
  refine c_seq ?_
  refine c_reg ?_
  refine sq_p (.pointer (some ⟨b, 0, none⟩)) rfl (fun _ => by kernel_rfl) ?_
  refine sq_q rfl h (g_ld 0 [.int .i64 n, .int .i64 g] (.agg #[.int .i64 n, .int .i64 g]) (by kernel_rfl) 1 rfl) ?_
  refine sq_p (.string s) rfl (fun _ => by kernel_rfl) ?_
  refine sq_call #[.pointer (some ⟨b, 0, none⟩), .agg #[.int .i64 n, .int .i64 g], .string s] [2, 2, 2, 2, 3, 3] rfl (namedY_spec ad b most tb dm pm ps gs vl vg T Sl Sg l ds pn hl hr n g k N hlk ha j d hj hdh hdd s hs hok) (fun _ => by kernel_rfl) h ?_; rintro v_ L_ w ⟨rfl, rfl⟩ h
  have h := h.pickE (M := [rDirs ds, rCell true b [.pointer (some ⟨tb, 0, none⟩), .int .i64 (most : Int), .int .i64 0, .int .i64 0, .map (some dm), .map (some pm)] 46, rTab tb ps gs vl vg T Sl Sg, rNds l, rMap true dm hk (ds.map dnKV), rEnv B ad [10], rEnv B ad [4], rCell true k2 [.int .i64 0, .int .i64 0] 29, rCell true k1 [.int .i64 n, .int .i64 g] 29]) [8, 0, 0, 0, 0, 0, 0, 0, 0] (by kernel_rfl)
  have h := h.dirOpen hj
  have h : Own w0 E [rMap true d.mb sk (d.es.map enKV), rDirsO ds j, rCell true b [.pointer (some ⟨tb, 0, none⟩), .int .i64 (most : Int), .int .i64 0, .int .i64 0, .map (some dm), .map (some pm)] 46, rTab tb ps gs vl vg T Sl Sg, rNds l, rMap true dm hk (ds.map dnKV), rEnv B ad [10], rEnv B ad [4], rCell true k2 [.int .i64 0, .int .i64 0] 29, rCell true k1 [.int .i64 n, .int .i64 g] 29] w := h
  refine sq_p (.tuple #[.map (some d.mb), .nilIface]) rfl (fun _ => by kernel_rfl) ?_
  refine sq_p (.map (some d.mb)) rfl (fun _ => by kernel_rfl) ?_
  refine sq_p (.nilIface) rfl (fun _ => by kernel_rfl) ?_
  refine sq_p (.map (some d.mb)) rfl (fun _ => by kernel_rfl) ?_
  refine sq_p (.nilIface) rfl (fun _ => by kernel_rfl) ?_
  refine lnil ?_
  refine thn_n ?_
  refine c_seq ?_
  refine c_reg ?_
  refine sq_p (.map (some d.mb)) rfl (fun _ => by kernel_rfl) ?_
  refine sq_p (.string s) rfl (fun _ => by kernel_rfl) ?_
  refine sq_q rfl h (g_eq (v' := .tuple #[.agg #[.int .i64 0, .int .i64 0], .bool false]) (g_look (K := 9) (E := 29) (z := (.agg #[.int .i64 0, .int .i64 0])) (kv := (d.es.map enKV)) (ok := true) (keyStr (by kernel_rfl)) s (by kernel_rfl) (fun _ => by kernel_rfl) 0 rfl) (by rw [en_none hx]; rfl)) ?_
  refine sq_p (.tuple #[.agg #[.int .i64 0, .int .i64 0], .bool false]) rfl (fun _ => by kernel_rfl) ?_
  refine sq_p (.agg #[.int .i64 0, .int .i64 0]) rfl (fun _ => by kernel_rfl) ?_
  refine sq_p (.bool false) rfl (fun _ => by kernel_rfl) ?_
  refine sq_new rfl (fun b => .pointer (some ⟨b, 0, none⟩)) [.int .i64 0, .int .i64 0] 29 (fun _ => by kernel_rfl) h ?_; intro k3 w h
  refine sq_st rfl 0 [.int .i64 0, .int .i64 0] [.int .i64 0, .int .i64 0] h 0 rfl (by kernel_rfl) ?_; intro w h
  refine sq_p (.bool false) rfl (fun _ => by kernel_rfl) ?_
  refine lnil ?_
  refine thn_n ?_
  refine c_seq ?_
  refine c_block ?_
  refine c_seq ?_
  refine c_reg ?_
  refine sq_p (.nilIface) rfl (fun _ => by kernel_rfl) ?_
  refine sq_p (.bool false) rfl (fun _ => by kernel_rfl) ?_
  refine sq_p (.bool false) rfl (fun _ => by kernel_rfl) ?_
  refine lnil ?_
  refine thn_n ?_
  refine c_false (by kernel_rfl) ?_
  refine c_seq ?_
  refine c_reg ?_
  refine sq_p (.int .i64 2) rfl (fun _ => by kernel_rfl) ?_
  refine sq_p (.bool true) rfl (fun _ => by kernel_rfl) ?_
  refine sq_p (.bool true) rfl (fun _ => by kernel_rfl) ?_
  refine sq_p (.int .i64 2) (by kernel_rfl) (fun _ => by kernel_rfl) ?_
  refine sq_p (.bool false) (by kernel_rfl) (fun _ => by kernel_rfl) ?_
  refine sq_p (.bool false) rfl (fun _ => by kernel_rfl) ?_
  refine sq_p (.bool false) rfl (fun _ => by kernel_rfl) ?_
  refine lnil ?_
  refine thn_n ?_
  refine c_false (by kernel_rfl) ?_
  refine c_seq ?_
  refine c_reg ?_
  refine sq_p (.bool false) rfl (fun _ => by kernel_rfl) ?_
  refine sq_p (.bool false) rfl (fun _ => by kernel_rfl) ?_
  refine lnil ?_
  refine thn_n ?_
  refine c_false (by kernel_rfl) ?_
  refine c_seq ?_
  refine c_reg ?_
  refine sq_p (.map (some d.mb)) rfl (fun _ => by kernel_rfl) ?_
  refine sq_q rfl h (g_lenm (K := 9) (E := 29) (by kernel_rfl) 1 rfl) ?_
  refine sq_p (.bool (decide (((d.es.map enKV).length : Int) ≥ 60))) rfl (fun _ => by kernel_rfl) ?_
  refine sq_p (.bool (decide (((d.es.map enKV).length : Int) ≥ 60))) rfl (fun _ => by kernel_rfl) ?_
  refine lnil ?_
  refine thn_n ?_
  refine c_cond (decide (((d.es.map enKV).length : Int) ≥ 60)) (by kernel_rfl) (fun hc4 => ?_) (fun hc4 => ?_)
  · skip
    have hc4 := of_decide_eq_true hc4
    exfalso; revert hc4; simp; omega
  · skip
    have hc4 := of_decide_eq_false hc4
    refine c_skip ?_
    refine blk_n (thn_n ?_)
    refine c_seq ?_
    refine c_reg ?_
    refine sq_p (.pointer (some ⟨b, 0, none⟩)) rfl (fun _ => by kernel_rfl) ?_
    refine sq_p (.pointer (some ⟨b, 0, none⟩)) rfl (fun _ => by kernel_rfl) ?_
    refine sq_p (.pointer (some ⟨b, 0, none⟩)) rfl (fun _ => by kernel_rfl) ?_
    refine sq_q rfl h (g_ld 0 [.pointer (some ⟨tb, 0, none⟩)] (.pointer (some ⟨tb, 0, none⟩)) (by kernel_rfl) 3 rfl) ?_
    refine sq_p (.int .i64 2) rfl (fun _ => by kernel_rfl) ?_
    refine sq_call #[.pointer (some ⟨tb, 0, none⟩), .int .i64 2] [4, 4] rfl (tabAdd2_spec tb kf x ps gs vl vg T Sl Sg l hlen hl hf hxx (by have := hr x (List.mem_of_getElem? hxx); omega)) (fun _ => by kernel_rfl) h ?_; rintro v_ L_ w ⟨nb5, rfl, rfl⟩ h
    have hkfl := get_lt hxx
    have hkl := get_lt hlk
    have hx0 := hr x (List.mem_of_getElem? hxx)
    have hl2 := len_set (x := some nb5) (y := x + 1) (k := kf) (j := kf) hl
    have hr2 := rng_set hr hxx hx1
    have ha2 : atOf (ps.set kf (some nb5)) (gs.set kf (x + 1)) (kf : Int) x = some nb5 := atOf_self (by omega) hkfl
    have haN : atOf (ps.set kf (some nb5)) (gs.set kf (x + 1)) n g = some N.nb := by rw [hnk] at ha ⊢; exact atOf_ne ha hkk
    refine sq_p (.tuple #[.agg #[.int .i64 (kf : Int), .int .i64 x], .nilIface]) rfl (fun _ => by kernel_rfl) ?_
    refine sq_p (.agg #[.int .i64 (kf : Int), .int .i64 x]) rfl (fun _ => by kernel_rfl) ?_
    refine sq_p (.nilIface) rfl (fun _ => by kernel_rfl) ?_
    refine sq_new rfl (fun b => .pointer (some ⟨b, 0, none⟩)) [.int .i64 0, .int .i64 0] 29 (fun _ => by kernel_rfl) h ?_; intro k7 w h
    refine sq_st rfl 0 [.int .i64 (kf : Int), .int .i64 x] [.int .i64 (kf : Int), .int .i64 x] h 0 rfl (by kernel_rfl) ?_; intro w h
    refine sq_p (.nilIface) rfl (fun _ => by kernel_rfl) ?_
    refine lnil ?_
    refine thn_n ?_
    refine c_seq ?_
    refine c_seq ?_
    refine c_reg ?_
    refine sq_p (.nilIface) rfl (fun _ => by kernel_rfl) ?_
    refine sq_p (.bool false) rfl (fun _ => by kernel_rfl) ?_
    refine lnil ?_
    refine thn_n ?_
    refine c_false (by kernel_rfl) ?_
    refine c_skip ?_
    refine thn_n ?_
    refine c_seq ?_
    refine c_reg ?_
    refine sq_p (.map (some d.mb)) rfl (fun _ => by kernel_rfl) ?_
    refine sq_p (.string s) rfl (fun _ => by kernel_rfl) ?_
    refine sq_q rfl h (g_ld 0 [.int .i64 (kf : Int), .int .i64 x] (.agg #[.int .i64 (kf : Int), .int .i64 x]) (by kernel_rfl) 0 rfl) ?_
    refine sq_mapu rfl (K := 9) (E := 29) (keyStr (by kernel_rfl)) s (.agg #[.int .i64 (kf : Int), .int .i64 x]) (by kernel_rfl) h 4 rfl ?_; intro w h
    refine lnil ?_
    refine thn_n ?_
    refine c_seq ?_
    refine c_seq ?_
    refine c_reg ?_
    refine sq_p (.int .i64 2) rfl (fun _ => by kernel_rfl) ?_
    refine sq_p (.bool true) rfl (fun _ => by kernel_rfl) ?_
    refine lnil ?_
    refine thn_n ?_
    refine c_true (by kernel_rfl) ?_
    refine c_seq ?_
    refine d_start 7 [0, 5] (by kernel_rfl) h fun w h => ?_
    refine d_take 0 48 [0, 5] rfl (v := .pointer (some ⟨b, 0, none⟩)) (by kernel_rfl) (qp_thn (qp_thn qp_body)) (yq (by kernel_rfl) (g_pure (v := .pointer (some ⟨b, 0, none⟩)) fun _ => by kernel_rfl)) h (by kernel_rfl) ?_
    refine d_take 1 49 [0, 5] rfl (v := .pointer (some ⟨b, 0, none⟩)) (by kernel_rfl) (qp_thn (qp_thn qp_body)) (yq (by kernel_rfl) (g_pure (v := .pointer (some ⟨b, 0, none⟩)) fun _ => by kernel_rfl)) h (by kernel_rfl) ?_
    refine d_take 2 51 [0, 5] rfl (v := .pointer (some ⟨b, 4, none⟩)) (by kernel_rfl) (qp_thn (qp_thn qp_body)) (yq (by kernel_rfl) (g_pure (v := .pointer (some ⟨b, 4, none⟩)) fun _ => by kernel_rfl)) h (by kernel_rfl) ?_
    refine d_take 3 55 [0, 5] rfl (v := .map (some dm)) (by kernel_rfl) (qp_thn (qp_thn qp_body)) (yq (by kernel_rfl) (g_ld 4 [.map (some dm)] (.map (some dm)) (by kernel_rfl) 1 rfl)) h (by kernel_rfl) ?_
    refine d_take 4 47 [0, 5] rfl (v := .agg #[.int .i64 (kf : Int), .int .i64 x]) (by kernel_rfl) (qp_thn (qp_thn qp_body)) (yq (by kernel_rfl) (g_ld 0 [.int .i64 (kf : Int), .int .i64 x] (.agg #[.int .i64 (kf : Int), .int .i64 x]) (by kernel_rfl) 0 rfl)) h (by kernel_rfl) ?_
    refine d_ready [5] (by kernel_rfl) rfl ?_
    refine ad_newm [1, 6] rfl (by kernel_rfl) sk (fun _ => by kernel_rfl) h ?_ ?_
    · skip
      intro k8 w h; refine ⟨by kernel_rfl, ?_⟩
      refine d_ready [6] (by kernel_rfl) rfl ?_
      refine ad_mapu [1, 6] rfl (by kernel_rfl) (K := 29) (E := 48) keyHk ((kf : Int), x) (.map (some k8)) (by kernel_rfl) h 8 rfl ?_ ?_
      · skip
        intro w h; refine ⟨by kernel_rfl, ?_⟩
        refine d_done (by kernel_rfl) ?_
        refine thn_n ?_
        refine c_seq ?_
        refine d_start 9 [1, 6, 10] (by kernel_rfl) h fun w h => ?_
        refine d_take 0 240 [1, 6, 10] rfl (v := .pointer (some ⟨b, 0, none⟩)) (by kernel_rfl) (qp_thn (qp_thn qp_body)) (yq (by kernel_rfl) (g_pure (v := .pointer (some ⟨b, 0, none⟩)) fun _ => by kernel_rfl)) h (by kernel_rfl) ?_
        refine d_take 1 241 [1, 6, 10] rfl (v := .pointer (some ⟨b, 0, none⟩)) (by kernel_rfl) (qp_thn (qp_thn qp_body)) (yq (by kernel_rfl) (g_pure (v := .pointer (some ⟨b, 0, none⟩)) fun _ => by kernel_rfl)) h (by kernel_rfl) ?_
        refine d_take 2 243 [1, 6, 10] rfl (v := .pointer (some ⟨b, 0, none⟩)) (by kernel_rfl) (qp_thn (qp_thn qp_body)) (yq (by kernel_rfl) (g_pure (v := .pointer (some ⟨b, 0, none⟩)) fun _ => by kernel_rfl)) h (by kernel_rfl) ?_
        refine d_take 3 247 [1, 6, 10] rfl (v := .pointer (some ⟨tb, 0, none⟩)) (by kernel_rfl) (qp_thn (qp_thn qp_body)) (yq (by kernel_rfl) (g_ld 0 [.pointer (some ⟨tb, 0, none⟩)] (.pointer (some ⟨tb, 0, none⟩)) (by kernel_rfl) 1 rfl)) h (by kernel_rfl) ?_
        refine d_take 4 239 [1, 6, 10] rfl (v := .agg #[.int .i64 (kf : Int), .int .i64 x]) (by kernel_rfl) (qp_thn (qp_thn qp_body)) (yq (by kernel_rfl) (g_ld 0 [.int .i64 (kf : Int), .int .i64 x] (.agg #[.int .i64 (kf : Int), .int .i64 x]) (by kernel_rfl) 0 rfl)) h (by kernel_rfl) ?_
        refine d_take 5 95 [1, 6, 10] rfl (v := .int .i64 2) (by kernel_rfl) (qp_thn (qp_thn qp_body)) (yq (by kernel_rfl) (g_pure (v := .int .i64 2) fun _ => by kernel_rfl)) h (by kernel_rfl) ?_
        refine d_take 6 63 [1, 6, 10] rfl (v := .agg #[.int .i64 n, .int .i64 g]) (by kernel_rfl) (qp_thn (qp_thn qp_body)) (yq (by kernel_rfl) (g_ld 0 [.int .i64 n, .int .i64 g] (.agg #[.int .i64 n, .int .i64 g]) (by kernel_rfl) 2 rfl)) h (by kernel_rfl) ?_
        refine d_take 7 127 [1, 6, 10] rfl (v := .agg #[.int .i64 2, .int .i64 0, .int .i64 2, .int .i64 0, .int .i64 n, .int .i64 g]) (by kernel_rfl) (qp_thn (qp_thn qp_body)) (yq (by kernel_rfl) (g_pure (v := .agg #[.int .i64 2, .int .i64 0, .int .i64 2, .int .i64 0, .int .i64 n, .int .i64 g]) fun _ => by kernel_rfl)) h (by kernel_rfl) ?_
        refine d_ready [8] (by kernel_rfl) rfl ?_
        refine ad_call #[.pointer (some ⟨tb, 0, none⟩), .agg #[.int .i64 (kf : Int), .int .i64 x], .agg #[.int .i64 2, .int .i64 0, .int .i64 2, .int .i64 0, .int .i64 n, .int .i64 g]] [2, 2, 7] [4, 7, 10] rfl (by kernel_rfl) (keep_spec ad tb (ps.set kf (some nb5)) (gs.set kf (x + 1)) vl vg T Sl Sg (l.set kf (some (newND nb5 2 none))) hl2 hr2 (kf : Int) x kf (newND nb5 2 none) (get_at (by first | omega | (simp; omega))) ha2 2 0 2 0 n g) (fun _ => by kernel_rfl) h ?_ ?_
        · skip
          rintro _ L_ w rfl h
          refine ⟨by kernel_rfl, ?_⟩
          refine d_done (by kernel_rfl) ?_
          refine thn_n ?_
          refine c_reg ?_
          refine sq_p (.pointer (some ⟨b, 0, none⟩)) rfl (fun _ => by kernel_rfl) ?_
          refine sq_q rfl h (g_ld 0 [.int .i64 n, .int .i64 g] (.agg #[.int .i64 n, .int .i64 g]) (by kernel_rfl) 12 rfl) ?_
          refine sq_call #[.pointer (some ⟨b, 0, none⟩), .agg #[.int .i64 n, .int .i64 g], .int .i64 1] [8, 0, 0, 0] rfl (links_spec ad b most tb dm pm (ps.set kf (some nb5)) (gs.set kf (x + 1)) vl vg T Sl Sg ((l.set kf (some (newND nb5 2 none))).set kf (some (keepN (newND nb5 2 none) 2 0 2 n g))) ds pn hl2 hr2 n g k N (get_ne (get_ne hlk (by omega)) (by omega)) haN 1 (by omega) (by first | assumption | (constructor <;> first | omega | (simp [linkN, keepN, newND, touchN] <;> omega)))) (fun _ => by kernel_rfl) h ?_; rintro _ L_ w rfl h
          refine lnil ?_
          refine thn_n ?_
          refine c_seq ?_
          refine d_start 6 [0, 11] (by kernel_rfl) h fun w h => ?_
          refine d_take 0 16 [0, 11] rfl (v := .pointer (some ⟨b, 0, none⟩)) (by kernel_rfl) (qp_thn qp_body) (yq (by kernel_rfl) (g_pure (v := .pointer (some ⟨b, 0, none⟩)) fun _ => by kernel_rfl)) h (by kernel_rfl) ?_
          refine d_take 1 17 [0, 11] rfl (v := .pointer (some ⟨b, 0, none⟩)) (by kernel_rfl) (qp_thn qp_body) (yq (by kernel_rfl) (g_pure (v := .pointer (some ⟨b, 0, none⟩)) fun _ => by kernel_rfl)) h (by kernel_rfl) ?_
          refine d_take 2 19 [0, 11] rfl (v := .pointer (some ⟨b, 0, none⟩)) (by kernel_rfl) (qp_thn qp_body) (yq (by kernel_rfl) (g_pure (v := .pointer (some ⟨b, 0, none⟩)) fun _ => by kernel_rfl)) h (by kernel_rfl) ?_
          refine d_take 3 23 [0, 11] rfl (v := .pointer (some ⟨tb, 0, none⟩)) (by kernel_rfl) (qp_thn qp_body) (yq (by kernel_rfl) (g_ld 0 [.pointer (some ⟨tb, 0, none⟩)] (.pointer (some ⟨tb, 0, none⟩)) (by kernel_rfl) 0 rfl)) h (by kernel_rfl) ?_
          refine d_take 4 15 [0, 11] rfl (v := .agg #[.int .i64 n, .int .i64 g]) (by kernel_rfl) (qp_thn qp_body) (yq (by kernel_rfl) (g_ld 0 [.int .i64 n, .int .i64 g] (.agg #[.int .i64 n, .int .i64 g]) (by kernel_rfl) 1 rfl)) h (by kernel_rfl) ?_
          refine d_ready [5] (by kernel_rfl) rfl ?_
          refine ad_call #[.pointer (some ⟨tb, 0, none⟩), .agg #[.int .i64 n, .int .i64 g]] [1, 1, 1] [3, 11] rfl (by kernel_rfl) (touch_spec ad tb (ps.set kf (some nb5)) (gs.set kf (x + 1)) vl vg T Sl Sg (((l.set kf (some (newND nb5 2 none))).set kf (some (keepN (newND nb5 2 none) 2 0 2 n g))).set k (some (linkN N 1))) hl2 hr2 n g k (linkN N 1) (get_at (by first | omega | (simp; omega))) haN (by first | assumption | (constructor <;> first | omega | (simp [linkN, keepN, newND, touchN] <;> omega)))) (fun _ => by kernel_rfl) h ?_ ?_
          · skip
            rintro v_ L_ w ⟨rfl, rfl⟩ h
            refine ⟨by kernel_rfl, ?_⟩
            refine d_done (by kernel_rfl) ?_
            refine thn_n ?_
            refine c_seq ?_
            refine c_reg ?_
            refine sq_q rfl h (g_ld 0 [.int .i64 (kf : Int), .int .i64 x] (.agg #[.int .i64 (kf : Int), .int .i64 x]) (by kernel_rfl) 5 rfl) ?_
            refine sq_st rfl 0 [.int .i64 (kf : Int), .int .i64 x] [.int .i64 (kf : Int), .int .i64 x] h 11 rfl (by kernel_rfl) ?_; intro w h
            refine sq_p (.nilIface) rfl (fun _ => by kernel_rfl) ?_
            refine lnil ?_
            refine thn_n ?_
            refine c_ret ?_
            rw [show aput (d.es.map enKV) s (Value.agg #[Value.int .i64 (kf : Int), Value.int .i64 x]) = (aput d.es s ((kf : Int), x)).map enKV from en_put s ((kf : Int), x) d.es] at h
            have h : Own w0 E [rTab tb (ps.set kf (some nb5)) (gs.set kf (x + 1)) vl vg T Sl Sg, rNds ((((l.set kf (some (newND nb5 2 none))).set kf (some (keepN (newND nb5 2 none) 2 0 2 n g))).set k (some (linkN N 1))).set k (some (touchN (linkN N 1)))), rEnv B ad [10], rCell true b [.pointer (some ⟨tb, 0, none⟩), .int .i64 (most : Int), .int .i64 0, .int .i64 0, .map (some dm), .map (some pm)] 46, rMap true k8 sk [], rCell true k7 [.int .i64 (kf : Int), .int .i64 x] 29, rCell true k3 [.int .i64 0, .int .i64 0] 29, rMap true d.mb sk ((aput d.es s ((kf : Int), x)).map enKV), rDirsO ds j, rMap true dm hk (aput (ds.map dnKV) ((kf : Int), x) (.map (some k8))), rEnv B ad [4], rCell true k2 [.int .i64 (kf : Int), .int .i64 x] 29, rCell true k1 [.int .i64 n, .int .i64 g] 29] w := h
            have h := h.pickE (M := [rMap true d.mb sk ((aput d.es s ((kf : Int), x)).map enKV), rDirsO ds j, rTab tb (ps.set kf (some nb5)) (gs.set kf (x + 1)) vl vg T Sl Sg, rNds ((((l.set kf (some (newND nb5 2 none))).set kf (some (keepN (newND nb5 2 none) 2 0 2 n g))).set k (some (linkN N 1))).set k (some (touchN (linkN N 1)))), rEnv B ad [10], rCell true b [.pointer (some ⟨tb, 0, none⟩), .int .i64 (most : Int), .int .i64 0, .int .i64 0, .map (some dm), .map (some pm)] 46, rMap true k8 sk [], rCell true k7 [.int .i64 (kf : Int), .int .i64 x] 29, rCell true k3 [.int .i64 0, .int .i64 0] 29, rMap true dm hk (aput (ds.map dnKV) ((kf : Int), x) (.map (some k8))), rEnv B ad [4], rCell true k2 [.int .i64 (kf : Int), .int .i64 x] 29, rCell true k1 [.int .i64 n, .int .i64 g] 29]) [7, 7, 0, 0, 0, 0, 0, 0, 0, 0, 0, 0, 0] (by kernel_rfl)
            have h := h.dirClose { d with es := aput d.es s ((kf : Int), x) }
            have h : Own w0 E [rDirs (ds.set j { d with es := aput d.es s ((kf : Int), x) }), rTab tb (ps.set kf (some nb5)) (gs.set kf (x + 1)) vl vg T Sl Sg, rNds ((((l.set kf (some (newND nb5 2 none))).set kf (some (keepN (newND nb5 2 none) 2 0 2 n g))).set k (some (linkN N 1))).set k (some (touchN (linkN N 1)))), rEnv B ad [10], rCell true b [.pointer (some ⟨tb, 0, none⟩), .int .i64 (most : Int), .int .i64 0, .int .i64 0, .map (some dm), .map (some pm)] 46, rMap true k8 sk [], rCell true k7 [.int .i64 (kf : Int), .int .i64 x] 29, rCell true k3 [.int .i64 0, .int .i64 0] 29, rMap true dm hk (aput (ds.map dnKV) ((kf : Int), x) (.map (some k8))), rEnv B ad [4], rCell true k2 [.int .i64 (kf : Int), .int .i64 x] 29, rCell true k1 [.int .i64 n, .int .i64 g] 29] w := h
            rw [← dnKV_set (d' := { d with es := aput d.es s ((kf : Int), x) }) hj rfl rfl] at h
            have h : Own w0 E [rDirs (ds.set j { d with es := aput d.es s ((kf : Int), x) }), rTab tb (ps.set kf (some nb5)) (gs.set kf (x + 1)) vl vg T Sl Sg, rNds ((((l.set kf (some (newND nb5 2 none))).set kf (some (keepN (newND nb5 2 none) 2 0 2 n g))).set k (some (linkN N 1))).set k (some (touchN (linkN N 1)))), rEnv B ad [10], rCell true b [.pointer (some ⟨tb, 0, none⟩), .int .i64 (most : Int), .int .i64 0, .int .i64 0, .map (some dm), .map (some pm)] 46, rMap true k8 sk [], rCell true k7 [.int .i64 (kf : Int), .int .i64 x] 29, rCell true k3 [.int .i64 0, .int .i64 0] 29, rMap true dm hk (aput ((ds.set j { d with es := aput d.es s ((kf : Int), x) }).map dnKV) ((kf : Int), x) (.map (some k8))), rEnv B ad [4], rCell true k2 [.int .i64 (kf : Int), .int .i64 x] 29, rCell true k1 [.int .i64 n, .int .i64 g] 29] w := h
            have h := h.pickE (M := [rMap true k8 sk [], rDirs (ds.set j { d with es := aput d.es s ((kf : Int), x) }), rTab tb (ps.set kf (some nb5)) (gs.set kf (x + 1)) vl vg T Sl Sg, rNds ((((l.set kf (some (newND nb5 2 none))).set kf (some (keepN (newND nb5 2 none) 2 0 2 n g))).set k (some (linkN N 1))).set k (some (touchN (linkN N 1)))), rEnv B ad [10], rCell true b [.pointer (some ⟨tb, 0, none⟩), .int .i64 (most : Int), .int .i64 0, .int .i64 0, .map (some dm), .map (some pm)] 46, rCell true k7 [.int .i64 (kf : Int), .int .i64 x] 29, rCell true k3 [.int .i64 0, .int .i64 0] 29, rMap true dm hk (aput ((ds.set j { d with es := aput d.es s ((kf : Int), x) }).map dnKV) ((kf : Int), x) (.map (some k8))), rEnv B ad [4], rCell true k2 [.int .i64 (kf : Int), .int .i64 x] 29, rCell true k1 [.int .i64 n, .int .i64 g] 29]) [5, 0, 0, 0, 0, 0, 0, 0, 0, 0, 0, 0] (by kernel_rfl)
            have h := h.dirAdd ⟨((kf : Int), x), k8, []⟩
            have h : Own w0 E [rDirs (ds.set j { d with es := aput d.es s ((kf : Int), x) } ++ [(⟨((kf : Int), x), k8, []⟩ : DN)]), rTab tb (ps.set kf (some nb5)) (gs.set kf (x + 1)) vl vg T Sl Sg, rNds ((((l.set kf (some (newND nb5 2 none))).set kf (some (keepN (newND nb5 2 none) 2 0 2 n g))).set k (some (linkN N 1))).set k (some (touchN (linkN N 1)))), rEnv B ad [10], rCell true b [.pointer (some ⟨tb, 0, none⟩), .int .i64 (most : Int), .int .i64 0, .int .i64 0, .map (some dm), .map (some pm)] 46, rCell true k7 [.int .i64 (kf : Int), .int .i64 x] 29, rCell true k3 [.int .i64 0, .int .i64 0] 29, rMap true dm hk (aput ((ds.set j { d with es := aput d.es s ((kf : Int), x) }).map dnKV) ((kf : Int), x) (.map (some k8))), rEnv B ad [4], rCell true k2 [.int .i64 (kf : Int), .int .i64 x] 29, rCell true k1 [.int .i64 n, .int .i64 g] 29] w := h
            rw [dir_new (es := []) (fun d2 hd2 => by rcases List.mem_or_eq_of_mem_set hd2 with hd2 | rfl; exact hnh d2 hd2; exact hnh d (List.mem_of_getElem? hj))] at h
            have h : Own w0 E [rDirs (ds.set j { d with es := aput d.es s ((kf : Int), x) } ++ [(⟨((kf : Int), x), k8, []⟩ : DN)]), rTab tb (ps.set kf (some nb5)) (gs.set kf (x + 1)) vl vg T Sl Sg, rNds ((((l.set kf (some (newND nb5 2 none))).set kf (some (keepN (newND nb5 2 none) 2 0 2 n g))).set k (some (linkN N 1))).set k (some (touchN (linkN N 1)))), rEnv B ad [10], rCell true b [.pointer (some ⟨tb, 0, none⟩), .int .i64 (most : Int), .int .i64 0, .int .i64 0, .map (some dm), .map (some pm)] 46, rCell true k7 [.int .i64 (kf : Int), .int .i64 x] 29, rCell true k3 [.int .i64 0, .int .i64 0] 29, rMap true dm hk ((ds.set j { d with es := aput d.es s ((kf : Int), x) } ++ [(⟨((kf : Int), x), k8, []⟩ : DN)]).map dnKV), rEnv B ad [4], rCell true k2 [.int .i64 (kf : Int), .int .i64 x] 29, rCell true k1 [.int .i64 n, .int .i64 g] 29] w := h
            refine ret_end [.agg #[.int .i64 (kf : Int), .int .i64 x], .nilIface] [4, 1, 1, 4, 0, 0, 2] h (by kernel_rfl) (res_c 0 [.int .i64 (kf : Int), .int .i64 x] (.agg #[.int .i64 (kf : Int), .int .i64 x]) 9 rfl (by kernel_rfl) (res_t (by kernel_rfl) res_n)) ?_
            exact ⟨_, _, rfl, rfl⟩
          exact ad_nil
        exact ad_nil
      exact ad_nil
    exact ad_nil

/- package pigeonholesref1: small functions by contracts. -/

/-- The digits of a number. -/
def digs : Nat → Nat → List UInt8
  | 0, _ => []
  | k + 1, m => if m < 10 then [byteOf (48 + m)] else digs k (m / 10) ++ [byteOf (48 + (m % 10 : Nat))]

theorem digs_len : ∀ (k m : Nat), (digs k m).length ≤ k
  | 0, _ => Nat.le_refl _
  | k + 1, m => by
    unfold digs
    split
    · simp
    · have := digs_len k (m / 10); simp; exact this

def decL (n : Int) : List UInt8 := if n < 0 then 45 :: digs 19 (-n).toNat else digs 19 n.toNat
theorem decL_len (n : Int) : (decL n).length ≤ 20 := by
  unfold decL
  split
  · have := digs_len 19 (-n).toNat; simp; omega
  · have := digs_len 19 n.toNat; omega
def decS (n : Int) : ByteArray := ⟨(decL n).toArray⟩


/- A tree that only grows: its nodes one behind the other; Create and Link by it; names made of numbers. No condition. -/
/-! ### lists that grow in a row of a fixed length -/
def padO {α : Type} (m : Nat) (z : α) (A : List α) : List α := A ++ List.replicate (m - A.length) z
theorem padO_len {α : Type} {m : Nat} {z : α} {A : List α} (h : A.length ≤ m) : (padO m z A).length = m := by simp [padO]; omega
theorem padO_end {α : Type} {m : Nat} {z : α} {A : List α} (y : α) (h : A.length < m) : (padO m z A).set A.length y = padO m z (A ++ [y]) := by
  unfold padO
  rw [List.set_append_right (h := Nat.le_refl _), Nat.sub_self]
  obtain ⟨c, hc⟩ : ∃ c, m - A.length = c + 1 := ⟨m - A.length - 1, by omega⟩
  have h2 : m - (A ++ [y]).length = c := by simp; omega
  rw [hc, h2, List.replicate_succ, List.set_cons_zero, List.append_assoc]; rfl
theorem padO_set {α : Type} {m k : Nat} {z : α} {A : List α} (y : α) (h : k < A.length) : (padO m z A).set k y = padO m z (A.set k y) := by
  unfold padO
  rw [List.set_append_left (h := h), List.length_set]
theorem padO_get {α : Type} {m k : Nat} {z : α} {A : List α} (h : k < A.length) : (padO m z A)[k]? = A[k]? := by
  unfold padO
  rw [List.getElem?_append_left h]
theorem padO_next {α : Type} {m : Nat} {z : α} {A : List α} (h : A.length < m) : (padO m z A)[A.length]? = some z := by
  unfold padO
  rw [List.getElem?_append_right (Nat.le_refl _), List.getElem?_replicate]
  simp; omega
def psO (m : Nat) (L : List ND) : List (Option Nat) := padO m none (L.map fun N => some N.nb)
def gsO (m : Nat) (L : List ND) : List Int := padO m 0 (L.map fun _ => 1)
def lO (m : Nat) (L : List ND) : List (Option ND) := padO m none (L.map some)
section
variable {m k : Nat} {L : List ND} {N : ND}
theorem psO_len (h : L.length ≤ m) : (psO m L).length = m := padO_len (by simpa using h)
theorem gsO_len (h : L.length ≤ m) : (gsO m L).length = m := padO_len (by simpa using h)
theorem lO_len (h : L.length ≤ m) : (lO m L).length = m := padO_len (by simpa using h)
theorem gsO_rng : ∀ x ∈ gsO m L, 0 ≤ x ∧ x ≤ 1000000 := fun x hx => by
  unfold gsO padO at hx
  rcases List.mem_append.1 hx with hx | hx
  · obtain ⟨_, _, rfl⟩ := List.mem_map.1 hx; decide
  · rw [List.eq_of_mem_replicate hx]; decide
theorem psO_add (N : ND) (h : L.length < m) : (psO m L).set L.length (some N.nb) = psO m (L ++ [N]) := by
  have := padO_end (z := (none : Option Nat)) (some N.nb) (A := L.map fun N => some N.nb) (m := m) (by simpa using h)
  rw [List.length_map] at this
  unfold psO
  rw [this, List.map_append]; rfl
theorem gsO_add (N : ND) (h : L.length < m) : (gsO m L).set L.length (0 + 1) = gsO m (L ++ [N]) := by
  have := padO_end (z := (0 : Int)) (0 + 1) (A := L.map fun _ => (1 : Int)) (m := m) (by simpa using h)
  rw [List.length_map] at this
  unfold gsO
  rw [this, List.map_append]; rfl
theorem lO_add (N : ND) (h : L.length < m) : (lO m L).set L.length (some N) = lO m (L ++ [N]) := by
  have := padO_end (z := (none : Option ND)) (some N) (A := L.map some) (m := m) (by simpa using h)
  rw [List.length_map] at this
  unfold lO
  rw [this, List.map_append]; rfl
theorem lO_set (N : ND) (h : k < L.length) : (lO m L).set k (some N) = lO m (L.set k N) := by
  unfold lO
  rw [padO_set _ (by simpa using h), List.map_set]
theorem psO_set {M : ND} (h : L[k]? = some M) (he : N.nb = M.nb) : psO m (L.set k N) = psO m L := by
  unfold psO
  rw [List.map_set, he]
  congr 1
  exact set_same _ _ _ (by rw [List.getElem?_map, h]; rfl)
theorem gsO_set (N : ND) : gsO m (L.set k N) = gsO m L := by
  have : ((L.set k N).map fun _ => (1 : Int)) = L.map fun _ => 1 := by
    rw [List.map_set]
    by_cases h : k < L.length
    · exact set_same _ _ _ (by rw [List.getElem?_map, List.getElem?_eq_getElem h]; rfl)
    · rw [List.set_eq_of_length_le (by simpa using h)]
  unfold gsO
  rw [this]
theorem lO_get (h : L[k]? = some N) : (lO m L)[k]? = some (some N) := by
  have hl := (List.getElem?_eq_some_iff.1 h).1
  unfold lO
  rw [padO_get (by simpa using hl), List.getElem?_map, h]; rfl
theorem free0_app : ∀ (A : List ND) (c : Nat), free0 ((A.map fun N => some N.nb) ++ List.replicate (c + 1) none) = some A.length
  | [], c => rfl
  | N :: A, c => by
    have := free0_app A c
    simp only [List.map_cons, List.cons_append, free0, List.length_cons]
    rw [this]; rfl
theorem free0_psO (h : L.length < m) : free0 (psO m L) = some L.length := by
  unfold psO padO
  obtain ⟨c, hc⟩ : ∃ c, m - (L.map fun N => some N.nb).length = c + 1 := ⟨m - L.length - 1, by simp; omega⟩
  rw [hc, free0_app]
theorem usedN_rep0 : ∀ n : Nat, usedN (List.replicate n none) = 0
  | 0 => rfl
  | n + 1 => by rw [List.replicate_succ]; exact usedN_rep0 n
theorem usedN_app : ∀ (A : List ND) (c : Nat), usedN ((A.map fun N => some N.nb) ++ List.replicate c none) = A.length
  | [], c => usedN_rep0 c
  | N :: A, c => by simp only [List.map_cons, List.cons_append, usedN, List.length_cons]; rw [usedN_app A c]
theorem usedN_psO : usedN (psO m L) = L.length := usedN_app L _
theorem atOf_psO (h : L[k]? = some N) : atOf (psO m L) (gsO m L) (k : Int) 0 = some N.nb := by
  have hl := (List.getElem?_eq_some_iff.1 h).1
  have h1 : (psO m L)[k]? = some (some N.nb) := by unfold psO; rw [padO_get (by simpa using hl), List.getElem?_map, h]; rfl
  have h2 : (gsO m L)[k]? = some 1 := by unfold gsO; rw [padO_get (by simpa using hl), List.getElem?_map, h]; rfl
  rw [atOf_in h1 h2]; rfl
end
/-! ### names made of numbers -/
def nmT (c : UInt8) (i : Nat) : ByteArray := ⟨(c :: decL i).toArray⟩
theorem nmT_eq (c : UInt8) (i : Nat) : (⟨#[c]⟩ : ByteArray) ++ decS i = nmT c i := by
  unfold decS nmT
  rw [ByteArray.mk_append_mk]
  congr 1
theorem nmT_size (c : UInt8) (i : Nat) : (nmT c i).size ≤ 21 := by
  have := decL_len i
  show ((c :: decL i).toArray).size ≤ 21
  simp; omega
theorem decS_size (i : Int) : (decS i).size ≤ 20 := by
  have := decL_len i
  show ((decL i).toArray).size ≤ 20
  simpa using this
def unD (l : List UInt8) : Nat := l.foldl (fun a b => a * 10 + (b.toNat - 48)) 0
theorem unD_dec : ∀ i : Fin 66, unD (decL ((i.val : Nat) : Int)) = i.val := by decide +kernel
theorem nmT_inj {c : UInt8} {i j : Nat} (hi : i < 66) (hj : j < 66) (h : nmT c i = nmT c j) : i = j := by
  have h1 : decL i = decL j := by
    have := congrArg (fun x : ByteArray => x.data.toList) h
    simp only [nmT] at this
    exact (List.cons.inj this).2
  have h2 := unD_dec ⟨i, hi⟩
  have h3 := unD_dec ⟨j, hj⟩
  simp only at h2 h3
  rw [h1] at h2
  omega
theorem nmT_okF : ∀ i : Fin 66, nameOk (nmT 102 i.val) := by decide +kernel
theorem nmT_okL : ∀ i : Fin 66, nameOk (nmT 108 i.val) := by decide +kernel
theorem nm_d_ok : nameOk ⟨#[100]⟩ := by decide
theorem nm_f0 : (⟨#[102, 48]⟩ : ByteArray) = nmT 102 0 := by decide +kernel
theorem nm_f0_ok : nameOk ⟨#[102, 48]⟩ := by decide
theorem nm_d_ne (c : UInt8) (hc : c ≠ 100) (i : Nat) : (⟨#[100]⟩ : ByteArray) ≠ nmT c i := fun h => by
  have := congrArg (fun x : ByteArray => x.data.toList) h
  simp only [nmT] at this
  exact hc (List.cons.inj this).1.symm

/- coded of law package 1 by contract. -/

theorem coded1_ok {B : Nat} (ad : Nat → Addr) (c : Nat) (code : Int) (w : World) (he : EnvA B ad w) (hc : c ≤ 15) (hcode : (c : Int) = code) :
    Calls Tryz.prog 8 #[errV ad c, .int .i64 code] w fun e w' => e = .returned (.bool true) ∧ Chg Nil w w' := by
  by_cases h0 : c = 0
  · subst h0
    have hb : ((0 : Int) == code) = true := by simp; omega
    rw [errV_zero]
    clear hcode
    go_enter Tryz.func8, Tryz.ntmps8
    go_wp2_with fail
    refine (code_nil _).mono ?_
    rintro e w1 ⟨rfl, rfl⟩
    go_wp2_with fail
    go_ret
    exact ⟨rfl, Chg.refl _ _⟩
  · have hb : ((c : Int) == code) = true := by simp; omega
    have HE := Lib.hid he
    rw [errV_pos h0]
    clear hcode he
    go_enter Tryz.func8, Tryz.ntmps8
    go_wp2_with fail
    refine (code_err ad c w HE.out (by omega) hc).mono ?_
    rintro e w1 ⟨rfl, hc1⟩
    go_wp2_with fail
    go_ret
    exact ⟨rfl, hc1⟩

/- tree: contracts by what is owned (printed by walk.py). -/

theorem newL_eq (m : Nat) : List.replicate m (none : Option Nat) = psO m [] ∧ List.replicate m (0 : Int) = gsO m [] ∧ List.replicate m (none : Option ND) = lO m [] := ⟨rfl, rfl, rfl⟩
theorem tabNewL_spec (m : Nat) (h1 : 1 ≤ m) (h2 : m ≤ 300) : Spec Tryz.prog 13 #[.int .i64 m] [] fun u L => ∃ b vl vg T Sl Sg, u = .tuple #[.pointer (some ⟨b, 0, none⟩), .nilIface] ∧ L = [rTab b (psO m []) (gsO m []) vl vg T Sl Sg, rNds (lO m [])] := tabNew_spec m h1 h2
theorem tabAddR_spec (m : Nat) (h1 : 1 ≤ m) (h2 : m ≤ 300) (b : Nat) (vl vg : Value) (T : TypeId) (Sl Sg : Nat → Prop) : Spec Tryz.prog 14 #[.pointer (some ⟨b, 0, none⟩), .int .i64 2] [rTab b (psO m []) (gsO m []) vl vg T Sl Sg, rNds (lO m [])] fun u L => ∃ nb, u = .tuple #[.agg #[.int .i64 0, .int .i64 0], .nilIface] ∧ L = [rTab b (psO m [newND nb 2 none]) (gsO m [newND nb 2 none]) vl vg T Sl Sg, rNds (lO m [newND nb 2 none])] :=
  (tabAdd2_spec b 0 0 (psO m []) (gsO m []) vl vg T Sl Sg (lO m []) (by rw [psO_len (by simp)]; exact h2) (by rw [psO_len (by simp), gsO_len (by simp)]) (free0_psO (L := []) h1) (by
    obtain ⟨c, rfl⟩ : ∃ c, m = c + 1 := ⟨m - 1, by omega⟩
    rfl) (by decide)).mono fun u L h => by
    obtain ⟨nb, rfl, rfl⟩ := h
    refine ⟨nb, rfl, ?_⟩
    have e1 := psO_add (newND nb 2 none) (L := []) h1
    have e2 := gsO_add (newND nb 2 none) (L := []) h1
    have e3 := lO_add (newND nb 2 none) (L := []) h1
    have e1' : (psO m []).set 0 (some nb) = psO m [newND nb 2 none] := e1
    have e2' : (gsO m []).set 0 (0 + 1) = gsO m [newND nb 2 none] := e2
    have e3' : (lO m []).set 0 (some (newND nb 2 none)) = lO m [newND nb 2 none] := e3
    rw [e1', e2', e3']
theorem createFullL_spec {B : Nat} (ad : Nat → Addr) (b m tb dm pm : Nat) (vl vg : Value) (T : TypeId) (Sl Sg : Nat → Prop) (L : List ND) (ds : List DN) (hm3 : m ≤ 300) (k : Nat) (N : ND) (hkL : L[k]? = some N) (j : Nat) (d : DN) (hj : ds[j]? = some d) (hdh : d.h = ((k : Int), 0)) (hdd : (ds.map (·.h)).Nodup) (s : ByteArray) (hs : s.size ≤ 9223372036854775807) (hok : nameOk s) (hm : L.length ≤ m) (hx : aget d.es s = none) (hfew : 60 ≤ d.es.length) (kind : Int) (hki : kind = 1 ∨ kind = 2) :
    Spec Tryz.prog 7 #[.pointer (some ⟨b, 0, none⟩), .agg #[.int .i64 (k : Int), .int .i64 0], .string s, .int .i64 kind] [rCell true b [.pointer (some ⟨tb, 0, none⟩), .int .i64 (m : Int), .int .i64 0, .int .i64 0, .map (some dm), .map (some pm)] 46, rTab tb (psO m L) (gsO m L) vl vg T Sl Sg, rNds (lO m L), rMap true dm hk (ds.map dnKV), rDirs ds, rEnv B ad [10], rEnv B ad [4], rEnv B ad [9]] fun u L' => u = .tuple #[.agg #[.int .i64 0, .int .i64 0], errV ad 9] ∧ L' = [rCell true b [.pointer (some ⟨tb, 0, none⟩), .int .i64 (m : Int), .int .i64 0, .int .i64 0, .map (some dm), .map (some pm)] 46, rTab tb (psO m L) (gsO m L) vl vg T Sl Sg, rNds (lO m L), rMap true dm hk (ds.map dnKV), rDirs ds, rEnv B ad [10], rEnv B ad [4], rEnv B ad [9]] :=
  createFull_spec ad b m tb dm pm (psO m L) (gsO m L) vl vg T Sl Sg (lO m L) ds [] (by rw [psO_len hm, gsO_len hm]) gsO_rng (k : Int) 0 k N (lO_get hkL) (atOf_psO hkL) j d hj hdh hdd s hs hok hx kind hki hfew
theorem createFL_spec {B : Nat} (ad : Nat → Addr) (b m tb dm pm : Nat) (vl vg : Value) (T : TypeId) (Sl Sg : Nat → Prop) (L : List ND) (ds : List DN) (hm3 : m ≤ 300) (k : Nat) (N : ND) (hkL : L[k]? = some N) (j : Nat) (d : DN) (hj : ds[j]? = some d) (hdh : d.h = ((k : Int), 0)) (hdd : (ds.map (·.h)).Nodup) (s : ByteArray) (hs : s.size ≤ 9223372036854775807) (hok : nameOk s) (hm : L.length < m) (hx : aget d.es s = none) (hfew : d.es.length < 60) (hch : 0 ≤ N.change ∧ N.change ≤ 1000000) :
    Spec Tryz.prog 7 #[.pointer (some ⟨b, 0, none⟩), .agg #[.int .i64 (k : Int), .int .i64 0], .string s, .int .i64 1] [rCell true b [.pointer (some ⟨tb, 0, none⟩), .int .i64 (m : Int), .int .i64 0, .int .i64 0, .map (some dm), .map (some pm)] 46, rTab tb (psO m L) (gsO m L) vl vg T Sl Sg, rNds (lO m L), rMap true dm hk (ds.map dnKV), rDirs ds, rEnv B ad [10], rEnv B ad [4]] fun u L' => ∃ nb db, u = .tuple #[.agg #[.int .i64 (L.length : Int), .int .i64 0], .nilIface] ∧ L' = [rCell true b [.pointer (some ⟨tb, 0, none⟩), .int .i64 (m : Int), .int .i64 0, .int .i64 0, .map (some dm), .map (some pm)] 46, rTab tb (psO m ((L ++ [linkN (newND nb 1 (some (newDQ db))) 1]).set k (touchN N))) (gsO m ((L ++ [linkN (newND nb 1 (some (newDQ db))) 1]).set k (touchN N))) vl vg T Sl Sg, rNds (lO m ((L ++ [linkN (newND nb 1 (some (newDQ db))) 1]).set k (touchN N))), rMap true dm hk ((ds.set j { d with es := aput d.es s ((L.length : Int), 0) }).map dnKV), rDirs (ds.set j { d with es := aput d.es s ((L.length : Int), 0) }), rEnv B ad [10], rEnv B ad [4]] :=
  (createF_spec ad b m tb dm pm (psO m L) (gsO m L) vl vg T Sl Sg (lO m L) ds [] (by rw [psO_len (Nat.le_of_lt hm), gsO_len (Nat.le_of_lt hm)]) gsO_rng (k : Int) 0 k N (lO_get hkL) (atOf_psO hkL) j d hj hdh hdd s hs hok hx hfew rfl L.length 0 (free0_psO hm) (by have := padO_next (z := (0 : Int)) (A := L.map fun _ => (1 : Int)) (m := m) (by simpa using hm); rw [List.length_map] at this; exact this) (by decide) (by rw [psO_len (Nat.le_of_lt hm)]; exact hm3) (by rw [lO_len (Nat.le_of_lt hm), psO_len (Nat.le_of_lt hm)]) (by have := get_lt hkL; omega) hch).mono fun u L' h => by
    obtain ⟨nb, db, rfl, rfl⟩ := h
    refine ⟨nb, db, rfl, ?_⟩
    have hkl := get_lt hkL
    have hk2 : (L ++ [linkN (newND nb 1 (some (newDQ db))) 1])[k]? = some N := by rw [List.getElem?_append_left hkl]; exact hkL
    have e1 : (psO m L).set L.length (some nb) = psO m ((L ++ [linkN (newND nb 1 (some (newDQ db))) 1]).set k (touchN N)) := (psO_add (linkN (newND nb 1 (some (newDQ db))) 1) hm).trans (psO_set (N := touchN N) hk2 rfl).symm
    have e2 : (gsO m L).set L.length (0 + 1) = gsO m ((L ++ [linkN (newND nb 1 (some (newDQ db))) 1]).set k (touchN N)) := (gsO_add (linkN (newND nb 1 (some (newDQ db))) 1) hm).trans (gsO_set (touchN N)).symm
    have e3 : (((lO m L).set L.length (some (newND nb 1 (some (newDQ db))))).set L.length (some (linkN (newND nb 1 (some (newDQ db))) 1))).set k (some (touchN N)) = lO m ((L ++ [linkN (newND nb 1 (some (newDQ db))) 1]).set k (touchN N)) := by
      rw [List.set_set, lO_add _ hm, lO_set _ (by simp; omega)]
    rw [e1, e2, e3]


theorem createDL_spec {B : Nat} (ad : Nat → Addr) (b m tb dm pm : Nat) (vl vg : Value) (T : TypeId) (Sl Sg : Nat → Prop) (L : List ND) (ds : List DN) (hm3 : m ≤ 300) (k : Nat) (N : ND) (hkL : L[k]? = some N) (j : Nat) (d : DN) (hj : ds[j]? = some d) (hdh : d.h = ((k : Int), 0)) (hdd : (ds.map (·.h)).Nodup) (s : ByteArray) (hs : s.size ≤ 9223372036854775807) (hok : nameOk s) (hm : L.length < m) (hx : aget d.es s = none) (hfew : d.es.length < 60) (hch : 0 ≤ N.change ∧ N.change ≤ 1000000) (hnh : ∀ d ∈ ds, d.h ≠ ((L.length : Int), 0)) (hli : 0 ≤ N.links ∧ N.links ≤ 1000000) :
    Spec Tryz.prog 7 #[.pointer (some ⟨b, 0, none⟩), .agg #[.int .i64 (k : Int), .int .i64 0], .string s, .int .i64 2] [rCell true b [.pointer (some ⟨tb, 0, none⟩), .int .i64 (m : Int), .int .i64 0, .int .i64 0, .map (some dm), .map (some pm)] 46, rTab tb (psO m L) (gsO m L) vl vg T Sl Sg, rNds (lO m L), rMap true dm hk (ds.map dnKV), rDirs ds, rEnv B ad [10], rEnv B ad [4]] fun u L' => ∃ nb mb2, u = .tuple #[.agg #[.int .i64 (L.length : Int), .int .i64 0], .nilIface] ∧ L' = [rCell true b [.pointer (some ⟨tb, 0, none⟩), .int .i64 (m : Int), .int .i64 0, .int .i64 0, .map (some dm), .map (some pm)] 46, rTab tb (psO m ((L ++ [keepN (newND nb 2 none) 2 0 2 (k : Int) 0]).set k (touchN (linkN N 1)))) (gsO m ((L ++ [keepN (newND nb 2 none) 2 0 2 (k : Int) 0]).set k (touchN (linkN N 1)))) vl vg T Sl Sg, rNds (lO m ((L ++ [keepN (newND nb 2 none) 2 0 2 (k : Int) 0]).set k (touchN (linkN N 1)))), rMap true dm hk ((ds.set j { d with es := aput d.es s ((L.length : Int), 0) } ++ [(⟨((L.length : Int), 0), mb2, []⟩ : DN)]).map dnKV), rDirs (ds.set j { d with es := aput d.es s ((L.length : Int), 0) } ++ [(⟨((L.length : Int), 0), mb2, []⟩ : DN)]), rEnv B ad [10], rEnv B ad [4]] :=
  (createD_spec ad b m tb dm pm (psO m L) (gsO m L) vl vg T Sl Sg (lO m L) ds [] (by rw [psO_len (Nat.le_of_lt hm), gsO_len (Nat.le_of_lt hm)]) gsO_rng (k : Int) 0 k N (lO_get hkL) (atOf_psO hkL) j d hj hdh hdd s hs hok hx hfew rfl L.length 0 (free0_psO hm) (by have := padO_next (z := (0 : Int)) (A := L.map fun _ => (1 : Int)) (m := m) (by simpa using hm); rw [List.length_map] at this; exact this) (by decide) (by rw [psO_len (Nat.le_of_lt hm)]; exact hm3) (by rw [lO_len (Nat.le_of_lt hm), psO_len (Nat.le_of_lt hm)]) (by have := get_lt hkL; omega) hch hnh hli).mono fun u L' h => by
    obtain ⟨nb, mb2, rfl, rfl⟩ := h
    refine ⟨nb, mb2, rfl, ?_⟩
    have hkl := get_lt hkL
    have hk2 : (L ++ [keepN (newND nb 2 none) 2 0 2 (k : Int) 0])[k]? = some N := by rw [List.getElem?_append_left hkl]; exact hkL
    have e1 : (psO m L).set L.length (some nb) = psO m ((L ++ [keepN (newND nb 2 none) 2 0 2 (k : Int) 0]).set k (touchN (linkN N 1))) := (psO_add (keepN (newND nb 2 none) 2 0 2 (k : Int) 0) hm).trans (psO_set (N := touchN (linkN N 1)) hk2 rfl).symm
    have e2 : (gsO m L).set L.length (0 + 1) = gsO m ((L ++ [keepN (newND nb 2 none) 2 0 2 (k : Int) 0]).set k (touchN (linkN N 1))) := (gsO_add (keepN (newND nb 2 none) 2 0 2 (k : Int) 0) hm).trans (gsO_set (touchN (linkN N 1))).symm
    have e3 : ((((lO m L).set L.length (some (newND nb 2 none))).set L.length (some (keepN (newND nb 2 none) 2 0 2 (k : Int) 0))).set k (some (linkN N 1))).set k (some (touchN (linkN N 1))) = lO m ((L ++ [keepN (newND nb 2 none) 2 0 2 (k : Int) 0]).set k (touchN (linkN N 1))) := by
      rw [List.set_set, List.set_set, lO_add _ hm, lO_set _ (by simp; omega)]
    rw [e1, e2, e3]
theorem lookupL_spec {B : Nat} (ad : Nat → Addr) (b m tb dm pm : Nat) (vl vg : Value) (T : TypeId) (Sl Sg : Nat → Prop) (L : List ND) (ds : List DN) (hm3 : m ≤ 300) (k : Nat) (N : ND) (hkL : L[k]? = some N) (j : Nat) (d : DN) (hj : ds[j]? = some d) (hdh : d.h = ((k : Int), 0)) (hdd : (ds.map (·.h)).Nodup) (s : ByteArray) (hs : s.size ≤ 9223372036854775807) (hok : nameOk s) (hm : L.length ≤ m) (x : Int × Int) (hx : aget d.es s = some x) :
    Spec Tryz.prog 31 #[.pointer (some ⟨b, 0, none⟩), .agg #[.int .i64 (k : Int), .int .i64 0], .string s] [rCell true b [.pointer (some ⟨tb, 0, none⟩), .int .i64 (m : Int), .int .i64 0, .int .i64 0, .map (some dm), .map (some pm)] 46, rTab tb (psO m L) (gsO m L) vl vg T Sl Sg, rNds (lO m L), rMap true dm hk (ds.map dnKV), rDirs ds, rEnv B ad [10], rEnv B ad [4]] fun u L' => u = .tuple #[.agg #[.int .i64 x.1, .int .i64 x.2], .nilIface] ∧ L' = [rCell true b [.pointer (some ⟨tb, 0, none⟩), .int .i64 (m : Int), .int .i64 0, .int .i64 0, .map (some dm), .map (some pm)] 46, rTab tb (psO m L) (gsO m L) vl vg T Sl Sg, rNds (lO m L), rMap true dm hk (ds.map dnKV), rDirs ds, rEnv B ad [10], rEnv B ad [4]] :=
  lookupY_spec ad b m tb dm pm (psO m L) (gsO m L) vl vg T Sl Sg (lO m L) ds [] (by rw [psO_len hm, gsO_len hm]) gsO_rng (k : Int) 0 k N (lO_get hkL) (atOf_psO hkL) j d hj hdh hdd s hs hok x hx
theorem nodesL_spec (b m tb dm pm : Nat) (vl vg : Value) (T : TypeId) (Sl Sg : Nat → Prop) (L : List ND) (hm : L.length ≤ m) (hm3 : m ≤ 300) : Spec Tryz.prog 9 #[.pointer (some ⟨b, 0, none⟩)] [rCell true b [.pointer (some ⟨tb, 0, none⟩), .int .i64 (m : Int), .int .i64 0, .int .i64 0, .map (some dm), .map (some pm)] 46, rTab tb (psO m L) (gsO m L) vl vg T Sl Sg] fun u L' => u = .int .i64 (L.length : Int) ∧ L' = [rCell true b [.pointer (some ⟨tb, 0, none⟩), .int .i64 (m : Int), .int .i64 0, .int .i64 0, .map (some dm), .map (some pm)] 46, rTab tb (psO m L) (gsO m L) vl vg T Sl Sg] :=
  (nodes_spec b m tb dm pm (psO m L) (gsO m L) vl vg T Sl Sg (by rw [psO_len hm]; exact hm3)).mono fun u L' h => by rw [usedN_psO] at h; exact h
theorem coded1_spec {B : Nat} (ad : Nat → Addr) (c : Nat) (code : Int) (hc : c ≤ 15) (hcode : (c : Int) = code) : Spec Tryz.prog 8 #[errV ad c, .int .i64 code] [rEnvA B ad] fun u L => u = .bool true ∧ L = [rEnvA B ad] := fun E w0 w ho =>
  (coded1_ok ad c code w (ho.fact 0 rfl) hc hcode).mono fun e w' ⟨he, hc'⟩ => ⟨_, _, ⟨rfl, rfl⟩, he, ho.quiet hc'⟩
theorem treeNewL_spec {B : Nat} (ad : Nat → Addr) (m : Nat) (h1 : 1 ≤ m) (h2 : m ≤ 300)  : Spec Tryz.prog 5 #[.int .i64 (m : Int)] [rEnv B ad [10]] (fun u L => ∃ b tb dm pm vl vg T Sl Sg nb mb, u = .tuple #[.pointer (some ⟨b, 0, none⟩), .nilIface] ∧ L = [rCell true b [.pointer (some ⟨tb, 0, none⟩), .int .i64 (m : Int), .int .i64 0, .int .i64 0, .map (some dm), .map (some pm)] 46, rTab tb (psO m [keepN (newND nb 2 none) 2 0 2 0 0]) (gsO m [keepN (newND nb 2 none) 2 0 2 0 0]) vl vg T Sl Sg, rNds (lO m [keepN (newND nb 2 none) 2 0 2 0 0]), rMap true dm hk ([(⟨(0, 0), mb, []⟩ : DN)].map dnKV), rDirs [(⟨(0, 0), mb, []⟩ : DN)], rEnv B ad [10]]) := by
  refine spec_of (#[.int .i64 (m : Int), undef, undef, undef, undef, undef, undef, undef, undef, undef, undef, undef, undef, undef, undef, undef, undef, undef, undef, undef, undef, undef, undef, undef, undef, undef, undef, undef, undef, undef, undef, undef, undef, undef, undef, undef, undef, undef, undef, undef, undef, undef, undef, undef, undef, undef, undef, undef, undef, undef]) Tryz.func5 rfl (by kernel_rfl) fun E w0 w h => ?_
  refine c_seq ?_
  refine c_reg ?_
  refine sq_p (.pointer none) rfl (fun _ => by kernel_rfl) ?_
  refine sq_p (.nilIface) rfl (fun _ => by kernel_rfl) ?_
  refine lnil ?_
  refine thn_n ?_
  refine c_seq ?_
  refine c_reg ?_
  refine sq_p (.int .i64 (m : Int)) rfl (fun _ => by kernel_rfl) ?_
  refine sq_call #[.int .i64 (m : Int)] [] rfl (tabNewL_spec m h1 h2) (fun _ => by kernel_rfl) h ?_; rintro v_ L_ w ⟨tb, vl, vg, T, Sl, Sg, rfl, rfl⟩ h
  refine sq_p (.tuple #[.pointer (some ⟨tb, 0, none⟩), .nilIface]) rfl (fun _ => by kernel_rfl) ?_
  refine sq_p (.pointer (some ⟨tb, 0, none⟩)) rfl (fun _ => by kernel_rfl) ?_
  refine sq_p (.nilIface) rfl (fun _ => by kernel_rfl) ?_
  refine sq_p (.pointer (some ⟨tb, 0, none⟩)) rfl (fun _ => by kernel_rfl) ?_
  refine sq_p (.nilIface) rfl (fun _ => by kernel_rfl) ?_
  refine lnil ?_
  refine thn_n ?_
  refine c_seq ?_
  refine c_seq ?_
  refine c_reg ?_
  refine sq_p (.nilIface) rfl (fun _ => by kernel_rfl) ?_
  refine sq_p (.bool false) rfl (fun _ => by kernel_rfl) ?_
  refine lnil ?_
  refine thn_n ?_
  refine c_false (by kernel_rfl) ?_
  refine c_skip ?_
  refine thn_n ?_
  refine c_seq ?_
  refine c_reg ?_
  refine sq_p (.pointer (some ⟨tb, 0, none⟩)) rfl (fun _ => by kernel_rfl) ?_
  refine sq_p (.int .i64 (m : Int)) rfl (fun _ => by kernel_rfl) ?_
  refine sq_newm rfl hk (fun _ => by kernel_rfl) h ?_; intro k1 w h
  refine sq_newm rfl hk (fun _ => by kernel_rfl) h ?_; intro k2 w h
  refine sq_p (.agg #[.pointer (some ⟨tb, 0, none⟩), .int .i64 (m : Int), .int .i64 0, .int .i64 0, .map (some k1), .map (some k2)]) rfl (fun _ => by kernel_rfl) ?_
  refine sq_new rfl (fun b => .pointer (some ⟨b, 0, none⟩)) [.pointer (some ⟨tb, 0, none⟩), .int .i64 (m : Int), .int .i64 0, .int .i64 0, .map (some k1), .map (some k2)] 46 (fun _ => by kernel_rfl) h ?_; intro k3 w h
  refine sq_p (.pointer (some ⟨k3, 0, none⟩)) rfl (fun _ => by kernel_rfl) ?_
  refine lnil ?_
  refine thn_n ?_
  refine c_seq ?_
  refine c_reg ?_
  refine sq_p (.pointer (some ⟨k3, 0, none⟩)) rfl (fun _ => by kernel_rfl) ?_
  refine sq_p (.pointer (some ⟨tb, 0, none⟩)) rfl (fun _ => by kernel_rfl) ?_
  refine sq_call #[.pointer (some ⟨tb, 0, none⟩), .int .i64 2] [3, 3] rfl (tabAddR_spec m h1 h2 tb vl vg T Sl Sg) (fun _ => by kernel_rfl) h ?_; rintro v_ L_ w ⟨nb, rfl, rfl⟩ h
  refine sq_p (.tuple #[.agg #[.int .i64 0, .int .i64 0], .nilIface]) rfl (fun _ => by kernel_rfl) ?_
  refine sq_p (.agg #[.int .i64 0, .int .i64 0]) rfl (fun _ => by kernel_rfl) ?_
  refine sq_p (.nilIface) rfl (fun _ => by kernel_rfl) ?_
  refine sq_p (.pointer (some ⟨k3, 0, none⟩)) rfl (fun _ => by kernel_rfl) ?_
  refine sq_p (.pointer (some ⟨k3, 2, none⟩)) rfl (fun _ => by kernel_rfl) ?_
  refine sq_st rfl 2 [.int .i64 0, .int .i64 0] [.pointer (some ⟨tb, 0, none⟩), .int .i64 (m : Int), .int .i64 0, .int .i64 0, .map (some k1), .map (some k2)] h 2 rfl (by kernel_rfl) ?_; intro w h
  refine lnil ?_
  refine thn_n ?_
  refine c_seq ?_
  refine d_start 10 [2] (by kernel_rfl) h fun w h => ?_
  refine d_take 0 496 [2] rfl (v := .pointer (some ⟨k3, 0, none⟩)) (by kernel_rfl) (qp_thn qp_body) (yq (by kernel_rfl) (g_pure (v := .pointer (some ⟨k3, 0, none⟩)) fun _ => by kernel_rfl)) h (by kernel_rfl) ?_
  refine d_take 1 497 [2] rfl (v := .pointer (some ⟨k3, 0, none⟩)) (by kernel_rfl) (qp_thn qp_body) (yq (by kernel_rfl) (g_pure (v := .pointer (some ⟨k3, 0, none⟩)) fun _ => by kernel_rfl)) h (by kernel_rfl) ?_
  refine d_take 2 499 [2] rfl (v := .pointer (some ⟨k3, 4, none⟩)) (by kernel_rfl) (qp_thn qp_body) (yq (by kernel_rfl) (g_pure (v := .pointer (some ⟨k3, 4, none⟩)) fun _ => by kernel_rfl)) h (by kernel_rfl) ?_
  refine d_take 3 503 [2] rfl (v := .map (some k1)) (by kernel_rfl) (qp_thn qp_body) (yq (by kernel_rfl) (g_ld 4 [.map (some k1)] (.map (some k1)) (by kernel_rfl) 0 rfl)) h (by kernel_rfl) ?_
  refine d_take 4 271 [2] rfl (v := .pointer (some ⟨k3, 0, none⟩)) (by kernel_rfl) (qp_thn qp_body) (yq (by kernel_rfl) (g_pure (v := .pointer (some ⟨k3, 0, none⟩)) fun _ => by kernel_rfl)) h (by kernel_rfl) ?_
  refine d_take 5 287 [2] rfl (v := .pointer (some ⟨k3, 0, none⟩)) (by kernel_rfl) (qp_thn qp_body) (yq (by kernel_rfl) (g_pure (v := .pointer (some ⟨k3, 0, none⟩)) fun _ => by kernel_rfl)) h (by kernel_rfl) ?_
  refine d_take 6 319 [2] rfl (v := .pointer (some ⟨k3, 2, none⟩)) (by kernel_rfl) (qp_thn qp_body) (yq (by kernel_rfl) (g_pure (v := .pointer (some ⟨k3, 2, none⟩)) fun _ => by kernel_rfl)) h (by kernel_rfl) ?_
  refine d_take 7 383 [2] rfl (v := .agg #[.int .i64 0, .int .i64 0]) (by kernel_rfl) (qp_thn qp_body) (yq (by kernel_rfl) (g_ld 2 [.int .i64 0, .int .i64 0] (.agg #[.int .i64 0, .int .i64 0]) (by kernel_rfl) 0 rfl)) h (by kernel_rfl) ?_
  refine d_ready [8] (by kernel_rfl) rfl ?_
  refine ad_newm [3] rfl (by kernel_rfl) sk (fun _ => by kernel_rfl) h ?_ ?_
  · skip
    intro k4 w h; refine ⟨by kernel_rfl, ?_⟩
    refine d_ready [9] (by kernel_rfl) rfl ?_
    refine ad_mapu [3] rfl (by kernel_rfl) (K := 29) (E := 48) keyHk (0, 0) (.map (some k4)) (by kernel_rfl) h 5 rfl ?_ ?_
    · skip
      intro w h; refine ⟨by kernel_rfl, ?_⟩
      refine d_done (by kernel_rfl) ?_
      refine thn_n ?_
      refine c_seq ?_
      refine d_start 11 [3] (by kernel_rfl) h fun w h => ?_
      refine d_take 0 1022 [3] rfl (v := .pointer (some ⟨tb, 0, none⟩)) (by kernel_rfl) (qp_thn qp_body) (yq (by kernel_rfl) (g_pure (v := .pointer (some ⟨tb, 0, none⟩)) fun _ => by kernel_rfl)) h (by kernel_rfl) ?_
      refine d_take 1 993 [3] rfl (v := .pointer (some ⟨k3, 0, none⟩)) (by kernel_rfl) (qp_thn qp_body) (yq (by kernel_rfl) (g_pure (v := .pointer (some ⟨k3, 0, none⟩)) fun _ => by kernel_rfl)) h (by kernel_rfl) ?_
      refine d_take 2 995 [3] rfl (v := .pointer (some ⟨k3, 0, none⟩)) (by kernel_rfl) (qp_thn qp_body) (yq (by kernel_rfl) (g_pure (v := .pointer (some ⟨k3, 0, none⟩)) fun _ => by kernel_rfl)) h (by kernel_rfl) ?_
      refine d_take 3 999 [3] rfl (v := .pointer (some ⟨k3, 2, none⟩)) (by kernel_rfl) (qp_thn qp_body) (yq (by kernel_rfl) (g_pure (v := .pointer (some ⟨k3, 2, none⟩)) fun _ => by kernel_rfl)) h (by kernel_rfl) ?_
      refine d_take 4 1007 [3] rfl (v := .agg #[.int .i64 0, .int .i64 0]) (by kernel_rfl) (qp_thn qp_body) (yq (by kernel_rfl) (g_ld 2 [.int .i64 0, .int .i64 0] (.agg #[.int .i64 0, .int .i64 0]) (by kernel_rfl) 0 rfl)) h (by kernel_rfl) ?_
      refine d_take 5 31 [3] rfl (v := .pointer (some ⟨k3, 0, none⟩)) (by kernel_rfl) (qp_thn qp_body) (yq (by kernel_rfl) (g_pure (v := .pointer (some ⟨k3, 0, none⟩)) fun _ => by kernel_rfl)) h (by kernel_rfl) ?_
      refine d_take 6 63 [3] rfl (v := .pointer (some ⟨k3, 0, none⟩)) (by kernel_rfl) (qp_thn qp_body) (yq (by kernel_rfl) (g_pure (v := .pointer (some ⟨k3, 0, none⟩)) fun _ => by kernel_rfl)) h (by kernel_rfl) ?_
      refine d_take 7 127 [3] rfl (v := .pointer (some ⟨k3, 2, none⟩)) (by kernel_rfl) (qp_thn qp_body) (yq (by kernel_rfl) (g_pure (v := .pointer (some ⟨k3, 2, none⟩)) fun _ => by kernel_rfl)) h (by kernel_rfl) ?_
      refine d_take 8 255 [3] rfl (v := .agg #[.int .i64 0, .int .i64 0]) (by kernel_rfl) (qp_thn qp_body) (yq (by kernel_rfl) (g_ld 2 [.int .i64 0, .int .i64 0] (.agg #[.int .i64 0, .int .i64 0]) (by kernel_rfl) 0 rfl)) h (by kernel_rfl) ?_
      refine d_take 9 511 [3] rfl (v := .agg #[.int .i64 2, .int .i64 0, .int .i64 2, .int .i64 0, .int .i64 0, .int .i64 0]) (by kernel_rfl) (qp_thn qp_body) (yq (by kernel_rfl) (g_pure (v := .agg #[.int .i64 2, .int .i64 0, .int .i64 2, .int .i64 0, .int .i64 0, .int .i64 0]) fun _ => by kernel_rfl)) h (by kernel_rfl) ?_
      refine d_ready [10] (by kernel_rfl) rfl ?_
      refine ad_call #[.pointer (some ⟨tb, 0, none⟩), .agg #[.int .i64 0, .int .i64 0], .agg #[.int .i64 2, .int .i64 0, .int .i64 2, .int .i64 0, .int .i64 0, .int .i64 0]] [1, 1, 4] [4] rfl (by kernel_rfl) (keep_spec ad tb (psO m [newND nb 2 none]) (gsO m [newND nb 2 none]) vl vg T Sl Sg (lO m [newND nb 2 none]) (by rw [psO_len h1, gsO_len h1]) gsO_rng 0 0 0 (newND nb 2 none) (lO_get rfl) (atOf_psO (k := 0) rfl) 2 0 2 0 0 0) (fun _ => by kernel_rfl) h ?_ ?_
      · skip
        rintro _ L_ w rfl h
        refine ⟨by kernel_rfl, ?_⟩
        refine d_done (by kernel_rfl) ?_
        refine thn_n ?_
        refine c_seq ?_
        refine c_reg ?_
        refine sq_p (.pointer (some ⟨k3, 0, none⟩)) rfl (fun _ => by kernel_rfl) ?_
        refine sq_p (.pointer (some ⟨k3, 0, none⟩)) rfl (fun _ => by kernel_rfl) ?_
        refine sq_p (.nilIface) rfl (fun _ => by kernel_rfl) ?_
        refine lnil ?_
        refine thn_n ?_
        refine c_ret ?_
        have h : Own w0 E [rTab tb (psO m [newND nb 2 none]) (gsO m [newND nb 2 none]) vl vg T Sl Sg, rNds ((lO m [newND nb 2 none]).set 0 (some (keepN (newND nb 2 none) 2 0 2 0 0))), rEnv B ad [10], rMap true k4 sk [], rCell true k3 [.pointer (some ⟨tb, 0, none⟩), .int .i64 (m : Int), .int .i64 0, .int .i64 0, .map (some k1), .map (some k2)] 46, rMap true k2 hk [], rMap true k1 hk (aput [] (0, 0) (.map (some k4)))] w := h
        rw [show (lO m [newND nb 2 none]).set 0 (some (keepN (newND nb 2 none) 2 0 2 0 0)) = lO m [keepN (newND nb 2 none) 2 0 2 0 0] from lO_set _ (by simp)] at h
        have h := h.allNil
        have h := h.pickE (M := [rMap true k4 sk [], rDirs [], rTab tb (psO m [keepN (newND nb 2 none) 2 0 2 0 0]) (gsO m [keepN (newND nb 2 none) 2 0 2 0 0]) vl vg T Sl Sg, rNds (lO m [keepN (newND nb 2 none) 2 0 2 0 0]), rEnv B ad [10], rCell true k3 [.pointer (some ⟨tb, 0, none⟩), .int .i64 (m : Int), .int .i64 0, .int .i64 0, .map (some k1), .map (some k2)] 46, rMap true k2 hk [], rMap true k1 hk ([(⟨(0, 0), k4, []⟩ : DN)].map dnKV)]) [4, 0, 0, 0, 0, 0, 0, 0] (by kernel_rfl)
        have h := Own.dirAdd (ds := []) ⟨(0, 0), k4, []⟩ h
        have h : Own w0 E [rDirs [(⟨(0, 0), k4, []⟩ : DN)], rTab tb (psO m [keepN (newND nb 2 none) 2 0 2 0 0]) (gsO m [keepN (newND nb 2 none) 2 0 2 0 0]) vl vg T Sl Sg, rNds (lO m [keepN (newND nb 2 none) 2 0 2 0 0]), rEnv B ad [10], rCell true k3 [.pointer (some ⟨tb, 0, none⟩), .int .i64 (m : Int), .int .i64 0, .int .i64 0, .map (some k1), .map (some k2)] 46, rMap true k2 hk [], rMap true k1 hk ([(⟨(0, 0), k4, []⟩ : DN)].map dnKV)] w := h
        refine ret_end [.pointer (some ⟨k3, 0, none⟩), .nilIface] [4, 1, 1, 3, 0, 0] h (by kernel_rfl) (res_t (by kernel_rfl) (res_t (by kernel_rfl) res_n)) ?_
        exact ⟨_, _, _, _, _, _, _, _, _, _, _, rfl, rfl⟩
      exact ad_nil
    exact ad_nil
  exact ad_nil

end Go.Proofs.YtbdolnbgjkhdnaaGreatDoor
/- slices.Sorted(maps.Keys(m)) at keys that are texts, laid at this program (written by the kit's tools). -/
namespace Go.Proofs
open Go.Shelf
def Tryz.sortedS_ren : Go.Shelf.Ren := ⟨fun | 6 => 69 | 8 => 88 | 9 => 89 | 11 => 99 | 13 => 101 | 12 => 100 | 23 => 119 | 24 => 120 | 14 => 110 | 15 => 111 | 16 => 112 | 17 => 113 | 18 => 114 | 19 => 115 | 20 => 116 | 21 => 117 | 22 => 118 | 25 => 134 | 26 => 135 | 27 => 136 | 28 => 137 | 29 => 138 | 30 => 139 | 31 => 146 | n => n, fun | 26 => 9 | 28 => 149 | 24 => 146 | 0 => 0 | 3 => 3 | 37 => 189 | 48 => 218 | 50 => 186 | 4 => 4 | 40 => 210 | 39 => 209 | 45 => 215 | 5 => 5 | 9 => 9 | 51 => 229 | 55 => 233 | 57 => 237 | 58 => 57 | 33 => 183 | n => n, fun | n => n⟩
theorem Tryz.sortedS : Go.Proofs.SlLaysZ.n6 Tryz.prog Tryz.sortedS_ren := {
  mixed := by kernel_rfl
  f6 := ⟨Tryz.f69.name, by decide, Tryz.func69.trans (congrArg some (by kernel_rfl))⟩
  f8 := ⟨Tryz.f88.name, by decide, Tryz.func88.trans (congrArg some (by kernel_rfl))⟩
  f11 := ⟨Tryz.f99.name, by decide, Tryz.func99.trans (congrArg some (by kernel_rfl))⟩
  t0 := Tryz.underlying0
  a0 := Tryz.isAgg0
  z0 := Tryz.sizeOf0
  v0 := Tryz.zeroValue0
  t24 := Tryz.underlying146
  a24 := Tryz.isAgg146
  z24 := Tryz.sizeOf146
  v24 := Tryz.zeroValue146
  t26 := Tryz.underlying9
  a26 := Tryz.isAgg9
  z26 := Tryz.sizeOf9
  v26 := Tryz.zeroValue9
  t28 := Tryz.underlying149
  a28 := Tryz.isAgg149
  z28 := Tryz.sizeOf149
  v28 := Tryz.zeroValue149
  i26 := by kernel_rfl }
def Tryz.keysS_ren : Go.Shelf.Ren := ⟨fun | 7 => 70 | 10 => 90 | n => n, fun | 23 => 48 | 26 => 9 | 3 => 29 | 28 => 149 | 0 => 0 | 27 => 148 | 33 => 183 | 4 => 4 | n => n, fun | n => n⟩
theorem Tryz.keysS : Go.Proofs.SlLaysZ.n7 Tryz.prog Tryz.keysS_ren := {
  mixed := by kernel_rfl
  f7 := ⟨Tryz.f70.name, by decide, Tryz.func70.trans (congrArg some (by kernel_rfl))⟩
  f10 := ⟨Tryz.f90.name, by decide, Tryz.func90.trans (congrArg some (by kernel_rfl))⟩
  t0 := Tryz.underlying0
  a0 := Tryz.isAgg0
  z0 := Tryz.sizeOf0
  v0 := Tryz.zeroValue0
  t4 := Tryz.underlying4
  a4 := Tryz.isAgg4
  z4 := Tryz.sizeOf4
  v4 := Tryz.zeroValue4
  t23 := Tryz.underlying48
  a23 := Tryz.isAgg48
  z23 := Tryz.sizeOf48
  v23 := Tryz.zeroValue48
  t26 := Tryz.underlying9
  a26 := Tryz.isAgg9
  z26 := Tryz.sizeOf9
  v26 := Tryz.zeroValue9
  t27 := Tryz.underlying148
  a27 := Tryz.isAgg148
  z27 := Tryz.sizeOf148
  v27 := Tryz.zeroValue148
  t28 := Tryz.underlying149
  a28 := Tryz.isAgg149
  z28 := Tryz.sizeOf149
  v28 := Tryz.zeroValue149
  t33 := Tryz.underlying183
  a33 := Tryz.isAgg183
  z33 := Tryz.sizeOf183
  v33 := Tryz.zeroValue183 }
def Tryz.sortS_ren : Go.Shelf.Ren := ⟨fun | 6 => 89 | 8 => 101 | 9 => 100 | 19 => 119 | 20 => 120 | 21 => 110 | 22 => 111 | 23 => 112 | 24 => 113 | 25 => 114 | 26 => 115 | 27 => 116 | 28 => 117 | 29 => 118 | 36 => 134 | 31 => 135 | 32 => 136 | 37 => 137 | 38 => 138 | 39 => 139 | 41 => 146 | n => n, fun | 27 => 146 | 29 => 9 | 3 => 3 | 32 => 189 | 26 => 146 | 0 => 0 | 44 => 218 | 46 => 186 | 4 => 4 | 36 => 210 | 35 => 209 | 41 => 215 | 5 => 5 | 9 => 9 | 53 => 229 | 57 => 233 | 63 => 237 | 64 => 57 | n => n, fun | n => n⟩
theorem Tryz.sortS : Go.Proofs.SlLaysM.n6 Tryz.prog Tryz.sortS_ren := {
  mixed := by kernel_rfl
  f6 := ⟨Tryz.f89.name, by decide, Tryz.func89.trans (congrArg some (by kernel_rfl))⟩
  f8 := Tryz.func101.trans (congrArg some (by kernel_rfl))
  f9 := ⟨Tryz.f100.name, by decide, Tryz.func100.trans (congrArg some (by kernel_rfl))⟩
  f19 := Tryz.func119.trans (congrArg some (by kernel_rfl))
  f20 := Tryz.func120.trans (congrArg some (by kernel_rfl))
  f21 := ⟨Tryz.f110.name, by decide, Tryz.func110.trans (congrArg some (by kernel_rfl))⟩
  f22 := ⟨Tryz.f111.name, by decide, Tryz.func111.trans (congrArg some (by kernel_rfl))⟩
  f23 := ⟨Tryz.f112.name, by decide, Tryz.func112.trans (congrArg some (by kernel_rfl))⟩
  f24 := ⟨Tryz.f113.name, by decide, Tryz.func113.trans (congrArg some (by kernel_rfl))⟩
  f25 := ⟨Tryz.f114.name, by decide, Tryz.func114.trans (congrArg some (by kernel_rfl))⟩
  f26 := ⟨Tryz.f115.name, by decide, Tryz.func115.trans (congrArg some (by kernel_rfl))⟩
  f27 := ⟨Tryz.f116.name, by decide, Tryz.func116.trans (congrArg some (by kernel_rfl))⟩
  f28 := ⟨Tryz.f117.name, by decide, Tryz.func117.trans (congrArg some (by kernel_rfl))⟩
  f29 := ⟨Tryz.f118.name, by decide, Tryz.func118.trans (congrArg some (by kernel_rfl))⟩
  f31 := Tryz.func135.trans (congrArg some (by kernel_rfl))
  f32 := Tryz.func136.trans (congrArg some (by kernel_rfl))
  f36 := ⟨Tryz.f134.name, by decide, Tryz.func134.trans (congrArg some (by kernel_rfl))⟩
  f37 := ⟨Tryz.f137.name, by decide, Tryz.func137.trans (congrArg some (by kernel_rfl))⟩
  f38 := ⟨Tryz.f138.name, by decide, Tryz.func138.trans (congrArg some (by kernel_rfl))⟩
  f39 := ⟨Tryz.f139.name, by decide, Tryz.func139.trans (congrArg some (by kernel_rfl))⟩
  f41 := ⟨Tryz.f146.name, by decide, Tryz.func146.trans (congrArg some (by kernel_rfl))⟩
  t0 := Tryz.underlying0
  a0 := Tryz.isAgg0
  z0 := Tryz.sizeOf0
  v0 := Tryz.zeroValue0
  t3 := Tryz.underlying3
  a3 := Tryz.isAgg3
  z3 := Tryz.sizeOf3
  v3 := Tryz.zeroValue3
  t4 := Tryz.underlying4
  a4 := Tryz.isAgg4
  z4 := Tryz.sizeOf4
  v4 := Tryz.zeroValue4
  t5 := Tryz.underlying5
  a5 := Tryz.isAgg5
  z5 := Tryz.sizeOf5
  v5 := Tryz.zeroValue5
  t9 := Tryz.underlying9
  a9 := Tryz.isAgg9
  z9 := Tryz.sizeOf9
  v9 := Tryz.zeroValue9
  t26 := Tryz.underlying146
  a26 := Tryz.isAgg146
  z26 := Tryz.sizeOf146
  v26 := Tryz.zeroValue146
  t27 := Tryz.underlying146
  a27 := Tryz.isAgg146
  z27 := Tryz.sizeOf146
  v27 := Tryz.zeroValue146
  t29 := Tryz.underlying9
  a29 := Tryz.isAgg9
  z29 := Tryz.sizeOf9
  v29 := Tryz.zeroValue9
  t32 := Tryz.underlying189
  a32 := Tryz.isAgg189
  z32 := Tryz.sizeOf189
  v32 := Tryz.zeroValue189
  t35 := Tryz.underlying209
  a35 := Tryz.isAgg209
  z35 := Tryz.sizeOf209
  v35 := Tryz.zeroValue209
  t36 := Tryz.underlying210
  a36 := Tryz.isAgg210
  z36 := Tryz.sizeOf210
  v36 := Tryz.zeroValue210
  t41 := Tryz.underlying215
  a41 := Tryz.isAgg215
  z41 := Tryz.sizeOf215
  v41 := Tryz.zeroValue215
  t44 := Tryz.underlying218
  a44 := Tryz.isAgg218
  z44 := Tryz.sizeOf218
  v44 := Tryz.zeroValue218
  t46 := Tryz.underlying186
  a46 := Tryz.isAgg186
  z46 := Tryz.sizeOf186
  v46 := Tryz.zeroValue186
  t53 := Tryz.underlying229
  a53 := Tryz.isAgg229
  z53 := Tryz.sizeOf229
  v53 := Tryz.zeroValue229
  t57 := Tryz.underlying233
  a57 := Tryz.isAgg233
  z57 := Tryz.sizeOf233
  v57 := Tryz.zeroValue233
  t63 := Tryz.underlying237
  a63 := Tryz.isAgg237
  z63 := Tryz.sizeOf237
  v63 := Tryz.zeroValue237
  t64 := Tryz.underlying57
  a64 := Tryz.isAgg57
  z64 := Tryz.sizeOf57
  v64 := Tryz.zeroValue57 }
end Go.Proofs

namespace Go.Proofs.YtbdolnbgjkhdnaaGreatDoor
open Go.RowKit
section
/- slices.Sorted(maps.Keys(m)), the keys texts, by what is owned: one key at most. No condition but the map's size. -/
open Go.RowKit Go.Maps Go.Sort Go.Shelf
def nmC (s : ByteArray) : List Value := [.string s]
theorem nmC_len (s : ByteArray) : (nmC s).length = 1 := rfl
theorem insert_permS {H : Type} (x : Lit × DataW H) : ∀ l : List (Lit × DataW H), (DataW.insert x l).Perm (x :: l)
  | [] => List.Perm.refl _
  | y :: r => by
    show (if x.1.before y.1 then x :: y :: r else y :: DataW.insert x r).Perm _
    split
    · exact List.Perm.refl _
    · exact ((insert_permS x r).cons y).trans (List.Perm.swap x y r)
theorem foldr_permS {H : Type} : ∀ l : List (Lit × DataW H), (l.foldr DataW.insert []).Perm l
  | [] => List.Perm.refl _
  | x :: l => (insert_permS x _).trans ((foldr_permS l).cons x)
theorem sortsS (m : Nat) : AnyZ.SortsIn Tryz.prog Tryz.sortedS_ren Fence.wide m :=
  ⟨fun blk off cap ss W hH hblk hsz => callsIn_wide.2 (AnyM.slices_Sort_string Tryz.sortS blk off cap ss W hH hblk hsz),
   fun p cap W => callsIn_wide.2 (AnyM.slices_Sort_string_none Tryz.sortS p cap W)⟩
abbrev constS : Value → Option (DataW Unit × List MemPlace) := fun _ => some (.nil, [])
theorem sortedS_any {kv : List (ByteArray × Value)} (b kb : Nat) (w : World) (hm : MapA w b sk kv) (hkb : w.heap[kb]? = some (.cells #[.map (some b)] 48 (0, 0))) (hlen : kv.length ≤ 1000000) (hr : ∀ p ∈ kv, p.1.size ≤ maxLen) :
    Calls Tryz.prog 69 #[.func (.func 90) #[] #[.pointer (some ⟨kb, 0, none⟩)]] w fun e w' => ∃ (v : Value) (ss : List (List UInt8)), e = .returned v ∧ ss.Perm (kv.map (·.1.data.toList)) ∧
      w'.ownsRow w.heap.size 9 1 v ss.length ((ss.mergeSort leB).map encStr) ∧ Below w.heap.size w w' := by
  obtain ⟨es, clock, hb, he, hst⟩ := hm
  have hkeys : es.toList.map (·.key) = kv.map fun p => sk p.1 := keys_of he
  have hsz : es.size = kv.length := by have := congrArg List.length hkeys; simpa using this
  have hK : Tryz.prog.underlying 9 = some .string := Tryz.underlying9
  have hkey : ∀ x ∈ es.toList, ∃ z : ByteArray, x.key = .string z ∧ keyOf Tryz.prog 9 x.key = some (.string z.data.toList) := fun x hx => by
    have hx' : x.key ∈ kv.map fun p => sk p.1 := by rw [← hkeys]; exact List.mem_map.2 ⟨x, hx, rfl⟩
    obtain ⟨p, hp, e⟩ := List.mem_map.1 hx'
    refine ⟨p.1, e.symm, ?_⟩
    rw [← e]
    exact WideMaps.keyOf_string_mk hK (hr p hp)
  have hrd : ∀ x ∈ es.toList, ∀ z : ByteArray, x.key = .string z → WideElems.rd Tryz.prog 9 constS x = some (.string z.data.toList, .nil) := fun x hx z hz => by
    obtain ⟨z', h1, h2⟩ := hkey x hx
    have : z' = z := by rw [hz] at h1; cases h1; rfl
    subst this
    simp [WideElems.rd, h2]
  have hF : WideElems.Fit Tryz.prog 9 constS es clock := ⟨by unfold maxLen; omega, hst, fun x hx => by
    obtain ⟨z, h1, _⟩ := hkey x hx
    exact ⟨_, hrd x hx z h1⟩⟩
  have hown : w.ownsMap Tryz.prog 9 constS b es.size (.map ((es.toList.map (WideElems.rg Tryz.prog 9 constS)).foldr DataW.insert [])) := ⟨es, clock, hb, hF, Nat.le_refl _, rfl⟩
  have hperm : (strKeys (.map ((es.toList.map (WideElems.rg Tryz.prog 9 constS)).foldr DataW.insert []))).Perm (kv.map (·.1.data.toList)) := by
    refine ((foldr_permS _).map _).trans ?_
    have : (es.toList.map (WideElems.rg Tryz.prog 9 constS)).map (fun p => Go.strOf p.1) = kv.map (·.1.data.toList) := by
      have h2 : es.toList.map (fun x => (WideElems.rg Tryz.prog 9 constS x)) = es.toList.map (fun x => ((Lit.string (match x.key with | .string a => a.data.toList | _ => []), DataW.nil) : Lit × DataW Unit)) := by
        refine List.map_congr_left fun x hx => ?_
        obtain ⟨z, h1, _⟩ := hkey x hx
        simp [WideElems.rg, hrd x hx z h1, h1]
      rw [h2, List.map_map]
      have h3 : es.toList.map ((fun v => match v with | Value.string a => a.data.toList | _ => []) ∘ (·.key)) = kv.map (·.1.data.toList) := by
        rw [← List.map_map, hkeys, List.map_map]; rfl
      exact h3
    rw [this]
  have hsz2 : Maps.size (.map ((es.toList.map (WideElems.rg Tryz.prog 9 constS)).foldr DataW.insert [])) ≤ 1000000 := by
    have := hperm.length_eq
    simp [strKeys, Maps.size] at this ⊢
    omega
  refine (callsIn_wide (n := 5)).1 ?_
  have hseq := AnyZ.keys_gives (ρ := Tryz.keysS_ren) { Tryz.keysS with } Fence.wide 2 trivial rfl (by omega) kb b es.size _ w (lt_of_block hkb) (by rw [cell_of hkb]; rfl) hown
  have cS := AnyZ.sorted_in Tryz.sortedS Fence.wide 5 trivial trivial trivial trivial rfl (by omega) (sortsS _) (enters_of Tryz.func89 (by kernel_rfl) rfl) 90 #[.pointer (some ⟨kb, 0, none⟩)] trivial (enters_of Tryz.func90 (by kernel_rfl) rfl) _ _ (by unfold maxLen; omega) (by omega) w hseq
  change CallsIn _ _ Tryz.prog 69 _ _ _ at cS
  refine cS.mono ?_
  rintro e w' ⟨v, ss, rfl, hS, hrow, _, hb'⟩
  exact ⟨v, ss, rfl, hS.trans hperm, hrow, hb'⟩
theorem keysS_spec (mb : Nat) (kv : List (ByteArray × Value)) : Spec Tryz.prog 70 #[.map (some mb)] [rMap true mb sk kv] fun u L => ∃ k, u = .func (.func 90) #[] #[.pointer (some ⟨k, 0, none⟩)] ∧ L = [rCell true k [.map (some mb)] 48, rMap true mb sk kv] := fun E w0 w ho => by
  have hK := (callsIn_wide (n := 5)).1 (AnyZ.keys_in Tryz.keysS Fence.wide 5 trivial rfl (some mb) w)
  refine hK.mono ?_
  rintro e w' ⟨rfl, rfl⟩
  exact ⟨_, _, ⟨w.heap.size, rfl, rfl⟩, rfl, ho.push ((Chg.refl Nil w).alloc _) (block_alloc w _) (fun b hb => by have : b = w.heap.size := hb; omega)⟩
abbrev Ent3 := ByteArray × (Int × Int)
def e3C (e : Ent3) : List Value := [.string e.1, .int .i64 e.2.1, .int .i64 e.2.2]
theorem e3C_len (e : Ent3) : (e3C e).length = 3 := rfl
theorem sorted_one {ss es : List (List UInt8)} (hl : es.length ≤ 1) (hp : ss.Perm es) : ss.mergeSort leB = es := by
  have hq := (List.mergeSort_perm ss leB).trans hp
  match es, hl with
  | [], _ => exact List.perm_nil.1 hq
  | [x], _ => exact List.perm_singleton.1 hq
theorem enc_names (es : List Ent3) : (es.map (·.1.data.toList)).map encStr = (es.map (·.1)).flatMap nmC := by
  induction es with
  | nil => rfl
  | cons a l ih => simp only [List.map_cons, List.flatMap_cons, ih]; rfl
theorem sorted1_spec (mb kb : Nat) (es : List Ent3) (hl1 : es.length ≤ 1) (hr : ∀ e ∈ es, e.1.size ≤ 1000000) :
    Spec Tryz.prog 69 #[.func (.func 90) #[] #[.pointer (some ⟨kb, 0, none⟩)]] [rCell true kb [.map (some mb)] 48, rMap true mb sk (es.map enKV)] fun u L => ∃ v', u = v' ∧ L = [rRows true v' 9 1 nmC (es.map fun e => e.1), rCell true kb [.map (some mb)] 48, rMap true mb sk (es.map enKV)] := fun E w0 w ho => by
  have hk : (es.map enKV).map (·.1.data.toList) = es.map (·.1.data.toList) := by rw [List.map_map]; rfl
  refine (sortedS_any (kv := es.map enKV) mb kb w (ho.fact 1 rfl) (ho.fact 0 rfl) (by rw [List.length_map]; omega) (fun p hp => by
    obtain ⟨e, he, rfl⟩ := List.mem_map.1 hp
    have := hr e he
    show e.1.size ≤ maxLen
    unfold maxLen; omega)).mono ?_
  rintro e w' ⟨v, ss, rfl, hp, hrow, hb⟩
  rw [hk] at hp
  have hlen : ss.length = (es.map fun e => e.1).length := by rw [hp.length_eq, List.length_map, List.length_map]
  rw [sorted_one (by rw [List.length_map]; exact hl1) hp, hlen, enc_names] at hrow
  obtain ⟨s1, s2⟩ := (SliceAt.of_owns hrow (fun x h1 h2 => ⟨h1, h2⟩) : SliceAt w' v 9 1 (es.map fun e => e.1).length ((es.map fun e => e.1).flatMap nmC) (fun x => w.heap.size ≤ x ∧ x < w'.heap.size)).own
  have hc : Chg Nil w w' := Chg.of_below hb (fun x a b => by omega)
  exact ⟨_, _, ⟨v, rfl, rfl⟩, rfl, ho.push hc s1 fun b hb => (s2 b hb).1⟩

end
/- A whole slice appended in a region that draws its order; slices read out of any resource (SlRd): length, index. Over any program, no condition. -/
section
variable {P : Program} {a : Act} {w w0 : World} {E : Ent} {L M : List Res} {K : Act → World → Prop} {Q : Exit → Act → World → Prop} {ops : Array Oper} {br : Nat → Bool} {fuel : Nat} {listed : Array Bool} {i : Nat} {is : List Nat}
theorem ad_appw {α : Type} {enc : α → List Value} {l l2 : List α} {dst : Option Tmp} {T : TypeId} {s x : Operand} {ty : TypeId} {pos : String} {after : Array Edge} {g : Option (Nat × Bool)} {v v2 : Value} {size : Nat} {d : TypeId} {r : Res} (js : List Nat)
    (hi : ops[i]? = some ⟨dst, .call { callee := .builtin .append, args := #[s, x], argTypes := #[T, T] }, ty, pos, after, g⟩) (hb : (br i, Region.wanted ⟨dst, .call { callee := .builtin .append, args := #[s, x], argTypes := #[T, T] }, ty, pos, after, g⟩ (yielded ops a.tmps)) = (false, true))
    (hx : (a.eval s, a.eval x, P.underlying T, okInfo P d size) = (v, v2, some (.slice d), true)) (he : ∀ x, (enc x).length = size) (h1 : ∀ x, (enc x).all (·.oneCell') = true)
    (h : Own w0 E M w) (j : Nat) (hj : M[j]? = some (rRows true v d size enc l)) (k : Nat) (hk : M[k]? = some r) (hr : SlRd r v2 l2.length (l2.flatMap enc)) (hlen : l.length + l2.length < 100000000000)
    (hK : ∀ v' w', Own w0 E (M.set j (rRows true v' d size enc (l ++ l2))) w' → pk js (M.set j (rRows true v' d size enc (l ++ l2))) = L ∧ DW P ops Q w0 E br fuel (listed.setIfInBounds i true) L (a.put dst v') w') (hs : AllD P ops Q w0 E br fuel listed L a w is) : AllD P ops Q w0 E br fuel listed L a w (i :: is) := by
  simp only [Prod.mk.injEq] at hb
  exact ⟨AllO.cons hi hb.1 hb.2 (op_appw hx he h1 h j hj k hk hr hlen fun v' w' h' => ⟨h'.sub js (hK v' w' h').1, (hK v' w' h').2.out⟩) hs.out⟩
end

/- A part of a slice: its length, an element's place. Over any program, no condition. -/
section
variable {P : Program} {a : Act} {w0 : World} {E : Ent} {L : List Res} {dst : Option Tmp} {T ty d : TypeId} {x y : Operand} {pos : String} {after : Array Edge} {g : Option (Nat × Bool)} {v : Value} {n k : Nat} {xs : List Value} {r : Res}
theorem g_lensub {lo hi : Nat} (hx : (a.eval x, P.underlying T) = (subV k v lo hi, some (.slice d))) (i : Nat) (hi' : L[i]? = some r) (hr : SlRd r v n xs) :
    Gives P w0 E L ⟨dst, .call { callee := .builtin .len, args := #[x], argTypes := #[T] }, ty, pos, after, g⟩ a (.int .i64 ((hi - lo : Nat) : Int)) := fun w h => by
  simp only [Prod.mk.injEq] at hx
  obtain ⟨h1, h2⟩ := hx
  obtain ⟨⟨ad, cap, e, _⟩, _⟩ := hr w (h.fact i hi')
  rw [e] at h1
  have h1 : a.eval x = .slice (if cap = lo then ad else ad.map (·.add (lo * k))) (hi - lo) (cap - lo) := h1
  simp [execOp, resolve, invoke, builtin, Builtin.len_, h1, Sem.run_bind, run_underlying h2, goInt]
theorem g_idxsub {lo hi : Nat} (j : Nat) {z : Int} (hz : z = (j : Int)) (hx : (a.eval x, a.eval y, P.underlying T, (P.info? d).map (·.size)) = (subV k v lo hi, .int .i64 z, some (.slice d), some k)) (hj : lo + j < hi) (hn : hi ≤ n) (i : Nat) (hi' : L[i]? = some r) (hr : SlRd r v n xs) :
    Gives P w0 E L ⟨dst, .indexAddr T x y, ty, pos, after, g⟩ a (.pointer (some ⟨blkN v, offN v + (lo + j) * k, none⟩)) := fun w h => by
  subst hz
  obtain ⟨h1, h2, h3, h4⟩ : a.eval x = _ ∧ a.eval y = _ ∧ P.underlying T = _ ∧ (P.info? d).map (·.size) = some k := by simpa using hx
  obtain ⟨⟨ad, cap, e, hc1, _, hp⟩, _⟩ := hr w (h.fact i hi')
  obtain rfl := hp 0 (by omega)
  have h1 : a.eval x = .slice (some ⟨blkN v, offN v + lo * k, none⟩) (hi - lo) (cap - lo) := by
    rw [h1]
    obtain ⟨B, hB⟩ : ∃ B, B = blkN v := ⟨_, rfl⟩
    obtain ⟨O, hO⟩ : ∃ O, O = offN v := ⟨_, rfl⟩
    rw [← hB, ← hO] at e ⊢
    rw [e]
    show Value.slice (if cap = lo then _ else _) _ _ = _
    rw [if_neg (by omega)]
    simp [Addr.add]
  have hz := sizeOf_run (w := w) h4
  have hi1 : (0 : Int) ≤ (j : Int) ∧ (j : Int) < ((hi - lo : Nat) : Int) := by omega
  simp only [execOp, Instr.indexAt, h1, h2, asIntOf, Sem.run_bind, Sem.run_pure, Result.andThen_ok, run_underlying h3]
  simp only [Sem.run_ite, hi1, and_self, if_true, Sem.run_bind, hz, Result.andThen_ok, Sem.run_pure, Int.toNat_natCast, Addr.add_lit]
  rw [Nat.add_assoc, ← Nat.add_mul]
end

/- deep: contracts by what is owned (printed by walk.py). -/

theorem take_nxt {es : List Ent3} {lo k : Nat} {x : Ent3} (h : es[lo + k]? = some x) : (es.drop lo).take (k + 1) = (es.drop lo).take k ++ [x] := by
  rw [List.take_add_one, List.getElem?_drop, h]; rfl
theorem nm_at {es : List Ent3} {i : Nat} {s : ByteArray} (h : (es.map fun e => e.1)[i]? = some s) : ∃ e, es[i]? = some e ∧ s = e.1 := by
  rw [List.getElem?_map] at h
  cases hq : es[i]? with
  | none => rw [hq] at h; cases h
  | some e => rw [hq] at h; exact ⟨e, rfl, by simpa using h.symm⟩
theorem en_one {es : List Ent3} (hl : es.length ≤ 1) {i : Nat} {e : Ent3} (h : es[i]? = some e) : aget (es.map enKV) e.1 = some (hk e.2) := by
  match es, hl, i, h with
  | [x], _, 0, h => simp at h; subst h; simp [aget, enKV]

theorem lsG_spec {B : Nat} (ad : Nat → Addr) (b most tb dm pm : Nat) (ps : List (Option Nat)) (gs : List Int) (vl vg : Value) (T : TypeId) (Sl Sg : Nat → Prop) (l : List (Option ND)) (ds : List DN) (pn : List ((Int × Int) × Int)) (hl : ps.length = gs.length) (hr : ∀ x ∈ gs, 0 ≤ x ∧ x ≤ 1000000) (i : Nat) (N : ND) (hlk : l[i]? = some (some N)) (ha : atOf ps gs (i : Int) 0 = some N.nb) (d : DN) (hj : ds[i]? = some d) (hdh : d.h = ((i : Int), 0)) (hdd : (ds.map (·.h)).Nodup) (hone : d.es.length ≤ 1) (hsz : ∀ e ∈ d.es, e.1.size ≤ 1000000) (cn mn : Nat) (hcn : cn = 0) (hmn : mn = 60)  : Spec Tryz.prog 45 #[.pointer (some ⟨b, 0, none⟩), .agg #[.int .i64 (i : Int), .int .i64 0], .int .i64 (cn : Int), .int .i64 (mn : Int)] [rCell true b [.pointer (some ⟨tb, 0, none⟩), .int .i64 (most : Int), .int .i64 0, .int .i64 0, .map (some dm), .map (some pm)] 46, rTab tb ps gs vl vg T Sl Sg, rNds l, rMap true dm hk (ds.map dnKV), rDirs ds, rEnv B ad [10]] (fun u L => ∃ v' m, u = .tuple #[v', .int .i64 m, .nilIface] ∧ L = [rCell true b [.pointer (some ⟨tb, 0, none⟩), .int .i64 (most : Int), .int .i64 0, .int .i64 0, .map (some dm), .map (some pm)] 46, rTab tb ps gs vl vg T Sl Sg, rNds l, rMap true dm hk (ds.map dnKV), rDirs ds, rEnv B ad [10], rRows true v' 116 3 e3C d.es]) := by
  have hml : (d.es.map fun e => e.1).length = d.es.length := List.length_map _
  refine spec_of (#[.pointer (some ⟨b, 0, none⟩), .agg #[.int .i64 (i : Int), .int .i64 0], .int .i64 (cn : Int), .int .i64 (mn : Int), undef, undef, undef, undef, undef, undef, undef, undef, undef, undef, undef, undef, undef, undef, undef, undef, undef, undef, undef, undef, undef, undef, undef, undef, undef, undef, undef, undef, undef, undef, undef, undef, undef, undef, undef, undef, undef, undef, undef, undef, undef, undef, undef, undef, undef, undef, undef, undef, undef, undef, undef, undef, undef, undef, undef, undef, undef, undef, undef, undef, undef, undef, undef]) Tryz.func45 rfl (by kernel_rfl) fun E w0 w h => ?_
  refine c_seq ?_
  refine c_reg ?_
  refine sq_new rfl (fun b => .pointer (some ⟨b, 0, none⟩)) [.int .i64 (i : Int), .int .i64 0] 29 (fun _ => by kernel_rfl) h ?_; intro k1 w h
  refine sq_p (.slice none 0 0) rfl (fun _ => by kernel_rfl) ?_
  refine sq_p (.int .i64 0) rfl (fun _ => by kernel_rfl) ?_
  refine sq_p (.nilIface) rfl (fun _ => by kernel_rfl) ?_
  refine lnil ?_
  refine thn_n ?_
  refine c_seq ?_
  refine c_reg ?_
  refine sq_p (.pointer (some ⟨b, 0, none⟩)) rfl (fun _ => by kernel_rfl) ?_
  refine sq_q rfl h (g_ld 0 [.int .i64 (i : Int), .int .i64 0] (.agg #[.int .i64 (i : Int), .int .i64 0]) (by kernel_rfl) 0 rfl) ?_
  refine sq_call #[.pointer (some ⟨b, 0, none⟩), .agg #[.int .i64 (i : Int), .int .i64 0]] [1, 1, 1, 1, 2] rfl (dirY_spec ad b most tb dm pm ps gs vl vg T Sl Sg l ds pn hl hr (i : Int) 0 i N hlk ha i d hj hdh hdd) (fun _ => by kernel_rfl) h ?_; rintro v_ L_ w ⟨rfl, rfl⟩ h
  refine sq_p (.tuple #[.map (some d.mb), .nilIface]) rfl (fun _ => by kernel_rfl) ?_
  refine sq_p (.map (some d.mb)) rfl (fun _ => by kernel_rfl) ?_
  refine sq_p (.nilIface) rfl (fun _ => by kernel_rfl) ?_
  refine sq_p (.map (some d.mb)) rfl (fun _ => by kernel_rfl) ?_
  refine sq_p (.nilIface) rfl (fun _ => by kernel_rfl) ?_
  refine lnil ?_
  refine thn_n ?_
  refine c_seq ?_
  refine c_seq ?_
  refine c_reg ?_
  refine sq_p (.nilIface) rfl (fun _ => by kernel_rfl) ?_
  refine sq_p (.bool false) rfl (fun _ => by kernel_rfl) ?_
  refine lnil ?_
  refine thn_n ?_
  refine c_false (by kernel_rfl) ?_
  refine c_skip ?_
  refine thn_n ?_
  refine c_seq ?_
  refine c_seq ?_
  refine c_reg ?_
  refine sq_p (.int .i64 (cn : Int)) rfl (fun _ => by kernel_rfl) ?_
  obtain ⟨b2, hb2⟩ : ∃ b_ : Bool, b_ = (decide ((cn : Int) < 0)) := ⟨_, rfl⟩
  refine sq_q (v := .bool b2) rfl h (by subst hb2; exact g_pure (v := .bool (decide ((cn : Int) < 0))) fun _ => by kernel_rfl) ?_
  refine sq_p (.bool b2) rfl (fun _ => by kernel_rfl) ?_
  refine sq_m0 (v := .int .i64 (mn : Int)) b2 (by cases b2 <;> kernel_rfl) h (fun hB => by subst hB; exact g_pure (v := .int .i64 (mn : Int)) fun _ => by kernel_rfl) ?_
  obtain ⟨b3, hb3⟩ : ∃ b_ : Bool, b_ = (decide ((mn : Int) < 0)) := ⟨_, rfl⟩
  refine sq_m0 (v := .bool b3) b2 (by cases b2 <;> kernel_rfl) h (fun hB => by subst hB; exact by subst hb3; exact g_pure (v := .bool (decide ((mn : Int) < 0))) fun _ => by kernel_rfl) ?_
  obtain ⟨b4, hb4⟩ : ∃ b_ : Bool, b_ = (b2 || b3) := ⟨_, rfl⟩
  refine sq_q (v := .bool b4) rfl h (by subst hb4; exact g_pure (v := .bool (b2 || b3)) fun _ => by cases b2 <;> kernel_rfl) ?_
  refine lnil ?_
  refine thn_n ?_
  refine c_cond (b4) (by kernel_rfl) (fun hc5 => ?_) (fun hc5 => ?_)
  · skip
    have q6 : (b2 || b3) = true := by rw [← hb4]; exact hc5
    have q7 : (((cn : Int) < 0) ∨ ((mn : Int) < 0)) := by subst hb3; subst hb2; revert q6; first | (simp; done) | (simp; omega)
    exfalso; revert hc5; subst hb4; subst hb3; subst hb2; first | (simp; done) | (simp; omega)
  · skip
    have q8 : (b2 || b3) = false := by rw [← hb4]; exact hc5
    have q9 : b2 = false := by revert q8; cases b2 <;> simp
    have q10 : b3 = false := by revert q8; cases b2 <;> cases b3 <;> simp
    have q11 : (decide ((cn : Int) < 0)) = false := by rw [← hb2]; exact q9
    have q11 := of_decide_eq_false q11
    have q12 : (decide ((mn : Int) < 0)) = false := by rw [← hb3]; exact q10
    have q12 := of_decide_eq_false q12
    refine c_skip ?_
    refine thn_n ?_
    refine c_seq ?_
    have h := h.pickE (M := [rDirs ds, rCell true b [.pointer (some ⟨tb, 0, none⟩), .int .i64 (most : Int), .int .i64 0, .int .i64 0, .map (some dm), .map (some pm)] 46, rTab tb ps gs vl vg T Sl Sg, rNds l, rMap true dm hk (ds.map dnKV), rEnv B ad [10], rCell true k1 [.int .i64 (i : Int), .int .i64 0] 29]) [6, 0, 0, 0, 0, 0, 0] (by kernel_rfl)
    have h := h.dirOpen hj
    have h : Own w0 E [rMap true d.mb sk (d.es.map enKV), rDirsO ds i, rCell true b [.pointer (some ⟨tb, 0, none⟩), .int .i64 (most : Int), .int .i64 0, .int .i64 0, .map (some dm), .map (some pm)] 46, rTab tb ps gs vl vg T Sl Sg, rNds l, rMap true dm hk (ds.map dnKV), rEnv B ad [10], rCell true k1 [.int .i64 (i : Int), .int .i64 0] 29] w := h
    refine c_reg ?_
    refine sq_p (.map (some d.mb)) rfl (fun _ => by kernel_rfl) ?_
    refine sq_call #[.map (some d.mb)] [0] rfl (keysS_spec d.mb _) (fun _ => by kernel_rfl) h ?_; rintro v_ L_ w ⟨p13, rfl, rfl⟩ h
    refine sq_call #[.func (.func 90) #[] #[.pointer (some ⟨p13, 0, none⟩)]] [0, 0] rfl (sorted1_spec d.mb p13 d.es hone hsz) (fun _ => by kernel_rfl) h ?_; rintro v14 L_ w ⟨_, rfl, rfl⟩ h
    refine sq_p (v14) rfl (fun _ => by kernel_rfl) ?_
    refine lnil ?_
    refine thn_n ?_
    refine c_seq ?_
    refine c_reg ?_
    refine sq_p (.int .i64 (cn : Int)) rfl (fun _ => by kernel_rfl) ?_
    refine sq_p (v14) rfl (fun _ => by kernel_rfl) ?_
    refine sq_q rfl h (g_len (by kernel_rfl) 0 rfl) ?_
    refine sq_q rfl h (g_minI (u := (cn : Int)) (v := ((d.es.map fun e => e.1).length : Int)) (by kernel_rfl)) ?_
    refine sq_p (.int .i64 (min (cn : Int) ((d.es.map fun e => e.1).length : Int))) rfl (fun _ => by kernel_rfl) ?_
    refine lnil ?_
    refine thn_n ?_
    refine c_seq ?_
    refine c_reg ?_
    refine sq_p (.int .i64 (min (cn : Int) ((d.es.map fun e => e.1).length : Int))) rfl (fun _ => by kernel_rfl) ?_
    refine sq_p (.int .i64 (mn : Int)) rfl (fun _ => by kernel_rfl) ?_
    refine sq_p (v14) rfl (fun _ => by kernel_rfl) ?_
    refine sq_q rfl h (g_len (by kernel_rfl) 0 rfl) ?_
    refine sq_p (.int .i64 (min (cn : Int) ((d.es.map fun e => e.1).length : Int))) rfl (fun _ => by kernel_rfl) ?_
    refine sq_q rfl h (g_eq (v := .int .i64 (IntKind.i64.wrap (((d.es.map fun e => e.1).length : Int) - (min (cn : Int) ((d.es.map fun e => e.1).length : Int))))) (v' := .int .i64 (((d.es.map fun e => e.1).length : Int) - (min (cn : Int) ((d.es.map fun e => e.1).length : Int)))) (g_pure fun _ => by kernel_rfl) (wr (by omega))) ?_
    refine sq_q rfl h (g_minI (u := (mn : Int)) (v := ((d.es.map fun e => e.1).length : Int) - (min (cn : Int) ((d.es.map fun e => e.1).length : Int))) (by kernel_rfl)) ?_
    refine sq_q rfl h (g_eq (v := .int .i64 (IntKind.i64.wrap ((min (cn : Int) ((d.es.map fun e => e.1).length : Int)) + (min (mn : Int) (((d.es.map fun e => e.1).length : Int) - (min (cn : Int) ((d.es.map fun e => e.1).length : Int))))))) (v' := .int .i64 ((min (cn : Int) ((d.es.map fun e => e.1).length : Int)) + (min (mn : Int) (((d.es.map fun e => e.1).length : Int) - (min (cn : Int) ((d.es.map fun e => e.1).length : Int)))))) (g_pure fun _ => by kernel_rfl) (wr (by omega))) ?_
    refine sq_p (.int .i64 ((min (cn : Int) ((d.es.map fun e => e.1).length : Int)) + (min (mn : Int) (((d.es.map fun e => e.1).length : Int) - (min (cn : Int) ((d.es.map fun e => e.1).length : Int)))))) rfl (fun _ => by kernel_rfl) ?_
    refine lnil ?_
    refine thn_n ?_
    refine c_seq ?_
    refine c_seq ?_
    refine c_reg ?_
    refine sq_p (v14) rfl (fun _ => by kernel_rfl) ?_
    refine sq_p (.int .i64 (min (cn : Int) ((d.es.map fun e => e.1).length : Int))) rfl (fun _ => by kernel_rfl) ?_
    refine sq_p (.int .i64 ((min (cn : Int) ((d.es.map fun e => e.1).length : Int)) + (min (mn : Int) (((d.es.map fun e => e.1).length : Int) - (min (cn : Int) ((d.es.map fun e => e.1).length : Int)))))) rfl (fun _ => by kernel_rfl) ?_
    obtain ⟨j15, hj15⟩ : ∃ n : Nat, min (cn : Int) ((d.es.map fun e => e.1).length : Int) = (n : Int) := ⟨(min (cn : Int) ((d.es.map fun e => e.1).length : Int)).toNat, by omega⟩
    obtain ⟨j16, hj16⟩ : ∃ n : Nat, (min (cn : Int) ((d.es.map fun e => e.1).length : Int)) + (min (mn : Int) (((d.es.map fun e => e.1).length : Int) - (min (cn : Int) ((d.es.map fun e => e.1).length : Int)))) = (n : Int) := ⟨((min (cn : Int) ((d.es.map fun e => e.1).length : Int)) + (min (mn : Int) (((d.es.map fun e => e.1).length : Int) - (min (cn : Int) ((d.es.map fun e => e.1).length : Int))))).toNat, by omega⟩
    refine sq_q rfl h (g_sub2 (v := v14) (d := 9) (k := 1) (LV := (some (.int .i64 (min (cn : Int) ((d.es.map fun e => e.1).length : Int))))) (HV := (some (.int .i64 ((min (cn : Int) ((d.es.map fun e => e.1).length : Int)) + (min (mn : Int) (((d.es.map fun e => e.1).length : Int) - (min (cn : Int) ((d.es.map fun e => e.1).length : Int)))))))) j15 j16 (by kernel_rfl) (bnd hj15) (bnd hj16) (by first | omega | (simp; omega)) (by first | omega | (simp; omega)) 0 rfl slRd_rows) ?_
    refine sq_q rfl h (g_lensub (v := v14) (d := 9) (k := 1) (lo := j15) (hi := j16) (by kernel_rfl) 0 rfl slRd_rows) ?_
    refine sq_p (.int .i64 0) rfl (fun _ => by kernel_rfl) ?_
    refine lnil ?_
    refine thn_n ?_
    refine c_block ?_
    have h := h.nilRows 116 3 e3C
    refine c_loop (X := Nat × List Ent3 × Value × (Nat → Value)) (fun ⟨k, ls, vo, J0⟩ => ⟨#[.pointer (some ⟨b, 0, none⟩), .agg #[.int .i64 (i : Int), .int .i64 0], .int .i64 (cn : Int), .int .i64 (mn : Int), undef, .pointer (some ⟨k1, 0, none⟩), undef, undef, vo, .int .i64 ((min (cn : Int) ((d.es.map fun e => e.1).length : Int)) + (min (mn : Int) (((d.es.map fun e => e.1).length : Int) - (min (cn : Int) ((d.es.map fun e => e.1).length : Int))))), .nilIface, .map (some d.mb), v14, .int .i64 (min (cn : Int) ((d.es.map fun e => e.1).length : Int)), undef, J0 15, .tuple #[.map (some d.mb), .nilIface], .pointer (some ⟨b, 0, none⟩), .agg #[.int .i64 (i : Int), .int .i64 0], .tuple #[.map (some d.mb), .nilIface], .map (some d.mb), .nilIface, .nilIface, .bool false, undef, .int .i64 (cn : Int), .bool b2, .bool b2, (if b2 = false then .int .i64 (mn : Int) else undef), (if b2 = false then .bool b3 else undef), .bool b4, undef, .map (some d.mb), .func (.func 90) #[] #[.pointer (some ⟨p13, 0, none⟩)], v14, .int .i64 (cn : Int), v14, .int .i64 ((d.es.map fun e => e.1).length : Int), .int .i64 (min (cn : Int) ((d.es.map fun e => e.1).length : Int)), .int .i64 (min (cn : Int) ((d.es.map fun e => e.1).length : Int)), .int .i64 (mn : Int), v14, .int .i64 ((d.es.map fun e => e.1).length : Int), .int .i64 (min (cn : Int) ((d.es.map fun e => e.1).length : Int)), .int .i64 (((d.es.map fun e => e.1).length : Int) - (min (cn : Int) ((d.es.map fun e => e.1).length : Int))), .int .i64 (min (mn : Int) (((d.es.map fun e => e.1).length : Int) - (min (cn : Int) ((d.es.map fun e => e.1).length : Int)))), .int .i64 ((min (cn : Int) ((d.es.map fun e => e.1).length : Int)) + (min (mn : Int) (((d.es.map fun e => e.1).length : Int) - (min (cn : Int) ((d.es.map fun e => e.1).length : Int))))), v14, .int .i64 (min (cn : Int) ((d.es.map fun e => e.1).length : Int)), .int .i64 ((min (cn : Int) ((d.es.map fun e => e.1).length : Int)) + (min (mn : Int) (((d.es.map fun e => e.1).length : Int) - (min (cn : Int) ((d.es.map fun e => e.1).length : Int))))), subV 1 v14 j15 j16, .int .i64 ((j16 - j15 : Nat) : Int), .int .i64 (k : Int), J0 53, J0 54, J0 55, J0 56, J0 57, J0 58, J0 59, J0 60, J0 61, J0 62, J0 63, J0 64, undef, undef], []⟩)
      (fun ⟨k, ls, vo, J0⟩ => [rRows true vo 116 3 e3C ls, rRows true v14 9 1 nmC (d.es.map fun e => e.1), rCell true p13 [.map (some d.mb)] 48, rMap true d.mb sk (d.es.map enKV), rDirsO ds i, rCell true b [.pointer (some ⟨tb, 0, none⟩), .int .i64 (most : Int), .int .i64 0, .int .i64 0, .map (some dm), .map (some pm)] 46, rTab tb ps gs vl vg T Sl Sg, rNds l, rMap true dm hk (ds.map dnKV), rEnv B ad [10], rCell true k1 [.int .i64 (i : Int), .int .i64 0] 29]) (fun ⟨k, ls, vo, J0⟩ => k ≤ j16 - j15 ∧ ls = (d.es.drop j15).take k) (fun ⟨k, ls, vo, J0⟩ => j16 - j15 - k)
      ⟨0, [], (.slice none 0 0), (fun n => (#[.pointer (some ⟨b, 0, none⟩), .agg #[.int .i64 (i : Int), .int .i64 0], .int .i64 (cn : Int), .int .i64 (mn : Int), undef, .pointer (some ⟨k1, 0, none⟩), undef, undef, .slice none 0 0, .int .i64 ((min (cn : Int) ((d.es.map fun e => e.1).length : Int)) + (min (mn : Int) (((d.es.map fun e => e.1).length : Int) - (min (cn : Int) ((d.es.map fun e => e.1).length : Int))))), .nilIface, .map (some d.mb), v14, .int .i64 (min (cn : Int) ((d.es.map fun e => e.1).length : Int)), undef, undef, .tuple #[.map (some d.mb), .nilIface], .pointer (some ⟨b, 0, none⟩), .agg #[.int .i64 (i : Int), .int .i64 0], .tuple #[.map (some d.mb), .nilIface], .map (some d.mb), .nilIface, .nilIface, .bool false, undef, .int .i64 (cn : Int), .bool b2, .bool b2, (if b2 = false then .int .i64 (mn : Int) else undef), (if b2 = false then .bool b3 else undef), .bool b4, undef, .map (some d.mb), .func (.func 90) #[] #[.pointer (some ⟨p13, 0, none⟩)], v14, .int .i64 (cn : Int), v14, .int .i64 ((d.es.map fun e => e.1).length : Int), .int .i64 (min (cn : Int) ((d.es.map fun e => e.1).length : Int)), .int .i64 (min (cn : Int) ((d.es.map fun e => e.1).length : Int)), .int .i64 (mn : Int), v14, .int .i64 ((d.es.map fun e => e.1).length : Int), .int .i64 (min (cn : Int) ((d.es.map fun e => e.1).length : Int)), .int .i64 (((d.es.map fun e => e.1).length : Int) - (min (cn : Int) ((d.es.map fun e => e.1).length : Int))), .int .i64 (min (mn : Int) (((d.es.map fun e => e.1).length : Int) - (min (cn : Int) ((d.es.map fun e => e.1).length : Int)))), .int .i64 ((min (cn : Int) ((d.es.map fun e => e.1).length : Int)) + (min (mn : Int) (((d.es.map fun e => e.1).length : Int) - (min (cn : Int) ((d.es.map fun e => e.1).length : Int))))), v14, .int .i64 (min (cn : Int) ((d.es.map fun e => e.1).length : Int)), .int .i64 ((min (cn : Int) ((d.es.map fun e => e.1).length : Int)) + (min (mn : Int) (((d.es.map fun e => e.1).length : Int) - (min (cn : Int) ((d.es.map fun e => e.1).length : Int))))), subV 1 v14 j15 j16, .int .i64 ((j16 - j15 : Nat) : Int), .int .i64 0, undef, undef, undef, undef, undef, undef, undef, undef, undef, undef, undef, undef, undef, undef] : Array Value).getD n undef)⟩ ⟨by omega, by simp⟩ (by kernel_rfl) [0, 0, 0, 0, 0, 0, 0, 0, 0, 0, 0] (by kernel_rfl) h ?_
    rintro ⟨k, ls, vo, J0⟩ w hG h
    obtain ⟨hk1, hls⟩ : k ≤ j16 - j15 ∧ ls = (d.es.drop j15).take k := hG
    have hll : ls.length ≤ 1 := by rw [hls, List.length_take, List.length_drop]; omega
    refine c_seq ?_
    refine c_reg ?_
    refine sq_p (.bool (decide ((k : Int) < ((j16 - j15 : Nat) : Int)))) rfl (fun _ => by kernel_rfl) ?_
    refine lnil ?_
    refine thn_n ?_
    refine c_seq ?_
    refine c_cond (decide ((k : Int) < ((j16 - j15 : Nat) : Int))) (by kernel_rfl) (fun hc17 => ?_) (fun hc17 => ?_)
    · skip
      have hc17 := of_decide_eq_true hc17
      refine c_skip ?_
      refine thn_n ?_
      refine c_seq ?_
      refine c_block ?_
      refine c_seq ?_
      refine c_reg ?_
      have hi18 : j15 + k < (d.es.map fun e => e.1).length := by omega
      obtain ⟨x19, hx20⟩ : ∃ x, (d.es.map fun e => e.1)[j15 + k]? = some x := ⟨_, List.getElem?_eq_getElem hi18⟩
      obtain ⟨e21, he22, rfl⟩ := nm_at hx20
      refine sq_q rfl h (g_idxsub (v := v14) (d := 9) (k := 1) (lo := j15) (hi := j16) k rfl (by kernel_rfl) (by omega) (by first | omega | (simp; omega)) 1 rfl slRd_rows) ?_
      refine sq_q rfl h (g_ldr (b := blkN v14) (offN v14 + (j15 + k) * 1) [.string e21.1] (.string e21.1) (by kernel_rfl) 1 rfl (rdRow0 nmC_len hx20 (by kernel_rfl))) ?_
      refine sq_p (.string e21.1) rfl (fun _ => by kernel_rfl) ?_
      refine lnil ?_
      refine thn_n ?_
      refine c_reg ?_
      refine sq_p (vo) rfl (fun _ => by kernel_rfl) ?_
      refine sq_p (.string e21.1) rfl (fun _ => by kernel_rfl) ?_
      refine sq_p (.map (some d.mb)) rfl (fun _ => by kernel_rfl) ?_
      refine sq_p (.string e21.1) rfl (fun _ => by kernel_rfl) ?_
      refine sq_q rfl h (g_eq (v' := .agg #[.int .i64 e21.2.1, .int .i64 e21.2.2]) (g_look (K := 9) (E := 29) (z := (.agg #[.int .i64 0, .int .i64 0])) (kv := (d.es.map enKV)) (ok := false) (keyStr (by kernel_rfl)) e21.1 (by kernel_rfl) (fun _ => by kernel_rfl) 3 rfl) (by rw [en_one hone he22]; rfl)) ?_
      refine sq_p (.agg #[.string e21.1, .int .i64 e21.2.1, .int .i64 e21.2.2]) rfl (fun _ => by kernel_rfl) ?_
      refine sq_new rfl (fun b => .slice (some ⟨b, 0, none⟩) 1 1) [.string e21.1, .int .i64 e21.2.1, .int .i64 e21.2.2] 116 (fun _ => by kernel_rfl) h ?_; intro k23 w h
      refine sq_app (b := k23) (o := 0) rfl 1 (e21.1, e21.2.1, e21.2.2) (by kernel_rfl) h 1 rfl 0 rfl (rdCell 0 (by kernel_rfl)) (by (try simp only [List.length_append, List.length_cons, List.length_nil, List.length_map]); omega) ?_; intro v24 w h
      refine sq_p (v24) rfl (fun _ => by kernel_rfl) ?_
      refine lnil ?_
      refine blk_n (thn_n ?_)
      refine c_reg ?_
      refine sq_q rfl h (g_eq (v := .int .i64 (IntKind.i64.wrap ((k : Int) + 1))) (v' := .int .i64 ((k + 1 : Nat) : Int)) (g_pure fun _ => by kernel_rfl) (wr (by omega))) ?_
      refine sq_p (.int .i64 ((k + 1 : Nat) : Int)) rfl (fun _ => by kernel_rfl) ?_
      refine lnil ?_
      have hQ25 : ((k + 1) ≤ j16 - j15 ∧ (ls ++ [(e21.1, e21.2.1, e21.2.2)]) = (d.es.drop j15).take (k + 1)) ∧ (j16 - j15 - (k + 1)) < (j16 - j15 - k) := ⟨⟨by omega, by rw [take_nxt he22, ← hls]⟩, by omega⟩
      refine loop_end (fun j => ⟨(k + 1), ls ++ [(e21.1, e21.2.1, e21.2.2)], v24, j⟩) hQ25 (by kernel_rfl) [1, 1, 1, 1, 1, 1, 1, 1, 1, 1, 1] (by kernel_rfl) h
    · skip
      have hc17 := of_decide_eq_false hc17
      refine c_exit ?_
      refine thn_e (rnd_e (blk_e (thn_n ?_)))
      refine c_seq ?_
      refine c_reg ?_
      refine sq_p (vo) rfl (fun _ => by kernel_rfl) ?_
      refine sq_p (.int .i64 ((min (cn : Int) ((d.es.map fun e => e.1).length : Int)) + (min (mn : Int) (((d.es.map fun e => e.1).length : Int) - (min (cn : Int) ((d.es.map fun e => e.1).length : Int)))))) rfl (fun _ => by kernel_rfl) ?_
      refine sq_p (vo) rfl (fun _ => by kernel_rfl) ?_
      refine sq_p (.int .i64 ((min (cn : Int) ((d.es.map fun e => e.1).length : Int)) + (min (mn : Int) (((d.es.map fun e => e.1).length : Int) - (min (cn : Int) ((d.es.map fun e => e.1).length : Int)))))) rfl (fun _ => by kernel_rfl) ?_
      refine sq_p (.nilIface) rfl (fun _ => by kernel_rfl) ?_
      refine lnil ?_
      refine thn_n ?_
      refine c_ret ?_
      have h := h.pickE (M := [rMap true d.mb sk (d.es.map enKV), rDirsO ds i, rRows true vo 116 3 e3C ls, rRows true v14 9 1 nmC (d.es.map fun e => e.1), rCell true p13 [.map (some d.mb)] 48, rCell true b [.pointer (some ⟨tb, 0, none⟩), .int .i64 (most : Int), .int .i64 0, .int .i64 0, .map (some dm), .map (some pm)] 46, rTab tb ps gs vl vg T Sl Sg, rNds l, rMap true dm hk (ds.map dnKV), rEnv B ad [10], rCell true k1 [.int .i64 (i : Int), .int .i64 0] 29]) [3, 3, 0, 0, 0, 0, 0, 0, 0, 0, 0] (by kernel_rfl)
      have h := h.dirBack (d := d) hj
      refine ret_end [vo, .int .i64 ((min (cn : Int) ((d.es.map fun e => e.1).length : Int)) + (min (mn : Int) (((d.es.map fun e => e.1).length : Int) - (min (cn : Int) ((d.es.map fun e => e.1).length : Int))))), .nilIface] [4, 4, 4, 4, 0, 3, 0] h (by kernel_rfl) (res_t (by kernel_rfl) (res_t (by kernel_rfl) (res_t (by kernel_rfl) res_n))) ?_
      rw [show ls = d.es by rw [hls, show j15 = 0 by omega, List.drop_zero, List.take_of_length_le (by omega)]]
      exact ⟨_, _, rfl, rfl⟩

/- deep: contracts by what is owned (printed by walk.py). -/

def tdK (q : Nat) : (Int × Int) × Value := (((q : Int), 0), .bool true)
def toldK (i : Nat) : List ((Int × Int) × Value) := (List.range i).map tdK
theorem toldK_get (n i : Nat) (hn : n ≤ i) : aget (toldK n) ((i : Int), 0) = none := by
  have : ∀ l : List Nat, (∀ q ∈ l, q < i) → aget (l.map tdK) ((i : Int), 0) = none := fun l => by
    induction l with
    | nil => intro _; rfl
    | cons x r ih =>
      intro h
      simp only [List.map_cons, aget]
      have hx := h x (by simp)
      rw [if_neg (fun e => by have := congrArg Prod.fst e; simp [tdK] at this; omega)]
      exact ih fun q hq => h q (List.mem_cons_of_mem _ hq)
  exact this _ fun q hq => by have := List.mem_range.1 hq; omega
theorem toldK_put (i : Nat) : aput (toldK i) ((i : Int), 0) (.bool true) = toldK (i + 1) := by
  have : ∀ l : List Nat, (∀ q ∈ l, q < i) → aput (l.map tdK) ((i : Int), 0) (.bool true) = (l ++ [i]).map tdK := fun l => by
    induction l with
    | nil => intro _; rfl
    | cons x r ih =>
      intro h
      have hx := h x (by simp)
      simp only [List.map_cons, aput, List.cons_append]
      rw [if_neg (fun e => by have := congrArg Prod.fst e; simp [tdK] at this; omega), ih fun q hq => h q (List.mem_cons_of_mem _ hq)]
  unfold toldK
  rw [this _ fun q hq => by have := List.mem_range.1 hq; omega, List.range_succ]
theorem lsK_spec {B : Nat} (ad : Nat → Addr) (b most tb dm pm : Nat) (ps : List (Option Nat)) (gs : List Int) (vl vg : Value) (T : TypeId) (Sl Sg : Nat → Prop) (l : List (Option ND)) (ds : List DN) (pn : List ((Int × Int) × Int)) (hl : ps.length = gs.length) (hr : ∀ x ∈ gs, 0 ≤ x ∧ x ≤ 1000000) (i : Nat) (N : ND) (hlk : l[i]? = some (some N)) (ha : atOf ps gs (i : Int) 0 = some N.nb) (d : DN) (hj : ds[i]? = some d) (hdh : d.h = ((i : Int), 0)) (hdd : (ds.map (·.h)).Nodup) (hone : d.es.length ≤ 1) (hsz : ∀ e ∈ d.es, e.1.size ≤ 1000000) : Spec Tryz.prog 45 #[.pointer (some ⟨b, 0, none⟩), .agg #[.int .i64 (i : Int), .int .i64 0], .int .i64 0, .int .i64 60] [rCell true b [.pointer (some ⟨tb, 0, none⟩), .int .i64 (most : Int), .int .i64 0, .int .i64 0, .map (some dm), .map (some pm)] 46, rTab tb ps gs vl vg T Sl Sg, rNds l, rMap true dm hk (ds.map dnKV), rDirs ds, rEnv B ad [10]] fun u L => ∃ v' m, u = .tuple #[v', .int .i64 m, .nilIface] ∧ L = [rCell true b [.pointer (some ⟨tb, 0, none⟩), .int .i64 (most : Int), .int .i64 0, .int .i64 0, .map (some dm), .map (some pm)] 46, rTab tb ps gs vl vg T Sl Sg, rNds l, rMap true dm hk (ds.map dnKV), rDirs ds, rEnv B ad [10], rRows true v' 116 3 e3C d.es] :=
  lsG_spec ad b most tb dm pm ps gs vl vg T Sl Sg l ds pn hl hr i N hlk ha d hj hdh hdd hone hsz 0 60 rfl rfl
theorem attrK_spec {B : Nat} (ad : Nat → Addr) (b most tb dm pm : Nat) (ps : List (Option Nat)) (gs : List Int) (vl vg : Value) (T : TypeId) (Sl Sg : Nat → Prop) (l : List (Option ND)) (ds : List DN) (pn : List ((Int × Int) × Int)) (hl : ps.length = gs.length) (hr : ∀ x ∈ gs, 0 ≤ x ∧ x ≤ 1000000) (i : Nat) (N : ND) (hlk : l[i]? = some (some N)) (ha : atOf ps gs (i : Int) 0 = some N.nb) (c : Nat) (hkd : N.kind = 2) (hch : N.change = (c : Int)) : Spec Tryz.prog 37 #[.pointer (some ⟨tb, 0, none⟩), .agg #[.int .i64 (i : Int), .int .i64 0]] [rTab tb ps gs vl vg T Sl Sg, rNds l, rEnv B ad [10]] fun u L => ∃ s li un ug, u = .tuple #[.agg #[.int .i64 2, .int .i64 s, .int .i64 li, .int .i64 (c : Int), .int .i64 un, .int .i64 ug], .nilIface] ∧ L = [rTab tb ps gs vl vg T Sl Sg, rNds l, rEnv B ad [10]] :=
  (attrY_spec ad tb ps gs vl vg T Sl Sg l hl hr (i : Int) 0 i N hlk ha).mono fun u L h => by
    rw [hkd, hch] at h
    exact ⟨_, _, _, _, h⟩
theorem deep_leaf (t : Tx) (i : Nat) : (t ++ itK (tx ⟨#[100, 105, 114]⟩) []) ++ numK i (numK 0 (numK 0 (numK 0 []))) = t ++ deepT 0 i [] := by
  rw [List.append_assoc, itK_nil]; rfl
theorem deep_next (t : Tx) (i r : Nat) (e : ByteArray) (he : e = ⟨#[100]⟩) : (((t ++ itK (tx ⟨#[100, 105, 114]⟩) []) ++ numK i (numK 0 (numK 1 (numK 1 [])))) ++ itK (tx e) []) ++ deepT r (i + 1) [] = t ++ deepT (r + 1) i [] := by
  subst he
  simp only [List.append_assoc, itK_nil, numK_app, itK_app, List.nil_append]; rfl
theorem itS_size (s : ByteArray) (hs : s.size < 1000) : (itK (tx s) []).length ≤ 1100 := by
  have := itS_len s (by unfold ten10; omega); omega
theorem num4_size (a b c d : Nat) (h : a < 1000 ∧ b < 1000 ∧ c < 1000 ∧ d < 1000) : (numK a (numK b (numK c (numK d [])))).length ≤ 20 := by
  have h1 := numK_size h.1 (numK b (numK c (numK d [])))
  have h2 := numK_size h.2.1 (numK c (numK d []))
  have h3 := numK_size h.2.2.1 (numK d [])
  have h4 := numK_size h.2.2.2 []
  simp only [List.length_nil] at h4
  omega
theorem one_get {e : Ent3} {es : List Ent3} (h : es = [e]) (he : e.1.size ≤ 1000000) : (∀ x ∈ es, x.1.size ≤ 1000000) := fun x hx => by rw [h] at hx; rw [List.mem_singleton.1 hx]; exact he

theorem node_leaf {B : Nat} (ad : Nat → Addr) (b most tb dm pm : Nat) (ps : List (Option Nat)) (gs : List Int) (vl vg : Value) (T : TypeId) (Sl Sg : Nat → Prop) (l : List (Option ND)) (ds : List DN) (pn : List ((Int × Int) × Int)) (hl : ps.length = gs.length) (hr : ∀ x ∈ gs, 0 ≤ x ∧ x ≤ 1000000) (i : Nat) (N : ND) (hlk : l[i]? = some (some N)) (ha : atOf ps gs (i : Int) 0 = some N.nb) (d : DN) (hj : ds[i]? = some d) (hdh : d.h = ((i : Int), 0)) (hdd : (ds.map (·.h)).Nodup) (c : Nat) (hc : c < 2) (hi3 : i < 300) (hkd : N.kind = 2) (hch : N.change = (c : Int)) (pb tm : Nat) (p v : Value) (hp : p = .pointer none ∨ p = .pointer (some ⟨pb, 0, none⟩)) (t : Tx) (hts : t.length ≤ 3000 * i) (hes : d.es = []) (hc0 : c = 0)  : Spec Tryz.prog 27 #[.pointer (some ⟨b, 0, none⟩), .pointer (some ⟨pb, 0, none⟩), .agg #[.int .i64 (i : Int), .int .i64 0], .map (some tm)] [rCell true b [.pointer (some ⟨tb, 0, none⟩), .int .i64 (most : Int), .int .i64 0, .int .i64 0, .map (some dm), .map (some pm)] 46, rTab tb ps gs vl vg T Sl Sg, rNds l, rMap true dm hk (ds.map dnKV), rDirs ds, rEnv B ad [10], rCell true pb [p, v] 75, rTxt v 5 t, rPow, rMap true tm hk (toldK i)] (fun u L => ∃ v', u = .tuple #[] ∧ L = [rCell true b [.pointer (some ⟨tb, 0, none⟩), .int .i64 (most : Int), .int .i64 0, .int .i64 0, .map (some dm), .map (some pm)] 46, rTab tb ps gs vl vg T Sl Sg, rNds l, rMap true dm hk (ds.map dnKV), rDirs ds, rEnv B ad [10], rCell true pb [.pointer (some ⟨pb, 0, none⟩), v'] 75, rTxt v' 5 (t ++ deepT 0 i []), rPow, rMap true tm hk (toldK (i + 1))]) := by
  have hz0 := itS_size ⟨#[100, 105, 114]⟩ (by decide)
  have hz1 : (⟨#[100, 105, 114]⟩ : ByteArray).size = 3 := rfl
  have hz2 : (⟨#[100]⟩ : ByteArray).size = 1 := rfl
  refine spec_of (#[.pointer (some ⟨b, 0, none⟩), .pointer (some ⟨pb, 0, none⟩), .agg #[.int .i64 (i : Int), .int .i64 0], .map (some tm), undef, undef, undef, undef, undef, undef, undef, undef, undef, undef, undef, undef, undef, undef, undef, undef, undef, undef, undef, undef, undef, undef, undef, undef, undef, undef, undef, undef, undef, undef, undef, undef, undef, undef, undef, undef, undef, undef, undef, undef, undef, undef, undef, undef, undef, undef, undef, undef, undef, undef, undef, undef, undef, undef, undef, undef, undef, undef, undef, undef, undef, undef, undef, undef, undef, undef, undef, undef, undef, undef, undef, undef, undef, undef, undef, undef, undef, undef, undef, undef, undef, undef, undef, undef, undef, undef, undef, undef, undef, undef, undef, undef, undef, undef, undef, undef, undef, undef, undef, undef, undef, undef, undef, undef, undef]) Tryz.func27 rfl (by kernel_rfl) fun E w0 w h => ?_
  refine c_seq ?_
  refine c_reg ?_
  refine sq_new rfl (fun b => .pointer (some ⟨b, 0, none⟩)) [.pointer (some ⟨pb, 0, none⟩)] 69 (fun _ => by kernel_rfl) h ?_; intro k1 w h
  refine sq_new rfl (fun b => .pointer (some ⟨b, 0, none⟩)) [.int .i64 (i : Int), .int .i64 0] 29 (fun _ => by kernel_rfl) h ?_; intro k2 w h
  refine lnil ?_
  refine thn_n ?_
  refine c_seq ?_
  refine d_start 12 [0, 1] (by kernel_rfl) h fun w h => ?_
  refine d_take 0 528 [0, 1] rfl (v := .pointer (some ⟨b, 0, none⟩)) (by kernel_rfl) (qp_thn qp_body) (yq (by kernel_rfl) (g_pure (v := .pointer (some ⟨b, 0, none⟩)) fun _ => by kernel_rfl)) h (by kernel_rfl) ?_
  refine d_take 1 529 [0, 1] rfl (v := .pointer (some ⟨b, 0, none⟩)) (by kernel_rfl) (qp_thn qp_body) (yq (by kernel_rfl) (g_pure (v := .pointer (some ⟨b, 0, none⟩)) fun _ => by kernel_rfl)) h (by kernel_rfl) ?_
  refine d_take 2 531 [0, 1] rfl (v := .pointer (some ⟨b, 0, none⟩)) (by kernel_rfl) (qp_thn qp_body) (yq (by kernel_rfl) (g_pure (v := .pointer (some ⟨b, 0, none⟩)) fun _ => by kernel_rfl)) h (by kernel_rfl) ?_
  refine d_take 3 535 [0, 1] rfl (v := .pointer (some ⟨tb, 0, none⟩)) (by kernel_rfl) (qp_thn qp_body) (yq (by kernel_rfl) (g_ld 0 [.pointer (some ⟨tb, 0, none⟩)] (.pointer (some ⟨tb, 0, none⟩)) (by kernel_rfl) 1 rfl)) h (by kernel_rfl) ?_
  refine d_take 4 527 [0, 1] rfl (v := .agg #[.int .i64 (i : Int), .int .i64 0]) (by kernel_rfl) (qp_thn qp_body) (yq (by kernel_rfl) (g_ld 0 [.int .i64 (i : Int), .int .i64 0] (.agg #[.int .i64 (i : Int), .int .i64 0]) (by kernel_rfl) 0 rfl)) h (by kernel_rfl) ?_
  refine d_ready [5, 9] (by kernel_rfl) rfl ?_
  refine ad_call #[.pointer (some ⟨tb, 0, none⟩), .agg #[.int .i64 (i : Int), .int .i64 0]] [3, 3, 5] [3, 4] rfl (by kernel_rfl) (attrK_spec ad b most tb dm pm ps gs vl vg T Sl Sg l ds pn hl hr i N hlk ha c hkd hch) (fun _ => by kernel_rfl) h ?_ ?_
  · skip
    rintro v_ L_ w ⟨sz, li, un, ug, rfl, rfl⟩ h
    refine ⟨by kernel_rfl, ?_⟩
    refine d_take 6 575 [3, 4] rfl (v := .tuple #[.agg #[.int .i64 2, .int .i64 sz, .int .i64 li, .int .i64 (c : Int), .int .i64 un, .int .i64 ug], .nilIface]) (by kernel_rfl) (qp_thn qp_body) (yq (by kernel_rfl) (g_pure (v := .tuple #[.agg #[.int .i64 2, .int .i64 sz, .int .i64 li, .int .i64 (c : Int), .int .i64 un, .int .i64 ug], .nilIface]) fun _ => by kernel_rfl)) h (by kernel_rfl) ?_
    refine d_take 7 895 [3, 4] rfl (v := .agg #[.int .i64 2, .int .i64 sz, .int .i64 li, .int .i64 (c : Int), .int .i64 un, .int .i64 ug]) (by kernel_rfl) (qp_thn qp_body) (yq (by kernel_rfl) (g_pure (v := .agg #[.int .i64 2, .int .i64 sz, .int .i64 li, .int .i64 (c : Int), .int .i64 un, .int .i64 ug]) fun _ => by kernel_rfl)) h (by kernel_rfl) ?_
    refine d_take 8 1791 [3, 4] rfl (v := .nilIface) (by kernel_rfl) (qp_thn qp_body) (yq (by kernel_rfl) (g_pure (v := .nilIface) fun _ => by kernel_rfl)) h (by kernel_rfl) ?_
    refine d_ready [9] (by kernel_rfl) rfl ?_
    refine ad_new [4, 5] rfl (by kernel_rfl) (fun b => .pointer (some ⟨b, 0, none⟩)) [.int .i64 0, .int .i64 0, .int .i64 0, .int .i64 0, .int .i64 0, .int .i64 0] 51 (fun _ => by kernel_rfl) h ?_ ?_
    · skip
      intro k3 w h; refine ⟨by kernel_rfl, ?_⟩
      refine d_ready [10] (by kernel_rfl) rfl ?_
      refine ad_st [4, 5] rfl (by kernel_rfl) 0 [.int .i64 2, .int .i64 sz, .int .i64 li, .int .i64 (c : Int), .int .i64 un, .int .i64 ug] [.int .i64 2, .int .i64 sz, .int .i64 li, .int .i64 (c : Int), .int .i64 un, .int .i64 ug] h 0 rfl (by kernel_rfl) ?_ ?_
      · skip
        intro w h; refine ⟨by kernel_rfl, ?_⟩
        refine d_take 11 2047 [4, 5] rfl (v := .nilIface) (by kernel_rfl) (qp_thn qp_body) (yq (by kernel_rfl) (g_pure (v := .nilIface) fun _ => by kernel_rfl)) h (by kernel_rfl) ?_
        refine d_done (by kernel_rfl) ?_
        refine thn_n ?_
        refine c_seq ?_
        refine c_seq ?_
        refine c_reg ?_
        refine sq_p (.map (some tm)) rfl (fun _ => by kernel_rfl) ?_
        refine sq_q rfl h (g_ld 0 [.int .i64 (i : Int), .int .i64 0] (.agg #[.int .i64 (i : Int), .int .i64 0]) (by kernel_rfl) 4 rfl) ?_
        refine sq_q rfl h (g_eq (v' := .bool false) (g_look (K := 29) (E := 4) (z := (.bool false)) (kv := (toldK i)) (ok := false) keyHk ((i : Int), 0) (by kernel_rfl) (fun _ => by kernel_rfl) 12 rfl) (by rw [toldK_get i i (Nat.le_refl _)]; rfl)) ?_
        refine lnil ?_
        refine thn_n ?_
        refine c_false (by kernel_rfl) ?_
        refine c_skip ?_
        refine thn_n ?_
        refine c_seq ?_
        refine c_reg ?_
        refine sq_p (.map (some tm)) rfl (fun _ => by kernel_rfl) ?_
        refine sq_q rfl h (g_ld 0 [.int .i64 (i : Int), .int .i64 0] (.agg #[.int .i64 (i : Int), .int .i64 0]) (by kernel_rfl) 4 rfl) ?_
        refine sq_mapu rfl (K := 29) (E := 4) keyHk ((i : Int), 0) (.bool true) (by kernel_rfl) h 12 rfl ?_; intro w h
        refine lnil ?_
        refine thn_n ?_
        refine c_seq ?_
        refine c_seq ?_
        refine c_reg ?_
        refine sq_p (.pointer (some ⟨k3, 0, none⟩)) rfl (fun _ => by kernel_rfl) ?_
        refine sq_q rfl h (g_ld 0 [.int .i64 2] (.int .i64 2) (by kernel_rfl) 0 rfl) ?_
        refine sq_p (.bool true) rfl (fun _ => by kernel_rfl) ?_
        refine lnil ?_
        refine thn_n ?_
        refine c_true (by kernel_rfl) ?_
        refine c_seq ?_
        refine c_reg ?_
        refine sq_p (.pointer (some ⟨b, 0, none⟩)) rfl (fun _ => by kernel_rfl) ?_
        refine sq_q rfl h (g_ld 0 [.int .i64 (i : Int), .int .i64 0] (.agg #[.int .i64 (i : Int), .int .i64 0]) (by kernel_rfl) 4 rfl) ?_
        refine sq_call #[.pointer (some ⟨b, 0, none⟩), .agg #[.int .i64 (i : Int), .int .i64 0], .int .i64 0, .int .i64 60] [6, 1, 1, 4, 4, 1] rfl (lsK_spec ad b most tb dm pm ps gs vl vg T Sl Sg l ds pn hl hr i N hlk ha d hj hdh hdd (by rw [hes]; simp) (by rw [hes]; simp)) (fun _ => by kernel_rfl) h ?_; rintro v_ L_ w ⟨vl4, nx5, rfl, rfl⟩ h
        rw [hes] at h
        refine sq_p (.tuple #[vl4, .int .i64 nx5, .nilIface]) rfl (fun _ => by kernel_rfl) ?_
        refine sq_p (vl4) rfl (fun _ => by kernel_rfl) ?_
        refine sq_p (.int .i64 nx5) rfl (fun _ => by kernel_rfl) ?_
        refine sq_p (.nilIface) rfl (fun _ => by kernel_rfl) ?_
        refine sq_p (vl4) rfl (fun _ => by kernel_rfl) ?_
        refine sq_p (.int .i64 nx5) rfl (fun _ => by kernel_rfl) ?_
        refine sq_p (.nilIface) rfl (fun _ => by kernel_rfl) ?_
        refine lnil ?_
        refine thn_n ?_
        refine c_seq ?_
        refine c_reg ?_
        refine sq_q rfl h (g_ld 0 [.pointer (some ⟨pb, 0, none⟩)] (.pointer (some ⟨pb, 0, none⟩)) (by kernel_rfl) 9 rfl) ?_
        refine sq_call #[.pointer (some ⟨pb, 0, none⟩), .string (⟨#[100, 105, 114]⟩ : ByteArray)] [10, 10, 10] rfl (text_spec pb p v hp t (⟨#[100, 105, 114]⟩ : ByteArray) (by (try simp only [List.length_append]); omega)) (fun _ => by kernel_rfl) h ?_; rintro v_ L_ w ⟨vw6, rfl, rfl⟩ h
        refine lnil ?_
        refine thn_n ?_
        refine c_seq ?_
        refine c_reg ?_
        refine sq_q rfl h (g_ld 0 [.pointer (some ⟨pb, 0, none⟩)] (.pointer (some ⟨pb, 0, none⟩)) (by kernel_rfl) 12 rfl) ?_
        refine sq_p (.pointer (some ⟨k2, 0, none⟩)) rfl (fun _ => by kernel_rfl) ?_
        refine sq_q rfl h (g_ld 0 [.int .i64 (i : Int)] (.int .i64 (i : Int)) (by kernel_rfl) 11 rfl) ?_
        refine sq_p (.pointer (some ⟨k2, 1, none⟩)) rfl (fun _ => by kernel_rfl) ?_
        refine sq_q rfl h (g_ld 1 [.int .i64 0] (.int .i64 0) (by kernel_rfl) 11 rfl) ?_
        refine sq_p (.pointer (some ⟨k3, 3, none⟩)) rfl (fun _ => by kernel_rfl) ?_
        refine sq_q rfl h (g_ld 3 [.int .i64 (c : Int)] (.int .i64 (c : Int)) (by kernel_rfl) 10 rfl) ?_
        refine sq_p (vl4) rfl (fun _ => by kernel_rfl) ?_
        refine sq_q rfl h (g_len (by kernel_rfl) 9 rfl) ?_
        refine sq_new rfl (fun b => .slice (some ⟨b, 0, none⟩) 4 4) [.int .i64 (i : Int), .int .i64 0, .int .i64 (c : Int), .int .i64 (([] : List Ent3).length : Int)] 3 (fun _ => by kernel_rfl) h ?_; intro k7 w h
        have hnz_ := num4_size i 0 c 0 (by omega)
        refine sq_call #[.pointer (some ⟨pb, 0, none⟩), .slice (some ⟨k7, 0, none⟩) 4 4] [1, 1, 1, 0] rfl (numbers_spec pb (.pointer (some ⟨pb, 0, none⟩)) vw6 (.inr rfl) (t ++ itK (tx (⟨#[100, 105, 114]⟩ : ByteArray)) []) k7 i 0 c 0 (by omega) (by (try simp only [List.length_append]); omega)) (fun _ => by kernel_rfl) h ?_; rintro v_ L_ w ⟨vw8, rfl, rfl⟩ h
        refine lnil ?_
        refine thn_n ?_
        refine c_seq ?_
        refine c_seq ?_
        refine c_reg ?_
        refine sq_p (vl4) rfl (fun _ => by kernel_rfl) ?_
        refine sq_q rfl h (g_len (by kernel_rfl) 9 rfl) ?_
        refine sq_p (.int .i64 0) rfl (fun _ => by kernel_rfl) ?_
        refine lnil ?_
        refine thn_n ?_
        refine c_block ?_
        refine c_unroll 1 ?_
        refine c_seq ?_
        refine c_reg ?_
        refine sq_p (.bool (decide (0 < (([] : List Ent3).length : Int)))) rfl (fun _ => by kernel_rfl) ?_
        refine lnil ?_
        refine thn_n ?_
        refine c_seq ?_
        refine c_cond (decide (0 < (([] : List Ent3).length : Int))) (by kernel_rfl) (fun hc9 => ?_) (fun hc9 => ?_)
        · skip
          have hc9 := of_decide_eq_true hc9
          exfalso; revert hc9; first | (simp; done) | (simp; omega)
        · skip
          have hc9 := of_decide_eq_false hc9
          refine c_exit ?_
          refine thn_e (unr_e (blk_e (thn_n ?_)))
          refine c_ret ?_
          refine thn_r ?_
          rw [toldK_put i] at h
          have h : Own w0 E [rCell true pb [.pointer (some ⟨pb, 0, none⟩), vw8] 75, rTxt vw8 5 ((t ++ itK (tx (⟨#[100, 105, 114]⟩ : ByteArray)) []) ++ numK i (numK 0 (numK c (numK 0 [])))), rPow, rCell true b [.pointer (some ⟨tb, 0, none⟩), .int .i64 (most : Int), .int .i64 0, .int .i64 0, .map (some dm), .map (some pm)] 46, rTab tb ps gs vl vg T Sl Sg, rNds l, rMap true dm hk (ds.map dnKV), rDirs ds, rEnv B ad [10], rRows true vl4 116 3 e3C ([] : List Ent3), rCell true k3 [.int .i64 2, .int .i64 sz, .int .i64 li, .int .i64 (c : Int), .int .i64 un, .int .i64 ug] 51, rCell true k2 [.int .i64 (i : Int), .int .i64 0] 29, rCell true k1 [.pointer (some ⟨pb, 0, none⟩)] 69, rMap true tm hk (toldK (i + 1))] w := h
          refine ret_end [] [3, 3, 3, 3, 3, 3, 0, 0, 0, 4] h (by kernel_rfl) (res_n) ?_
          subst hc0
          rw [deep_leaf]
          exact ⟨_, rfl, rfl⟩
      exact ad_nil
    exact ad_nil
  refine ad_new [1, 2] rfl (by kernel_rfl) (fun b => .pointer (some ⟨b, 0, none⟩)) [.int .i64 0, .int .i64 0, .int .i64 0, .int .i64 0, .int .i64 0, .int .i64 0] 51 (fun _ => by kernel_rfl) h ?_ ?_
  · skip
    intro k10 w h; refine ⟨by kernel_rfl, ?_⟩
    refine d_ready [5] (by kernel_rfl) rfl ?_
    refine ad_call #[.pointer (some ⟨tb, 0, none⟩), .agg #[.int .i64 (i : Int), .int .i64 0]] [4, 4, 6] [4, 5] rfl (by kernel_rfl) (attrK_spec ad b most tb dm pm ps gs vl vg T Sl Sg l ds pn hl hr i N hlk ha c hkd hch) (fun _ => by kernel_rfl) h ?_ ?_
    · skip
      rintro v_ L_ w ⟨sz, li, un, ug, rfl, rfl⟩ h
      refine ⟨by kernel_rfl, ?_⟩
      refine d_take 6 575 [4, 5] rfl (v := .tuple #[.agg #[.int .i64 2, .int .i64 sz, .int .i64 li, .int .i64 (c : Int), .int .i64 un, .int .i64 ug], .nilIface]) (by kernel_rfl) (qp_thn qp_body) (yq (by kernel_rfl) (g_pure (v := .tuple #[.agg #[.int .i64 2, .int .i64 sz, .int .i64 li, .int .i64 (c : Int), .int .i64 un, .int .i64 ug], .nilIface]) fun _ => by kernel_rfl)) h (by kernel_rfl) ?_
      refine d_take 7 895 [4, 5] rfl (v := .agg #[.int .i64 2, .int .i64 sz, .int .i64 li, .int .i64 (c : Int), .int .i64 un, .int .i64 ug]) (by kernel_rfl) (qp_thn qp_body) (yq (by kernel_rfl) (g_pure (v := .agg #[.int .i64 2, .int .i64 sz, .int .i64 li, .int .i64 (c : Int), .int .i64 un, .int .i64 ug]) fun _ => by kernel_rfl)) h (by kernel_rfl) ?_
      refine d_take 8 1791 [4, 5] rfl (v := .nilIface) (by kernel_rfl) (qp_thn qp_body) (yq (by kernel_rfl) (g_pure (v := .nilIface) fun _ => by kernel_rfl)) h (by kernel_rfl) ?_
      refine d_ready [10] (by kernel_rfl) rfl ?_
      refine ad_st [4, 5] rfl (by kernel_rfl) 0 [.int .i64 2, .int .i64 sz, .int .i64 li, .int .i64 (c : Int), .int .i64 un, .int .i64 ug] [.int .i64 2, .int .i64 sz, .int .i64 li, .int .i64 (c : Int), .int .i64 un, .int .i64 ug] h 3 rfl (by kernel_rfl) ?_ ?_
      · skip
        intro w h; refine ⟨by kernel_rfl, ?_⟩
        refine d_take 11 2047 [4, 5] rfl (v := .nilIface) (by kernel_rfl) (qp_thn qp_body) (yq (by kernel_rfl) (g_pure (v := .nilIface) fun _ => by kernel_rfl)) h (by kernel_rfl) ?_
        refine d_done (by kernel_rfl) ?_
        refine thn_n ?_
        refine c_seq ?_
        refine c_seq ?_
        refine c_reg ?_
        refine sq_p (.map (some tm)) rfl (fun _ => by kernel_rfl) ?_
        refine sq_q rfl h (g_ld 0 [.int .i64 (i : Int), .int .i64 0] (.agg #[.int .i64 (i : Int), .int .i64 0]) (by kernel_rfl) 4 rfl) ?_
        refine sq_q rfl h (g_eq (v' := .bool false) (g_look (K := 29) (E := 4) (z := (.bool false)) (kv := (toldK i)) (ok := false) keyHk ((i : Int), 0) (by kernel_rfl) (fun _ => by kernel_rfl) 12 rfl) (by rw [toldK_get i i (Nat.le_refl _)]; rfl)) ?_
        refine lnil ?_
        refine thn_n ?_
        refine c_false (by kernel_rfl) ?_
        refine c_skip ?_
        refine thn_n ?_
        refine c_seq ?_
        refine c_reg ?_
        refine sq_p (.map (some tm)) rfl (fun _ => by kernel_rfl) ?_
        refine sq_q rfl h (g_ld 0 [.int .i64 (i : Int), .int .i64 0] (.agg #[.int .i64 (i : Int), .int .i64 0]) (by kernel_rfl) 4 rfl) ?_
        refine sq_mapu rfl (K := 29) (E := 4) keyHk ((i : Int), 0) (.bool true) (by kernel_rfl) h 12 rfl ?_; intro w h
        refine lnil ?_
        refine thn_n ?_
        refine c_seq ?_
        refine c_seq ?_
        refine c_reg ?_
        refine sq_p (.pointer (some ⟨k10, 0, none⟩)) rfl (fun _ => by kernel_rfl) ?_
        refine sq_q rfl h (g_ld 0 [.int .i64 2] (.int .i64 2) (by kernel_rfl) 3 rfl) ?_
        refine sq_p (.bool true) rfl (fun _ => by kernel_rfl) ?_
        refine lnil ?_
        refine thn_n ?_
        refine c_true (by kernel_rfl) ?_
        refine c_seq ?_
        refine c_reg ?_
        refine sq_p (.pointer (some ⟨b, 0, none⟩)) rfl (fun _ => by kernel_rfl) ?_
        refine sq_q rfl h (g_ld 0 [.int .i64 (i : Int), .int .i64 0] (.agg #[.int .i64 (i : Int), .int .i64 0]) (by kernel_rfl) 4 rfl) ?_
        refine sq_call #[.pointer (some ⟨b, 0, none⟩), .agg #[.int .i64 (i : Int), .int .i64 0], .int .i64 0, .int .i64 60] [6, 0, 0, 4, 4, 0] rfl (lsK_spec ad b most tb dm pm ps gs vl vg T Sl Sg l ds pn hl hr i N hlk ha d hj hdh hdd (by rw [hes]; simp) (by rw [hes]; simp)) (fun _ => by kernel_rfl) h ?_; rintro v_ L_ w ⟨vl11, nx12, rfl, rfl⟩ h
        rw [hes] at h
        refine sq_p (.tuple #[vl11, .int .i64 nx12, .nilIface]) rfl (fun _ => by kernel_rfl) ?_
        refine sq_p (vl11) rfl (fun _ => by kernel_rfl) ?_
        refine sq_p (.int .i64 nx12) rfl (fun _ => by kernel_rfl) ?_
        refine sq_p (.nilIface) rfl (fun _ => by kernel_rfl) ?_
        refine sq_p (vl11) rfl (fun _ => by kernel_rfl) ?_
        refine sq_p (.int .i64 nx12) rfl (fun _ => by kernel_rfl) ?_
        refine sq_p (.nilIface) rfl (fun _ => by kernel_rfl) ?_
        refine lnil ?_
        refine thn_n ?_
        refine c_seq ?_
        refine c_reg ?_
        refine sq_q rfl h (g_ld 0 [.pointer (some ⟨pb, 0, none⟩)] (.pointer (some ⟨pb, 0, none⟩)) (by kernel_rfl) 9 rfl) ?_
        refine sq_call #[.pointer (some ⟨pb, 0, none⟩), .string (⟨#[100, 105, 114]⟩ : ByteArray)] [10, 10, 10] rfl (text_spec pb p v hp t (⟨#[100, 105, 114]⟩ : ByteArray) (by (try simp only [List.length_append]); omega)) (fun _ => by kernel_rfl) h ?_; rintro v_ L_ w ⟨vw13, rfl, rfl⟩ h
        refine lnil ?_
        refine thn_n ?_
        refine c_seq ?_
        refine c_reg ?_
        refine sq_q rfl h (g_ld 0 [.pointer (some ⟨pb, 0, none⟩)] (.pointer (some ⟨pb, 0, none⟩)) (by kernel_rfl) 12 rfl) ?_
        refine sq_p (.pointer (some ⟨k2, 0, none⟩)) rfl (fun _ => by kernel_rfl) ?_
        refine sq_q rfl h (g_ld 0 [.int .i64 (i : Int)] (.int .i64 (i : Int)) (by kernel_rfl) 11 rfl) ?_
        refine sq_p (.pointer (some ⟨k2, 1, none⟩)) rfl (fun _ => by kernel_rfl) ?_
        refine sq_q rfl h (g_ld 1 [.int .i64 0] (.int .i64 0) (by kernel_rfl) 11 rfl) ?_
        refine sq_p (.pointer (some ⟨k10, 3, none⟩)) rfl (fun _ => by kernel_rfl) ?_
        refine sq_q rfl h (g_ld 3 [.int .i64 (c : Int)] (.int .i64 (c : Int)) (by kernel_rfl) 10 rfl) ?_
        refine sq_p (vl11) rfl (fun _ => by kernel_rfl) ?_
        refine sq_q rfl h (g_len (by kernel_rfl) 9 rfl) ?_
        refine sq_new rfl (fun b => .slice (some ⟨b, 0, none⟩) 4 4) [.int .i64 (i : Int), .int .i64 0, .int .i64 (c : Int), .int .i64 (([] : List Ent3).length : Int)] 3 (fun _ => by kernel_rfl) h ?_; intro k14 w h
        have hnz_ := num4_size i 0 c 0 (by omega)
        refine sq_call #[.pointer (some ⟨pb, 0, none⟩), .slice (some ⟨k14, 0, none⟩) 4 4] [1, 1, 1, 0] rfl (numbers_spec pb (.pointer (some ⟨pb, 0, none⟩)) vw13 (.inr rfl) (t ++ itK (tx (⟨#[100, 105, 114]⟩ : ByteArray)) []) k14 i 0 c 0 (by omega) (by (try simp only [List.length_append]); omega)) (fun _ => by kernel_rfl) h ?_; rintro v_ L_ w ⟨vw15, rfl, rfl⟩ h
        refine lnil ?_
        refine thn_n ?_
        refine c_seq ?_
        refine c_seq ?_
        refine c_reg ?_
        refine sq_p (vl11) rfl (fun _ => by kernel_rfl) ?_
        refine sq_q rfl h (g_len (by kernel_rfl) 9 rfl) ?_
        refine sq_p (.int .i64 0) rfl (fun _ => by kernel_rfl) ?_
        refine lnil ?_
        refine thn_n ?_
        refine c_block ?_
        refine c_unroll 1 ?_
        refine c_seq ?_
        refine c_reg ?_
        refine sq_p (.bool (decide (0 < (([] : List Ent3).length : Int)))) rfl (fun _ => by kernel_rfl) ?_
        refine lnil ?_
        refine thn_n ?_
        refine c_seq ?_
        refine c_cond (decide (0 < (([] : List Ent3).length : Int))) (by kernel_rfl) (fun hc16 => ?_) (fun hc16 => ?_)
        · skip
          have hc16 := of_decide_eq_true hc16
          exfalso; revert hc16; first | (simp; done) | (simp; omega)
        · skip
          have hc16 := of_decide_eq_false hc16
          refine c_exit ?_
          refine thn_e (unr_e (blk_e (thn_n ?_)))
          refine c_ret ?_
          refine thn_r ?_
          rw [toldK_put i] at h
          have h : Own w0 E [rCell true pb [.pointer (some ⟨pb, 0, none⟩), vw15] 75, rTxt vw15 5 ((t ++ itK (tx (⟨#[100, 105, 114]⟩ : ByteArray)) []) ++ numK i (numK 0 (numK c (numK 0 [])))), rPow, rCell true b [.pointer (some ⟨tb, 0, none⟩), .int .i64 (most : Int), .int .i64 0, .int .i64 0, .map (some dm), .map (some pm)] 46, rTab tb ps gs vl vg T Sl Sg, rNds l, rMap true dm hk (ds.map dnKV), rDirs ds, rEnv B ad [10], rRows true vl11 116 3 e3C ([] : List Ent3), rCell true k10 [.int .i64 2, .int .i64 sz, .int .i64 li, .int .i64 (c : Int), .int .i64 un, .int .i64 ug] 51, rCell true k2 [.int .i64 (i : Int), .int .i64 0] 29, rCell true k1 [.pointer (some ⟨pb, 0, none⟩)] 69, rMap true tm hk (toldK (i + 1))] w := h
          refine ret_end [] [3, 3, 3, 3, 3, 3, 0, 0, 0, 4] h (by kernel_rfl) (res_n) ?_
          subst hc0
          rw [deep_leaf]
          exact ⟨_, rfl, rfl⟩
      exact ad_nil
    exact ad_nil
  exact ad_nil
theorem node_next {B : Nat} (ad : Nat → Addr) (b most tb dm pm : Nat) (ps : List (Option Nat)) (gs : List Int) (vl vg : Value) (T : TypeId) (Sl Sg : Nat → Prop) (l : List (Option ND)) (ds : List DN) (pn : List ((Int × Int) × Int)) (hl : ps.length = gs.length) (hr : ∀ x ∈ gs, 0 ≤ x ∧ x ≤ 1000000) (i : Nat) (N : ND) (hlk : l[i]? = some (some N)) (ha : atOf ps gs (i : Int) 0 = some N.nb) (d : DN) (hj : ds[i]? = some d) (hdh : d.h = ((i : Int), 0)) (hdd : (ds.map (·.h)).Nodup) (c : Nat) (hc : c < 2) (hi3 : i < 300) (hkd : N.kind = 2) (hch : N.change = (c : Int)) (pb tm : Nat) (p v : Value) (hp : p = .pointer none ∨ p = .pointer (some ⟨pb, 0, none⟩)) (t : Tx) (hts : t.length ≤ 3000 * i) (r : Nat) (e : Ent3) (he1 : e.1 = ⟨#[100]⟩) (hes : d.es = [e]) (hc1 : c = 1) (hrec : ∀ (v : Value) (t : Tx), t.length ≤ 3000 * (i + 1) → Spec Tryz.prog 27 #[.pointer (some ⟨b, 0, none⟩), .pointer (some ⟨pb, 0, none⟩), .agg #[.int .i64 e.2.1, .int .i64 e.2.2], .map (some tm)] [rCell true b [.pointer (some ⟨tb, 0, none⟩), .int .i64 (most : Int), .int .i64 0, .int .i64 0, .map (some dm), .map (some pm)] 46, rTab tb ps gs vl vg T Sl Sg, rNds l, rMap true dm hk (ds.map dnKV), rDirs ds, rEnv B ad [10], rCell true pb [.pointer (some ⟨pb, 0, none⟩), v] 75, rTxt v 5 t, rPow, rMap true tm hk (toldK (i + 1))] fun u L => ∃ v', u = .tuple #[] ∧ L = [rCell true b [.pointer (some ⟨tb, 0, none⟩), .int .i64 (most : Int), .int .i64 0, .int .i64 0, .map (some dm), .map (some pm)] 46, rTab tb ps gs vl vg T Sl Sg, rNds l, rMap true dm hk (ds.map dnKV), rDirs ds, rEnv B ad [10], rCell true pb [.pointer (some ⟨pb, 0, none⟩), v'] 75, rTxt v' 5 (t ++ deepT r (i + 1) []), rPow, rMap true tm hk (toldK (i + 1 + r + 1))])  : Spec Tryz.prog 27 #[.pointer (some ⟨b, 0, none⟩), .pointer (some ⟨pb, 0, none⟩), .agg #[.int .i64 (i : Int), .int .i64 0], .map (some tm)] [rCell true b [.pointer (some ⟨tb, 0, none⟩), .int .i64 (most : Int), .int .i64 0, .int .i64 0, .map (some dm), .map (some pm)] 46, rTab tb ps gs vl vg T Sl Sg, rNds l, rMap true dm hk (ds.map dnKV), rDirs ds, rEnv B ad [10], rCell true pb [p, v] 75, rTxt v 5 t, rPow, rMap true tm hk (toldK i)] (fun u L => ∃ v', u = .tuple #[] ∧ L = [rCell true b [.pointer (some ⟨tb, 0, none⟩), .int .i64 (most : Int), .int .i64 0, .int .i64 0, .map (some dm), .map (some pm)] 46, rTab tb ps gs vl vg T Sl Sg, rNds l, rMap true dm hk (ds.map dnKV), rDirs ds, rEnv B ad [10], rCell true pb [.pointer (some ⟨pb, 0, none⟩), v'] 75, rTxt v' 5 (t ++ deepT (r + 1) i []), rPow, rMap true tm hk (toldK (i + (r + 1) + 1))]) := by
  have hz0 := itS_size ⟨#[100, 105, 114]⟩ (by decide)
  have hz1 : (⟨#[100, 105, 114]⟩ : ByteArray).size = 3 := rfl
  have hz2 : (⟨#[100]⟩ : ByteArray).size = 1 := rfl
  have hz3 : e.1.size = 1 := by rw [he1]; rfl
  have hz4 := itS_size e.1 (by omega)
  refine spec_of (#[.pointer (some ⟨b, 0, none⟩), .pointer (some ⟨pb, 0, none⟩), .agg #[.int .i64 (i : Int), .int .i64 0], .map (some tm), undef, undef, undef, undef, undef, undef, undef, undef, undef, undef, undef, undef, undef, undef, undef, undef, undef, undef, undef, undef, undef, undef, undef, undef, undef, undef, undef, undef, undef, undef, undef, undef, undef, undef, undef, undef, undef, undef, undef, undef, undef, undef, undef, undef, undef, undef, undef, undef, undef, undef, undef, undef, undef, undef, undef, undef, undef, undef, undef, undef, undef, undef, undef, undef, undef, undef, undef, undef, undef, undef, undef, undef, undef, undef, undef, undef, undef, undef, undef, undef, undef, undef, undef, undef, undef, undef, undef, undef, undef, undef, undef, undef, undef, undef, undef, undef, undef, undef, undef, undef, undef, undef, undef, undef, undef]) Tryz.func27 rfl (by kernel_rfl) fun E w0 w h => ?_
  refine c_seq ?_
  refine c_reg ?_
  refine sq_new rfl (fun b => .pointer (some ⟨b, 0, none⟩)) [.pointer (some ⟨pb, 0, none⟩)] 69 (fun _ => by kernel_rfl) h ?_; intro k1 w h
  refine sq_new rfl (fun b => .pointer (some ⟨b, 0, none⟩)) [.int .i64 (i : Int), .int .i64 0] 29 (fun _ => by kernel_rfl) h ?_; intro k2 w h
  refine lnil ?_
  refine thn_n ?_
  refine c_seq ?_
  refine d_start 12 [0, 1] (by kernel_rfl) h fun w h => ?_
  refine d_take 0 528 [0, 1] rfl (v := .pointer (some ⟨b, 0, none⟩)) (by kernel_rfl) (qp_thn qp_body) (yq (by kernel_rfl) (g_pure (v := .pointer (some ⟨b, 0, none⟩)) fun _ => by kernel_rfl)) h (by kernel_rfl) ?_
  refine d_take 1 529 [0, 1] rfl (v := .pointer (some ⟨b, 0, none⟩)) (by kernel_rfl) (qp_thn qp_body) (yq (by kernel_rfl) (g_pure (v := .pointer (some ⟨b, 0, none⟩)) fun _ => by kernel_rfl)) h (by kernel_rfl) ?_
  refine d_take 2 531 [0, 1] rfl (v := .pointer (some ⟨b, 0, none⟩)) (by kernel_rfl) (qp_thn qp_body) (yq (by kernel_rfl) (g_pure (v := .pointer (some ⟨b, 0, none⟩)) fun _ => by kernel_rfl)) h (by kernel_rfl) ?_
  refine d_take 3 535 [0, 1] rfl (v := .pointer (some ⟨tb, 0, none⟩)) (by kernel_rfl) (qp_thn qp_body) (yq (by kernel_rfl) (g_ld 0 [.pointer (some ⟨tb, 0, none⟩)] (.pointer (some ⟨tb, 0, none⟩)) (by kernel_rfl) 1 rfl)) h (by kernel_rfl) ?_
  refine d_take 4 527 [0, 1] rfl (v := .agg #[.int .i64 (i : Int), .int .i64 0]) (by kernel_rfl) (qp_thn qp_body) (yq (by kernel_rfl) (g_ld 0 [.int .i64 (i : Int), .int .i64 0] (.agg #[.int .i64 (i : Int), .int .i64 0]) (by kernel_rfl) 0 rfl)) h (by kernel_rfl) ?_
  refine d_ready [5, 9] (by kernel_rfl) rfl ?_
  refine ad_call #[.pointer (some ⟨tb, 0, none⟩), .agg #[.int .i64 (i : Int), .int .i64 0]] [3, 3, 5] [3, 4] rfl (by kernel_rfl) (attrK_spec ad b most tb dm pm ps gs vl vg T Sl Sg l ds pn hl hr i N hlk ha c hkd hch) (fun _ => by kernel_rfl) h ?_ ?_
  · skip
    rintro v_ L_ w ⟨sz, li, un, ug, rfl, rfl⟩ h
    refine ⟨by kernel_rfl, ?_⟩
    refine d_take 6 575 [3, 4] rfl (v := .tuple #[.agg #[.int .i64 2, .int .i64 sz, .int .i64 li, .int .i64 (c : Int), .int .i64 un, .int .i64 ug], .nilIface]) (by kernel_rfl) (qp_thn qp_body) (yq (by kernel_rfl) (g_pure (v := .tuple #[.agg #[.int .i64 2, .int .i64 sz, .int .i64 li, .int .i64 (c : Int), .int .i64 un, .int .i64 ug], .nilIface]) fun _ => by kernel_rfl)) h (by kernel_rfl) ?_
    refine d_take 7 895 [3, 4] rfl (v := .agg #[.int .i64 2, .int .i64 sz, .int .i64 li, .int .i64 (c : Int), .int .i64 un, .int .i64 ug]) (by kernel_rfl) (qp_thn qp_body) (yq (by kernel_rfl) (g_pure (v := .agg #[.int .i64 2, .int .i64 sz, .int .i64 li, .int .i64 (c : Int), .int .i64 un, .int .i64 ug]) fun _ => by kernel_rfl)) h (by kernel_rfl) ?_
    refine d_take 8 1791 [3, 4] rfl (v := .nilIface) (by kernel_rfl) (qp_thn qp_body) (yq (by kernel_rfl) (g_pure (v := .nilIface) fun _ => by kernel_rfl)) h (by kernel_rfl) ?_
    refine d_ready [9] (by kernel_rfl) rfl ?_
    refine ad_new [4, 5] rfl (by kernel_rfl) (fun b => .pointer (some ⟨b, 0, none⟩)) [.int .i64 0, .int .i64 0, .int .i64 0, .int .i64 0, .int .i64 0, .int .i64 0] 51 (fun _ => by kernel_rfl) h ?_ ?_
    · skip
      intro k3 w h; refine ⟨by kernel_rfl, ?_⟩
      refine d_ready [10] (by kernel_rfl) rfl ?_
      refine ad_st [4, 5] rfl (by kernel_rfl) 0 [.int .i64 2, .int .i64 sz, .int .i64 li, .int .i64 (c : Int), .int .i64 un, .int .i64 ug] [.int .i64 2, .int .i64 sz, .int .i64 li, .int .i64 (c : Int), .int .i64 un, .int .i64 ug] h 0 rfl (by kernel_rfl) ?_ ?_
      · skip
        intro w h; refine ⟨by kernel_rfl, ?_⟩
        refine d_take 11 2047 [4, 5] rfl (v := .nilIface) (by kernel_rfl) (qp_thn qp_body) (yq (by kernel_rfl) (g_pure (v := .nilIface) fun _ => by kernel_rfl)) h (by kernel_rfl) ?_
        refine d_done (by kernel_rfl) ?_
        refine thn_n ?_
        refine c_seq ?_
        refine c_seq ?_
        refine c_reg ?_
        refine sq_p (.map (some tm)) rfl (fun _ => by kernel_rfl) ?_
        refine sq_q rfl h (g_ld 0 [.int .i64 (i : Int), .int .i64 0] (.agg #[.int .i64 (i : Int), .int .i64 0]) (by kernel_rfl) 4 rfl) ?_
        refine sq_q rfl h (g_eq (v' := .bool false) (g_look (K := 29) (E := 4) (z := (.bool false)) (kv := (toldK i)) (ok := false) keyHk ((i : Int), 0) (by kernel_rfl) (fun _ => by kernel_rfl) 12 rfl) (by rw [toldK_get i i (Nat.le_refl _)]; rfl)) ?_
        refine lnil ?_
        refine thn_n ?_
        refine c_false (by kernel_rfl) ?_
        refine c_skip ?_
        refine thn_n ?_
        refine c_seq ?_
        refine c_reg ?_
        refine sq_p (.map (some tm)) rfl (fun _ => by kernel_rfl) ?_
        refine sq_q rfl h (g_ld 0 [.int .i64 (i : Int), .int .i64 0] (.agg #[.int .i64 (i : Int), .int .i64 0]) (by kernel_rfl) 4 rfl) ?_
        refine sq_mapu rfl (K := 29) (E := 4) keyHk ((i : Int), 0) (.bool true) (by kernel_rfl) h 12 rfl ?_; intro w h
        refine lnil ?_
        refine thn_n ?_
        refine c_seq ?_
        refine c_seq ?_
        refine c_reg ?_
        refine sq_p (.pointer (some ⟨k3, 0, none⟩)) rfl (fun _ => by kernel_rfl) ?_
        refine sq_q rfl h (g_ld 0 [.int .i64 2] (.int .i64 2) (by kernel_rfl) 0 rfl) ?_
        refine sq_p (.bool true) rfl (fun _ => by kernel_rfl) ?_
        refine lnil ?_
        refine thn_n ?_
        refine c_true (by kernel_rfl) ?_
        refine c_seq ?_
        refine c_reg ?_
        refine sq_p (.pointer (some ⟨b, 0, none⟩)) rfl (fun _ => by kernel_rfl) ?_
        refine sq_q rfl h (g_ld 0 [.int .i64 (i : Int), .int .i64 0] (.agg #[.int .i64 (i : Int), .int .i64 0]) (by kernel_rfl) 4 rfl) ?_
        refine sq_call #[.pointer (some ⟨b, 0, none⟩), .agg #[.int .i64 (i : Int), .int .i64 0], .int .i64 0, .int .i64 60] [6, 1, 1, 4, 4, 1] rfl (lsK_spec ad b most tb dm pm ps gs vl vg T Sl Sg l ds pn hl hr i N hlk ha d hj hdh hdd (by rw [hes]; simp) (one_get hes (by rw [he1]; decide))) (fun _ => by kernel_rfl) h ?_; rintro v_ L_ w ⟨vl4, nx5, rfl, rfl⟩ h
        rw [hes] at h
        refine sq_p (.tuple #[vl4, .int .i64 nx5, .nilIface]) rfl (fun _ => by kernel_rfl) ?_
        refine sq_p (vl4) rfl (fun _ => by kernel_rfl) ?_
        refine sq_p (.int .i64 nx5) rfl (fun _ => by kernel_rfl) ?_
        refine sq_p (.nilIface) rfl (fun _ => by kernel_rfl) ?_
        refine sq_p (vl4) rfl (fun _ => by kernel_rfl) ?_
        refine sq_p (.int .i64 nx5) rfl (fun _ => by kernel_rfl) ?_
        refine sq_p (.nilIface) rfl (fun _ => by kernel_rfl) ?_
        refine lnil ?_
        refine thn_n ?_
        refine c_seq ?_
        refine c_reg ?_
        refine sq_q rfl h (g_ld 0 [.pointer (some ⟨pb, 0, none⟩)] (.pointer (some ⟨pb, 0, none⟩)) (by kernel_rfl) 9 rfl) ?_
        refine sq_call #[.pointer (some ⟨pb, 0, none⟩), .string (⟨#[100, 105, 114]⟩ : ByteArray)] [10, 10, 10] rfl (text_spec pb p v hp t (⟨#[100, 105, 114]⟩ : ByteArray) (by (try simp only [List.length_append]); omega)) (fun _ => by kernel_rfl) h ?_; rintro v_ L_ w ⟨vw6, rfl, rfl⟩ h
        refine lnil ?_
        refine thn_n ?_
        refine c_seq ?_
        refine c_reg ?_
        refine sq_q rfl h (g_ld 0 [.pointer (some ⟨pb, 0, none⟩)] (.pointer (some ⟨pb, 0, none⟩)) (by kernel_rfl) 12 rfl) ?_
        refine sq_p (.pointer (some ⟨k2, 0, none⟩)) rfl (fun _ => by kernel_rfl) ?_
        refine sq_q rfl h (g_ld 0 [.int .i64 (i : Int)] (.int .i64 (i : Int)) (by kernel_rfl) 11 rfl) ?_
        refine sq_p (.pointer (some ⟨k2, 1, none⟩)) rfl (fun _ => by kernel_rfl) ?_
        refine sq_q rfl h (g_ld 1 [.int .i64 0] (.int .i64 0) (by kernel_rfl) 11 rfl) ?_
        refine sq_p (.pointer (some ⟨k3, 3, none⟩)) rfl (fun _ => by kernel_rfl) ?_
        refine sq_q rfl h (g_ld 3 [.int .i64 (c : Int)] (.int .i64 (c : Int)) (by kernel_rfl) 10 rfl) ?_
        refine sq_p (vl4) rfl (fun _ => by kernel_rfl) ?_
        refine sq_q rfl h (g_eq (v := .int .i64 (([e].length : Nat) : Int)) (v' := .int .i64 1) (g_len (by kernel_rfl) 9 rfl) rfl) ?_
        refine sq_new rfl (fun b => .slice (some ⟨b, 0, none⟩) 4 4) [.int .i64 (i : Int), .int .i64 0, .int .i64 (c : Int), .int .i64 1] 3 (fun _ => by kernel_rfl) h ?_; intro k7 w h
        have hnz_ := num4_size i 0 c 1 (by omega)
        refine sq_call #[.pointer (some ⟨pb, 0, none⟩), .slice (some ⟨k7, 0, none⟩) 4 4] [1, 1, 1, 0] rfl (numbers_spec pb (.pointer (some ⟨pb, 0, none⟩)) vw6 (.inr rfl) (t ++ itK (tx (⟨#[100, 105, 114]⟩ : ByteArray)) []) k7 i 0 c 1 (by omega) (by (try simp only [List.length_append]); omega)) (fun _ => by kernel_rfl) h ?_; rintro v_ L_ w ⟨vw8, rfl, rfl⟩ h
        refine lnil ?_
        refine thn_n ?_
        refine c_seq ?_
        refine c_seq ?_
        refine c_reg ?_
        refine sq_p (vl4) rfl (fun _ => by kernel_rfl) ?_
        refine sq_q rfl h (g_eq (v := .int .i64 (([e].length : Nat) : Int)) (v' := .int .i64 1) (g_len (by kernel_rfl) 9 rfl) rfl) ?_
        refine sq_p (.int .i64 0) rfl (fun _ => by kernel_rfl) ?_
        refine lnil ?_
        refine thn_n ?_
        refine c_block ?_
        refine c_unroll 1 ?_
        refine c_seq ?_
        refine c_reg ?_
        refine sq_p (.bool true) rfl (fun _ => by kernel_rfl) ?_
        refine lnil ?_
        refine thn_n ?_
        refine c_seq ?_
        refine c_true (by kernel_rfl) ?_
        refine c_skip ?_
        refine thn_n ?_
        refine c_seq ?_
        refine c_block ?_
        refine c_seq ?_
        refine c_reg ?_
        refine sq_q rfl h (g_idx 0 (by kernel_rfl) (Nat.zero_lt_succ _ : 0 < [e].length) 9 rfl) ?_
        refine sq_q rfl h (g_ldr (b := blkN vl4) (offN vl4 + 0 * 3) [.string e.1, .int .i64 e.2.1, .int .i64 e.2.2] (.agg #[.string e.1, .int .i64 e.2.1, .int .i64 e.2.2]) (by kernel_rfl) 9 rfl (rdRow0 e3C_len (rfl : [e][0]? = some e) (by kernel_rfl))) ?_
        refine sq_new rfl (fun b => .pointer (some ⟨b, 0, none⟩)) [.string (⟨#[]⟩ : ByteArray), .int .i64 0, .int .i64 0] 116 (fun _ => by kernel_rfl) h ?_; intro k9 w h
        refine sq_st rfl 0 [.string e.1, .int .i64 e.2.1, .int .i64 e.2.2] [.string e.1, .int .i64 e.2.1, .int .i64 e.2.2] h 0 rfl (by kernel_rfl) ?_; intro w h
        refine lnil ?_
        refine thn_n ?_
        refine c_seq ?_
        refine c_reg ?_
        refine sq_q rfl h (g_ld 0 [.pointer (some ⟨pb, 0, none⟩)] (.pointer (some ⟨pb, 0, none⟩)) (by kernel_rfl) 13 rfl) ?_
        refine sq_p (.pointer (some ⟨k9, 0, none⟩)) rfl (fun _ => by kernel_rfl) ?_
        refine sq_q rfl h (g_ld 0 [.string e.1] (.string e.1) (by kernel_rfl) 0 rfl) ?_
        refine sq_call #[.pointer (some ⟨pb, 0, none⟩), .string e.1] [1, 1, 1] rfl (text_spec pb (.pointer (some ⟨pb, 0, none⟩)) vw8 (.inr rfl) ((t ++ itK (tx (⟨#[100, 105, 114]⟩ : ByteArray)) []) ++ numK i (numK 0 (numK c (numK 1 [])))) e.1 (by (try simp only [List.length_append]); omega)) (fun _ => by kernel_rfl) h ?_; rintro v_ L_ w ⟨vw10, rfl, rfl⟩ h
        refine lnil ?_
        refine thn_n ?_
        refine c_reg ?_
        refine sq_p (.pointer (some ⟨b, 0, none⟩)) rfl (fun _ => by kernel_rfl) ?_
        refine sq_q rfl h (g_ld 0 [.pointer (some ⟨pb, 0, none⟩)] (.pointer (some ⟨pb, 0, none⟩)) (by kernel_rfl) 13 rfl) ?_
        refine sq_p (.pointer (some ⟨k9, 1, none⟩)) rfl (fun _ => by kernel_rfl) ?_
        refine sq_q rfl h (g_ld 1 [.int .i64 e.2.1, .int .i64 e.2.2] (.agg #[.int .i64 e.2.1, .int .i64 e.2.2]) (by kernel_rfl) 3 rfl) ?_
        refine sq_p (.map (some tm)) rfl (fun _ => by kernel_rfl) ?_
        rw [toldK_put i] at h
        refine sq_call #[.pointer (some ⟨b, 0, none⟩), .pointer (some ⟨pb, 0, none⟩), .agg #[.int .i64 e.2.1, .int .i64 e.2.2], .map (some tm)] [4, 4, 4, 4, 4, 4, 0, 0, 0, 5] rfl (hrec vw10 (((t ++ itK (tx (⟨#[100, 105, 114]⟩ : ByteArray)) []) ++ numK i (numK 0 (numK c (numK 1 [])))) ++ itK (tx e.1) []) (by (try simp only [List.length_append]); omega)) (fun _ => by kernel_rfl) h ?_; rintro v_ L_ w ⟨vr11, rfl, rfl⟩ h
        refine lnil ?_
        refine blk_n (thn_n ?_)
        refine c_reg ?_
        refine sq_p (.int .i64 1) rfl (fun _ => by kernel_rfl) ?_
        refine sq_p (.int .i64 1) rfl (fun _ => by kernel_rfl) ?_
        refine lnil ?_
        refine unr_n ?_
        refine c_seq ?_
        refine c_reg ?_
        refine sq_p (.bool false) rfl (fun _ => by kernel_rfl) ?_
        refine lnil ?_
        refine thn_n ?_
        refine c_seq ?_
        refine c_false (by kernel_rfl) ?_
        refine c_exit ?_
        refine thn_e (unr_e (blk_e (thn_n ?_)))
        refine c_ret ?_
        refine thn_r ?_
        refine ret_end [] [0, 0, 0, 0, 0, 0, 0, 0, 0, 0] h (by kernel_rfl) (res_n) ?_
        subst hc1
        rw [deep_next _ _ _ _ he1]
        rw [show i + 1 + r + 1 = i + (r + 1) + 1 by omega]
        exact ⟨_, rfl, rfl⟩
      exact ad_nil
    exact ad_nil
  refine ad_new [1, 2] rfl (by kernel_rfl) (fun b => .pointer (some ⟨b, 0, none⟩)) [.int .i64 0, .int .i64 0, .int .i64 0, .int .i64 0, .int .i64 0, .int .i64 0] 51 (fun _ => by kernel_rfl) h ?_ ?_
  · skip
    intro k12 w h; refine ⟨by kernel_rfl, ?_⟩
    refine d_ready [5] (by kernel_rfl) rfl ?_
    refine ad_call #[.pointer (some ⟨tb, 0, none⟩), .agg #[.int .i64 (i : Int), .int .i64 0]] [4, 4, 6] [4, 5] rfl (by kernel_rfl) (attrK_spec ad b most tb dm pm ps gs vl vg T Sl Sg l ds pn hl hr i N hlk ha c hkd hch) (fun _ => by kernel_rfl) h ?_ ?_
    · skip
      rintro v_ L_ w ⟨sz, li, un, ug, rfl, rfl⟩ h
      refine ⟨by kernel_rfl, ?_⟩
      refine d_take 6 575 [4, 5] rfl (v := .tuple #[.agg #[.int .i64 2, .int .i64 sz, .int .i64 li, .int .i64 (c : Int), .int .i64 un, .int .i64 ug], .nilIface]) (by kernel_rfl) (qp_thn qp_body) (yq (by kernel_rfl) (g_pure (v := .tuple #[.agg #[.int .i64 2, .int .i64 sz, .int .i64 li, .int .i64 (c : Int), .int .i64 un, .int .i64 ug], .nilIface]) fun _ => by kernel_rfl)) h (by kernel_rfl) ?_
      refine d_take 7 895 [4, 5] rfl (v := .agg #[.int .i64 2, .int .i64 sz, .int .i64 li, .int .i64 (c : Int), .int .i64 un, .int .i64 ug]) (by kernel_rfl) (qp_thn qp_body) (yq (by kernel_rfl) (g_pure (v := .agg #[.int .i64 2, .int .i64 sz, .int .i64 li, .int .i64 (c : Int), .int .i64 un, .int .i64 ug]) fun _ => by kernel_rfl)) h (by kernel_rfl) ?_
      refine d_take 8 1791 [4, 5] rfl (v := .nilIface) (by kernel_rfl) (qp_thn qp_body) (yq (by kernel_rfl) (g_pure (v := .nilIface) fun _ => by kernel_rfl)) h (by kernel_rfl) ?_
      refine d_ready [10] (by kernel_rfl) rfl ?_
      refine ad_st [4, 5] rfl (by kernel_rfl) 0 [.int .i64 2, .int .i64 sz, .int .i64 li, .int .i64 (c : Int), .int .i64 un, .int .i64 ug] [.int .i64 2, .int .i64 sz, .int .i64 li, .int .i64 (c : Int), .int .i64 un, .int .i64 ug] h 3 rfl (by kernel_rfl) ?_ ?_
      · skip
        intro w h; refine ⟨by kernel_rfl, ?_⟩
        refine d_take 11 2047 [4, 5] rfl (v := .nilIface) (by kernel_rfl) (qp_thn qp_body) (yq (by kernel_rfl) (g_pure (v := .nilIface) fun _ => by kernel_rfl)) h (by kernel_rfl) ?_
        refine d_done (by kernel_rfl) ?_
        refine thn_n ?_
        refine c_seq ?_
        refine c_seq ?_
        refine c_reg ?_
        refine sq_p (.map (some tm)) rfl (fun _ => by kernel_rfl) ?_
        refine sq_q rfl h (g_ld 0 [.int .i64 (i : Int), .int .i64 0] (.agg #[.int .i64 (i : Int), .int .i64 0]) (by kernel_rfl) 4 rfl) ?_
        refine sq_q rfl h (g_eq (v' := .bool false) (g_look (K := 29) (E := 4) (z := (.bool false)) (kv := (toldK i)) (ok := false) keyHk ((i : Int), 0) (by kernel_rfl) (fun _ => by kernel_rfl) 12 rfl) (by rw [toldK_get i i (Nat.le_refl _)]; rfl)) ?_
        refine lnil ?_
        refine thn_n ?_
        refine c_false (by kernel_rfl) ?_
        refine c_skip ?_
        refine thn_n ?_
        refine c_seq ?_
        refine c_reg ?_
        refine sq_p (.map (some tm)) rfl (fun _ => by kernel_rfl) ?_
        refine sq_q rfl h (g_ld 0 [.int .i64 (i : Int), .int .i64 0] (.agg #[.int .i64 (i : Int), .int .i64 0]) (by kernel_rfl) 4 rfl) ?_
        refine sq_mapu rfl (K := 29) (E := 4) keyHk ((i : Int), 0) (.bool true) (by kernel_rfl) h 12 rfl ?_; intro w h
        refine lnil ?_
        refine thn_n ?_
        refine c_seq ?_
        refine c_seq ?_
        refine c_reg ?_
        refine sq_p (.pointer (some ⟨k12, 0, none⟩)) rfl (fun _ => by kernel_rfl) ?_
        refine sq_q rfl h (g_ld 0 [.int .i64 2] (.int .i64 2) (by kernel_rfl) 3 rfl) ?_
        refine sq_p (.bool true) rfl (fun _ => by kernel_rfl) ?_
        refine lnil ?_
        refine thn_n ?_
        refine c_true (by kernel_rfl) ?_
        refine c_seq ?_
        refine c_reg ?_
        refine sq_p (.pointer (some ⟨b, 0, none⟩)) rfl (fun _ => by kernel_rfl) ?_
        refine sq_q rfl h (g_ld 0 [.int .i64 (i : Int), .int .i64 0] (.agg #[.int .i64 (i : Int), .int .i64 0]) (by kernel_rfl) 4 rfl) ?_
        refine sq_call #[.pointer (some ⟨b, 0, none⟩), .agg #[.int .i64 (i : Int), .int .i64 0], .int .i64 0, .int .i64 60] [6, 0, 0, 4, 4, 0] rfl (lsK_spec ad b most tb dm pm ps gs vl vg T Sl Sg l ds pn hl hr i N hlk ha d hj hdh hdd (by rw [hes]; simp) (one_get hes (by rw [he1]; decide))) (fun _ => by kernel_rfl) h ?_; rintro v_ L_ w ⟨vl13, nx14, rfl, rfl⟩ h
        rw [hes] at h
        refine sq_p (.tuple #[vl13, .int .i64 nx14, .nilIface]) rfl (fun _ => by kernel_rfl) ?_
        refine sq_p (vl13) rfl (fun _ => by kernel_rfl) ?_
        refine sq_p (.int .i64 nx14) rfl (fun _ => by kernel_rfl) ?_
        refine sq_p (.nilIface) rfl (fun _ => by kernel_rfl) ?_
        refine sq_p (vl13) rfl (fun _ => by kernel_rfl) ?_
        refine sq_p (.int .i64 nx14) rfl (fun _ => by kernel_rfl) ?_
        refine sq_p (.nilIface) rfl (fun _ => by kernel_rfl) ?_
        refine lnil ?_
        refine thn_n ?_
        refine c_seq ?_
        refine c_reg ?_
        refine sq_q rfl h (g_ld 0 [.pointer (some ⟨pb, 0, none⟩)] (.pointer (some ⟨pb, 0, none⟩)) (by kernel_rfl) 9 rfl) ?_
        refine sq_call #[.pointer (some ⟨pb, 0, none⟩), .string (⟨#[100, 105, 114]⟩ : ByteArray)] [10, 10, 10] rfl (text_spec pb p v hp t (⟨#[100, 105, 114]⟩ : ByteArray) (by (try simp only [List.length_append]); omega)) (fun _ => by kernel_rfl) h ?_; rintro v_ L_ w ⟨vw15, rfl, rfl⟩ h
        refine lnil ?_
        refine thn_n ?_
        refine c_seq ?_
        refine c_reg ?_
        refine sq_q rfl h (g_ld 0 [.pointer (some ⟨pb, 0, none⟩)] (.pointer (some ⟨pb, 0, none⟩)) (by kernel_rfl) 12 rfl) ?_
        refine sq_p (.pointer (some ⟨k2, 0, none⟩)) rfl (fun _ => by kernel_rfl) ?_
        refine sq_q rfl h (g_ld 0 [.int .i64 (i : Int)] (.int .i64 (i : Int)) (by kernel_rfl) 11 rfl) ?_
        refine sq_p (.pointer (some ⟨k2, 1, none⟩)) rfl (fun _ => by kernel_rfl) ?_
        refine sq_q rfl h (g_ld 1 [.int .i64 0] (.int .i64 0) (by kernel_rfl) 11 rfl) ?_
        refine sq_p (.pointer (some ⟨k12, 3, none⟩)) rfl (fun _ => by kernel_rfl) ?_
        refine sq_q rfl h (g_ld 3 [.int .i64 (c : Int)] (.int .i64 (c : Int)) (by kernel_rfl) 10 rfl) ?_
        refine sq_p (vl13) rfl (fun _ => by kernel_rfl) ?_
        refine sq_q rfl h (g_eq (v := .int .i64 (([e].length : Nat) : Int)) (v' := .int .i64 1) (g_len (by kernel_rfl) 9 rfl) rfl) ?_
        refine sq_new rfl (fun b => .slice (some ⟨b, 0, none⟩) 4 4) [.int .i64 (i : Int), .int .i64 0, .int .i64 (c : Int), .int .i64 1] 3 (fun _ => by kernel_rfl) h ?_; intro k16 w h
        have hnz_ := num4_size i 0 c 1 (by omega)
        refine sq_call #[.pointer (some ⟨pb, 0, none⟩), .slice (some ⟨k16, 0, none⟩) 4 4] [1, 1, 1, 0] rfl (numbers_spec pb (.pointer (some ⟨pb, 0, none⟩)) vw15 (.inr rfl) (t ++ itK (tx (⟨#[100, 105, 114]⟩ : ByteArray)) []) k16 i 0 c 1 (by omega) (by (try simp only [List.length_append]); omega)) (fun _ => by kernel_rfl) h ?_; rintro v_ L_ w ⟨vw17, rfl, rfl⟩ h
        refine lnil ?_
        refine thn_n ?_
        refine c_seq ?_
        refine c_seq ?_
        refine c_reg ?_
        refine sq_p (vl13) rfl (fun _ => by kernel_rfl) ?_
        refine sq_q rfl h (g_eq (v := .int .i64 (([e].length : Nat) : Int)) (v' := .int .i64 1) (g_len (by kernel_rfl) 9 rfl) rfl) ?_
        refine sq_p (.int .i64 0) rfl (fun _ => by kernel_rfl) ?_
        refine lnil ?_
        refine thn_n ?_
        refine c_block ?_
        refine c_unroll 1 ?_
        refine c_seq ?_
        refine c_reg ?_
        refine sq_p (.bool true) rfl (fun _ => by kernel_rfl) ?_
        refine lnil ?_
        refine thn_n ?_
        refine c_seq ?_
        refine c_true (by kernel_rfl) ?_
        refine c_skip ?_
        refine thn_n ?_
        refine c_seq ?_
        refine c_block ?_
        refine c_seq ?_
        refine c_reg ?_
        refine sq_q rfl h (g_idx 0 (by kernel_rfl) (Nat.zero_lt_succ _ : 0 < [e].length) 9 rfl) ?_
        refine sq_q rfl h (g_ldr (b := blkN vl13) (offN vl13 + 0 * 3) [.string e.1, .int .i64 e.2.1, .int .i64 e.2.2] (.agg #[.string e.1, .int .i64 e.2.1, .int .i64 e.2.2]) (by kernel_rfl) 9 rfl (rdRow0 e3C_len (rfl : [e][0]? = some e) (by kernel_rfl))) ?_
        refine sq_new rfl (fun b => .pointer (some ⟨b, 0, none⟩)) [.string (⟨#[]⟩ : ByteArray), .int .i64 0, .int .i64 0] 116 (fun _ => by kernel_rfl) h ?_; intro k18 w h
        refine sq_st rfl 0 [.string e.1, .int .i64 e.2.1, .int .i64 e.2.2] [.string e.1, .int .i64 e.2.1, .int .i64 e.2.2] h 0 rfl (by kernel_rfl) ?_; intro w h
        refine lnil ?_
        refine thn_n ?_
        refine c_seq ?_
        refine c_reg ?_
        refine sq_q rfl h (g_ld 0 [.pointer (some ⟨pb, 0, none⟩)] (.pointer (some ⟨pb, 0, none⟩)) (by kernel_rfl) 13 rfl) ?_
        refine sq_p (.pointer (some ⟨k18, 0, none⟩)) rfl (fun _ => by kernel_rfl) ?_
        refine sq_q rfl h (g_ld 0 [.string e.1] (.string e.1) (by kernel_rfl) 0 rfl) ?_
        refine sq_call #[.pointer (some ⟨pb, 0, none⟩), .string e.1] [1, 1, 1] rfl (text_spec pb (.pointer (some ⟨pb, 0, none⟩)) vw17 (.inr rfl) ((t ++ itK (tx (⟨#[100, 105, 114]⟩ : ByteArray)) []) ++ numK i (numK 0 (numK c (numK 1 [])))) e.1 (by (try simp only [List.length_append]); omega)) (fun _ => by kernel_rfl) h ?_; rintro v_ L_ w ⟨vw19, rfl, rfl⟩ h
        refine lnil ?_
        refine thn_n ?_
        refine c_reg ?_
        refine sq_p (.pointer (some ⟨b, 0, none⟩)) rfl (fun _ => by kernel_rfl) ?_
        refine sq_q rfl h (g_ld 0 [.pointer (some ⟨pb, 0, none⟩)] (.pointer (some ⟨pb, 0, none⟩)) (by kernel_rfl) 13 rfl) ?_
        refine sq_p (.pointer (some ⟨k18, 1, none⟩)) rfl (fun _ => by kernel_rfl) ?_
        refine sq_q rfl h (g_ld 1 [.int .i64 e.2.1, .int .i64 e.2.2] (.agg #[.int .i64 e.2.1, .int .i64 e.2.2]) (by kernel_rfl) 3 rfl) ?_
        refine sq_p (.map (some tm)) rfl (fun _ => by kernel_rfl) ?_
        rw [toldK_put i] at h
        refine sq_call #[.pointer (some ⟨b, 0, none⟩), .pointer (some ⟨pb, 0, none⟩), .agg #[.int .i64 e.2.1, .int .i64 e.2.2], .map (some tm)] [4, 4, 4, 4, 4, 4, 0, 0, 0, 5] rfl (hrec vw19 (((t ++ itK (tx (⟨#[100, 105, 114]⟩ : ByteArray)) []) ++ numK i (numK 0 (numK c (numK 1 [])))) ++ itK (tx e.1) []) (by (try simp only [List.length_append]); omega)) (fun _ => by kernel_rfl) h ?_; rintro v_ L_ w ⟨vr20, rfl, rfl⟩ h
        refine lnil ?_
        refine blk_n (thn_n ?_)
        refine c_reg ?_
        refine sq_p (.int .i64 1) rfl (fun _ => by kernel_rfl) ?_
        refine sq_p (.int .i64 1) rfl (fun _ => by kernel_rfl) ?_
        refine lnil ?_
        refine unr_n ?_
        refine c_seq ?_
        refine c_reg ?_
        refine sq_p (.bool false) rfl (fun _ => by kernel_rfl) ?_
        refine lnil ?_
        refine thn_n ?_
        refine c_seq ?_
        refine c_false (by kernel_rfl) ?_
        refine c_exit ?_
        refine thn_e (unr_e (blk_e (thn_n ?_)))
        refine c_ret ?_
        refine thn_r ?_
        refine ret_end [] [0, 0, 0, 0, 0, 0, 0, 0, 0, 0] h (by kernel_rfl) (res_n) ?_
        subst hc1
        rw [deep_next _ _ _ _ he1]
        rw [show i + 1 + r + 1 = i + (r + 1) + 1 by omega]
        exact ⟨_, rfl, rfl⟩
      exact ad_nil
    exact ad_nil
  exact ad_nil

/- Slices read in whatever they lie; a table's rows and cell as they are read and stored to. No condition. -/
/-! ### Slices as they are read, in whatever they lie -/
section
variable {P : Program} {a : Act} {w w0 : World} {E : Ent} {L : List Res}
theorem g_lenS {dst : Option Tmp} {T : TypeId} {x : Operand} {ty : TypeId} {pos : String} {after : Array Edge} {g : Option (Nat × Bool)} {v : Value} {n : Nat} {xs : List Value} {r : Res} (d : TypeId) (hx : (a.eval x, P.underlying T) = (v, some (.slice d))) (i : Nat) (hi : L[i]? = some r) (hr : SlRd r v n xs) :
    Gives P w0 E L ⟨dst, .call { callee := .builtin .len, args := #[x], argTypes := #[T] }, ty, pos, after, g⟩ a (.int .i64 (n : Int)) := fun w h => by
  obtain ⟨h1, h2⟩ : a.eval x = v ∧ P.underlying T = _ := by simpa using hx
  obtain ⟨⟨ad, cap, e, _⟩, _⟩ := hr w (h.fact i hi)
  rw [e] at h1
  simp [execOp, resolve, invoke, builtin, Builtin.len_, h1, Sem.run_bind, run_underlying h2, goInt]
theorem g_idxS {dst : Option Tmp} {T : TypeId} {x y : Operand} {ty : TypeId} {pos : String} {after : Array Edge} {g : Option (Nat × Bool)} {v : Value} {n k : Nat} {xs : List Value} {r : Res} (d : TypeId) (j : Nat) {z : Int} (hz : z = (j : Int)) (hx : (a.eval x, a.eval y, P.underlying T, (P.info? d).map (·.size)) = (v, .int .i64 z, some (.slice d), some k)) (hj : j < n) (i : Nat) (hi : L[i]? = some r) (hr : SlRd r v n xs) :
    Gives P w0 E L ⟨dst, .indexAddr T x y, ty, pos, after, g⟩ a (.pointer (some ⟨blkN v, offN v + j * k, none⟩)) := fun w h => by
  subst hz
  obtain ⟨h1, h2, h3, h4⟩ : a.eval x = v ∧ a.eval y = _ ∧ P.underlying T = _ ∧ (P.info? d).map (·.size) = some k := by simpa using hx
  obtain ⟨⟨ad, cap, e, _, _, hp⟩, _⟩ := hr w (h.fact i hi)
  obtain rfl := hp j hj
  obtain ⟨B, hB⟩ : ∃ B, B = blkN v := ⟨_, rfl⟩
  obtain ⟨O, hO⟩ : ∃ O, O = offN v := ⟨_, rfl⟩
  rw [← hB, ← hO] at e ⊢
  subst e
  have hz := sizeOf_run (w := w) h4
  have hi1 : (0 : Int) ≤ (j : Int) ∧ (j : Int) < (n : Int) := by omega
  simp only [execOp, Instr.indexAt, h1, h2, asIntOf, Sem.run_bind, Sem.run_pure, Result.andThen_ok, run_underlying h3]
  simp only [Sem.run_ite, hi1, and_self, if_true, Sem.run_bind, hz, Result.andThen_ok, Sem.run_pure, Int.toNat_natCast, Addr.add_lit]
theorem rdS {α : Type} {r : Res} {v : Value} {k n : Nat} {enc : α → List Value} {l : List α} (hs : SlRd r v n (l.flatMap enc)) (he : ∀ a, (enc a).length = k) {i : Nat} {x : α} (hi : l[i]? = some x) (o : Nat) {vs : List Value} (h : ((enc x).drop o).take vs.length = vs) :
    RdAt r (blkN v) (offN v + i * k + o) vs := fun w hf j u hj => by
  have hl := (List.getElem?_eq_some_iff.1 hj).1
  have h2 := congrArg (fun l => l[j]?) h
  simp only [List.getElem?_take, List.getElem?_drop, if_pos hl] at h2
  have hlt : o + j < k := by
    rw [← he x]
    have : (enc x)[o + j]? = some u := by rw [h2]; exact hj
    exact (List.getElem?_eq_some_iff.1 this).1
  have := (hs w hf).2 (i * k + (o + j)) u (by rw [flat_get enc he l i (o + j) x hi hlt, h2]; exact hj)
  rw [show offN v + i * k + o + j = offN v + (i * k + (o + j)) by omega]
  exact this
theorem rdS0 {α : Type} {r : Res} {v : Value} {k n : Nat} {enc : α → List Value} {l : List α} (hs : SlRd r v n (l.flatMap enc)) (he : ∀ a, (enc a).length = k) {i : Nat} {x : α} (hi : l[i]? = some x) {vs : List Value} (h : (enc x).take vs.length = vs) :
    RdAt r (blkN v) (offN v + i * k) vs := rdS hs he hi 0 h
end
section
variable {b : Nat} {ps : List (Option Nat)} {gs : List Int} {vl vg : Value} {T : TypeId} {Sl Sg : Nat → Prop}
theorem rdTab (off : Nat) {vs : List Value} (h : (([vl, vg] : List Value).drop off).take vs.length = vs) : RdAt (rTab b ps gs vl vg T Sl Sg) b off vs := fun w hf => rdCell (wr := true) (T := T) off h w hf.blk
theorem slRd_at {w : World} {v : Value} {E k n : Nat} {xs : List Value} {S : Nat → Prop} (h : SliceAt w v E k n xs S) : (∃ ad cap, v = .slice ad n cap ∧ n ≤ cap ∧ cap ≤ 9223372036854775807 ∧ ∀ i, i < n → ad = some ⟨blkN v, offN v, none⟩) ∧ ∀ j u, xs[j]? = some u → w.cell? ⟨blkN v, offN v + j, none⟩ = some u := by
  have hf : (rSl true v E k n xs).fact w := by
    obtain ⟨h1, h2 | ⟨g, off, cap, cs, rfl, hbk, a, b, c, d, s⟩⟩ := h
    · exact ⟨h1, .inl h2⟩
    · exact ⟨h1, .inr ⟨g, off, cap, cs, rfl, hbk, a, b, c, d, rfl⟩⟩
  exact slRd_sl (wr := true) (T := E) (k := k) w hf
theorem slTabL : SlRd (rTab b ps gs vl vg T Sl Sg) vl ps.length (ps.flatMap ptrC) := fun w hf => slRd_at hf.l
theorem slTabG : SlRd (rTab b ps gs vl vg T Sl Sg) vg gs.length (gs.flatMap intC) := fun w hf => slRd_at hf.g
theorem wrTabL {k : Nat} (hk : k < ps.length) (p : Option Nat) : WrAt (rTab b ps gs vl vg T Sl Sg) (blkN vl) (offN vl + k * 1) [ptrV p] (rTab b (ps.set k p) gs vl vg T Sl Sg) := ⟨rfl, fun w hf => by
  have ht : TabAt w b ps gs vl vg T Sl Sg := hf
  obtain ⟨g1, o1, c1, cs1, rfl, _, n1, _, _, _, hS1, gl1⟩ := ht.l.place (by omega)
  refine ⟨fun j hj => ?_, ?_, .inr (.inl hS1), fun x hx => hx⟩
  · obtain rfl : j = 0 := by simp at hj; omega
    have y1 := ht.l.elem ptrC_len (List.getElem?_eq_getElem hk) 0 _ rfl
    simp only [Nat.mul_one, Nat.add_zero] at y1 ⊢
    exact ⟨by rw [show (⟨blkN (.slice (some ⟨g1, o1, none⟩) ps.length c1), offN (.slice (some ⟨g1, o1, none⟩) ps.length c1) + k, none⟩ : Addr) = ⟨g1, o1 + k, none⟩ from rfl, y1.1]; rfl, y1.2.1⟩
  · have h1 := ht.setL (p := p) hk
    rw [Nat.mul_one]
    exact h1⟩
theorem wrTabG {k : Nat} (hk : k < gs.length) (p : Int) : WrAt (rTab b ps gs vl vg T Sl Sg) (blkN vg) (offN vg + k * 1) [.int .i64 p] (rTab b ps (gs.set k p) vl vg T Sl Sg) := ⟨rfl, fun w hf => by
  have ht : TabAt w b ps gs vl vg T Sl Sg := hf
  obtain ⟨g1, o1, c1, cs1, rfl, _, n1, _, _, _, hS1, gl1⟩ := ht.g.place (by omega)
  refine ⟨fun j hj => ?_, ?_, .inr (.inr hS1), fun x hx => hx⟩
  · obtain rfl : j = 0 := by simp at hj; omega
    have y1 := ht.g.elem intC_len (List.getElem?_eq_getElem hk) 0 _ rfl
    simp only [Nat.mul_one, Nat.add_zero] at y1 ⊢
    exact ⟨by rw [show (⟨blkN (.slice (some ⟨g1, o1, none⟩) gs.length c1), offN (.slice (some ⟨g1, o1, none⟩) gs.length c1) + k, none⟩ : Addr) = ⟨g1, o1 + k, none⟩ from rfl, y1.1]; rfl, y1.2.1⟩
  · have h1 := ht.setG (p := p) hk
    rw [Nat.mul_one]
    exact h1⟩
end

/- deep: contracts by what is owned (printed by walk.py). -/
theorem put_spec (tb : Nat) (ps : List (Option Nat)) (gs : List Int) (vl vg : Value) (T : TypeId) (Sl Sg : Nat → Prop) (l : List (Option ND)) (k : Nat) (hpk : ps[k]? = some none) (hgk : gs[k]? = some 0) (a0 a1 a2 a3 a4 a5 : Int)  : Spec Tryz.prog 26 #[.pointer (some ⟨tb, 0, none⟩), .agg #[.int .i64 (k : Int), .int .i64 0], .agg #[.int .i64 a0, .int .i64 a1, .int .i64 a2, .int .i64 a3, .int .i64 a4, .int .i64 a5], .pointer none, .bool false] [rTab tb ps gs vl vg T Sl Sg, rNds l] (fun u L => ∃ nb, u = .nilIface ∧ L = [rTab tb (ps.set k (some nb)) (gs.set k (0 + 1)) vl vg T Sl Sg, rNds (l.set k (some (⟨nb, a0, a1, a2, a3, a4, a5, none⟩ : ND)))]) := by
  have hkl := (List.getElem?_eq_some_iff.1 hpk).1
  have hkg := (List.getElem?_eq_some_iff.1 hgk).1
  refine spec_of (#[.pointer (some ⟨tb, 0, none⟩), .agg #[.int .i64 (k : Int), .int .i64 0], .agg #[.int .i64 a0, .int .i64 a1, .int .i64 a2, .int .i64 a3, .int .i64 a4, .int .i64 a5], .pointer none, .bool false, undef, undef, undef, undef, undef, undef, undef, undef, undef, undef, undef, undef, undef, undef, undef, undef, undef, undef, undef, undef, undef, undef, undef, undef, undef, undef, undef, undef, undef, undef, undef, undef, undef, undef, undef, undef, undef, undef, undef, undef, undef, undef, undef, undef, undef, undef, undef, undef, undef, undef, undef, undef, undef, undef, undef, undef, undef, undef, undef, undef, undef, undef, undef, undef, undef, undef, undef, undef, undef, undef]) Tryz.func26 rfl (by kernel_rfl) fun E w0 w h => ?_
  refine c_seq ?_
  refine c_reg ?_
  refine sq_new rfl (fun b => .pointer (some ⟨b, 0, none⟩)) [.int .i64 (k : Int), .int .i64 0] 29 (fun _ => by kernel_rfl) h ?_; intro k1 w h
  refine sq_new rfl (fun b => .pointer (some ⟨b, 0, none⟩)) [.int .i64 a0, .int .i64 a1, .int .i64 a2, .int .i64 a3, .int .i64 a4, .int .i64 a5] 51 (fun _ => by kernel_rfl) h ?_; intro k2 w h
  refine sq_p (.nilIface) rfl (fun _ => by kernel_rfl) ?_
  refine lnil ?_
  refine thn_n ?_
  refine c_seq ?_
  refine c_seq ?_
  refine d_start 40 [1, 1] (by kernel_rfl) h fun w h => ?_
  refine d_take 0 0 [1, 1] rfl (v := .pointer (some ⟨k1, 0, none⟩)) (by kernel_rfl) (qp_thn (qp_thn qp_body)) (yq (by kernel_rfl) (g_pure (v := .pointer (some ⟨k1, 0, none⟩)) fun _ => by kernel_rfl)) h (by kernel_rfl) ?_
  refine d_take 1 1 [1, 1] rfl (v := .int .i64 (k : Int)) (by kernel_rfl) (qp_thn (qp_thn qp_body)) (yq (by kernel_rfl) (g_ld 0 [.int .i64 (k : Int)] (.int .i64 (k : Int)) (by kernel_rfl) 0 rfl)) h (by kernel_rfl) ?_
  obtain ⟨b3, hb3⟩ : ∃ b_ : Bool, b_ = (decide ((k : Int) < 0)) := ⟨_, rfl⟩
  refine d_take 2 3 [1, 1] rfl (v := .bool b3) (by kernel_rfl) (qp_thn (qp_thn qp_body)) (yq (by kernel_rfl) (by subst hb3; exact g_pure (v := .bool (decide ((k : Int) < 0))) fun _ => by kernel_rfl)) h (by kernel_rfl) ?_
  refine d_take 3 7 [1, 1] rfl (v := .bool b3) (by kernel_rfl) (qp_thn (qp_thn qp_body)) (yq (by kernel_rfl) (g_pure (v := .bool b3) fun _ => by kernel_rfl)) h (by kernel_rfl) ?_
  refine d_take 4 1999 [1, 1] rfl (by kernel_rfl) (qp_thn (qp_thn qp_body)) (ym0 (v := .pointer (some ⟨k1, 0, none⟩)) b3 (by cases b3 <;> kernel_rfl) (fun hB => by subst hB; exact g_pure (v := .pointer (some ⟨k1, 0, none⟩)) fun _ => by kernel_rfl)) h (by kernel_rfl) ?_
  refine d_take 5 2015 [1, 1] rfl (by kernel_rfl) (qp_thn (qp_thn qp_body)) (ym0 (v := .int .i64 (k : Int)) b3 (by cases b3 <;> kernel_rfl) (fun hB => by subst hB; exact g_ld 0 [.int .i64 (k : Int)] (.int .i64 (k : Int)) (by kernel_rfl) 0 rfl)) h (by kernel_rfl) ?_
  refine d_take 6 63 [1, 1] rfl (by kernel_rfl) (qp_thn (qp_thn qp_body)) (ym0 (v := .pointer (some ⟨tb, 0, none⟩)) b3 (by cases b3 <;> kernel_rfl) (fun hB => by subst hB; exact g_pure (v := .pointer (some ⟨tb, 0, none⟩)) fun _ => by kernel_rfl)) h (by kernel_rfl) ?_
  refine d_take 7 127 [1, 1] rfl (by kernel_rfl) (qp_thn (qp_thn qp_body)) (ym0 (v := .pointer (some ⟨tb, 0, none⟩)) b3 (by cases b3 <;> kernel_rfl) (fun hB => by subst hB; exact g_pure (v := .pointer (some ⟨tb, 0, none⟩)) fun _ => by kernel_rfl)) h (by kernel_rfl) ?_
  refine d_take 8 255 [1, 1] rfl (by kernel_rfl) (qp_thn (qp_thn qp_body)) (ym0 (v := .pointer (some ⟨tb, 0, none⟩)) b3 (by cases b3 <;> kernel_rfl) (fun hB => by subst hB; exact g_pure (v := .pointer (some ⟨tb, 0, none⟩)) fun _ => by kernel_rfl)) h (by kernel_rfl) ?_
  refine d_take 9 511 [1, 1] rfl (by kernel_rfl) (qp_thn (qp_thn qp_body)) (ym0 (v := vl) b3 (by cases b3 <;> kernel_rfl) (fun hB => by subst hB; exact g_ldr (b := tb) 0 [vl] vl (by kernel_rfl) 1 rfl (rdTab 0 (by kernel_rfl)))) h (by kernel_rfl) ?_
  refine d_take 10 1023 [1, 1] rfl (by kernel_rfl) (qp_thn (qp_thn qp_body)) (ym0 (v := .int .i64 (ps.length : Int)) b3 (by cases b3 <;> kernel_rfl) (fun hB => by subst hB; exact g_lenS 87 (by kernel_rfl) 1 rfl slTabL)) h (by kernel_rfl) ?_
  obtain ⟨b4, hb4⟩ : ∃ b_ : Bool, b_ = (decide ((k : Int) ≥ (ps.length : Int))) := ⟨_, rfl⟩
  refine d_take 11 2047 [1, 1] rfl (by kernel_rfl) (qp_thn (qp_thn qp_body)) (ym0 (v := .bool b4) b3 (by cases b3 <;> kernel_rfl) (fun hB => by subst hB; exact by subst hb4; exact g_pure (v := .bool (decide ((k : Int) ≥ (ps.length : Int)))) fun _ => by kernel_rfl)) h (by kernel_rfl) ?_
  obtain ⟨b5, hb5⟩ : ∃ b_ : Bool, b_ = (b3 || b4) := ⟨_, rfl⟩
  refine d_take 12 4095 [1, 1] rfl (v := .bool b5) (by kernel_rfl) (qp_thn (qp_thn qp_body)) (yq (by kernel_rfl) (by subst hb5; exact g_pure (v := .bool (b3 || b4)) fun _ => by cases b3 <;> kernel_rfl)) h (by kernel_rfl) ?_
  refine d_take 13 8191 [1, 1] rfl (v := .bool b5) (by kernel_rfl) (qp_thn (qp_thn qp_body)) (yq (by kernel_rfl) (g_pure (v := .bool b5) fun _ => by kernel_rfl)) h (by kernel_rfl) ?_
  refine d_take 14 802815 [1, 1] rfl (by kernel_rfl) (qp_thn (qp_thn qp_body)) (ym0 (v := .pointer (some ⟨tb, 0, none⟩)) b5 (by cases b5 <;> kernel_rfl) (fun hB => by subst hB; exact g_pure (v := .pointer (some ⟨tb, 0, none⟩)) fun _ => by kernel_rfl)) h (by kernel_rfl) ?_
  refine d_take 15 819199 [1, 1] rfl (by kernel_rfl) (qp_thn (qp_thn qp_body)) (ym0 (v := .pointer (some ⟨tb, 0, none⟩)) b5 (by cases b5 <;> kernel_rfl) (fun hB => by subst hB; exact g_pure (v := .pointer (some ⟨tb, 0, none⟩)) fun _ => by kernel_rfl)) h (by kernel_rfl) ?_
  refine d_take 16 851967 [1, 1] rfl (by kernel_rfl) (qp_thn (qp_thn qp_body)) (ym0 (v := .pointer (some ⟨tb, 0, none⟩)) b5 (by cases b5 <;> kernel_rfl) (fun hB => by subst hB; exact g_pure (v := .pointer (some ⟨tb, 0, none⟩)) fun _ => by kernel_rfl)) h (by kernel_rfl) ?_
  refine d_take 17 917503 [1, 1] rfl (by kernel_rfl) (qp_thn (qp_thn qp_body)) (ym0 (v := vl) b5 (by cases b5 <;> kernel_rfl) (fun hB => by subst hB; exact g_ldr (b := tb) 0 [vl] vl (by kernel_rfl) 1 rfl (rdTab 0 (by kernel_rfl)))) h (by kernel_rfl) ?_
  refine d_take 18 262143 [1, 1] rfl (by kernel_rfl) (qp_thn (qp_thn qp_body)) (ym0 (v := .pointer (some ⟨k1, 0, none⟩)) b5 (by cases b5 <;> kernel_rfl) (fun hB => by subst hB; exact g_pure (v := .pointer (some ⟨k1, 0, none⟩)) fun _ => by kernel_rfl)) h (by kernel_rfl) ?_
  refine d_take 19 524287 [1, 1] rfl (by kernel_rfl) (qp_thn (qp_thn qp_body)) (ym0 (v := .int .i64 (k : Int)) b5 (by cases b5 <;> kernel_rfl) (fun hB => by subst hB; exact g_ld 0 [.int .i64 (k : Int)] (.int .i64 (k : Int)) (by kernel_rfl) 0 rfl)) h (by kernel_rfl) ?_
  refine d_take 20 1048575 [1, 1] rfl (by kernel_rfl) (qp_thn (qp_thn qp_body)) (ym0 (v := .pointer (some ⟨blkN vl, offN vl + k * 1, none⟩)) b5 (by cases b5 <;> kernel_rfl) (fun hB => by subst hB; exact g_idxS (k := 1) 87 k rfl (by kernel_rfl) hkl 1 rfl slTabL)) h (by kernel_rfl) ?_
  refine d_take 21 2097151 [1, 1] rfl (by kernel_rfl) (qp_thn (qp_thn qp_body)) (ym0 (v := .pointer none) b5 (by cases b5 <;> kernel_rfl) (fun hB => by subst hB; exact g_ldr (b := blkN vl) (offN vl + k * 1) [.pointer none] (.pointer none) (by kernel_rfl) 1 rfl (rdS0 slTabL ptrC_len hpk (by kernel_rfl)))) h (by kernel_rfl) ?_
  refine d_take 22 4194303 [1, 1] rfl (by kernel_rfl) (qp_thn (qp_thn qp_body)) (ym0 (v := .bool false) b5 (by cases b5 <;> kernel_rfl) (fun hB => by subst hB; exact g_pure (v := .bool false) fun _ => by kernel_rfl)) h (by kernel_rfl) ?_
  obtain ⟨b6, hb6⟩ : ∃ b_ : Bool, b_ = (b5 || false) := ⟨_, rfl⟩
  refine d_take 23 8388607 [1, 1] rfl (v := .bool b6) (by kernel_rfl) (qp_thn (qp_thn qp_body)) (yq (by kernel_rfl) (by subst hb6; exact g_pure (v := .bool (b5 || false)) fun _ => by cases b5 <;> kernel_rfl)) h (by kernel_rfl) ?_
  refine d_take 24 16777215 [1, 1] rfl (v := .bool b6) (by kernel_rfl) (qp_thn (qp_thn qp_body)) (yq (by kernel_rfl) (g_pure (v := .bool b6) fun _ => by kernel_rfl)) h (by kernel_rfl) ?_
  refine d_take 25 33554431 [1, 1] rfl (by kernel_rfl) (qp_thn (qp_thn qp_body)) (ym0 (v := .pointer (some ⟨k1, 1, none⟩)) b6 (by cases b6 <;> kernel_rfl) (fun hB => by subst hB; exact g_pure (v := .pointer (some ⟨k1, 1, none⟩)) fun _ => by kernel_rfl)) h (by kernel_rfl) ?_
  refine d_take 26 67108863 [1, 1] rfl (by kernel_rfl) (qp_thn (qp_thn qp_body)) (ym0 (v := .int .i64 0) b6 (by cases b6 <;> kernel_rfl) (fun hB => by subst hB; exact g_ld 1 [.int .i64 0] (.int .i64 0) (by kernel_rfl) 0 rfl)) h (by kernel_rfl) ?_
  refine d_take 27 134217727 [1, 1] rfl (by kernel_rfl) (qp_thn (qp_thn qp_body)) (ym0 (v := .bool false) b6 (by cases b6 <;> kernel_rfl) (fun hB => by subst hB; exact g_pure (v := .bool false) fun _ => by kernel_rfl)) h (by kernel_rfl) ?_
  obtain ⟨b7, hb7⟩ : ∃ b_ : Bool, b_ = (b6 || false) := ⟨_, rfl⟩
  refine d_take 28 268435455 [1, 1] rfl (v := .bool b7) (by kernel_rfl) (qp_thn (qp_thn qp_body)) (yq (by kernel_rfl) (by subst hb7; exact g_pure (v := .bool (b6 || false)) fun _ => by cases b6 <;> kernel_rfl)) h (by kernel_rfl) ?_
  refine d_take 29 536870911 [1, 1] rfl (v := .bool b7) (by kernel_rfl) (qp_thn (qp_thn qp_body)) (yq (by kernel_rfl) (g_pure (v := .bool b7) fun _ => by kernel_rfl)) h (by kernel_rfl) ?_
  refine d_take 30 52613349375 [1, 1] rfl (by kernel_rfl) (qp_thn (qp_thn qp_body)) (ym0 (v := .pointer (some ⟨tb, 0, none⟩)) b7 (by cases b7 <;> kernel_rfl) (fun hB => by subst hB; exact g_pure (v := .pointer (some ⟨tb, 0, none⟩)) fun _ => by kernel_rfl)) h (by kernel_rfl) ?_
  refine d_take 31 53687091199 [1, 1] rfl (by kernel_rfl) (qp_thn (qp_thn qp_body)) (ym0 (v := .pointer (some ⟨tb, 0, none⟩)) b7 (by cases b7 <;> kernel_rfl) (fun hB => by subst hB; exact g_pure (v := .pointer (some ⟨tb, 0, none⟩)) fun _ => by kernel_rfl)) h (by kernel_rfl) ?_
  refine d_take 32 55834574847 [1, 1] rfl (by kernel_rfl) (qp_thn (qp_thn qp_body)) (ym0 (v := .pointer (some ⟨tb, 1, none⟩)) b7 (by cases b7 <;> kernel_rfl) (fun hB => by subst hB; exact g_pure (v := .pointer (some ⟨tb, 1, none⟩)) fun _ => by kernel_rfl)) h (by kernel_rfl) ?_
  refine d_take 33 60129542143 [1, 1] rfl (by kernel_rfl) (qp_thn (qp_thn qp_body)) (ym0 (v := vg) b7 (by cases b7 <;> kernel_rfl) (fun hB => by subst hB; exact g_ldr (b := tb) 1 [vg] vg (by kernel_rfl) 1 rfl (rdTab 1 (by kernel_rfl)))) h (by kernel_rfl) ?_
  refine d_take 34 17179869183 [1, 1] rfl (by kernel_rfl) (qp_thn (qp_thn qp_body)) (ym0 (v := .pointer (some ⟨k1, 0, none⟩)) b7 (by cases b7 <;> kernel_rfl) (fun hB => by subst hB; exact g_pure (v := .pointer (some ⟨k1, 0, none⟩)) fun _ => by kernel_rfl)) h (by kernel_rfl) ?_
  refine d_take 35 34359738367 [1, 1] rfl (by kernel_rfl) (qp_thn (qp_thn qp_body)) (ym0 (v := .int .i64 (k : Int)) b7 (by cases b7 <;> kernel_rfl) (fun hB => by subst hB; exact g_ld 0 [.int .i64 (k : Int)] (.int .i64 (k : Int)) (by kernel_rfl) 0 rfl)) h (by kernel_rfl) ?_
  refine d_take 36 68719476735 [1, 1] rfl (by kernel_rfl) (qp_thn (qp_thn qp_body)) (ym0 (v := .pointer (some ⟨blkN vg, offN vg + k * 1, none⟩)) b7 (by cases b7 <;> kernel_rfl) (fun hB => by subst hB; exact g_idxS (k := 1) 3 k rfl (by kernel_rfl) hkg 1 rfl slTabG)) h (by kernel_rfl) ?_
  refine d_take 37 137438953471 [1, 1] rfl (by kernel_rfl) (qp_thn (qp_thn qp_body)) (ym0 (v := .int .i64 0) b7 (by cases b7 <;> kernel_rfl) (fun hB => by subst hB; exact g_ldr (b := blkN vg) (offN vg + k * 1) [.int .i64 0] (.int .i64 0) (by kernel_rfl) 1 rfl (rdS0 slTabG intC_len hgk (by kernel_rfl)))) h (by kernel_rfl) ?_
  refine d_take 38 274877906943 [1, 1] rfl (by kernel_rfl) (qp_thn (qp_thn qp_body)) (ym0 (v := .bool false) b7 (by cases b7 <;> kernel_rfl) (fun hB => by subst hB; exact g_pure (v := .bool false) fun _ => by kernel_rfl)) h (by kernel_rfl) ?_
  obtain ⟨b8, hb8⟩ : ∃ b_ : Bool, b_ = (b7 || false) := ⟨_, rfl⟩
  refine d_take 39 549755813887 [1, 1] rfl (v := .bool b8) (by kernel_rfl) (qp_thn (qp_thn qp_body)) (yq (by kernel_rfl) (by subst hb8; exact g_pure (v := .bool (b7 || false)) fun _ => by cases b7 <;> kernel_rfl)) h (by kernel_rfl) ?_
  refine d_done (by kernel_rfl) ?_
  refine thn_n ?_
  refine c_cond (b8) (by kernel_rfl) (fun hc9 => ?_) (fun hc9 => ?_)
  · skip
    have q10 : (b7 || false) = true := by rw [← hb8]; exact hc9
    exfalso; revert hc9; subst hb8; subst hb7; subst hb6; subst hb5; subst hb4; subst hb3; first | (simp; done) | (simp; omega)
  · skip
    have q11 : (b7 || false) = false := by rw [← hb8]; exact hc9
    have q12 : b7 = false := by revert q11; cases b7 <;> simp
    have q13 : false = false := by revert q11; cases b7 <;> cases false <;> simp
    have q14 : (b6 || false) = false := by rw [← hb7]; exact q12
    have q15 : b6 = false := by revert q14; cases b6 <;> simp
    have q16 : false = false := by revert q14; cases b6 <;> cases false <;> simp
    have q17 : (b5 || false) = false := by rw [← hb6]; exact q15
    have q18 : b5 = false := by revert q17; cases b5 <;> simp
    have q19 : false = false := by revert q17; cases b5 <;> cases false <;> simp
    have q20 : (b3 || b4) = false := by rw [← hb5]; exact q18
    have q21 : b3 = false := by revert q20; cases b3 <;> simp
    have q22 : b4 = false := by revert q20; cases b3 <;> cases b4 <;> simp
    have q23 : (decide ((k : Int) < 0)) = false := by rw [← hb3]; exact q21
    have q23 := of_decide_eq_false q23
    have q24 : (decide ((k : Int) ≥ (ps.length : Int))) = false := by rw [← hb4]; exact q22
    have q24 := of_decide_eq_false q24
    refine c_skip ?_
    refine thn_n ?_
    refine c_seq ?_
    refine d_start 11 [1] (by kernel_rfl) h fun w h => ?_
    refine d_take 0 496 [1] rfl (v := .pointer (some ⟨tb, 0, none⟩)) (by kernel_rfl) (qp_thn qp_body) (yq (by kernel_rfl) (g_pure (v := .pointer (some ⟨tb, 0, none⟩)) fun _ => by kernel_rfl)) h (by kernel_rfl) ?_
    refine d_take 1 497 [1] rfl (v := .pointer (some ⟨tb, 0, none⟩)) (by kernel_rfl) (qp_thn qp_body) (yq (by kernel_rfl) (g_pure (v := .pointer (some ⟨tb, 0, none⟩)) fun _ => by kernel_rfl)) h (by kernel_rfl) ?_
    refine d_take 2 499 [1] rfl (v := .pointer (some ⟨tb, 1, none⟩)) (by kernel_rfl) (qp_thn qp_body) (yq (by kernel_rfl) (g_pure (v := .pointer (some ⟨tb, 1, none⟩)) fun _ => by kernel_rfl)) h (by kernel_rfl) ?_
    refine d_take 4 463 [1] rfl (v := .pointer (some ⟨k1, 0, none⟩)) (by kernel_rfl) (qp_thn qp_body) (yq (by kernel_rfl) (g_pure (v := .pointer (some ⟨k1, 0, none⟩)) fun _ => by kernel_rfl)) h (by kernel_rfl) ?_
    refine d_take 5 479 [1] rfl (v := .int .i64 (k : Int)) (by kernel_rfl) (qp_thn qp_body) (yq (by kernel_rfl) (g_ld 0 [.int .i64 (k : Int)] (.int .i64 (k : Int)) (by kernel_rfl) 0 rfl)) h (by kernel_rfl) ?_
    refine d_take 6 63 [1] rfl (v := .pointer (some ⟨k1, 1, none⟩)) (by kernel_rfl) (qp_thn qp_body) (yq (by kernel_rfl) (g_pure (v := .pointer (some ⟨k1, 1, none⟩)) fun _ => by kernel_rfl)) h (by kernel_rfl) ?_
    refine d_take 7 127 [1] rfl (v := .int .i64 0) (by kernel_rfl) (qp_thn qp_body) (yq (by kernel_rfl) (g_ld 1 [.int .i64 0] (.int .i64 0) (by kernel_rfl) 0 rfl)) h (by kernel_rfl) ?_
    refine d_take 8 255 [1] rfl (v := .int .i64 1) (by kernel_rfl) (qp_thn qp_body) (yq (by kernel_rfl) (g_pure (v := .int .i64 1) fun _ => by kernel_rfl)) h (by kernel_rfl) ?_
    refine d_ready [3] (by kernel_rfl) rfl ?_
    refine ad_q [1] rfl (by kernel_rfl) (v := vg) (g_ldr (b := tb) 1 [vg] vg (by kernel_rfl) 2 rfl (rdTab 1 (by kernel_rfl))) h (by kernel_rfl) ?_ ?_
    · skip
      refine d_ready [9] (by kernel_rfl) rfl ?_
      refine ad_q [1] rfl (by kernel_rfl) (v := .pointer (some ⟨blkN vg, offN vg + k * 1, none⟩)) (g_idxS (k := 1) 3 k rfl (by kernel_rfl) hkg 2 rfl slTabG) h (by kernel_rfl) ?_ ?_
      · skip
        refine d_ready [10] (by kernel_rfl) rfl ?_
        refine ad_str [1] rfl (by kernel_rfl) (b := (blkN vg)) (offN vg + k * 1) [.int .i64 1] h 2 rfl (by kernel_rfl) (wrTabG (k := k) hkg 1) ?_ ?_
        · skip
          intro w h; refine ⟨by kernel_rfl, ?_⟩
          refine d_done (by kernel_rfl) ?_
          refine thn_n ?_
          refine c_seq ?_
          refine c_seq ?_
          refine c_reg ?_
          refine sq_p (.bool false) rfl (fun _ => by kernel_rfl) ?_
          refine sq_p (.bool true) rfl (fun _ => by kernel_rfl) ?_
          refine lnil ?_
          refine thn_n ?_
          refine c_true (by kernel_rfl) ?_
          refine d_start 12 [0, 0] (by kernel_rfl) h fun w h => ?_
          refine d_take 0 1008 [0, 0] rfl (v := .pointer (some ⟨tb, 0, none⟩)) (by kernel_rfl) (qp_thn qp_body) (yq (by kernel_rfl) (g_pure (v := .pointer (some ⟨tb, 0, none⟩)) fun _ => by kernel_rfl)) h (by kernel_rfl) ?_
          refine d_take 1 1009 [0, 0] rfl (v := .pointer (some ⟨tb, 0, none⟩)) (by kernel_rfl) (qp_thn qp_body) (yq (by kernel_rfl) (g_pure (v := .pointer (some ⟨tb, 0, none⟩)) fun _ => by kernel_rfl)) h (by kernel_rfl) ?_
          refine d_take 2 1011 [0, 0] rfl (v := .pointer (some ⟨tb, 0, none⟩)) (by kernel_rfl) (qp_thn qp_body) (yq (by kernel_rfl) (g_pure (v := .pointer (some ⟨tb, 0, none⟩)) fun _ => by kernel_rfl)) h (by kernel_rfl) ?_
          refine d_take 4 975 [0, 0] rfl (v := .pointer (some ⟨k1, 0, none⟩)) (by kernel_rfl) (qp_thn qp_body) (yq (by kernel_rfl) (g_pure (v := .pointer (some ⟨k1, 0, none⟩)) fun _ => by kernel_rfl)) h (by kernel_rfl) ?_
          refine d_take 5 991 [0, 0] rfl (v := .int .i64 (k : Int)) (by kernel_rfl) (qp_thn qp_body) (yq (by kernel_rfl) (g_ld 0 [.int .i64 (k : Int)] (.int .i64 (k : Int)) (by kernel_rfl) 1 rfl)) h (by kernel_rfl) ?_
          refine d_take 6 191 [0, 0] rfl (v := .agg #[.int .i64 a0, .int .i64 a1, .int .i64 a2, .int .i64 a3, .int .i64 a4, .int .i64 a5]) (by kernel_rfl) (qp_thn qp_body) (yq (by kernel_rfl) (g_ld 0 [.int .i64 a0, .int .i64 a1, .int .i64 a2, .int .i64 a3, .int .i64 a4, .int .i64 a5] (.agg #[.int .i64 a0, .int .i64 a1, .int .i64 a2, .int .i64 a3, .int .i64 a4, .int .i64 a5]) (by kernel_rfl) 0 rfl)) h (by kernel_rfl) ?_
          refine d_take 7 127 [0, 0] rfl (v := .pointer none) (by kernel_rfl) (qp_thn qp_body) (yq (by kernel_rfl) (g_pure (v := .pointer none) fun _ => by kernel_rfl)) h (by kernel_rfl) ?_
          refine d_take 8 255 [0, 0] rfl (v := .agg #[.int .i64 a0, .int .i64 a1, .int .i64 a2, .int .i64 a3, .int .i64 a4, .int .i64 a5, .pointer none]) (by kernel_rfl) (qp_thn qp_body) (yq (by kernel_rfl) (g_pure (v := .agg #[.int .i64 a0, .int .i64 a1, .int .i64 a2, .int .i64 a3, .int .i64 a4, .int .i64 a5, .pointer none]) fun _ => by kernel_rfl)) h (by kernel_rfl) ?_
          refine d_ready [3, 9] (by kernel_rfl) rfl ?_
          refine ad_q [0, 0] rfl (by kernel_rfl) (v := vl) (g_ldr (b := tb) 0 [vl] vl (by kernel_rfl) 2 rfl (rdTab 0 (by kernel_rfl))) h (by kernel_rfl) ?_ ?_
          · skip
            refine d_ready [9] (by kernel_rfl) rfl ?_
            refine ad_new [1, 1] rfl (by kernel_rfl) (fun b => .pointer (some ⟨b, 0, none⟩)) [.int .i64 a0, .int .i64 a1, .int .i64 a2, .int .i64 a3, .int .i64 a4, .int .i64 a5, .pointer none] 90 (fun _ => by kernel_rfl) h ?_ ?_
            · skip
              intro k25 w h; refine ⟨by kernel_rfl, ?_⟩
              refine d_ready [10] (by kernel_rfl) rfl ?_
              refine ad_q [1, 1] rfl (by kernel_rfl) (v := .pointer (some ⟨blkN vl, offN vl + k * 1, none⟩)) (g_idxS (k := 1) 87 k rfl (by kernel_rfl) hkl 3 rfl slTabL) h (by kernel_rfl) ?_ ?_
              · skip
                refine d_ready [11] (by kernel_rfl) rfl ?_
                refine ad_str [1, 1] rfl (by kernel_rfl) (b := (blkN vl)) (offN vl + k * 1) [.pointer (some ⟨k25, 0, none⟩)] h 3 rfl (by kernel_rfl) (wrTabL (k := k) hkl (some k25)) ?_ ?_
                · skip
                  intro w h; refine ⟨by kernel_rfl, ?_⟩
                  refine d_done (by kernel_rfl) ?_
                  refine thn_n ?_
                  refine c_seq ?_
                  refine c_reg ?_
                  refine sq_p (.nilIface) rfl (fun _ => by kernel_rfl) ?_
                  refine lnil ?_
                  refine thn_n ?_
                  refine c_ret ?_
                  have h := Own.addNone (r := rNone) h (fun _ => trivial) (fun _ h => h)
                  have h := h.pickE (M := [rCell true k25 [.int .i64 a0, .int .i64 a1, .int .i64 a2, .int .i64 a3, .int .i64 a4, .int .i64 a5, .pointer none] 90, rNone, rNds l, rCell true k2 [.int .i64 a0, .int .i64 a1, .int .i64 a2, .int .i64 a3, .int .i64 a4, .int .i64 a5] 51, rCell true k1 [.int .i64 (k : Int), .int .i64 0] 29, rTab tb (ps.set k (some k25)) (gs.set k 1) vl vg T Sl Sg]) [1, 0, 3, 0, 0, 0] (by kernel_rfl)
                  have h := Own.ndPut (l := l) (⟨k25, a0, a1, a2, a3, a4, a5, none⟩ : ND) k h
                  have h : Own w0 E [rNds (l.set k (some (⟨k25, a0, a1, a2, a3, a4, a5, none⟩ : ND))), rCell true k2 [.int .i64 a0, .int .i64 a1, .int .i64 a2, .int .i64 a3, .int .i64 a4, .int .i64 a5] 51, rCell true k1 [.int .i64 (k : Int), .int .i64 0] 29, rTab tb (ps.set k (some k25)) (gs.set k 1) vl vg T Sl Sg] w := h
                  refine ret_end [.nilIface] [3, 0] h (by kernel_rfl) (res_t (by kernel_rfl) res_n) ?_
                  exact ⟨_, rfl, rfl⟩
                exact ad_nil
              exact ad_nil
            exact ad_nil
          refine ad_new [1, 1] rfl (by kernel_rfl) (fun b => .pointer (some ⟨b, 0, none⟩)) [.int .i64 a0, .int .i64 a1, .int .i64 a2, .int .i64 a3, .int .i64 a4, .int .i64 a5, .pointer none] 90 (fun _ => by kernel_rfl) h ?_ ?_
          · skip
            intro k26 w h; refine ⟨by kernel_rfl, ?_⟩
            refine d_ready [3] (by kernel_rfl) rfl ?_
            refine ad_q [1, 1] rfl (by kernel_rfl) (v := vl) (g_ldr (b := tb) 0 [vl] vl (by kernel_rfl) 3 rfl (rdTab 0 (by kernel_rfl))) h (by kernel_rfl) ?_ ?_
            · skip
              refine d_ready [10] (by kernel_rfl) rfl ?_
              refine ad_q [1, 1] rfl (by kernel_rfl) (v := .pointer (some ⟨blkN vl, offN vl + k * 1, none⟩)) (g_idxS (k := 1) 87 k rfl (by kernel_rfl) hkl 3 rfl slTabL) h (by kernel_rfl) ?_ ?_
              · skip
                refine d_ready [11] (by kernel_rfl) rfl ?_
                refine ad_str [1, 1] rfl (by kernel_rfl) (b := (blkN vl)) (offN vl + k * 1) [.pointer (some ⟨k26, 0, none⟩)] h 3 rfl (by kernel_rfl) (wrTabL (k := k) hkl (some k26)) ?_ ?_
                · skip
                  intro w h; refine ⟨by kernel_rfl, ?_⟩
                  refine d_done (by kernel_rfl) ?_
                  refine thn_n ?_
                  refine c_seq ?_
                  refine c_reg ?_
                  refine sq_p (.nilIface) rfl (fun _ => by kernel_rfl) ?_
                  refine lnil ?_
                  refine thn_n ?_
                  refine c_ret ?_
                  have h := Own.addNone (r := rNone) h (fun _ => trivial) (fun _ h => h)
                  have h := h.pickE (M := [rCell true k26 [.int .i64 a0, .int .i64 a1, .int .i64 a2, .int .i64 a3, .int .i64 a4, .int .i64 a5, .pointer none] 90, rNone, rNds l, rCell true k2 [.int .i64 a0, .int .i64 a1, .int .i64 a2, .int .i64 a3, .int .i64 a4, .int .i64 a5] 51, rCell true k1 [.int .i64 (k : Int), .int .i64 0] 29, rTab tb (ps.set k (some k26)) (gs.set k 1) vl vg T Sl Sg]) [1, 0, 3, 0, 0, 0] (by kernel_rfl)
                  have h := Own.ndPut (l := l) (⟨k26, a0, a1, a2, a3, a4, a5, none⟩ : ND) k h
                  have h : Own w0 E [rNds (l.set k (some (⟨k26, a0, a1, a2, a3, a4, a5, none⟩ : ND))), rCell true k2 [.int .i64 a0, .int .i64 a1, .int .i64 a2, .int .i64 a3, .int .i64 a4, .int .i64 a5] 51, rCell true k1 [.int .i64 (k : Int), .int .i64 0] 29, rTab tb (ps.set k (some k26)) (gs.set k 1) vl vg T Sl Sg] w := h
                  refine ret_end [.nilIface] [3, 0] h (by kernel_rfl) (res_t (by kernel_rfl) res_n) ?_
                  exact ⟨_, rfl, rfl⟩
                exact ad_nil
              exact ad_nil
            exact ad_nil
          exact ad_nil
        exact ad_nil
      exact ad_nil
    exact ad_nil

/- deep: contracts by what is owned (printed by walk.py). -/

/-- Directories one in another: nodes and entries from the place i on, r more behind the first. -/
structure Seg (i r : Nat) (Ls : List ND) (Ds : List DN) : Prop where
  l1 : Ls.length = r + 1
  l2 : Ds.length = r + 1
  nd : ∀ j, j ≤ r → ∃ N, Ls[j]? = some N ∧ N.kind = 2 ∧ N.dq = none ∧ N.change = (((if j < r then 1 else 0 : Nat)) : Int) ∧ N.links = (((if j < r then 3 else 2 : Nat)) : Int)
  dd : ∀ j, j ≤ r → ∃ d, Ds[j]? = some d ∧ d.h = (((i + j : Nat) : Int), 0) ∧ d.es = if j < r then [(⟨#[100]⟩, (((i + j + 1 : Nat) : Int), 0))] else []
theorem Seg.one {i : Nat} {N : ND} {d : DN} (h1 : N.kind = 2) (h2 : N.dq = none) (h3 : N.change = 0) (h4 : N.links = 2) (h5 : d.h = ((i : Int), 0)) (h6 : d.es = []) : Seg i 0 [N] [d] :=
  ⟨rfl, rfl, fun j hj => by obtain rfl : j = 0 := by omega
                            exact ⟨N, rfl, h1, h2, h3, h4⟩, fun j hj => by obtain rfl : j = 0 := by omega
                                                                           exact ⟨d, rfl, h5, h6⟩⟩
theorem Seg.cons {i r : Nat} {Ls : List ND} {Ds : List DN} {N : ND} {d : DN} (h : Seg (i + 1) r Ls Ds) (h1 : N.kind = 2) (h2 : N.dq = none) (h3 : N.change = 1) (h4 : N.links = 3) (h5 : d.h = ((i : Int), 0)) (h6 : d.es = [(⟨#[100]⟩, (((i + 1 : Nat) : Int), 0))]) : Seg i (r + 1) (N :: Ls) (d :: Ds) :=
  ⟨by rw [List.length_cons, h.l1], by rw [List.length_cons, h.l2], fun j hj => by
    cases j with
    | zero => exact ⟨N, rfl, h1, h2, by rw [h3, if_pos (by omega)]; rfl, by rw [h4, if_pos (by omega)]; rfl⟩
    | succ j =>
      obtain ⟨N', a, b, c, d, e⟩ := h.nd j (by omega)
      refine ⟨N', by rw [List.getElem?_cons_succ]; exact a, b, c, ?_, ?_⟩
      · rw [d]; by_cases q : j < r
        · rw [if_pos q, if_pos (by omega)]
        · rw [if_neg q, if_neg (by omega)]
      · rw [e]; by_cases q : j < r
        · rw [if_pos q, if_pos (by omega)]
        · rw [if_neg q, if_neg (by omega)], fun j hj => by
    cases j with
    | zero => exact ⟨d, rfl, h5, by rw [h6, if_pos (by omega)]⟩
    | succ j =>
      obtain ⟨d', a, b, c⟩ := h.dd j (by omega)
      refine ⟨d', by rw [List.getElem?_cons_succ]; exact a, by rw [b, show i + 1 + j = i + (j + 1) by omega], ?_⟩
      rw [c]; by_cases q : j < r
      · rw [if_pos q, if_pos (by omega), show i + 1 + j + 1 = i + (j + 1) + 1 by omega]
      · rw [if_neg q, if_neg (by omega)]⟩
/-- Where each directory's entries are: by number. -/
def HdS (ds : List DN) : Prop := ∀ (j : Nat) (d : DN), ds[j]? = some d → d.h = ((j : Int), 0)
theorem HdS.nodup {ds : List DN} (h : HdS ds) : (ds.map (·.h)).Nodup := by
  rw [List.nodup_iff_pairwise_ne, List.pairwise_iff_getElem]
  intro i j hi hj hij e
  simp only [List.getElem_map] at e
  rw [List.length_map] at hi hj
  rw [h i _ (List.getElem?_eq_getElem hi), h j _ (List.getElem?_eq_getElem hj)] at e
  have := congrArg Prod.fst e
  simp at this
  omega
theorem HdS.new {ds : List DN} (h : HdS ds) {n : Nat} (hn : ds.length ≤ n) : ∀ d ∈ ds, d.h ≠ ((n : Int), 0) := fun d hd e => by
  obtain ⟨j, hj, rfl⟩ := List.mem_iff_getElem.1 hd
  rw [h j _ (List.getElem?_eq_getElem hj)] at e
  have := congrArg Prod.fst e
  simp at this
  omega
theorem HdS.add {ds : List DN} (h : HdS ds) {d : DN} (hd : d.h = ((ds.length : Int), 0)) : HdS (ds ++ [d]) := fun j e hj => by
  by_cases q : j < ds.length
  · rw [List.getElem?_append_left q] at hj; exact h j e hj
  · rw [List.getElem?_append_right (by omega)] at hj
    have hl := (List.getElem?_eq_some_iff.1 hj).1
    simp at hl
    obtain rfl : j = ds.length := by omega
    simp at hj
    rw [← hj, hd]
theorem num_suf (n : Nat) (t : Tx) : t.length ≤ (numK n t).length := by unfold numK; rw [itK_len]; omega
theorem it_suf (x t : Tx) : t.length ≤ (itK x t).length := by rw [itK_len]; omega

theorem putL_spec (b m tb dm pm : Nat) (vl vg : Value) (T : TypeId) (Sl Sg : Nat → Prop) (L : List ND) (hm : L.length < m) (a0 a1 a2 a3 a4 a5 : Int) : Spec Tryz.prog 26 #[.pointer (some ⟨tb, 0, none⟩), .agg #[.int .i64 (L.length : Int), .int .i64 0], .agg #[.int .i64 a0, .int .i64 a1, .int .i64 a2, .int .i64 a3, .int .i64 a4, .int .i64 a5], .pointer none, .bool false] [rTab tb (psO m L) (gsO m L) vl vg T Sl Sg, rNds (lO m L)] fun u X => ∃ nb, u = .nilIface ∧ X = [rTab tb (psO m (L ++ [(⟨nb, a0, a1, a2, a3, a4, a5, none⟩ : ND)])) (gsO m (L ++ [(⟨nb, a0, a1, a2, a3, a4, a5, none⟩ : ND)])) vl vg T Sl Sg, rNds (lO m (L ++ [(⟨nb, a0, a1, a2, a3, a4, a5, none⟩ : ND)]))] :=
  (put_spec tb (psO m L) (gsO m L) vl vg T Sl Sg (lO m L) L.length (by have := padO_next (z := (none : Option Nat)) (A := L.map fun N => some N.nb) (m := m) (by simpa using hm); rw [List.length_map] at this; exact this) (by have := padO_next (z := (0 : Int)) (A := L.map fun _ => (1 : Int)) (m := m) (by simpa using hm); rw [List.length_map] at this; exact this) a0 a1 a2 a3 a4 a5).mono fun u X h => by
    obtain ⟨nb, rfl, rfl⟩ := h
    refine ⟨nb, rfl, ?_⟩
    have e1 : (psO m L).set L.length (some nb) = psO m (L ++ [(⟨nb, a0, a1, a2, a3, a4, a5, none⟩ : ND)]) := psO_add (⟨nb, a0, a1, a2, a3, a4, a5, none⟩ : ND) hm
    rw [e1, gsO_add (⟨nb, a0, a1, a2, a3, a4, a5, none⟩ : ND) hm, lO_add _ hm]
theorem linkP_spec {B : Nat} (ad : Nat → Addr) (b m tb dm pm : Nat) (vl vg : Value) (T : TypeId) (Sl Sg : Nat → Prop) (L : List ND) (hm : L.length ≤ m) (k : Nat) (N : ND) (hkL : L[k]? = some N) (mo : Int) (hmo : -1 ≤ mo ∧ mo ≤ 1) (hli : 0 ≤ N.links ∧ N.links ≤ 1000000) : Spec Tryz.prog 17 #[.pointer (some ⟨b, 0, none⟩), .agg #[.int .i64 (k : Int), .int .i64 0], .int .i64 mo] [rCell true b [.pointer (some ⟨tb, 0, none⟩), .int .i64 (m : Int), .int .i64 0, .int .i64 0, .map (some dm), .map (some pm)] 46, rTab tb (psO m L) (gsO m L) vl vg T Sl Sg, rNds (lO m L), rEnv B ad [10]] fun u X => X = [rCell true b [.pointer (some ⟨tb, 0, none⟩), .int .i64 (m : Int), .int .i64 0, .int .i64 0, .map (some dm), .map (some pm)] 46, rTab tb (psO m (L.set k (linkN N mo))) (gsO m (L.set k (linkN N mo))) vl vg T Sl Sg, rNds (lO m (L.set k (linkN N mo))), rEnv B ad [10]] :=
  (links_spec ad b m tb dm pm (psO m L) (gsO m L) vl vg T Sl Sg (lO m L) [] [] (by rw [psO_len hm, gsO_len hm]) gsO_rng (k : Int) 0 k N (lO_get hkL) (atOf_psO hkL) mo hmo hli).mono fun u X h => by
    rw [h, psO_set (N := linkN N mo) hkL rfl, gsO_set (linkN N mo), lO_set _ (List.getElem?_eq_some_iff.1 hkL).1]

theorem lput_spec (lb fm : Nat) (sx : ByteArray) (b m tb dm pm : Nat) (vl vg : Value) (T : TypeId) (Sl Sg : Nat → Prop) (L : List ND) (hm : L.length < m) (a0 a1 a2 a3 a4 a5 : Int)  : Spec Tryz.prog 42 #[.pointer (some ⟨lb, 0, none⟩), .agg #[.int .i64 (L.length : Int), .int .i64 0], .agg #[.int .i64 a0, .int .i64 a1, .int .i64 a2, .int .i64 a3, .int .i64 a4, .int .i64 a5], .pointer none] [rCell true lb [.string sx, .pointer (some ⟨b, 0, none⟩), .map (some fm)] 62, rCell true b [.pointer (some ⟨tb, 0, none⟩), .int .i64 (m : Int), .int .i64 0, .int .i64 0, .map (some dm), .map (some pm)] 46, rTab tb (psO m L) (gsO m L) vl vg T Sl Sg, rNds (lO m L)] (fun u X => ∃ nb, u = .tuple #[] ∧ X = [rCell true lb [.string sx, .pointer (some ⟨b, 0, none⟩), .map (some fm)] 62, rCell true b [.pointer (some ⟨tb, 0, none⟩), .int .i64 (m : Int), .int .i64 0, .int .i64 0, .map (some dm), .map (some pm)] 46, rTab tb (psO m (L ++ [(⟨nb, a0, a1, a2, a3, a4, a5, none⟩ : ND)])) (gsO m (L ++ [(⟨nb, a0, a1, a2, a3, a4, a5, none⟩ : ND)])) vl vg T Sl Sg, rNds (lO m (L ++ [(⟨nb, a0, a1, a2, a3, a4, a5, none⟩ : ND)]))]) := by
  refine spec_of (#[.pointer (some ⟨lb, 0, none⟩), .agg #[.int .i64 (L.length : Int), .int .i64 0], .agg #[.int .i64 a0, .int .i64 a1, .int .i64 a2, .int .i64 a3, .int .i64 a4, .int .i64 a5], .pointer none, undef, undef, undef, undef, undef, undef, undef, undef, undef, undef, undef, undef, undef, undef, undef, undef, undef]) Tryz.func42 rfl (by kernel_rfl) fun E w0 w h => ?_
  refine c_seq ?_
  refine c_reg ?_
  refine sq_new rfl (fun b => .pointer (some ⟨b, 0, none⟩)) [.int .i64 (L.length : Int), .int .i64 0] 29 (fun _ => by kernel_rfl) h ?_; intro k1 w h
  refine sq_new rfl (fun b => .pointer (some ⟨b, 0, none⟩)) [.int .i64 a0, .int .i64 a1, .int .i64 a2, .int .i64 a3, .int .i64 a4, .int .i64 a5] 51 (fun _ => by kernel_rfl) h ?_; intro k2 w h
  refine lnil ?_
  refine thn_n ?_
  refine d_start 13 [0, 0, 0, 0] (by kernel_rfl) h fun w h => ?_
  refine d_take 0 896 [0, 0, 0, 0] rfl (v := .pointer (some ⟨lb, 0, none⟩)) (by kernel_rfl) qp_body (yq (by kernel_rfl) (g_pure (v := .pointer (some ⟨lb, 0, none⟩)) fun _ => by kernel_rfl)) h (by kernel_rfl) ?_
  refine d_take 1 897 [0, 0, 0, 0] rfl (v := .pointer (some ⟨lb, 0, none⟩)) (by kernel_rfl) qp_body (yq (by kernel_rfl) (g_pure (v := .pointer (some ⟨lb, 0, none⟩)) fun _ => by kernel_rfl)) h (by kernel_rfl) ?_
  refine d_take 2 899 [0, 0, 0, 0] rfl (v := .pointer (some ⟨lb, 1, none⟩)) (by kernel_rfl) qp_body (yq (by kernel_rfl) (g_pure (v := .pointer (some ⟨lb, 1, none⟩)) fun _ => by kernel_rfl)) h (by kernel_rfl) ?_
  refine d_take 3 903 [0, 0, 0, 0] rfl (v := .pointer (some ⟨b, 0, none⟩)) (by kernel_rfl) qp_body (yq (by kernel_rfl) (g_ld 1 [.pointer (some ⟨b, 0, none⟩)] (.pointer (some ⟨b, 0, none⟩)) (by kernel_rfl) 2 rfl)) h (by kernel_rfl) ?_
  refine d_take 4 911 [0, 0, 0, 0] rfl (v := .pointer (some ⟨b, 0, none⟩)) (by kernel_rfl) qp_body (yq (by kernel_rfl) (g_pure (v := .pointer (some ⟨b, 0, none⟩)) fun _ => by kernel_rfl)) h (by kernel_rfl) ?_
  refine d_take 5 927 [0, 0, 0, 0] rfl (v := .pointer (some ⟨b, 0, none⟩)) (by kernel_rfl) qp_body (yq (by kernel_rfl) (g_pure (v := .pointer (some ⟨b, 0, none⟩)) fun _ => by kernel_rfl)) h (by kernel_rfl) ?_
  refine d_take 6 959 [0, 0, 0, 0] rfl (v := .pointer (some ⟨tb, 0, none⟩)) (by kernel_rfl) qp_body (yq (by kernel_rfl) (g_ld 0 [.pointer (some ⟨tb, 0, none⟩)] (.pointer (some ⟨tb, 0, none⟩)) (by kernel_rfl) 3 rfl)) h (by kernel_rfl) ?_
  refine d_take 7 895 [0, 0, 0, 0] rfl (v := .agg #[.int .i64 (L.length : Int), .int .i64 0]) (by kernel_rfl) qp_body (yq (by kernel_rfl) (g_ld 0 [.int .i64 (L.length : Int), .int .i64 0] (.agg #[.int .i64 (L.length : Int), .int .i64 0]) (by kernel_rfl) 1 rfl)) h (by kernel_rfl) ?_
  refine d_take 8 767 [0, 0, 0, 0] rfl (v := .agg #[.int .i64 a0, .int .i64 a1, .int .i64 a2, .int .i64 a3, .int .i64 a4, .int .i64 a5]) (by kernel_rfl) qp_body (yq (by kernel_rfl) (g_ld 0 [.int .i64 a0, .int .i64 a1, .int .i64 a2, .int .i64 a3, .int .i64 a4, .int .i64 a5] (.agg #[.int .i64 a0, .int .i64 a1, .int .i64 a2, .int .i64 a3, .int .i64 a4, .int .i64 a5]) (by kernel_rfl) 0 rfl)) h (by kernel_rfl) ?_
  refine d_take 9 511 [0, 0, 0, 0] rfl (v := .pointer none) (by kernel_rfl) qp_body (yq (by kernel_rfl) (g_pure (v := .pointer none) fun _ => by kernel_rfl)) h (by kernel_rfl) ?_
  refine d_ready [10] (by kernel_rfl) rfl ?_
  refine ad_call #[.pointer (some ⟨tb, 0, none⟩), .agg #[.int .i64 (L.length : Int), .int .i64 0], .agg #[.int .i64 a0, .int .i64 a1, .int .i64 a2, .int .i64 a3, .int .i64 a4, .int .i64 a5], .pointer none, .bool false] [4, 4] [2, 2, 2, 2] rfl (by kernel_rfl) (putL_spec b m tb dm pm vl vg T Sl Sg L hm a0 a1 a2 a3 a4 a5) (fun _ => by kernel_rfl) h ?_ ?_
  · skip
    rintro v_ L_ w ⟨nb3, rfl, rfl⟩ h
    refine ⟨by kernel_rfl, ?_⟩
    refine d_take 11 2047 [2, 2, 2, 2] rfl (v := .bool true) (by kernel_rfl) qp_body (yq (by kernel_rfl) (g_pure (v := .bool true) fun _ => by kernel_rfl)) h (by kernel_rfl) ?_
    refine d_ready [12] (by kernel_rfl) rfl ?_
    refine ad_call #[.bool true] [] [2, 2, 2, 2] rfl (by kernel_rfl) (must_spec) (fun _ => by kernel_rfl) h ?_ ?_
    · skip
      rintro v_ L_ w ⟨rfl, rfl⟩ h
      refine ⟨by kernel_rfl, ?_⟩
      refine d_done (by kernel_rfl) ?_
      refine ret_end [] [4, 4, 0, 0] h (by kernel_rfl) (res_n) ?_
      exact ⟨_, rfl, rfl⟩
    exact ad_nil
  exact ad_nil

/- A slice made of so many noughts, by what is owned. Over any program, no condition. -/
section
variable {P : Program} {w0 w : World} {En : Ent} {L : List Res} {a : Act} {K : Act → World → Prop} {Q : Exit → Act → World → Prop} {rest : List Oper} {ops : Array Oper} {dst : Option Tmp} {T : TypeId} {n1 n2 : Operand} {ty : TypeId} {pos : String} {after : Array Edge} {g : Option (Nat × Bool)} {E : TypeId} {α : Type} {enc : α → List Value} {x0 : α} {z : Value} {n bytes : Nat}
theorem rep_flat2 (h : enc x0 = [z]) : ∀ n : Nat, (List.replicate n x0).flatMap enc = List.replicate n z
  | 0 => rfl
  | n + 1 => by rw [List.replicate_succ, List.flatMap_cons, rep_flat2 h n, h, List.replicate_succ]; rfl
theorem op_mks (x0 : α) (n : Nat) (henc : enc x0 = [z]) (hx : (a.eval n1, a.eval n2, P.underlying T, (P.info? E).map (fun i => (i.zero, i.size, i.bytes))) = (.int .i64 (n : Int), .int .i64 (n : Int), some (.slice E), some (some z, 1, bytes))) (hz : z.cells = #[z]) (hb : bytes * n ≤ 281474976710656) (hn : n ≤ 9223372036854775807) (h : Own w0 En L w)
    (hK : ∀ v w', Own w0 En (rRows true v E 1 enc (List.replicate n x0) :: L) w' → K (a.put dst v) w') : Oper.wp P ⟨dst, .makeSlice T n1 n2, ty, pos, after, g⟩ a w K Q := by
  simp only [Prod.mk.injEq] at hx
  obtain ⟨h1, h2, h3, h4⟩ := hx
  have hrun := mk_one (P := P) h3 h4 hz w n hb hn
  unfold Oper.wp
  simp [execOp, h1, h2, hrun, Result.andThen, Oper.upon]
  refine hK _ _ (h.push ((Chg.refl Nil w).alloc _) (r := rRows true (.slice (some ⟨w.heap.size, 0, none⟩) n n) E 1 enc (List.replicate n x0)) ?_ fun b hb => ?_)
  · show SliceAt _ _ _ _ _ _ _
    rw [List.length_replicate, rep_flat2 henc]
    exact (sliceAt_made' hn (block_alloc w _)).own.1
  · have : b = w.heap.size := by
      have hb' : blkOf (Value.slice (some ⟨w.heap.size, 0, none⟩) n n) b := hb
      simpa [blkOf] using hb'
    omega
theorem sq_mks (hg : Region.wanted ⟨dst, .makeSlice T n1 n2, ty, pos, after, g⟩ (yielded ops a.tmps) = true) (x0 : α) (n : Nat) (henc : enc x0 = [z]) (hx : (a.eval n1, a.eval n2, P.underlying T, (P.info? E).map (fun i => (i.zero, i.size, i.bytes))) = (.int .i64 (n : Int), .int .i64 (n : Int), some (.slice E), some (some z, 1, bytes))) (hz : z.cells = #[z]) (hb : bytes * n ≤ 281474976710656) (hn : n ≤ 9223372036854775807) (h : Own w0 En L w)
    (hK : ∀ v w', Own w0 En (rRows true v E 1 enc (List.replicate n x0) :: L) w' → LW P ops Q rest (a.put dst v) w') : LW P ops Q (⟨dst, .makeSlice T n1 n2, ty, pos, after, g⟩ :: rest) a w :=
  ⟨sqg hg (op_mks x0 n henc hx hz hb hn h fun v w' h => (hK v w' h).out)⟩
end
/-- What is known behind a piece of code. -/
def midM {X : Type} (w0 : World) (E : Ent) (A : X → Act) (R : X → List Res) (G : X → Prop) : Act → World → Prop := fun a w => ∃ x, G x ∧ a = A x ∧ Own w0 E (R x) w

end Go.Proofs.YtbdolnbgjkhdnaaGreatDoor
