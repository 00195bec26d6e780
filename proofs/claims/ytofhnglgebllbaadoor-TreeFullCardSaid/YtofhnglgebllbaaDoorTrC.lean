/- tree: contracts by what is owned (printed by walk.py). -/
import Derived.Test.YtofhnglgebllbaaDoorTrB
namespace Go.Proofs.YtofhnglgebllbaaDoor
open Go.RowKit
set_option linter.unusedVariables false
set_option linter.unusedSimpArgs false
set_option linter.unnecessarySimpa false
set_option maxRecDepth 100000

def linkN (N : ND) (m : Int) : ND := { N with kind := N.kind, size := ndSize N, links := N.links + m, upn := N.upn, upg := N.upg }
def touchN (N : ND) : ND := { N with change := N.change + 1 }
def keepN (N : ND) (a0 a1 a2 a4 a5 : Int) : ND := { N with kind := a0, size := a1, links := a2, upn := a4, upg := a5 }
theorem atOf_self {ps : List (Option Nat)} {gs : List Int} {k nb : Nat} {x : Int} (h1 : k < ps.length) (h2 : k < gs.length) : atOf (ps.set k (some nb)) (gs.set k (x + 1)) (k : Int) x = some nb := by
  rw [atOf_in (p := some nb) (x := x + 1) (List.getElem?_set_self h1) (List.getElem?_set_self h2)]
  simp
theorem atOf_ne {ps : List (Option Nat)} {gs : List Int} {k i nb : Nat} {p : Option Nat} {y g : Int} (h : atOf ps gs (i : Int) g = some nb) (hn : k ≠ i) : atOf (ps.set k p) (gs.set k y) (i : Int) g = some nb := by
  have hl : i < ps.length ∧ i < gs.length := by
    unfold atOf at h
    split at h
    · cases h
    · rename_i hb
      refine ⟨by omega, ?_⟩
      simp only [Int.toNat_natCast] at h
      split at h
      · rename_i h1 h2; exact (List.getElem?_eq_some_iff.1 h2).1
      · cases h
  rw [← h, atOf_in (List.getElem?_eq_getElem hl.1) (List.getElem?_eq_getElem hl.2), atOf_in (p := ps[i]) (x := gs[i]) (by rw [List.getElem?_set_ne hn, List.getElem?_eq_getElem hl.1]) (by rw [List.getElem?_set_ne hn, List.getElem?_eq_getElem hl.2])]
theorem get_ne {α : Type} {l : List α} {k i : Nat} {x y : α} (h : l[i]? = some y) (hn : k ≠ i) : (l.set k x)[i]? = some y := by rw [List.getElem?_set_ne hn, h]
theorem get_at {α : Type} {l : List α} {k : Nat} {x : α} (h : k < l.length) : (l.set k x)[k]? = some x := List.getElem?_set_self h
theorem get_lt {α : Type} {l : List α} {k : Nat} {x : α} (h : l[k]? = some x) : k < l.length := (List.getElem?_eq_some_iff.1 h).1
theorem rng_set {gs : List Int} {k : Nat} {x : Int} (hr : ∀ y ∈ gs, 0 ≤ y ∧ y ≤ 1000000) (hx : gs[k]? = some x) (hb : x ≤ 1000) : ∀ y ∈ gs.set k (x + 1), 0 ≤ y ∧ y ≤ 1000000 := fun y hy => by
  rcases List.mem_or_eq_of_mem_set hy with hy | rfl
  · exact hr y hy
  · have := hr x (List.mem_of_getElem? hx); omega
theorem len_set {α β : Type} {l : List α} {m : List β} {k j : Nat} {x : α} {y : β} (h : l.length = m.length) : (l.set k x).length = (m.set j y).length := by simpa using h

set_option maxHeartbeats 1000000 in
theorem links_spec {B : Nat} (ad : Nat → Addr) (b most tb dm pm : Nat) (ps : List (Option Nat)) (gs : List Int) (vl vg : Value) (T : TypeId) (Sl Sg : Nat → Prop) (l : List (Option ND)) (ds : List DN) (pn : List ((Int × Int) × Int)) (hl : ps.length = gs.length) (hr : ∀ x ∈ gs, 0 ≤ x ∧ x ≤ 1000000) (n g : Int) (k : Nat) (N : ND) (hlk : l[k]? = some (some N)) (ha : atOf ps gs n g = some N.nb) (m : Int) (hm : -1 ≤ m ∧ m ≤ 1) (hli : 0 ≤ N.links ∧ N.links ≤ 1000000)  : Spec Tryd.prog 99 #[.pointer (some ⟨b, 0, none⟩), .agg #[.int .i64 n, .int .i64 g], .int .i64 m] [rCell true b [.pointer (some ⟨tb, 0, none⟩), .int .i64 (most : Int), .int .i64 0, .int .i64 0, .map (some dm), .map (some pm)] 175, rTab tb ps gs vl vg T Sl Sg, rNds l, rEnv B ad [10]] (fun u L => L = [rCell true b [.pointer (some ⟨tb, 0, none⟩), .int .i64 (most : Int), .int .i64 0, .int .i64 0, .map (some dm), .map (some pm)] 175, rTab tb ps gs vl vg T Sl Sg, rNds (l.set k (some (linkN N m))), rEnv B ad [10]]) := by
  refine spec_of (#[.pointer (some ⟨b, 0, none⟩), .agg #[.int .i64 n, .int .i64 g], .int .i64 m, undef, undef, undef, undef, undef, undef, undef, undef, undef, undef, undef, undef, undef, undef, undef, undef, undef, undef, undef, undef, undef, undef, undef, undef, undef, undef]) Tryd.func99 rfl (by kernel_rfl) fun E w0 w h => ?_
  refine c_seq ?_
  refine c_reg ?_
  refine sq_new rfl (fun b => .pointer (some ⟨b, 0, none⟩)) [.int .i64 n, .int .i64 g] 29 (fun _ => by kernel_rfl) h ?_; intro k1 w h
  refine lnil ?_
  refine thn_n ?_
  refine c_seq ?_
  refine d_start 12 [0, 0] (by kernel_rfl) h fun w h => ?_
  refine d_take 0 528 [0, 0] rfl (v := .pointer (some ⟨b, 0, none⟩)) (by kernel_rfl) (qp_thn qp_body) (yq (by kernel_rfl) (g_pure (v := .pointer (some ⟨b, 0, none⟩)) fun _ => by kernel_rfl)) h (by kernel_rfl) ?_
  refine d_take 1 529 [0, 0] rfl (v := .pointer (some ⟨b, 0, none⟩)) (by kernel_rfl) (qp_thn qp_body) (yq (by kernel_rfl) (g_pure (v := .pointer (some ⟨b, 0, none⟩)) fun _ => by kernel_rfl)) h (by kernel_rfl) ?_
  refine d_take 2 531 [0, 0] rfl (v := .pointer (some ⟨b, 0, none⟩)) (by kernel_rfl) (qp_thn qp_body) (yq (by kernel_rfl) (g_pure (v := .pointer (some ⟨b, 0, none⟩)) fun _ => by kernel_rfl)) h (by kernel_rfl) ?_
  refine d_take 3 535 [0, 0] rfl (v := .pointer (some ⟨tb, 0, none⟩)) (by kernel_rfl) (qp_thn qp_body) (yq (by kernel_rfl) (g_ld 0 [.pointer (some ⟨tb, 0, none⟩)] (.pointer (some ⟨tb, 0, none⟩)) (by kernel_rfl) 1 rfl)) h (by kernel_rfl) ?_
  refine d_take 4 527 [0, 0] rfl (v := .agg #[.int .i64 n, .int .i64 g]) (by kernel_rfl) (qp_thn qp_body) (yq (by kernel_rfl) (g_ld 0 [.int .i64 n, .int .i64 g] (.agg #[.int .i64 n, .int .i64 g]) (by kernel_rfl) 0 rfl)) h (by kernel_rfl) ?_
  refine d_ready [5, 9] (by kernel_rfl) rfl ?_
  refine ad_call #[.pointer (some ⟨tb, 0, none⟩), .agg #[.int .i64 n, .int .i64 g]] [2, 2, 2] [3, 3] rfl (by kernel_rfl) (attrY_spec ad tb ps gs vl vg T Sl Sg l hl hr n g k N hlk ha) (fun _ => by kernel_rfl) h ?_ ?_
  · skip
    rintro v_ L_ w ⟨rfl, rfl⟩ h
    refine ⟨by kernel_rfl, ?_⟩
    refine d_take 6 575 [3, 3] rfl (v := .tuple #[.agg #[.int .i64 N.kind, .int .i64 (ndSize N), .int .i64 N.links, .int .i64 N.change, .int .i64 N.upn, .int .i64 N.upg], .nilIface]) (by kernel_rfl) (qp_thn qp_body) (yq (by kernel_rfl) (g_pure (v := .tuple #[.agg #[.int .i64 N.kind, .int .i64 (ndSize N), .int .i64 N.links, .int .i64 N.change, .int .i64 N.upn, .int .i64 N.upg], .nilIface]) fun _ => by kernel_rfl)) h (by kernel_rfl) ?_
    refine d_take 7 895 [3, 3] rfl (v := .agg #[.int .i64 N.kind, .int .i64 (ndSize N), .int .i64 N.links, .int .i64 N.change, .int .i64 N.upn, .int .i64 N.upg]) (by kernel_rfl) (qp_thn qp_body) (yq (by kernel_rfl) (g_pure (v := .agg #[.int .i64 N.kind, .int .i64 (ndSize N), .int .i64 N.links, .int .i64 N.change, .int .i64 N.upn, .int .i64 N.upg]) fun _ => by kernel_rfl)) h (by kernel_rfl) ?_
    refine d_take 8 1791 [3, 3] rfl (v := .nilIface) (by kernel_rfl) (qp_thn qp_body) (yq (by kernel_rfl) (g_pure (v := .nilIface) fun _ => by kernel_rfl)) h (by kernel_rfl) ?_
    refine d_ready [9] (by kernel_rfl) rfl ?_
    refine ad_new [4, 4] rfl (by kernel_rfl) (fun b => .pointer (some ⟨b, 0, none⟩)) [.int .i64 0, .int .i64 0, .int .i64 0, .int .i64 0, .int .i64 0, .int .i64 0] 180 (fun _ => by kernel_rfl) h ?_ ?_
    · skip
      intro k2 w h; refine ⟨by kernel_rfl, ?_⟩
      refine d_ready [10] (by kernel_rfl) rfl ?_
      refine ad_st [4, 4] rfl (by kernel_rfl) 0 [.int .i64 N.kind, .int .i64 (ndSize N), .int .i64 N.links, .int .i64 N.change, .int .i64 N.upn, .int .i64 N.upg] [.int .i64 N.kind, .int .i64 (ndSize N), .int .i64 N.links, .int .i64 N.change, .int .i64 N.upn, .int .i64 N.upg] h 0 rfl (by kernel_rfl) ?_ ?_
      · skip
        intro w h; refine ⟨by kernel_rfl, ?_⟩
        refine d_take 11 2047 [4, 4] rfl (v := .nilIface) (by kernel_rfl) (qp_thn qp_body) (yq (by kernel_rfl) (g_pure (v := .nilIface) fun _ => by kernel_rfl)) h (by kernel_rfl) ?_
        refine d_done (by kernel_rfl) ?_
        refine thn_n ?_
        refine c_seq ?_
        refine c_reg ?_
        refine sq_p (.pointer (some ⟨k2, 2, none⟩)) rfl (fun _ => by kernel_rfl) ?_
        refine sq_q rfl h (g_ld 2 [.int .i64 N.links] (.int .i64 N.links) (by kernel_rfl) 0 rfl) ?_
        refine sq_p (.int .i64 m) rfl (fun _ => by kernel_rfl) ?_
        refine sq_q rfl h (g_eq (v := .int .i64 (IntKind.i64.wrap (N.links + m))) (v' := .int .i64 (N.links + m)) (g_pure fun _ => by kernel_rfl) (wr (by omega))) ?_
        refine sq_p (.pointer (some ⟨k2, 2, none⟩)) rfl (fun _ => by kernel_rfl) ?_
        refine sq_st rfl 2 [.int .i64 (N.links + m)] [.int .i64 N.kind, .int .i64 (ndSize N), .int .i64 (N.links + m), .int .i64 N.change, .int .i64 N.upn, .int .i64 N.upg] h 0 rfl (by kernel_rfl) ?_; intro w h
        refine lnil ?_
        refine thn_n ?_
        refine d_start 7 [0, 3, 3] (by kernel_rfl) h fun w h => ?_
        refine d_take 0 48 [0, 3, 3] rfl (v := .pointer (some ⟨b, 0, none⟩)) (by kernel_rfl) qp_body (yq (by kernel_rfl) (g_pure (v := .pointer (some ⟨b, 0, none⟩)) fun _ => by kernel_rfl)) h (by kernel_rfl) ?_
        refine d_take 1 49 [0, 3, 3] rfl (v := .pointer (some ⟨b, 0, none⟩)) (by kernel_rfl) qp_body (yq (by kernel_rfl) (g_pure (v := .pointer (some ⟨b, 0, none⟩)) fun _ => by kernel_rfl)) h (by kernel_rfl) ?_
        refine d_take 2 51 [0, 3, 3] rfl (v := .pointer (some ⟨b, 0, none⟩)) (by kernel_rfl) qp_body (yq (by kernel_rfl) (g_pure (v := .pointer (some ⟨b, 0, none⟩)) fun _ => by kernel_rfl)) h (by kernel_rfl) ?_
        refine d_take 3 55 [0, 3, 3] rfl (v := .pointer (some ⟨tb, 0, none⟩)) (by kernel_rfl) qp_body (yq (by kernel_rfl) (g_ld 0 [.pointer (some ⟨tb, 0, none⟩)] (.pointer (some ⟨tb, 0, none⟩)) (by kernel_rfl) 2 rfl)) h (by kernel_rfl) ?_
        refine d_take 4 47 [0, 3, 3] rfl (v := .agg #[.int .i64 n, .int .i64 g]) (by kernel_rfl) qp_body (yq (by kernel_rfl) (g_ld 0 [.int .i64 n, .int .i64 g] (.agg #[.int .i64 n, .int .i64 g]) (by kernel_rfl) 1 rfl)) h (by kernel_rfl) ?_
        refine d_take 5 31 [0, 3, 3] rfl (v := .agg #[.int .i64 N.kind, .int .i64 (ndSize N), .int .i64 (N.links + m), .int .i64 N.change, .int .i64 N.upn, .int .i64 N.upg]) (by kernel_rfl) qp_body (yq (by kernel_rfl) (g_ld 0 [.int .i64 N.kind, .int .i64 (ndSize N), .int .i64 (N.links + m), .int .i64 N.change, .int .i64 N.upn, .int .i64 N.upg] (.agg #[.int .i64 N.kind, .int .i64 (ndSize N), .int .i64 (N.links + m), .int .i64 N.change, .int .i64 N.upn, .int .i64 N.upg]) (by kernel_rfl) 0 rfl)) h (by kernel_rfl) ?_
        refine d_ready [6] (by kernel_rfl) rfl ?_
        refine ad_call #[.pointer (some ⟨tb, 0, none⟩), .agg #[.int .i64 n, .int .i64 g], .agg #[.int .i64 N.kind, .int .i64 (ndSize N), .int .i64 (N.links + m), .int .i64 N.change, .int .i64 N.upn, .int .i64 N.upg]] [1, 1, 1] [3, 3, 3] rfl (by kernel_rfl) (keep_spec ad tb ps gs vl vg T Sl Sg l hl hr n g k N hlk ha N.kind (ndSize N) (N.links + m) N.change N.upn N.upg) (fun _ => by kernel_rfl) h ?_ ?_
        · skip
          rintro _ L_ w rfl h
          refine ⟨by kernel_rfl, ?_⟩
          refine d_done (by kernel_rfl) ?_
          refine ret_end [] [5, 0, 0, 0] h (by kernel_rfl) (res_n) ?_
          exact rfl
        exact ad_nil
      exact ad_nil
    exact ad_nil
  refine ad_new [1, 1] rfl (by kernel_rfl) (fun b => .pointer (some ⟨b, 0, none⟩)) [.int .i64 0, .int .i64 0, .int .i64 0, .int .i64 0, .int .i64 0, .int .i64 0] 180 (fun _ => by kernel_rfl) h ?_ ?_
  · skip
    intro k3 w h; refine ⟨by kernel_rfl, ?_⟩
    refine d_ready [5] (by kernel_rfl) rfl ?_
    refine ad_call #[.pointer (some ⟨tb, 0, none⟩), .agg #[.int .i64 n, .int .i64 g]] [3, 3, 3] [4, 4] rfl (by kernel_rfl) (attrY_spec ad tb ps gs vl vg T Sl Sg l hl hr n g k N hlk ha) (fun _ => by kernel_rfl) h ?_ ?_
    · skip
      rintro v_ L_ w ⟨rfl, rfl⟩ h
      refine ⟨by kernel_rfl, ?_⟩
      refine d_take 6 575 [4, 4] rfl (v := .tuple #[.agg #[.int .i64 N.kind, .int .i64 (ndSize N), .int .i64 N.links, .int .i64 N.change, .int .i64 N.upn, .int .i64 N.upg], .nilIface]) (by kernel_rfl) (qp_thn qp_body) (yq (by kernel_rfl) (g_pure (v := .tuple #[.agg #[.int .i64 N.kind, .int .i64 (ndSize N), .int .i64 N.links, .int .i64 N.change, .int .i64 N.upn, .int .i64 N.upg], .nilIface]) fun _ => by kernel_rfl)) h (by kernel_rfl) ?_
      refine d_take 7 895 [4, 4] rfl (v := .agg #[.int .i64 N.kind, .int .i64 (ndSize N), .int .i64 N.links, .int .i64 N.change, .int .i64 N.upn, .int .i64 N.upg]) (by kernel_rfl) (qp_thn qp_body) (yq (by kernel_rfl) (g_pure (v := .agg #[.int .i64 N.kind, .int .i64 (ndSize N), .int .i64 N.links, .int .i64 N.change, .int .i64 N.upn, .int .i64 N.upg]) fun _ => by kernel_rfl)) h (by kernel_rfl) ?_
      refine d_take 8 1791 [4, 4] rfl (v := .nilIface) (by kernel_rfl) (qp_thn qp_body) (yq (by kernel_rfl) (g_pure (v := .nilIface) fun _ => by kernel_rfl)) h (by kernel_rfl) ?_
      refine d_ready [10] (by kernel_rfl) rfl ?_
      refine ad_st [4, 4] rfl (by kernel_rfl) 0 [.int .i64 N.kind, .int .i64 (ndSize N), .int .i64 N.links, .int .i64 N.change, .int .i64 N.upn, .int .i64 N.upg] [.int .i64 N.kind, .int .i64 (ndSize N), .int .i64 N.links, .int .i64 N.change, .int .i64 N.upn, .int .i64 N.upg] h 3 rfl (by kernel_rfl) ?_ ?_
      · skip
        intro w h; refine ⟨by kernel_rfl, ?_⟩
        refine d_take 11 2047 [4, 4] rfl (v := .nilIface) (by kernel_rfl) (qp_thn qp_body) (yq (by kernel_rfl) (g_pure (v := .nilIface) fun _ => by kernel_rfl)) h (by kernel_rfl) ?_
        refine d_done (by kernel_rfl) ?_
        refine thn_n ?_
        refine c_seq ?_
        refine c_reg ?_
        refine sq_p (.pointer (some ⟨k3, 2, none⟩)) rfl (fun _ => by kernel_rfl) ?_
        refine sq_q rfl h (g_ld 2 [.int .i64 N.links] (.int .i64 N.links) (by kernel_rfl) 3 rfl) ?_
        refine sq_p (.int .i64 m) rfl (fun _ => by kernel_rfl) ?_
        refine sq_q rfl h (g_eq (v := .int .i64 (IntKind.i64.wrap (N.links + m))) (v' := .int .i64 (N.links + m)) (g_pure fun _ => by kernel_rfl) (wr (by omega))) ?_
        refine sq_p (.pointer (some ⟨k3, 2, none⟩)) rfl (fun _ => by kernel_rfl) ?_
        refine sq_st rfl 2 [.int .i64 (N.links + m)] [.int .i64 N.kind, .int .i64 (ndSize N), .int .i64 (N.links + m), .int .i64 N.change, .int .i64 N.upn, .int .i64 N.upg] h 3 rfl (by kernel_rfl) ?_; intro w h
        refine lnil ?_
        refine thn_n ?_
        refine d_start 7 [3, 3, 3] (by kernel_rfl) h fun w h => ?_
        refine d_take 0 48 [3, 3, 3] rfl (v := .pointer (some ⟨b, 0, none⟩)) (by kernel_rfl) qp_body (yq (by kernel_rfl) (g_pure (v := .pointer (some ⟨b, 0, none⟩)) fun _ => by kernel_rfl)) h (by kernel_rfl) ?_
        refine d_take 1 49 [3, 3, 3] rfl (v := .pointer (some ⟨b, 0, none⟩)) (by kernel_rfl) qp_body (yq (by kernel_rfl) (g_pure (v := .pointer (some ⟨b, 0, none⟩)) fun _ => by kernel_rfl)) h (by kernel_rfl) ?_
        refine d_take 2 51 [3, 3, 3] rfl (v := .pointer (some ⟨b, 0, none⟩)) (by kernel_rfl) qp_body (yq (by kernel_rfl) (g_pure (v := .pointer (some ⟨b, 0, none⟩)) fun _ => by kernel_rfl)) h (by kernel_rfl) ?_
        refine d_take 3 55 [3, 3, 3] rfl (v := .pointer (some ⟨tb, 0, none⟩)) (by kernel_rfl) qp_body (yq (by kernel_rfl) (g_ld 0 [.pointer (some ⟨tb, 0, none⟩)] (.pointer (some ⟨tb, 0, none⟩)) (by kernel_rfl) 2 rfl)) h (by kernel_rfl) ?_
        refine d_take 4 47 [3, 3, 3] rfl (v := .agg #[.int .i64 n, .int .i64 g]) (by kernel_rfl) qp_body (yq (by kernel_rfl) (g_ld 0 [.int .i64 n, .int .i64 g] (.agg #[.int .i64 n, .int .i64 g]) (by kernel_rfl) 1 rfl)) h (by kernel_rfl) ?_
        refine d_take 5 31 [3, 3, 3] rfl (v := .agg #[.int .i64 N.kind, .int .i64 (ndSize N), .int .i64 (N.links + m), .int .i64 N.change, .int .i64 N.upn, .int .i64 N.upg]) (by kernel_rfl) qp_body (yq (by kernel_rfl) (g_ld 0 [.int .i64 N.kind, .int .i64 (ndSize N), .int .i64 (N.links + m), .int .i64 N.change, .int .i64 N.upn, .int .i64 N.upg] (.agg #[.int .i64 N.kind, .int .i64 (ndSize N), .int .i64 (N.links + m), .int .i64 N.change, .int .i64 N.upn, .int .i64 N.upg]) (by kernel_rfl) 0 rfl)) h (by kernel_rfl) ?_
        refine d_ready [6] (by kernel_rfl) rfl ?_
        refine ad_call #[.pointer (some ⟨tb, 0, none⟩), .agg #[.int .i64 n, .int .i64 g], .agg #[.int .i64 N.kind, .int .i64 (ndSize N), .int .i64 (N.links + m), .int .i64 N.change, .int .i64 N.upn, .int .i64 N.upg]] [0, 0, 0] [3, 3, 3] rfl (by kernel_rfl) (keep_spec ad tb ps gs vl vg T Sl Sg l hl hr n g k N hlk ha N.kind (ndSize N) (N.links + m) N.change N.upn N.upg) (fun _ => by kernel_rfl) h ?_ ?_
        · skip
          rintro _ L_ w rfl h
          refine ⟨by kernel_rfl, ?_⟩
          refine d_done (by kernel_rfl) ?_
          refine ret_end [] [5, 0, 0, 0] h (by kernel_rfl) (res_n) ?_
          exact rfl
        exact ad_nil
      exact ad_nil
    exact ad_nil
  exact ad_nil
set_option maxHeartbeats 1000000 in
theorem root_spec (b most tb dm pm : Nat)  : Spec Tryd.prog 18 #[.pointer (some ⟨b, 0, none⟩)] [rCell true b [.pointer (some ⟨tb, 0, none⟩), .int .i64 (most : Int), .int .i64 0, .int .i64 0, .map (some dm), .map (some pm)] 175] (fun u L => u = .agg #[.int .i64 0, .int .i64 0] ∧ L = [rCell true b [.pointer (some ⟨tb, 0, none⟩), .int .i64 (most : Int), .int .i64 0, .int .i64 0, .map (some dm), .map (some pm)] 175]) := by
  refine spec_of (#[.pointer (some ⟨b, 0, none⟩), undef, undef, undef, undef, undef, undef]) Tryd.func18 rfl (by kernel_rfl) fun E w0 w h => ?_
  refine c_seq ?_
  refine c_reg ?_
  refine sq_new rfl (fun b => .pointer (some ⟨b, 0, none⟩)) [.int .i64 0, .int .i64 0] 29 (fun _ => by kernel_rfl) h ?_; intro k1 w h
  refine lnil ?_
  refine thn_n ?_
  refine c_seq ?_
  refine c_reg ?_
  refine sq_p (.pointer (some ⟨b, 0, none⟩)) rfl (fun _ => by kernel_rfl) ?_
  refine sq_p (.pointer (some ⟨b, 0, none⟩)) rfl (fun _ => by kernel_rfl) ?_
  refine sq_p (.pointer (some ⟨b, 2, none⟩)) rfl (fun _ => by kernel_rfl) ?_
  refine sq_q rfl h (g_ld 2 [.int .i64 0, .int .i64 0] (.agg #[.int .i64 0, .int .i64 0]) (by kernel_rfl) 1 rfl) ?_
  refine sq_st rfl 0 [.int .i64 0, .int .i64 0] [.int .i64 0, .int .i64 0] h 0 rfl (by kernel_rfl) ?_; intro w h
  refine lnil ?_
  refine thn_n ?_
  refine c_ret ?_
  refine ret_end [.agg #[.int .i64 0, .int .i64 0]] [1] h (by kernel_rfl) (res_c 0 [.int .i64 0, .int .i64 0] (.agg #[.int .i64 0, .int .i64 0]) 0 rfl (by kernel_rfl) res_n) ?_
  exact ⟨rfl, rfl⟩
set_option maxHeartbeats 1000000 in
theorem nodes_spec (b most tb dm pm : Nat) (ps : List (Option Nat)) (gs : List Int) (vl vg : Value) (T : TypeId) (Sl Sg : Nat → Prop) (hlen : ps.length ≤ 300)  : Spec Tryd.prog 94 #[.pointer (some ⟨b, 0, none⟩)] [rCell true b [.pointer (some ⟨tb, 0, none⟩), .int .i64 (most : Int), .int .i64 0, .int .i64 0, .map (some dm), .map (some pm)] 175, rTab tb ps gs vl vg T Sl Sg] (fun u L => u = .int .i64 (usedN ps : Nat) ∧ L = [rCell true b [.pointer (some ⟨tb, 0, none⟩), .int .i64 (most : Int), .int .i64 0, .int .i64 0, .map (some dm), .map (some pm)] 175, rTab tb ps gs vl vg T Sl Sg]) := by
  refine spec_of (#[.pointer (some ⟨b, 0, none⟩), undef, undef, undef, undef, undef, undef, undef]) Tryd.func94 rfl (by kernel_rfl) fun E w0 w h => ?_
  refine c_seq ?_
  refine c_reg ?_
  refine sq_p (.int .i64 0) rfl (fun _ => by kernel_rfl) ?_
  refine lnil ?_
  refine thn_n ?_
  refine c_seq ?_
  refine c_reg ?_
  refine sq_p (.pointer (some ⟨b, 0, none⟩)) rfl (fun _ => by kernel_rfl) ?_
  refine sq_p (.pointer (some ⟨b, 0, none⟩)) rfl (fun _ => by kernel_rfl) ?_
  refine sq_p (.pointer (some ⟨b, 0, none⟩)) rfl (fun _ => by kernel_rfl) ?_
  refine sq_q rfl h (g_ld 0 [.pointer (some ⟨tb, 0, none⟩)] (.pointer (some ⟨tb, 0, none⟩)) (by kernel_rfl) 0 rfl) ?_
  refine sq_call #[.pointer (some ⟨tb, 0, none⟩)] [1] rfl (tabCount_spec tb ps gs vl vg T Sl Sg hlen) (fun _ => by kernel_rfl) h ?_; rintro v_ L_ w ⟨rfl, rfl⟩ h
  refine sq_p (.int .i64 (usedN ps : Nat)) rfl (fun _ => by kernel_rfl) ?_
  refine lnil ?_
  refine thn_n ?_
  refine c_ret ?_
  refine ret_end [.int .i64 (usedN ps : Nat)] [1, 0] h (by kernel_rfl) (res_t (by kernel_rfl) res_n) ?_
  exact ⟨rfl, rfl⟩
set_option maxHeartbeats 1000000 in
theorem lookupY_spec {B : Nat} (ad : Nat → Addr) (b most tb dm pm : Nat) (ps : List (Option Nat)) (gs : List Int) (vl vg : Value) (T : TypeId) (Sl Sg : Nat → Prop) (l : List (Option ND)) (ds : List DN) (pn : List ((Int × Int) × Int)) (hl : ps.length = gs.length) (hr : ∀ x ∈ gs, 0 ≤ x ∧ x ≤ 1000000) (n g : Int) (k : Nat) (N : ND) (hlk : l[k]? = some (some N)) (ha : atOf ps gs n g = some N.nb) (j : Nat) (d : DN) (hj : ds[j]? = some d) (hdh : d.h = (n, g)) (hdd : (ds.map (·.h)).Nodup) (s : ByteArray) (hs : s.size ≤ 9223372036854775807) (hok : nameOk s) (x : Int × Int) (hx : aget d.es s = some x)  : Spec Tryd.prog 21 #[.pointer (some ⟨b, 0, none⟩), .agg #[.int .i64 n, .int .i64 g], .string s] [rCell true b [.pointer (some ⟨tb, 0, none⟩), .int .i64 (most : Int), .int .i64 0, .int .i64 0, .map (some dm), .map (some pm)] 175, rTab tb ps gs vl vg T Sl Sg, rNds l, rMap true dm hk (ds.map dnKV), rDirs ds, rEnv B ad [10], rEnv B ad [4]] (fun u L => u = .tuple #[.agg #[.int .i64 x.1, .int .i64 x.2], .nilIface] ∧ L = [rCell true b [.pointer (some ⟨tb, 0, none⟩), .int .i64 (most : Int), .int .i64 0, .int .i64 0, .map (some dm), .map (some pm)] 175, rTab tb ps gs vl vg T Sl Sg, rNds l, rMap true dm hk (ds.map dnKV), rDirs ds, rEnv B ad [10], rEnv B ad [4]]) := by
  refine spec_of (#[.pointer (some ⟨b, 0, none⟩), .agg #[.int .i64 n, .int .i64 g], .string s, undef, undef, undef, undef, undef, undef, undef, undef, undef, undef, undef, undef, undef, undef, undef, undef, undef, undef, undef, undef, undef, undef, undef, undef, undef, undef, undef, undef, undef, undef, undef]) Tryd.func21 rfl (by kernel_rfl) fun E w0 w h => ?_
  refine c_seq ?_
  refine c_reg ?_
  refine sq_new rfl (fun b => .pointer (some ⟨b, 0, none⟩)) [.int .i64 n, .int .i64 g] 29 (fun _ => by kernel_rfl) h ?_; intro k1 w h
  refine sq_new rfl (fun b => .pointer (some ⟨b, 0, none⟩)) [.int .i64 0, .int .i64 0] 29 (fun _ => by kernel_rfl) h ?_; intro k2 w h
  refine sq_p (.nilIface) rfl (fun _ => by kernel_rfl) ?_
  refine lnil ?_
  refine thn_n ?_
  refine c_seq ?_
  refine c_reg ?_
  refine sq_p (.pointer (some ⟨b, 0, none⟩)) rfl (fun _ => by kernel_rfl) ?_
  refine sq_q rfl h (g_ld 0 [.int .i64 n, .int .i64 g] (.agg #[.int .i64 n, .int .i64 g]) (by kernel_rfl) 1 rfl) ?_
  refine sq_p (.string s) rfl (fun _ => by kernel_rfl) ?_
  refine sq_call #[.pointer (some ⟨b, 0, none⟩), .agg #[.int .i64 n, .int .i64 g], .string s] [2, 2, 2, 2, 3, 3] rfl (namedY_spec ad b most tb dm pm ps gs vl vg T Sl Sg l ds pn hl hr n g k N hlk ha j d hj hdh hdd s hs hok) (fun _ => by kernel_rfl) h ?_; rintro v_ L_ w ⟨rfl, rfl⟩ h
  have h := h.pickE (M := [rDirs ds, rCell true b [.pointer (some ⟨tb, 0, none⟩), .int .i64 (most : Int), .int .i64 0, .int .i64 0, .map (some dm), .map (some pm)] 175, rTab tb ps gs vl vg T Sl Sg, rNds l, rMap true dm hk (ds.map dnKV), rEnv B ad [10], rEnv B ad [4], rCell true k2 [.int .i64 0, .int .i64 0] 29, rCell true k1 [.int .i64 n, .int .i64 g] 29]) [8, 0, 0, 0, 0, 0, 0, 0, 0] (by kernel_rfl)
  have h := h.dirOpen hj
  have h : Own w0 E [rMap true d.mb sk (d.es.map enKV), rDirsO ds j, rCell true b [.pointer (some ⟨tb, 0, none⟩), .int .i64 (most : Int), .int .i64 0, .int .i64 0, .map (some dm), .map (some pm)] 175, rTab tb ps gs vl vg T Sl Sg, rNds l, rMap true dm hk (ds.map dnKV), rEnv B ad [10], rEnv B ad [4], rCell true k2 [.int .i64 0, .int .i64 0] 29, rCell true k1 [.int .i64 n, .int .i64 g] 29] w := h
  refine sq_p (.tuple #[.map (some d.mb), .nilIface]) rfl (fun _ => by kernel_rfl) ?_
  refine sq_p (.map (some d.mb)) rfl (fun _ => by kernel_rfl) ?_
  refine sq_p (.nilIface) rfl (fun _ => by kernel_rfl) ?_
  refine sq_p (.map (some d.mb)) rfl (fun _ => by kernel_rfl) ?_
  refine sq_p (.nilIface) rfl (fun _ => by kernel_rfl) ?_
  refine lnil ?_
  refine thn_n ?_
  refine c_seq ?_
  refine c_seq ?_
  refine c_reg ?_
  refine sq_p (.nilIface) rfl (fun _ => by kernel_rfl) ?_
  refine sq_p (.bool false) rfl (fun _ => by kernel_rfl) ?_
  refine lnil ?_
  refine thn_n ?_
  refine c_false (by kernel_rfl) ?_
  refine c_skip ?_
  refine thn_n ?_
  refine c_seq ?_
  refine c_reg ?_
  refine sq_p (.map (some d.mb)) rfl (fun _ => by kernel_rfl) ?_
  refine sq_p (.string s) rfl (fun _ => by kernel_rfl) ?_
  refine sq_q rfl h (g_eq (v' := .tuple #[.agg #[.int .i64 x.1, .int .i64 x.2], .bool true]) (g_look (K := 9) (E := 29) (z := (.agg #[.int .i64 0, .int .i64 0])) (kv := (d.es.map enKV)) (ok := true) (keyStr (by kernel_rfl)) s (by kernel_rfl) (fun _ => by kernel_rfl) 0 rfl) (by rw [en_some hx]; rfl)) ?_
  refine sq_p (.tuple #[.agg #[.int .i64 x.1, .int .i64 x.2], .bool true]) rfl (fun _ => by kernel_rfl) ?_
  refine sq_p (.agg #[.int .i64 x.1, .int .i64 x.2]) rfl (fun _ => by kernel_rfl) ?_
  refine sq_p (.bool true) rfl (fun _ => by kernel_rfl) ?_
  refine sq_new rfl (fun b => .pointer (some ⟨b, 0, none⟩)) [.int .i64 0, .int .i64 0] 29 (fun _ => by kernel_rfl) h ?_; intro k3 w h
  refine sq_st rfl 0 [.int .i64 x.1, .int .i64 x.2] [.int .i64 x.1, .int .i64 x.2] h 0 rfl (by kernel_rfl) ?_; intro w h
  refine sq_p (.bool true) rfl (fun _ => by kernel_rfl) ?_
  refine lnil ?_
  refine thn_n ?_
  refine c_seq ?_
  refine c_seq ?_
  refine c_reg ?_
  refine sq_p (.bool true) rfl (fun _ => by kernel_rfl) ?_
  refine sq_p (.bool false) rfl (fun _ => by kernel_rfl) ?_
  refine lnil ?_
  refine thn_n ?_
  refine c_false (by kernel_rfl) ?_
  refine c_skip ?_
  refine thn_n ?_
  refine c_seq ?_
  refine c_reg ?_
  refine sq_q rfl h (g_ld 0 [.int .i64 x.1, .int .i64 x.2] (.agg #[.int .i64 x.1, .int .i64 x.2]) (by kernel_rfl) 0 rfl) ?_
  refine sq_st rfl 0 [.int .i64 x.1, .int .i64 x.2] [.int .i64 x.1, .int .i64 x.2] h 9 rfl (by kernel_rfl) ?_; intro w h
  refine sq_p (.nilIface) rfl (fun _ => by kernel_rfl) ?_
  refine lnil ?_
  refine thn_n ?_
  refine c_ret ?_
  have h := h.pickE (M := [rMap true d.mb sk (d.es.map enKV), rDirsO ds j, rCell true k3 [.int .i64 x.1, .int .i64 x.2] 29, rCell true b [.pointer (some ⟨tb, 0, none⟩), .int .i64 (most : Int), .int .i64 0, .int .i64 0, .map (some dm), .map (some pm)] 175, rTab tb ps gs vl vg T Sl Sg, rNds l, rMap true dm hk (ds.map dnKV), rEnv B ad [10], rEnv B ad [4], rCell true k2 [.int .i64 x.1, .int .i64 x.2] 29, rCell true k1 [.int .i64 n, .int .i64 g] 29]) [1, 1, 0, 0, 0, 0, 0, 0, 0, 0, 0] (by kernel_rfl)
  have h := h.dirBack (d := d) hj
  refine ret_end [.agg #[.int .i64 x.1, .int .i64 x.2], .nilIface] [2, 2, 2, 2, 0, 1, 1] h (by kernel_rfl) (res_c 0 [.int .i64 x.1, .int .i64 x.2] (.agg #[.int .i64 x.1, .int .i64 x.2]) 8 rfl (by kernel_rfl) (res_t (by kernel_rfl) res_n)) ?_
  exact ⟨rfl, rfl⟩
set_option maxHeartbeats 1000000 in
theorem createFull_spec {B : Nat} (ad : Nat → Addr) (b most tb dm pm : Nat) (ps : List (Option Nat)) (gs : List Int) (vl vg : Value) (T : TypeId) (Sl Sg : Nat → Prop) (l : List (Option ND)) (ds : List DN) (pn : List ((Int × Int) × Int)) (hl : ps.length = gs.length) (hr : ∀ x ∈ gs, 0 ≤ x ∧ x ≤ 1000000) (n g : Int) (k : Nat) (N : ND) (hlk : l[k]? = some (some N)) (ha : atOf ps gs n g = some N.nb) (j : Nat) (d : DN) (hj : ds[j]? = some d) (hdh : d.h = (n, g)) (hdd : (ds.map (·.h)).Nodup) (s : ByteArray) (hs : s.size ≤ 9223372036854775807) (hok : nameOk s) (hx : aget d.es s = none) (kind : Int) (hki : kind = 1 ∨ kind = 2) (hfew : 60 ≤ d.es.length)  : Spec Tryd.prog 17 #[.pointer (some ⟨b, 0, none⟩), .agg #[.int .i64 n, .int .i64 g], .string s, .int .i64 kind] [rCell true b [.pointer (some ⟨tb, 0, none⟩), .int .i64 (most : Int), .int .i64 0, .int .i64 0, .map (some dm), .map (some pm)] 175, rTab tb ps gs vl vg T Sl Sg, rNds l, rMap true dm hk (ds.map dnKV), rDirs ds, rEnv B ad [10], rEnv B ad [4], rEnv B ad [9]] (fun u L => u = .tuple #[.agg #[.int .i64 0, .int .i64 0], errV ad 9] ∧ L = [rCell true b [.pointer (some ⟨tb, 0, none⟩), .int .i64 (most : Int), .int .i64 0, .int .i64 0, .map (some dm), .map (some pm)] 175, rTab tb ps gs vl vg T Sl Sg, rNds l, rMap true dm hk (ds.map dnKV), rDirs ds, rEnv B ad [10], rEnv B ad [4], rEnv B ad [9]]) := by
  refine spec_of (#[.pointer (some ⟨b, 0, none⟩), .agg #[.int .i64 n, .int .i64 g], .string s, .int .i64 kind, undef, undef, undef, undef, undef, undef, undef, undef, undef, undef, undef, undef, undef, undef, undef, undef, undef, undef, undef, undef, undef, undef, undef, undef, undef, undef, undef, undef, undef, undef, undef, undef, undef, undef, undef, undef, undef, undef, undef, undef, undef, undef, undef, undef, undef, undef, undef, undef, undef, undef, undef, undef, undef, undef, undef, undef, undef, undef, undef, undef, undef, undef, undef, undef, undef, undef, undef, undef, undef, undef, undef, undef, undef, undef, undef, undef, undef, undef, undef, undef, undef, undef, undef, undef, undef, undef, undef, undef, undef, undef, undef, undef, undef, undef]) Tryd.func17 rfl (by kernel_rfl) fun E w0 w h => ?_
  refine c_seq ?_
  refine c_reg ?_
  refine sq_new rfl (fun b => .pointer (some ⟨b, 0, none⟩)) [.int .i64 n, .int .i64 g] 29 (fun _ => by kernel_rfl) h ?_; intro k1 w h
  refine sq_new rfl (fun b => .pointer (some ⟨b, 0, none⟩)) [.int .i64 0, .int .i64 0] 29 (fun _ => by kernel_rfl) h ?_; intro k2 w h
  refine sq_p (.nilIface) rfl (fun _ => by kernel_rfl) ?_
  refine lnil ?_
  refine thn_n ?_
  refine c_seq ?_
  refine c_reg ?_
  refine sq_p (.pointer (some ⟨b, 0, none⟩)) rfl (fun _ => by kernel_rfl) ?_
  refine sq_q rfl h (g_ld 0 [.int .i64 n, .int .i64 g] (.agg #[.int .i64 n, .int .i64 g]) (by kernel_rfl) 1 rfl) ?_
  refine sq_p (.string s) rfl (fun _ => by kernel_rfl) ?_
  refine sq_call #[.pointer (some ⟨b, 0, none⟩), .agg #[.int .i64 n, .int .i64 g], .string s] [2, 2, 2, 2, 3, 3] rfl (namedY_spec ad b most tb dm pm ps gs vl vg T Sl Sg l ds pn hl hr n g k N hlk ha j d hj hdh hdd s hs hok) (fun _ => by kernel_rfl) h ?_; rintro v_ L_ w ⟨rfl, rfl⟩ h
  have h := h.pickE (M := [rDirs ds, rCell true b [.pointer (some ⟨tb, 0, none⟩), .int .i64 (most : Int), .int .i64 0, .int .i64 0, .map (some dm), .map (some pm)] 175, rTab tb ps gs vl vg T Sl Sg, rNds l, rMap true dm hk (ds.map dnKV), rEnv B ad [10], rEnv B ad [4], rCell true k2 [.int .i64 0, .int .i64 0] 29, rCell true k1 [.int .i64 n, .int .i64 g] 29, rEnv B ad [9]]) [8, 0, 0, 0, 0, 0, 0, 0, 0, 0] (by kernel_rfl)
  have h := h.dirOpen hj
  have h : Own w0 E [rMap true d.mb sk (d.es.map enKV), rDirsO ds j, rCell true b [.pointer (some ⟨tb, 0, none⟩), .int .i64 (most : Int), .int .i64 0, .int .i64 0, .map (some dm), .map (some pm)] 175, rTab tb ps gs vl vg T Sl Sg, rNds l, rMap true dm hk (ds.map dnKV), rEnv B ad [10], rEnv B ad [4], rCell true k2 [.int .i64 0, .int .i64 0] 29, rCell true k1 [.int .i64 n, .int .i64 g] 29, rEnv B ad [9]] w := h
  refine sq_p (.tuple #[.map (some d.mb), .nilIface]) rfl (fun _ => by kernel_rfl) ?_
  refine sq_p (.map (some d.mb)) rfl (fun _ => by kernel_rfl) ?_
  refine sq_p (.nilIface) rfl (fun _ => by kernel_rfl) ?_
  refine sq_p (.map (some d.mb)) rfl (fun _ => by kernel_rfl) ?_
  refine sq_p (.nilIface) rfl (fun _ => by kernel_rfl) ?_
  refine lnil ?_
  refine thn_n ?_
  refine c_seq ?_
  refine c_reg ?_
  refine sq_p (.map (some d.mb)) rfl (fun _ => by kernel_rfl) ?_
  refine sq_p (.string s) rfl (fun _ => by kernel_rfl) ?_
  refine sq_q rfl h (g_eq (v' := .tuple #[.agg #[.int .i64 0, .int .i64 0], .bool false]) (g_look (K := 9) (E := 29) (z := (.agg #[.int .i64 0, .int .i64 0])) (kv := (d.es.map enKV)) (ok := true) (keyStr (by kernel_rfl)) s (by kernel_rfl) (fun _ => by kernel_rfl) 0 rfl) (by rw [en_none hx]; rfl)) ?_
  refine sq_p (.tuple #[.agg #[.int .i64 0, .int .i64 0], .bool false]) rfl (fun _ => by kernel_rfl) ?_
  refine sq_p (.agg #[.int .i64 0, .int .i64 0]) rfl (fun _ => by kernel_rfl) ?_
  refine sq_p (.bool false) rfl (fun _ => by kernel_rfl) ?_
  refine sq_new rfl (fun b => .pointer (some ⟨b, 0, none⟩)) [.int .i64 0, .int .i64 0] 29 (fun _ => by kernel_rfl) h ?_; intro k3 w h
  refine sq_st rfl 0 [.int .i64 0, .int .i64 0] [.int .i64 0, .int .i64 0] h 0 rfl (by kernel_rfl) ?_; intro w h
  refine sq_p (.bool false) rfl (fun _ => by kernel_rfl) ?_
  refine lnil ?_
  refine thn_n ?_
  refine c_seq ?_
  refine c_block ?_
  refine c_seq ?_
  refine c_reg ?_
  refine sq_p (.nilIface) rfl (fun _ => by kernel_rfl) ?_
  refine sq_p (.bool false) rfl (fun _ => by kernel_rfl) ?_
  refine sq_p (.bool false) rfl (fun _ => by kernel_rfl) ?_
  refine lnil ?_
  refine thn_n ?_
  refine c_false (by kernel_rfl) ?_
  refine c_seq ?_
  refine c_reg ?_
  refine sq_p (.int .i64 kind) rfl (fun _ => by kernel_rfl) ?_
  obtain ⟨b4, hb4⟩ : ∃ b_ : Bool, b_ = (!(decide (kind = 1))) := ⟨_, rfl⟩
  refine sq_q (v := .bool b4) rfl h (by subst hb4; exact g_pure (v := .bool (!(decide (kind = 1)))) fun _ => by kernel_rfl) ?_
  refine sq_p (.bool b4) rfl (fun _ => by kernel_rfl) ?_
  refine sq_m1 (v := .int .i64 kind) b4 (by cases b4 <;> kernel_rfl) h (fun hB => by subst hB; exact g_pure (v := .int .i64 kind) fun _ => by kernel_rfl) ?_
  obtain ⟨b5, hb5⟩ : ∃ b_ : Bool, b_ = (!(decide (kind = 2))) := ⟨_, rfl⟩
  refine sq_m1 (v := .bool b5) b4 (by cases b4 <;> kernel_rfl) h (fun hB => by subst hB; exact by subst hb5; exact g_pure (v := .bool (!(decide (kind = 2)))) fun _ => by kernel_rfl) ?_
  obtain ⟨b6, hb6⟩ : ∃ b_ : Bool, b_ = (b4 && b5) := ⟨_, rfl⟩
  refine sq_q (v := .bool b6) rfl h (by subst hb6; exact g_pure (v := .bool (b4 && b5)) fun _ => by cases b4 <;> kernel_rfl) ?_
  refine sq_p (.bool b6) rfl (fun _ => by kernel_rfl) ?_
  refine lnil ?_
  refine thn_n ?_
  refine c_cond (b6) (by kernel_rfl) (fun hc7 => ?_) (fun hc7 => ?_)
  · skip
    have q8 : (b4 && b5) = true := by rw [← hb6]; exact hc7
    have q9 : b4 = true := by revert q8; cases b4 <;> simp
    have q10 : b5 = true := by revert q8; cases b4 <;> cases b5 <;> simp
    have q11 : (!(decide (kind = 1))) = true := by rw [← hb4]; exact q9
    have q12 : (decide (kind = 1)) = false := by simpa using q11
    have q12 := of_decide_eq_false q12
    have q13 : (!(decide (kind = 2))) = true := by rw [← hb5]; exact q10
    have q14 : (decide (kind = 2)) = false := by simpa using q13
    have q14 := of_decide_eq_false q14
    exfalso; revert hc7; subst hb6; subst hb5; subst hb4; simp; omega
  · skip
    have q15 : (b4 && b5) = false := by rw [← hb6]; exact hc7
    refine c_seq ?_
    refine c_reg ?_
    refine sq_p (.bool false) rfl (fun _ => by kernel_rfl) ?_
    refine sq_p (.bool false) rfl (fun _ => by kernel_rfl) ?_
    refine lnil ?_
    refine thn_n ?_
    refine c_false (by kernel_rfl) ?_
    refine c_seq ?_
    refine c_reg ?_
    refine sq_p (.map (some d.mb)) rfl (fun _ => by kernel_rfl) ?_
    refine sq_q rfl h (g_lenm (K := 9) (E := 29) (by kernel_rfl) 1 rfl) ?_
    refine sq_p (.bool (decide (((d.es.map enKV).length : Int) ≥ 60))) rfl (fun _ => by kernel_rfl) ?_
    refine sq_p (.bool (decide (((d.es.map enKV).length : Int) ≥ 60))) rfl (fun _ => by kernel_rfl) ?_
    refine lnil ?_
    refine thn_n ?_
    refine c_cond (decide (((d.es.map enKV).length : Int) ≥ 60)) (by kernel_rfl) (fun hc16 => ?_) (fun hc16 => ?_)
    · skip
      have hc16 := of_decide_eq_true hc16
      refine c_seq ?_
      refine d_start 4 [11] (by kernel_rfl) h fun w h => ?_
      refine d_take 0 2 [11] rfl (v := .agg #[.int .i64 0, .int .i64 0]) (by kernel_rfl) (qp_thn (qp_blk (qp_thn qp_body))) (yq (by kernel_rfl) (g_pure (v := .agg #[.int .i64 0, .int .i64 0]) fun _ => by kernel_rfl)) h (by kernel_rfl) ?_
      refine d_take 1 5 [11] rfl (v := errV ad 9) (by kernel_rfl) (qp_thn (qp_blk (qp_thn qp_body))) (yq (by kernel_rfl) (g_ldr (b := gl 9) 0 [errV ad 9] (errV ad 9) (by kernel_rfl) 0 rfl (rdEnv (c := 9) (by decide) rfl))) h (by kernel_rfl) ?_
      refine d_ready [2] (by kernel_rfl) rfl ?_
      refine ad_st [11] rfl (by kernel_rfl) 0 [.int .i64 0, .int .i64 0] [.int .i64 0, .int .i64 0] h 9 rfl (by kernel_rfl) ?_ ?_
      · skip
        intro w h; refine ⟨by kernel_rfl, ?_⟩
        refine d_take 3 7 [11] rfl (v := errV ad 9) (by kernel_rfl) (qp_thn (qp_blk (qp_thn qp_body))) (yq (by kernel_rfl) (g_pure (v := errV ad 9) fun _ => by kernel_rfl)) h (by kernel_rfl) ?_
        refine d_done (by kernel_rfl) ?_
        refine thn_n ?_
        refine c_ret ?_
        refine blk_r (thn_r ?_)
        have h := h.pickE (M := [rMap true d.mb sk (d.es.map enKV), rDirsO ds j, rCell true k3 [.int .i64 0, .int .i64 0] 29, rCell true b [.pointer (some ⟨tb, 0, none⟩), .int .i64 (most : Int), .int .i64 0, .int .i64 0, .map (some dm), .map (some pm)] 175, rTab tb ps gs vl vg T Sl Sg, rNds l, rMap true dm hk (ds.map dnKV), rEnv B ad [10], rEnv B ad [4], rCell true k2 [.int .i64 0, .int .i64 0] 29, rCell true k1 [.int .i64 n, .int .i64 g] 29, rEnv B ad [9]]) [1, 1, 0, 0, 0, 0, 0, 0, 0, 0, 0, 0] (by kernel_rfl)
        have h := h.dirBack (d := d) hj
        refine ret_end [.agg #[.int .i64 0, .int .i64 0], errV ad 9] [2, 2, 2, 2, 0, 1, 1, 3] h (by kernel_rfl) (res_c 0 [.int .i64 0, .int .i64 0] (.agg #[.int .i64 0, .int .i64 0]) 8 rfl (by kernel_rfl) (res_t (by kernel_rfl) res_n)) ?_
        exact ⟨rfl, rfl⟩
      exact ad_nil
    · skip
      have hc16 := of_decide_eq_false hc16
      exfalso; revert hc16; simp; omega
set_option maxHeartbeats 1000000 in
theorem createF_spec {B : Nat} (ad : Nat → Addr) (b most tb dm pm : Nat) (ps : List (Option Nat)) (gs : List Int) (vl vg : Value) (T : TypeId) (Sl Sg : Nat → Prop) (l : List (Option ND)) (ds : List DN) (pn : List ((Int × Int) × Int)) (hl : ps.length = gs.length) (hr : ∀ x ∈ gs, 0 ≤ x ∧ x ≤ 1000000) (n g : Int) (k : Nat) (N : ND) (hlk : l[k]? = some (some N)) (ha : atOf ps gs n g = some N.nb) (j : Nat) (d : DN) (hj : ds[j]? = some d) (hdh : d.h = (n, g)) (hdd : (ds.map (·.h)).Nodup) (s : ByteArray) (hs : s.size ≤ 9223372036854775807) (hok : nameOk s) (hx : aget d.es s = none) (hfew : d.es.length < 60) (hnk : n = (k : Int)) (kf : Nat) (x : Int) (hf : free0 ps = some kf) (hxx : gs[kf]? = some x) (hx1 : x ≤ 1000) (hlen : ps.length ≤ 300) (hll : l.length = ps.length) (hkk : kf ≠ k) (hch : 0 ≤ N.change ∧ N.change ≤ 1000000)  : Spec Tryd.prog 17 #[.pointer (some ⟨b, 0, none⟩), .agg #[.int .i64 n, .int .i64 g], .string s, .int .i64 1] [rCell true b [.pointer (some ⟨tb, 0, none⟩), .int .i64 (most : Int), .int .i64 0, .int .i64 0, .map (some dm), .map (some pm)] 175, rTab tb ps gs vl vg T Sl Sg, rNds l, rMap true dm hk (ds.map dnKV), rDirs ds, rEnv B ad [10], rEnv B ad [4]] (fun u L => ∃ nb db, u = .tuple #[.agg #[.int .i64 (kf : Int), .int .i64 x], .nilIface] ∧ L = [rCell true b [.pointer (some ⟨tb, 0, none⟩), .int .i64 (most : Int), .int .i64 0, .int .i64 0, .map (some dm), .map (some pm)] 175, rTab tb (ps.set kf (some nb)) (gs.set kf (x + 1)) vl vg T Sl Sg, rNds (((l.set kf (some (newND nb 1 (some (newDQ db))))).set kf (some (linkN (newND nb 1 (some (newDQ db))) 1))).set k (some (touchN N))), rMap true dm hk ((ds.set j { d with es := aput d.es s ((kf : Int), x) }).map dnKV), rDirs (ds.set j { d with es := aput d.es s ((kf : Int), x) }), rEnv B ad [10], rEnv B ad [4]]) := by
  refine spec_of (#[.pointer (some ⟨b, 0, none⟩), .agg #[.int .i64 n, .int .i64 g], .string s, .int .i64 1, undef, undef, undef, undef, undef, undef, undef, undef, undef, undef, undef, undef, undef, undef, undef, undef, undef, undef, undef, undef, undef, undef, undef, undef, undef, undef, undef, undef, undef, undef, undef, undef, undef, undef, undef, undef, undef, undef, undef, undef, undef, undef, undef, undef, undef, undef, undef, undef, undef, undef, undef, undef, undef, undef, undef, undef, undef, undef, undef, undef, undef, undef, undef, undef, undef, undef, undef, undef, undef, undef, undef, undef, undef, undef, undef, undef, undef, undef, undef, undef, undef, undef, undef, undef, undef, undef, undef, undef, undef, undef, undef, undef, undef, undef]) Tryd.func17 rfl (by kernel_rfl) fun E w0 w h => ?_
  refine c_seq ?_
  refine c_reg ?_
  refine sq_new rfl (fun b => .pointer (some ⟨b, 0, none⟩)) [.int .i64 n, .int .i64 g] 29 (fun _ => by kernel_rfl) h ?_; intro k1 w h
  refine sq_new rfl (fun b => .pointer (some ⟨b, 0, none⟩)) [.int .i64 0, .int .i64 0] 29 (fun _ => by kernel_rfl) h ?_; intro k2 w h
  refine sq_p (.nilIface) rfl (fun _ => by kernel_rfl) ?_
  refine lnil ?_
  refine thn_n ?_
  refine c_seq ?_
  refine c_reg ?_
  refine sq_p (.pointer (some ⟨b, 0, none⟩)) rfl (fun _ => by kernel_rfl) ?_
  refine sq_q rfl h (g_ld 0 [.int .i64 n, .int .i64 g] (.agg #[.int .i64 n, .int .i64 g]) (by kernel_rfl) 1 rfl) ?_
  refine sq_p (.string s) rfl (fun _ => by kernel_rfl) ?_
  refine sq_call #[.pointer (some ⟨b, 0, none⟩), .agg #[.int .i64 n, .int .i64 g], .string s] [2, 2, 2, 2, 3, 3] rfl (namedY_spec ad b most tb dm pm ps gs vl vg T Sl Sg l ds pn hl hr n g k N hlk ha j d hj hdh hdd s hs hok) (fun _ => by kernel_rfl) h ?_; rintro v_ L_ w ⟨rfl, rfl⟩ h
  have h := h.pickE (M := [rDirs ds, rCell true b [.pointer (some ⟨tb, 0, none⟩), .int .i64 (most : Int), .int .i64 0, .int .i64 0, .map (some dm), .map (some pm)] 175, rTab tb ps gs vl vg T Sl Sg, rNds l, rMap true dm hk (ds.map dnKV), rEnv B ad [10], rEnv B ad [4], rCell true k2 [.int .i64 0, .int .i64 0] 29, rCell true k1 [.int .i64 n, .int .i64 g] 29]) [8, 0, 0, 0, 0, 0, 0, 0, 0] (by kernel_rfl)
  have h := h.dirOpen hj
  have h : Own w0 E [rMap true d.mb sk (d.es.map enKV), rDirsO ds j, rCell true b [.pointer (some ⟨tb, 0, none⟩), .int .i64 (most : Int), .int .i64 0, .int .i64 0, .map (some dm), .map (some pm)] 175, rTab tb ps gs vl vg T Sl Sg, rNds l, rMap true dm hk (ds.map dnKV), rEnv B ad [10], rEnv B ad [4], rCell true k2 [.int .i64 0, .int .i64 0] 29, rCell true k1 [.int .i64 n, .int .i64 g] 29] w := h
  refine sq_p (.tuple #[.map (some d.mb), .nilIface]) rfl (fun _ => by kernel_rfl) ?_
  refine sq_p (.map (some d.mb)) rfl (fun _ => by kernel_rfl) ?_
  refine sq_p (.nilIface) rfl (fun _ => by kernel_rfl) ?_
  refine sq_p (.map (some d.mb)) rfl (fun _ => by kernel_rfl) ?_
  refine sq_p (.nilIface) rfl (fun _ => by kernel_rfl) ?_
  refine lnil ?_
  refine thn_n ?_
  refine c_seq ?_
  refine c_reg ?_
  refine sq_p (.map (some d.mb)) rfl (fun _ => by kernel_rfl) ?_
  refine sq_p (.string s) rfl (fun _ => by kernel_rfl) ?_
  refine sq_q rfl h (g_eq (v' := .tuple #[.agg #[.int .i64 0, .int .i64 0], .bool false]) (g_look (K := 9) (E := 29) (z := (.agg #[.int .i64 0, .int .i64 0])) (kv := (d.es.map enKV)) (ok := true) (keyStr (by kernel_rfl)) s (by kernel_rfl) (fun _ => by kernel_rfl) 0 rfl) (by rw [en_none hx]; rfl)) ?_
  refine sq_p (.tuple #[.agg #[.int .i64 0, .int .i64 0], .bool false]) rfl (fun _ => by kernel_rfl) ?_
  refine sq_p (.agg #[.int .i64 0, .int .i64 0]) rfl (fun _ => by kernel_rfl) ?_
  refine sq_p (.bool false) rfl (fun _ => by kernel_rfl) ?_
  refine sq_new rfl (fun b => .pointer (some ⟨b, 0, none⟩)) [.int .i64 0, .int .i64 0] 29 (fun _ => by kernel_rfl) h ?_; intro k3 w h
  refine sq_st rfl 0 [.int .i64 0, .int .i64 0] [.int .i64 0, .int .i64 0] h 0 rfl (by kernel_rfl) ?_; intro w h
  refine sq_p (.bool false) rfl (fun _ => by kernel_rfl) ?_
  refine lnil ?_
  refine thn_n ?_
  refine c_seq ?_
  refine c_block ?_
  refine c_seq ?_
  refine c_reg ?_
  refine sq_p (.nilIface) rfl (fun _ => by kernel_rfl) ?_
  refine sq_p (.bool false) rfl (fun _ => by kernel_rfl) ?_
  refine sq_p (.bool false) rfl (fun _ => by kernel_rfl) ?_
  refine lnil ?_
  refine thn_n ?_
  refine c_false (by kernel_rfl) ?_
  refine c_seq ?_
  refine c_reg ?_
  refine sq_p (.int .i64 1) rfl (fun _ => by kernel_rfl) ?_
  refine sq_p (.bool false) rfl (fun _ => by kernel_rfl) ?_
  refine sq_p (.bool false) rfl (fun _ => by kernel_rfl) ?_
  refine sn (by kernel_rfl) ?_
  refine sn (by kernel_rfl) ?_
  refine sq_p (.bool false) rfl (fun _ => by kernel_rfl) ?_
  refine sq_p (.bool false) rfl (fun _ => by kernel_rfl) ?_
  refine lnil ?_
  refine thn_n ?_
  refine c_false (by kernel_rfl) ?_
  refine c_seq ?_
  refine c_reg ?_
  refine sq_p (.bool false) rfl (fun _ => by kernel_rfl) ?_
  refine sq_p (.bool false) rfl (fun _ => by kernel_rfl) ?_
  refine lnil ?_
  refine thn_n ?_
  refine c_false (by kernel_rfl) ?_
  refine c_seq ?_
  refine c_reg ?_
  refine sq_p (.map (some d.mb)) rfl (fun _ => by kernel_rfl) ?_
  refine sq_q rfl h (g_lenm (K := 9) (E := 29) (by kernel_rfl) 1 rfl) ?_
  refine sq_p (.bool (decide (((d.es.map enKV).length : Int) ≥ 60))) rfl (fun _ => by kernel_rfl) ?_
  refine sq_p (.bool (decide (((d.es.map enKV).length : Int) ≥ 60))) rfl (fun _ => by kernel_rfl) ?_
  refine lnil ?_
  refine thn_n ?_
  refine c_cond (decide (((d.es.map enKV).length : Int) ≥ 60)) (by kernel_rfl) (fun hc4 => ?_) (fun hc4 => ?_)
  · skip
    have hc4 := of_decide_eq_true hc4
    exfalso; revert hc4; simp; omega
  · skip
    have hc4 := of_decide_eq_false hc4
    refine c_skip ?_
    refine blk_n (thn_n ?_)
    refine c_seq ?_
    refine c_reg ?_
    refine sq_p (.pointer (some ⟨b, 0, none⟩)) rfl (fun _ => by kernel_rfl) ?_
    refine sq_p (.pointer (some ⟨b, 0, none⟩)) rfl (fun _ => by kernel_rfl) ?_
    refine sq_p (.pointer (some ⟨b, 0, none⟩)) rfl (fun _ => by kernel_rfl) ?_
    refine sq_q rfl h (g_ld 0 [.pointer (some ⟨tb, 0, none⟩)] (.pointer (some ⟨tb, 0, none⟩)) (by kernel_rfl) 3 rfl) ?_
    refine sq_p (.int .i64 1) rfl (fun _ => by kernel_rfl) ?_
    refine sq_call #[.pointer (some ⟨tb, 0, none⟩), .int .i64 1] [4, 4] rfl (tabAdd1_spec tb kf x ps gs vl vg T Sl Sg l hlen hl hf hxx (by have := hr x (List.mem_of_getElem? hxx); omega)) (fun _ => by kernel_rfl) h ?_; rintro v_ L_ w ⟨nb5, db6, rfl, rfl⟩ h
    have hkfl := get_lt hxx
    have hkl := get_lt hlk
    have hx0 := hr x (List.mem_of_getElem? hxx)
    have hl2 := len_set (x := some nb5) (y := x + 1) (k := kf) (j := kf) hl
    have hr2 := rng_set hr hxx hx1
    have ha2 : atOf (ps.set kf (some nb5)) (gs.set kf (x + 1)) (kf : Int) x = some nb5 := atOf_self (by omega) hkfl
    have haN : atOf (ps.set kf (some nb5)) (gs.set kf (x + 1)) n g = some N.nb := by rw [hnk] at ha ⊢; exact atOf_ne ha hkk
    refine sq_p (.tuple #[.agg #[.int .i64 (kf : Int), .int .i64 x], .nilIface]) rfl (fun _ => by kernel_rfl) ?_
    refine sq_p (.agg #[.int .i64 (kf : Int), .int .i64 x]) rfl (fun _ => by kernel_rfl) ?_
    refine sq_p (.nilIface) rfl (fun _ => by kernel_rfl) ?_
    refine sq_new rfl (fun b => .pointer (some ⟨b, 0, none⟩)) [.int .i64 0, .int .i64 0] 29 (fun _ => by kernel_rfl) h ?_; intro k7 w h
    refine sq_st rfl 0 [.int .i64 (kf : Int), .int .i64 x] [.int .i64 (kf : Int), .int .i64 x] h 0 rfl (by kernel_rfl) ?_; intro w h
    refine sq_p (.nilIface) rfl (fun _ => by kernel_rfl) ?_
    refine lnil ?_
    refine thn_n ?_
    refine c_seq ?_
    refine c_seq ?_
    refine c_reg ?_
    refine sq_p (.nilIface) rfl (fun _ => by kernel_rfl) ?_
    refine sq_p (.bool false) rfl (fun _ => by kernel_rfl) ?_
    refine lnil ?_
    refine thn_n ?_
    refine c_false (by kernel_rfl) ?_
    refine c_skip ?_
    refine thn_n ?_
    refine c_seq ?_
    refine c_reg ?_
    refine sq_p (.map (some d.mb)) rfl (fun _ => by kernel_rfl) ?_
    refine sq_p (.string s) rfl (fun _ => by kernel_rfl) ?_
    refine sq_q rfl h (g_ld 0 [.int .i64 (kf : Int), .int .i64 x] (.agg #[.int .i64 (kf : Int), .int .i64 x]) (by kernel_rfl) 0 rfl) ?_
    refine sq_mapu rfl (K := 9) (E := 29) (keyStr (by kernel_rfl)) s (.agg #[.int .i64 (kf : Int), .int .i64 x]) (by kernel_rfl) h 4 rfl ?_; intro w h
    refine lnil ?_
    refine thn_n ?_
    refine c_seq ?_
    refine c_seq ?_
    refine c_reg ?_
    refine sq_p (.int .i64 1) rfl (fun _ => by kernel_rfl) ?_
    refine sq_p (.bool false) rfl (fun _ => by kernel_rfl) ?_
    refine lnil ?_
    refine thn_n ?_
    refine c_false (by kernel_rfl) ?_
    refine c_reg ?_
    refine sq_p (.pointer (some ⟨b, 0, none⟩)) rfl (fun _ => by kernel_rfl) ?_
    refine sq_q rfl h (g_ld 0 [.int .i64 (kf : Int), .int .i64 x] (.agg #[.int .i64 (kf : Int), .int .i64 x]) (by kernel_rfl) 0 rfl) ?_
    refine sq_call #[.pointer (some ⟨b, 0, none⟩), .agg #[.int .i64 (kf : Int), .int .i64 x], .int .i64 1] [6, 1, 1, 5] rfl (links_spec ad b most tb dm pm (ps.set kf (some nb5)) (gs.set kf (x + 1)) vl vg T Sl Sg (l.set kf (some (newND nb5 1 (some (newDQ db6))))) ds pn hl2 hr2 (kf : Int) x kf (newND nb5 1 (some (newDQ db6))) (get_at (by first | omega | (simp; omega))) ha2 1 (by omega) (by first | assumption | (constructor <;> first | omega | (simp [linkN, keepN, newND, touchN] <;> omega)))) (fun _ => by kernel_rfl) h ?_; rintro _ L_ w rfl h
    refine lnil ?_
    refine thn_n ?_
    refine c_seq ?_
    refine d_start 6 [0, 10] (by kernel_rfl) h fun w h => ?_
    refine d_take 0 16 [0, 10] rfl (v := .pointer (some ⟨b, 0, none⟩)) (by kernel_rfl) (qp_thn qp_body) (yq (by kernel_rfl) (g_pure (v := .pointer (some ⟨b, 0, none⟩)) fun _ => by kernel_rfl)) h (by kernel_rfl) ?_
    refine d_take 1 17 [0, 10] rfl (v := .pointer (some ⟨b, 0, none⟩)) (by kernel_rfl) (qp_thn qp_body) (yq (by kernel_rfl) (g_pure (v := .pointer (some ⟨b, 0, none⟩)) fun _ => by kernel_rfl)) h (by kernel_rfl) ?_
    refine d_take 2 19 [0, 10] rfl (v := .pointer (some ⟨b, 0, none⟩)) (by kernel_rfl) (qp_thn qp_body) (yq (by kernel_rfl) (g_pure (v := .pointer (some ⟨b, 0, none⟩)) fun _ => by kernel_rfl)) h (by kernel_rfl) ?_
    refine d_take 3 23 [0, 10] rfl (v := .pointer (some ⟨tb, 0, none⟩)) (by kernel_rfl) (qp_thn qp_body) (yq (by kernel_rfl) (g_ld 0 [.pointer (some ⟨tb, 0, none⟩)] (.pointer (some ⟨tb, 0, none⟩)) (by kernel_rfl) 0 rfl)) h (by kernel_rfl) ?_
    refine d_take 4 15 [0, 10] rfl (v := .agg #[.int .i64 n, .int .i64 g]) (by kernel_rfl) (qp_thn qp_body) (yq (by kernel_rfl) (g_ld 0 [.int .i64 n, .int .i64 g] (.agg #[.int .i64 n, .int .i64 g]) (by kernel_rfl) 1 rfl)) h (by kernel_rfl) ?_
    refine d_ready [5] (by kernel_rfl) rfl ?_
    refine ad_call #[.pointer (some ⟨tb, 0, none⟩), .agg #[.int .i64 n, .int .i64 g]] [1, 1, 1] [3, 10] rfl (by kernel_rfl) (touch_spec ad tb (ps.set kf (some nb5)) (gs.set kf (x + 1)) vl vg T Sl Sg ((l.set kf (some (newND nb5 1 (some (newDQ db6))))).set kf (some (linkN (newND nb5 1 (some (newDQ db6))) 1))) hl2 hr2 n g k N (get_ne (get_ne hlk (by omega)) (by omega)) haN (by first | assumption | (constructor <;> first | omega | (simp [linkN, keepN, newND, touchN] <;> omega)))) (fun _ => by kernel_rfl) h ?_ ?_
    · skip
      rintro v_ L_ w ⟨rfl, rfl⟩ h
      refine ⟨by kernel_rfl, ?_⟩
      refine d_done (by kernel_rfl) ?_
      refine thn_n ?_
      refine c_seq ?_
      refine c_reg ?_
      refine sq_q rfl h (g_ld 0 [.int .i64 (kf : Int), .int .i64 x] (.agg #[.int .i64 (kf : Int), .int .i64 x]) (by kernel_rfl) 4 rfl) ?_
      refine sq_st rfl 0 [.int .i64 (kf : Int), .int .i64 x] [.int .i64 (kf : Int), .int .i64 x] h 10 rfl (by kernel_rfl) ?_; intro w h
      refine sq_p (.nilIface) rfl (fun _ => by kernel_rfl) ?_
      refine lnil ?_
      refine thn_n ?_
      refine c_ret ?_
      rw [show aput (d.es.map enKV) s (Value.agg #[Value.int .i64 (kf : Int), Value.int .i64 x]) = (aput d.es s ((kf : Int), x)).map enKV from en_put s ((kf : Int), x) d.es] at h
      have h : Own w0 E [rTab tb (ps.set kf (some nb5)) (gs.set kf (x + 1)) vl vg T Sl Sg, rNds (((l.set kf (some (newND nb5 1 (some (newDQ db6))))).set kf (some (linkN (newND nb5 1 (some (newDQ db6))) 1))).set k (some (touchN N))), rEnv B ad [10], rCell true b [.pointer (some ⟨tb, 0, none⟩), .int .i64 (most : Int), .int .i64 0, .int .i64 0, .map (some dm), .map (some pm)] 175, rCell true k7 [.int .i64 (kf : Int), .int .i64 x] 29, rCell true k3 [.int .i64 0, .int .i64 0] 29, rMap true d.mb sk ((aput d.es s ((kf : Int), x)).map enKV), rDirsO ds j, rMap true dm hk (ds.map dnKV), rEnv B ad [4], rCell true k2 [.int .i64 (kf : Int), .int .i64 x] 29, rCell true k1 [.int .i64 n, .int .i64 g] 29] w := h
      have h := h.pickE (M := [rMap true d.mb sk ((aput d.es s ((kf : Int), x)).map enKV), rDirsO ds j, rTab tb (ps.set kf (some nb5)) (gs.set kf (x + 1)) vl vg T Sl Sg, rNds (((l.set kf (some (newND nb5 1 (some (newDQ db6))))).set kf (some (linkN (newND nb5 1 (some (newDQ db6))) 1))).set k (some (touchN N))), rEnv B ad [10], rCell true b [.pointer (some ⟨tb, 0, none⟩), .int .i64 (most : Int), .int .i64 0, .int .i64 0, .map (some dm), .map (some pm)] 175, rCell true k7 [.int .i64 (kf : Int), .int .i64 x] 29, rCell true k3 [.int .i64 0, .int .i64 0] 29, rMap true dm hk (ds.map dnKV), rEnv B ad [4], rCell true k2 [.int .i64 (kf : Int), .int .i64 x] 29, rCell true k1 [.int .i64 n, .int .i64 g] 29]) [6, 6, 0, 0, 0, 0, 0, 0, 0, 0, 0, 0] (by kernel_rfl)
      have h := h.dirClose { d with es := aput d.es s ((kf : Int), x) }
      have h : Own w0 E [rDirs (ds.set j { d with es := aput d.es s ((kf : Int), x) }), rTab tb (ps.set kf (some nb5)) (gs.set kf (x + 1)) vl vg T Sl Sg, rNds (((l.set kf (some (newND nb5 1 (some (newDQ db6))))).set kf (some (linkN (newND nb5 1 (some (newDQ db6))) 1))).set k (some (touchN N))), rEnv B ad [10], rCell true b [.pointer (some ⟨tb, 0, none⟩), .int .i64 (most : Int), .int .i64 0, .int .i64 0, .map (some dm), .map (some pm)] 175, rCell true k7 [.int .i64 (kf : Int), .int .i64 x] 29, rCell true k3 [.int .i64 0, .int .i64 0] 29, rMap true dm hk (ds.map dnKV), rEnv B ad [4], rCell true k2 [.int .i64 (kf : Int), .int .i64 x] 29, rCell true k1 [.int .i64 n, .int .i64 g] 29] w := h
      rw [← dnKV_set (d' := { d with es := aput d.es s ((kf : Int), x) }) hj rfl rfl] at h
      have h : Own w0 E [rDirs (ds.set j { d with es := aput d.es s ((kf : Int), x) }), rTab tb (ps.set kf (some nb5)) (gs.set kf (x + 1)) vl vg T Sl Sg, rNds (((l.set kf (some (newND nb5 1 (some (newDQ db6))))).set kf (some (linkN (newND nb5 1 (some (newDQ db6))) 1))).set k (some (touchN N))), rEnv B ad [10], rCell true b [.pointer (some ⟨tb, 0, none⟩), .int .i64 (most : Int), .int .i64 0, .int .i64 0, .map (some dm), .map (some pm)] 175, rCell true k7 [.int .i64 (kf : Int), .int .i64 x] 29, rCell true k3 [.int .i64 0, .int .i64 0] 29, rMap true dm hk ((ds.set j { d with es := aput d.es s ((kf : Int), x) }).map dnKV), rEnv B ad [4], rCell true k2 [.int .i64 (kf : Int), .int .i64 x] 29, rCell true k1 [.int .i64 n, .int .i64 g] 29] w := h
      refine ret_end [.agg #[.int .i64 (kf : Int), .int .i64 x], .nilIface] [4, 1, 1, 4, 0, 0, 2] h (by kernel_rfl) (res_c 0 [.int .i64 (kf : Int), .int .i64 x] (.agg #[.int .i64 (kf : Int), .int .i64 x]) 9 rfl (by kernel_rfl) (res_t (by kernel_rfl) res_n)) ?_
      exact ⟨_, _, rfl, rfl⟩
    exact ad_nil
set_option maxHeartbeats 1000000 in
theorem createD_spec {B : Nat} (ad : Nat → Addr) (b most tb dm pm : Nat) (ps : List (Option Nat)) (gs : List Int) (vl vg : Value) (T : TypeId) (Sl Sg : Nat → Prop) (l : List (Option ND)) (ds : List DN) (pn : List ((Int × Int) × Int)) (hl : ps.length = gs.length) (hr : ∀ x ∈ gs, 0 ≤ x ∧ x ≤ 1000000) (n g : Int) (k : Nat) (N : ND) (hlk : l[k]? = some (some N)) (ha : atOf ps gs n g = some N.nb) (j : Nat) (d : DN) (hj : ds[j]? = some d) (hdh : d.h = (n, g)) (hdd : (ds.map (·.h)).Nodup) (s : ByteArray) (hs : s.size ≤ 9223372036854775807) (hok : nameOk s) (hx : aget d.es s = none) (hfew : d.es.length < 60) (hnk : n = (k : Int)) (kf : Nat) (x : Int) (hf : free0 ps = some kf) (hxx : gs[kf]? = some x) (hx1 : x ≤ 1000) (hlen : ps.length ≤ 300) (hll : l.length = ps.length) (hkk : kf ≠ k) (hch : 0 ≤ N.change ∧ N.change ≤ 1000000) (hnh : ∀ d ∈ ds, d.h ≠ ((kf : Int), x)) (hli : 0 ≤ N.links ∧ N.links ≤ 1000000)  : Spec Tryd.prog 17 #[.pointer (some ⟨b, 0, none⟩), .agg #[.int .i64 n, .int .i64 g], .string s, .int .i64 2] [rCell true b [.pointer (some ⟨tb, 0, none⟩), .int .i64 (most : Int), .int .i64 0, .int .i64 0, .map (some dm), .map (some pm)] 175, rTab tb ps gs vl vg T Sl Sg, rNds l, rMap true dm hk (ds.map dnKV), rDirs ds, rEnv B ad [10], rEnv B ad [4]] (fun u L => ∃ nb mb2, u = .tuple #[.agg #[.int .i64 (kf : Int), .int .i64 x], .nilIface] ∧ L = [rCell true b [.pointer (some ⟨tb, 0, none⟩), .int .i64 (most : Int), .int .i64 0, .int .i64 0, .map (some dm), .map (some pm)] 175, rTab tb (ps.set kf (some nb)) (gs.set kf (x + 1)) vl vg T Sl Sg, rNds ((((l.set kf (some (newND nb 2 none))).set kf (some (keepN (newND nb 2 none) 2 0 2 n g))).set k (some (linkN N 1))).set k (some (touchN (linkN N 1)))), rMap true dm hk ((ds.set j { d with es := aput d.es s ((kf : Int), x) } ++ [(⟨((kf : Int), x), mb2, []⟩ : DN)]).map dnKV), rDirs (ds.set j { d with es := aput d.es s ((kf : Int), x) } ++ [(⟨((kf : Int), x), mb2, []⟩ : DN)]), rEnv B ad [10], rEnv B ad [4]]) := by
  refine spec_of (#[.pointer (some ⟨b, 0, none⟩), .agg #[.int .i64 n, .int .i64 g], .string s, .int .i64 2, undef, undef, undef, undef, undef, undef, undef, undef, undef, undef, undef, undef, undef, undef, undef, undef, undef, undef, undef, undef, undef, undef, undef, undef, undef, undef, undef, undef, undef, undef, undef, undef, undef, undef, undef, undef, undef, undef, undef, undef, undef, undef, undef, undef, undef, undef, undef, undef, undef, undef, undef, undef, undef, undef, undef, undef, undef, undef, undef, undef, undef, undef, undef, undef, undef, undef, undef, undef, undef, undef, undef, undef, undef, undef, undef, undef, undef, undef, undef, undef, undef, undef, undef, undef, undef, undef, undef, undef, undef, undef, undef, undef, undef, undef]) Tryd.func17 rfl (by kernel_rfl) fun E w0 w h => ?_
  refine c_seq ?_
  refine c_reg ?_
  refine sq_new rfl (fun b => .pointer (some ⟨b, 0, none⟩)) [.int .i64 n, .int .i64 g] 29 (fun _ => by kernel_rfl) h ?_; intro k1 w h
  refine sq_new rfl (fun b => .pointer (some ⟨b, 0, none⟩)) [.int .i64 0, .int .i64 0] 29 (fun _ => by kernel_rfl) h ?_; intro k2 w h
  refine sq_p (.nilIface) rfl (fun _ => by kernel_rfl) ?_
  refine lnil ?_
  refine thn_n ?_
  refine c_seq ?_
  refine c_reg ?_
  refine sq_p (.pointer (some ⟨b, 0, none⟩)) rfl (fun _ => by kernel_rfl) ?_
  refine sq_q rfl h (g_ld 0 [.int .i64 n, .int .i64 g] (.agg #[.int .i64 n, .int .i64 g]) (by kernel_rfl) 1 rfl) ?_
  refine sq_p (.string s) rfl (fun _ => by kernel_rfl) ?_
  refine sq_call #[.pointer (some ⟨b, 0, none⟩), .agg #[.int .i64 n, .int .i64 g], .string s] [2, 2, 2, 2, 3, 3] rfl (namedY_spec ad b most tb dm pm ps gs vl vg T Sl Sg l ds pn hl hr n g k N hlk ha j d hj hdh hdd s hs hok) (fun _ => by kernel_rfl) h ?_; rintro v_ L_ w ⟨rfl, rfl⟩ h
  have h := h.pickE (M := [rDirs ds, rCell true b [.pointer (some ⟨tb, 0, none⟩), .int .i64 (most : Int), .int .i64 0, .int .i64 0, .map (some dm), .map (some pm)] 175, rTab tb ps gs vl vg T Sl Sg, rNds l, rMap true dm hk (ds.map dnKV), rEnv B ad [10], rEnv B ad [4], rCell true k2 [.int .i64 0, .int .i64 0] 29, rCell true k1 [.int .i64 n, .int .i64 g] 29]) [8, 0, 0, 0, 0, 0, 0, 0, 0] (by kernel_rfl)
  have h := h.dirOpen hj
  have h : Own w0 E [rMap true d.mb sk (d.es.map enKV), rDirsO ds j, rCell true b [.pointer (some ⟨tb, 0, none⟩), .int .i64 (most : Int), .int .i64 0, .int .i64 0, .map (some dm), .map (some pm)] 175, rTab tb ps gs vl vg T Sl Sg, rNds l, rMap true dm hk (ds.map dnKV), rEnv B ad [10], rEnv B ad [4], rCell true k2 [.int .i64 0, .int .i64 0] 29, rCell true k1 [.int .i64 n, .int .i64 g] 29] w := h
  refine sq_p (.tuple #[.map (some d.mb), .nilIface]) rfl (fun _ => by kernel_rfl) ?_
  refine sq_p (.map (some d.mb)) rfl (fun _ => by kernel_rfl) ?_
  refine sq_p (.nilIface) rfl (fun _ => by kernel_rfl) ?_
  refine sq_p (.map (some d.mb)) rfl (fun _ => by kernel_rfl) ?_
  refine sq_p (.nilIface) rfl (fun _ => by kernel_rfl) ?_
  refine lnil ?_
  refine thn_n ?_
  refine c_seq ?_
  refine c_reg ?_
  refine sq_p (.map (some d.mb)) rfl (fun _ => by kernel_rfl) ?_
  refine sq_p (.string s) rfl (fun _ => by kernel_rfl) ?_
  refine sq_q rfl h (g_eq (v' := .tuple #[.agg #[.int .i64 0, .int .i64 0], .bool false]) (g_look (K := 9) (E := 29) (z := (.agg #[.int .i64 0, .int .i64 0])) (kv := (d.es.map enKV)) (ok := true) (keyStr (by kernel_rfl)) s (by kernel_rfl) (fun _ => by kernel_rfl) 0 rfl) (by rw [en_none hx]; rfl)) ?_
  refine sq_p (.tuple #[.agg #[.int .i64 0, .int .i64 0], .bool false]) rfl (fun _ => by kernel_rfl) ?_
  refine sq_p (.agg #[.int .i64 0, .int .i64 0]) rfl (fun _ => by kernel_rfl) ?_
  refine sq_p (.bool false) rfl (fun _ => by kernel_rfl) ?_
  refine sq_new rfl (fun b => .pointer (some ⟨b, 0, none⟩)) [.int .i64 0, .int .i64 0] 29 (fun _ => by kernel_rfl) h ?_; intro k3 w h
  refine sq_st rfl 0 [.int .i64 0, .int .i64 0] [.int .i64 0, .int .i64 0] h 0 rfl (by kernel_rfl) ?_; intro w h
  refine sq_p (.bool false) rfl (fun _ => by kernel_rfl) ?_
  refine lnil ?_
  refine thn_n ?_
  refine c_seq ?_
  refine c_block ?_
  refine c_seq ?_
  refine c_reg ?_
  refine sq_p (.nilIface) rfl (fun _ => by kernel_rfl) ?_
  refine sq_p (.bool false) rfl (fun _ => by kernel_rfl) ?_
  refine sq_p (.bool false) rfl (fun _ => by kernel_rfl) ?_
  refine lnil ?_
  refine thn_n ?_
  refine c_false (by kernel_rfl) ?_
  refine c_seq ?_
  refine c_reg ?_
  refine sq_p (.int .i64 2) rfl (fun _ => by kernel_rfl) ?_
  refine sq_p (.bool true) rfl (fun _ => by kernel_rfl) ?_
  refine sq_p (.bool true) rfl (fun _ => by kernel_rfl) ?_
  refine sq_p (.int .i64 2) (by kernel_rfl) (fun _ => by kernel_rfl) ?_
  refine sq_p (.bool false) (by kernel_rfl) (fun _ => by kernel_rfl) ?_
  refine sq_p (.bool false) rfl (fun _ => by kernel_rfl) ?_
  refine sq_p (.bool false) rfl (fun _ => by kernel_rfl) ?_
  refine lnil ?_
  refine thn_n ?_
  refine c_false (by kernel_rfl) ?_
  refine c_seq ?_
  refine c_reg ?_
  refine sq_p (.bool false) rfl (fun _ => by kernel_rfl) ?_
  refine sq_p (.bool false) rfl (fun _ => by kernel_rfl) ?_
  refine lnil ?_
  refine thn_n ?_
  refine c_false (by kernel_rfl) ?_
  refine c_seq ?_
  refine c_reg ?_
  refine sq_p (.map (some d.mb)) rfl (fun _ => by kernel_rfl) ?_
  refine sq_q rfl h (g_lenm (K := 9) (E := 29) (by kernel_rfl) 1 rfl) ?_
  refine sq_p (.bool (decide (((d.es.map enKV).length : Int) ≥ 60))) rfl (fun _ => by kernel_rfl) ?_
  refine sq_p (.bool (decide (((d.es.map enKV).length : Int) ≥ 60))) rfl (fun _ => by kernel_rfl) ?_
  refine lnil ?_
  refine thn_n ?_
  refine c_cond (decide (((d.es.map enKV).length : Int) ≥ 60)) (by kernel_rfl) (fun hc4 => ?_) (fun hc4 => ?_)
  · skip
    have hc4 := of_decide_eq_true hc4
    exfalso; revert hc4; simp; omega
  · skip
    have hc4 := of_decide_eq_false hc4
    refine c_skip ?_
    refine blk_n (thn_n ?_)
    refine c_seq ?_
    refine c_reg ?_
    refine sq_p (.pointer (some ⟨b, 0, none⟩)) rfl (fun _ => by kernel_rfl) ?_
    refine sq_p (.pointer (some ⟨b, 0, none⟩)) rfl (fun _ => by kernel_rfl) ?_
    refine sq_p (.pointer (some ⟨b, 0, none⟩)) rfl (fun _ => by kernel_rfl) ?_
    refine sq_q rfl h (g_ld 0 [.pointer (some ⟨tb, 0, none⟩)] (.pointer (some ⟨tb, 0, none⟩)) (by kernel_rfl) 3 rfl) ?_
    refine sq_p (.int .i64 2) rfl (fun _ => by kernel_rfl) ?_
    refine sq_call #[.pointer (some ⟨tb, 0, none⟩), .int .i64 2] [4, 4] rfl (tabAdd2_spec tb kf x ps gs vl vg T Sl Sg l hlen hl hf hxx (by have := hr x (List.mem_of_getElem? hxx); omega)) (fun _ => by kernel_rfl) h ?_; rintro v_ L_ w ⟨nb5, rfl, rfl⟩ h
    have hkfl := get_lt hxx
    have hkl := get_lt hlk
    have hx0 := hr x (List.mem_of_getElem? hxx)
    have hl2 := len_set (x := some nb5) (y := x + 1) (k := kf) (j := kf) hl
    have hr2 := rng_set hr hxx hx1
    have ha2 : atOf (ps.set kf (some nb5)) (gs.set kf (x + 1)) (kf : Int) x = some nb5 := atOf_self (by omega) hkfl
    have haN : atOf (ps.set kf (some nb5)) (gs.set kf (x + 1)) n g = some N.nb := by rw [hnk] at ha ⊢; exact atOf_ne ha hkk
    refine sq_p (.tuple #[.agg #[.int .i64 (kf : Int), .int .i64 x], .nilIface]) rfl (fun _ => by kernel_rfl) ?_
    refine sq_p (.agg #[.int .i64 (kf : Int), .int .i64 x]) rfl (fun _ => by kernel_rfl) ?_
    refine sq_p (.nilIface) rfl (fun _ => by kernel_rfl) ?_
    refine sq_new rfl (fun b => .pointer (some ⟨b, 0, none⟩)) [.int .i64 0, .int .i64 0] 29 (fun _ => by kernel_rfl) h ?_; intro k7 w h
    refine sq_st rfl 0 [.int .i64 (kf : Int), .int .i64 x] [.int .i64 (kf : Int), .int .i64 x] h 0 rfl (by kernel_rfl) ?_; intro w h
    refine sq_p (.nilIface) rfl (fun _ => by kernel_rfl) ?_
    refine lnil ?_
    refine thn_n ?_
    refine c_seq ?_
    refine c_seq ?_
    refine c_reg ?_
    refine sq_p (.nilIface) rfl (fun _ => by kernel_rfl) ?_
    refine sq_p (.bool false) rfl (fun _ => by kernel_rfl) ?_
    refine lnil ?_
    refine thn_n ?_
    refine c_false (by kernel_rfl) ?_
    refine c_skip ?_
    refine thn_n ?_
    refine c_seq ?_
    refine c_reg ?_
    refine sq_p (.map (some d.mb)) rfl (fun _ => by kernel_rfl) ?_
    refine sq_p (.string s) rfl (fun _ => by kernel_rfl) ?_
    refine sq_q rfl h (g_ld 0 [.int .i64 (kf : Int), .int .i64 x] (.agg #[.int .i64 (kf : Int), .int .i64 x]) (by kernel_rfl) 0 rfl) ?_
    refine sq_mapu rfl (K := 9) (E := 29) (keyStr (by kernel_rfl)) s (.agg #[.int .i64 (kf : Int), .int .i64 x]) (by kernel_rfl) h 4 rfl ?_; intro w h
    refine lnil ?_
    refine thn_n ?_
    refine c_seq ?_
    refine c_seq ?_
    refine c_reg ?_
    refine sq_p (.int .i64 2) rfl (fun _ => by kernel_rfl) ?_
    refine sq_p (.bool true) rfl (fun _ => by kernel_rfl) ?_
    refine lnil ?_
    refine thn_n ?_
    refine c_true (by kernel_rfl) ?_
    refine c_seq ?_
    refine d_start 7 [0, 5] (by kernel_rfl) h fun w h => ?_
    refine d_take 0 48 [0, 5] rfl (v := .pointer (some ⟨b, 0, none⟩)) (by kernel_rfl) (qp_thn (qp_thn qp_body)) (yq (by kernel_rfl) (g_pure (v := .pointer (some ⟨b, 0, none⟩)) fun _ => by kernel_rfl)) h (by kernel_rfl) ?_
    refine d_take 1 49 [0, 5] rfl (v := .pointer (some ⟨b, 0, none⟩)) (by kernel_rfl) (qp_thn (qp_thn qp_body)) (yq (by kernel_rfl) (g_pure (v := .pointer (some ⟨b, 0, none⟩)) fun _ => by kernel_rfl)) h (by kernel_rfl) ?_
    refine d_take 2 51 [0, 5] rfl (v := .pointer (some ⟨b, 4, none⟩)) (by kernel_rfl) (qp_thn (qp_thn qp_body)) (yq (by kernel_rfl) (g_pure (v := .pointer (some ⟨b, 4, none⟩)) fun _ => by kernel_rfl)) h (by kernel_rfl) ?_
    refine d_take 3 55 [0, 5] rfl (v := .map (some dm)) (by kernel_rfl) (qp_thn (qp_thn qp_body)) (yq (by kernel_rfl) (g_ld 4 [.map (some dm)] (.map (some dm)) (by kernel_rfl) 1 rfl)) h (by kernel_rfl) ?_
    refine d_take 4 47 [0, 5] rfl (v := .agg #[.int .i64 (kf : Int), .int .i64 x]) (by kernel_rfl) (qp_thn (qp_thn qp_body)) (yq (by kernel_rfl) (g_ld 0 [.int .i64 (kf : Int), .int .i64 x] (.agg #[.int .i64 (kf : Int), .int .i64 x]) (by kernel_rfl) 0 rfl)) h (by kernel_rfl) ?_
    refine d_ready [5] (by kernel_rfl) rfl ?_
    refine ad_newm [1, 6] rfl (by kernel_rfl) sk (fun _ => by kernel_rfl) h ?_ ?_
    · skip
      intro k8 w h; refine ⟨by kernel_rfl, ?_⟩
      refine d_ready [6] (by kernel_rfl) rfl ?_
      refine ad_mapu [1, 6] rfl (by kernel_rfl) (K := 29) (E := 177) keyHk ((kf : Int), x) (.map (some k8)) (by kernel_rfl) h 8 rfl ?_ ?_
      · skip
        intro w h; refine ⟨by kernel_rfl, ?_⟩
        refine d_done (by kernel_rfl) ?_
        refine thn_n ?_
        refine c_seq ?_
        refine d_start 9 [1, 6, 10] (by kernel_rfl) h fun w h => ?_
        refine d_take 0 240 [1, 6, 10] rfl (v := .pointer (some ⟨b, 0, none⟩)) (by kernel_rfl) (qp_thn (qp_thn qp_body)) (yq (by kernel_rfl) (g_pure (v := .pointer (some ⟨b, 0, none⟩)) fun _ => by kernel_rfl)) h (by kernel_rfl) ?_
        refine d_take 1 241 [1, 6, 10] rfl (v := .pointer (some ⟨b, 0, none⟩)) (by kernel_rfl) (qp_thn (qp_thn qp_body)) (yq (by kernel_rfl) (g_pure (v := .pointer (some ⟨b, 0, none⟩)) fun _ => by kernel_rfl)) h (by kernel_rfl) ?_
        refine d_take 2 243 [1, 6, 10] rfl (v := .pointer (some ⟨b, 0, none⟩)) (by kernel_rfl) (qp_thn (qp_thn qp_body)) (yq (by kernel_rfl) (g_pure (v := .pointer (some ⟨b, 0, none⟩)) fun _ => by kernel_rfl)) h (by kernel_rfl) ?_
        refine d_take 3 247 [1, 6, 10] rfl (v := .pointer (some ⟨tb, 0, none⟩)) (by kernel_rfl) (qp_thn (qp_thn qp_body)) (yq (by kernel_rfl) (g_ld 0 [.pointer (some ⟨tb, 0, none⟩)] (.pointer (some ⟨tb, 0, none⟩)) (by kernel_rfl) 1 rfl)) h (by kernel_rfl) ?_
        refine d_take 4 239 [1, 6, 10] rfl (v := .agg #[.int .i64 (kf : Int), .int .i64 x]) (by kernel_rfl) (qp_thn (qp_thn qp_body)) (yq (by kernel_rfl) (g_ld 0 [.int .i64 (kf : Int), .int .i64 x] (.agg #[.int .i64 (kf : Int), .int .i64 x]) (by kernel_rfl) 0 rfl)) h (by kernel_rfl) ?_
        refine d_take 5 95 [1, 6, 10] rfl (v := .int .i64 2) (by kernel_rfl) (qp_thn (qp_thn qp_body)) (yq (by kernel_rfl) (g_pure (v := .int .i64 2) fun _ => by kernel_rfl)) h (by kernel_rfl) ?_
        refine d_take 6 63 [1, 6, 10] rfl (v := .agg #[.int .i64 n, .int .i64 g]) (by kernel_rfl) (qp_thn (qp_thn qp_body)) (yq (by kernel_rfl) (g_ld 0 [.int .i64 n, .int .i64 g] (.agg #[.int .i64 n, .int .i64 g]) (by kernel_rfl) 2 rfl)) h (by kernel_rfl) ?_
        refine d_take 7 127 [1, 6, 10] rfl (v := .agg #[.int .i64 2, .int .i64 0, .int .i64 2, .int .i64 0, .int .i64 n, .int .i64 g]) (by kernel_rfl) (qp_thn (qp_thn qp_body)) (yq (by kernel_rfl) (g_pure (v := .agg #[.int .i64 2, .int .i64 0, .int .i64 2, .int .i64 0, .int .i64 n, .int .i64 g]) fun _ => by kernel_rfl)) h (by kernel_rfl) ?_
        refine d_ready [8] (by kernel_rfl) rfl ?_
        refine ad_call #[.pointer (some ⟨tb, 0, none⟩), .agg #[.int .i64 (kf : Int), .int .i64 x], .agg #[.int .i64 2, .int .i64 0, .int .i64 2, .int .i64 0, .int .i64 n, .int .i64 g]] [2, 2, 7] [4, 7, 10] rfl (by kernel_rfl) (keep_spec ad tb (ps.set kf (some nb5)) (gs.set kf (x + 1)) vl vg T Sl Sg (l.set kf (some (newND nb5 2 none))) hl2 hr2 (kf : Int) x kf (newND nb5 2 none) (get_at (by first | omega | (simp; omega))) ha2 2 0 2 0 n g) (fun _ => by kernel_rfl) h ?_ ?_
        · skip
          rintro _ L_ w rfl h
          refine ⟨by kernel_rfl, ?_⟩
          refine d_done (by kernel_rfl) ?_
          refine thn_n ?_
          refine c_reg ?_
          refine sq_p (.pointer (some ⟨b, 0, none⟩)) rfl (fun _ => by kernel_rfl) ?_
          refine sq_q rfl h (g_ld 0 [.int .i64 n, .int .i64 g] (.agg #[.int .i64 n, .int .i64 g]) (by kernel_rfl) 12 rfl) ?_
          refine sq_call #[.pointer (some ⟨b, 0, none⟩), .agg #[.int .i64 n, .int .i64 g], .int .i64 1] [8, 0, 0, 0] rfl (links_spec ad b most tb dm pm (ps.set kf (some nb5)) (gs.set kf (x + 1)) vl vg T Sl Sg ((l.set kf (some (newND nb5 2 none))).set kf (some (keepN (newND nb5 2 none) 2 0 2 n g))) ds pn hl2 hr2 n g k N (get_ne (get_ne hlk (by omega)) (by omega)) haN 1 (by omega) (by first | assumption | (constructor <;> first | omega | (simp [linkN, keepN, newND, touchN] <;> omega)))) (fun _ => by kernel_rfl) h ?_; rintro _ L_ w rfl h
          refine lnil ?_
          refine thn_n ?_
          refine c_seq ?_
          refine d_start 6 [0, 11] (by kernel_rfl) h fun w h => ?_
          refine d_take 0 16 [0, 11] rfl (v := .pointer (some ⟨b, 0, none⟩)) (by kernel_rfl) (qp_thn qp_body) (yq (by kernel_rfl) (g_pure (v := .pointer (some ⟨b, 0, none⟩)) fun _ => by kernel_rfl)) h (by kernel_rfl) ?_
          refine d_take 1 17 [0, 11] rfl (v := .pointer (some ⟨b, 0, none⟩)) (by kernel_rfl) (qp_thn qp_body) (yq (by kernel_rfl) (g_pure (v := .pointer (some ⟨b, 0, none⟩)) fun _ => by kernel_rfl)) h (by kernel_rfl) ?_
          refine d_take 2 19 [0, 11] rfl (v := .pointer (some ⟨b, 0, none⟩)) (by kernel_rfl) (qp_thn qp_body) (yq (by kernel_rfl) (g_pure (v := .pointer (some ⟨b, 0, none⟩)) fun _ => by kernel_rfl)) h (by kernel_rfl) ?_
          refine d_take 3 23 [0, 11] rfl (v := .pointer (some ⟨tb, 0, none⟩)) (by kernel_rfl) (qp_thn qp_body) (yq (by kernel_rfl) (g_ld 0 [.pointer (some ⟨tb, 0, none⟩)] (.pointer (some ⟨tb, 0, none⟩)) (by kernel_rfl) 0 rfl)) h (by kernel_rfl) ?_
          refine d_take 4 15 [0, 11] rfl (v := .agg #[.int .i64 n, .int .i64 g]) (by kernel_rfl) (qp_thn qp_body) (yq (by kernel_rfl) (g_ld 0 [.int .i64 n, .int .i64 g] (.agg #[.int .i64 n, .int .i64 g]) (by kernel_rfl) 1 rfl)) h (by kernel_rfl) ?_
          refine d_ready [5] (by kernel_rfl) rfl ?_
          refine ad_call #[.pointer (some ⟨tb, 0, none⟩), .agg #[.int .i64 n, .int .i64 g]] [1, 1, 1] [3, 11] rfl (by kernel_rfl) (touch_spec ad tb (ps.set kf (some nb5)) (gs.set kf (x + 1)) vl vg T Sl Sg (((l.set kf (some (newND nb5 2 none))).set kf (some (keepN (newND nb5 2 none) 2 0 2 n g))).set k (some (linkN N 1))) hl2 hr2 n g k (linkN N 1) (get_at (by first | omega | (simp; omega))) haN (by first | assumption | (constructor <;> first | omega | (simp [linkN, keepN, newND, touchN] <;> omega)))) (fun _ => by kernel_rfl) h ?_ ?_
          · skip
            rintro v_ L_ w ⟨rfl, rfl⟩ h
            refine ⟨by kernel_rfl, ?_⟩
            refine d_done (by kernel_rfl) ?_
            refine thn_n ?_
            refine c_seq ?_
            refine c_reg ?_
            refine sq_q rfl h (g_ld 0 [.int .i64 (kf : Int), .int .i64 x] (.agg #[.int .i64 (kf : Int), .int .i64 x]) (by kernel_rfl) 5 rfl) ?_
            refine sq_st rfl 0 [.int .i64 (kf : Int), .int .i64 x] [.int .i64 (kf : Int), .int .i64 x] h 11 rfl (by kernel_rfl) ?_; intro w h
            refine sq_p (.nilIface) rfl (fun _ => by kernel_rfl) ?_
            refine lnil ?_
            refine thn_n ?_
            refine c_ret ?_
            rw [show aput (d.es.map enKV) s (Value.agg #[Value.int .i64 (kf : Int), Value.int .i64 x]) = (aput d.es s ((kf : Int), x)).map enKV from en_put s ((kf : Int), x) d.es] at h
            have h : Own w0 E [rTab tb (ps.set kf (some nb5)) (gs.set kf (x + 1)) vl vg T Sl Sg, rNds ((((l.set kf (some (newND nb5 2 none))).set kf (some (keepN (newND nb5 2 none) 2 0 2 n g))).set k (some (linkN N 1))).set k (some (touchN (linkN N 1)))), rEnv B ad [10], rCell true b [.pointer (some ⟨tb, 0, none⟩), .int .i64 (most : Int), .int .i64 0, .int .i64 0, .map (some dm), .map (some pm)] 175, rMap true k8 sk [], rCell true k7 [.int .i64 (kf : Int), .int .i64 x] 29, rCell true k3 [.int .i64 0, .int .i64 0] 29, rMap true d.mb sk ((aput d.es s ((kf : Int), x)).map enKV), rDirsO ds j, rMap true dm hk (aput (ds.map dnKV) ((kf : Int), x) (.map (some k8))), rEnv B ad [4], rCell true k2 [.int .i64 (kf : Int), .int .i64 x] 29, rCell true k1 [.int .i64 n, .int .i64 g] 29] w := h
            have h := h.pickE (M := [rMap true d.mb sk ((aput d.es s ((kf : Int), x)).map enKV), rDirsO ds j, rTab tb (ps.set kf (some nb5)) (gs.set kf (x + 1)) vl vg T Sl Sg, rNds ((((l.set kf (some (newND nb5 2 none))).set kf (some (keepN (newND nb5 2 none) 2 0 2 n g))).set k (some (linkN N 1))).set k (some (touchN (linkN N 1)))), rEnv B ad [10], rCell true b [.pointer (some ⟨tb, 0, none⟩), .int .i64 (most : Int), .int .i64 0, .int .i64 0, .map (some dm), .map (some pm)] 175, rMap true k8 sk [], rCell true k7 [.int .i64 (kf : Int), .int .i64 x] 29, rCell true k3 [.int .i64 0, .int .i64 0] 29, rMap true dm hk (aput (ds.map dnKV) ((kf : Int), x) (.map (some k8))), rEnv B ad [4], rCell true k2 [.int .i64 (kf : Int), .int .i64 x] 29, rCell true k1 [.int .i64 n, .int .i64 g] 29]) [7, 7, 0, 0, 0, 0, 0, 0, 0, 0, 0, 0, 0] (by kernel_rfl)
            have h := h.dirClose { d with es := aput d.es s ((kf : Int), x) }
            have h : Own w0 E [rDirs (ds.set j { d with es := aput d.es s ((kf : Int), x) }), rTab tb (ps.set kf (some nb5)) (gs.set kf (x + 1)) vl vg T Sl Sg, rNds ((((l.set kf (some (newND nb5 2 none))).set kf (some (keepN (newND nb5 2 none) 2 0 2 n g))).set k (some (linkN N 1))).set k (some (touchN (linkN N 1)))), rEnv B ad [10], rCell true b [.pointer (some ⟨tb, 0, none⟩), .int .i64 (most : Int), .int .i64 0, .int .i64 0, .map (some dm), .map (some pm)] 175, rMap true k8 sk [], rCell true k7 [.int .i64 (kf : Int), .int .i64 x] 29, rCell true k3 [.int .i64 0, .int .i64 0] 29, rMap true dm hk (aput (ds.map dnKV) ((kf : Int), x) (.map (some k8))), rEnv B ad [4], rCell true k2 [.int .i64 (kf : Int), .int .i64 x] 29, rCell true k1 [.int .i64 n, .int .i64 g] 29] w := h
            rw [← dnKV_set (d' := { d with es := aput d.es s ((kf : Int), x) }) hj rfl rfl] at h
            have h : Own w0 E [rDirs (ds.set j { d with es := aput d.es s ((kf : Int), x) }), rTab tb (ps.set kf (some nb5)) (gs.set kf (x + 1)) vl vg T Sl Sg, rNds ((((l.set kf (some (newND nb5 2 none))).set kf (some (keepN (newND nb5 2 none) 2 0 2 n g))).set k (some (linkN N 1))).set k (some (touchN (linkN N 1)))), rEnv B ad [10], rCell true b [.pointer (some ⟨tb, 0, none⟩), .int .i64 (most : Int), .int .i64 0, .int .i64 0, .map (some dm), .map (some pm)] 175, rMap true k8 sk [], rCell true k7 [.int .i64 (kf : Int), .int .i64 x] 29, rCell true k3 [.int .i64 0, .int .i64 0] 29, rMap true dm hk (aput ((ds.set j { d with es := aput d.es s ((kf : Int), x) }).map dnKV) ((kf : Int), x) (.map (some k8))), rEnv B ad [4], rCell true k2 [.int .i64 (kf : Int), .int .i64 x] 29, rCell true k1 [.int .i64 n, .int .i64 g] 29] w := h
            have h := h.pickE (M := [rMap true k8 sk [], rDirs (ds.set j { d with es := aput d.es s ((kf : Int), x) }), rTab tb (ps.set kf (some nb5)) (gs.set kf (x + 1)) vl vg T Sl Sg, rNds ((((l.set kf (some (newND nb5 2 none))).set kf (some (keepN (newND nb5 2 none) 2 0 2 n g))).set k (some (linkN N 1))).set k (some (touchN (linkN N 1)))), rEnv B ad [10], rCell true b [.pointer (some ⟨tb, 0, none⟩), .int .i64 (most : Int), .int .i64 0, .int .i64 0, .map (some dm), .map (some pm)] 175, rCell true k7 [.int .i64 (kf : Int), .int .i64 x] 29, rCell true k3 [.int .i64 0, .int .i64 0] 29, rMap true dm hk (aput ((ds.set j { d with es := aput d.es s ((kf : Int), x) }).map dnKV) ((kf : Int), x) (.map (some k8))), rEnv B ad [4], rCell true k2 [.int .i64 (kf : Int), .int .i64 x] 29, rCell true k1 [.int .i64 n, .int .i64 g] 29]) [5, 0, 0, 0, 0, 0, 0, 0, 0, 0, 0, 0] (by kernel_rfl)
            have h := h.dirAdd ⟨((kf : Int), x), k8, []⟩
            have h : Own w0 E [rDirs (ds.set j { d with es := aput d.es s ((kf : Int), x) } ++ [(⟨((kf : Int), x), k8, []⟩ : DN)]), rTab tb (ps.set kf (some nb5)) (gs.set kf (x + 1)) vl vg T Sl Sg, rNds ((((l.set kf (some (newND nb5 2 none))).set kf (some (keepN (newND nb5 2 none) 2 0 2 n g))).set k (some (linkN N 1))).set k (some (touchN (linkN N 1)))), rEnv B ad [10], rCell true b [.pointer (some ⟨tb, 0, none⟩), .int .i64 (most : Int), .int .i64 0, .int .i64 0, .map (some dm), .map (some pm)] 175, rCell true k7 [.int .i64 (kf : Int), .int .i64 x] 29, rCell true k3 [.int .i64 0, .int .i64 0] 29, rMap true dm hk (aput ((ds.set j { d with es := aput d.es s ((kf : Int), x) }).map dnKV) ((kf : Int), x) (.map (some k8))), rEnv B ad [4], rCell true k2 [.int .i64 (kf : Int), .int .i64 x] 29, rCell true k1 [.int .i64 n, .int .i64 g] 29] w := h
            rw [dir_new (es := []) (fun d2 hd2 => by rcases List.mem_or_eq_of_mem_set hd2 with hd2 | rfl; exact hnh d2 hd2; exact hnh d (List.mem_of_getElem? hj))] at h
            have h : Own w0 E [rDirs (ds.set j { d with es := aput d.es s ((kf : Int), x) } ++ [(⟨((kf : Int), x), k8, []⟩ : DN)]), rTab tb (ps.set kf (some nb5)) (gs.set kf (x + 1)) vl vg T Sl Sg, rNds ((((l.set kf (some (newND nb5 2 none))).set kf (some (keepN (newND nb5 2 none) 2 0 2 n g))).set k (some (linkN N 1))).set k (some (touchN (linkN N 1)))), rEnv B ad [10], rCell true b [.pointer (some ⟨tb, 0, none⟩), .int .i64 (most : Int), .int .i64 0, .int .i64 0, .map (some dm), .map (some pm)] 175, rCell true k7 [.int .i64 (kf : Int), .int .i64 x] 29, rCell true k3 [.int .i64 0, .int .i64 0] 29, rMap true dm hk ((ds.set j { d with es := aput d.es s ((kf : Int), x) } ++ [(⟨((kf : Int), x), k8, []⟩ : DN)]).map dnKV), rEnv B ad [4], rCell true k2 [.int .i64 (kf : Int), .int .i64 x] 29, rCell true k1 [.int .i64 n, .int .i64 g] 29] w := h
            refine ret_end [.agg #[.int .i64 (kf : Int), .int .i64 x], .nilIface] [4, 1, 1, 4, 0, 0, 2] h (by kernel_rfl) (res_c 0 [.int .i64 (kf : Int), .int .i64 x] (.agg #[.int .i64 (kf : Int), .int .i64 x]) 9 rfl (by kernel_rfl) (res_t (by kernel_rfl) res_n)) ?_
            exact ⟨_, _, rfl, rfl⟩
          exact ad_nil
        exact ad_nil
      exact ad_nil
    exact ad_nil
set_option maxHeartbeats 1000000 in
theorem linkY_spec {B : Nat} (ad : Nat → Addr) (b most tb dm pm : Nat) (ps : List (Option Nat)) (gs : List Int) (vl vg : Value) (T : TypeId) (Sl Sg : Nat → Prop) (l : List (Option ND)) (ds : List DN) (pn : List ((Int × Int) × Int)) (hl : ps.length = gs.length) (hr : ∀ x ∈ gs, 0 ≤ x ∧ x ≤ 1000000) (n g : Int) (k : Nat) (N : ND) (hlk : l[k]? = some (some N)) (ha : atOf ps gs n g = some N.nb) (j : Nat) (d : DN) (hj : ds[j]? = some d) (hdh : d.h = (n, g)) (hdd : (ds.map (·.h)).Nodup) (s : ByteArray) (hs : s.size ≤ 9223372036854775807) (hok : nameOk s) (hx : aget d.es s = none) (ni gi : Int) (ki : Nat) (Ni : ND) (hlki : l[ki]? = some (some Ni)) (hai : atOf ps gs ni gi = some Ni.nb) (hkd : Ni.kind = 1) (hfew : d.es.length < 60) (hli : 0 ≤ Ni.links ∧ Ni.links < 8) (hki : ki ≠ k) (hch : 0 ≤ N.change ∧ N.change ≤ 1000000) (hci : 0 ≤ Ni.change ∧ Ni.change ≤ 1000000)  : Spec Tryd.prog 22 #[.pointer (some ⟨b, 0, none⟩), .agg #[.int .i64 ni, .int .i64 gi], .agg #[.int .i64 n, .int .i64 g], .string s] [rCell true b [.pointer (some ⟨tb, 0, none⟩), .int .i64 (most : Int), .int .i64 0, .int .i64 0, .map (some dm), .map (some pm)] 175, rTab tb ps gs vl vg T Sl Sg, rNds l, rMap true dm hk (ds.map dnKV), rDirs ds, rEnv B ad [10], rEnv B ad [4]] (fun u L => u = .nilIface ∧ L = [rCell true b [.pointer (some ⟨tb, 0, none⟩), .int .i64 (most : Int), .int .i64 0, .int .i64 0, .map (some dm), .map (some pm)] 175, rTab tb ps gs vl vg T Sl Sg, rNds (((l.set ki (some (linkN Ni 1))).set ki (some (touchN (linkN Ni 1)))).set k (some (touchN N))), rMap true dm hk ((ds.set j { d with es := aput d.es s (ni, gi) }).map dnKV), rDirs (ds.set j { d with es := aput d.es s (ni, gi) }), rEnv B ad [10], rEnv B ad [4]]) := by
  have hkl := get_lt hlk
  have hkil := get_lt hlki
  refine spec_of (#[.pointer (some ⟨b, 0, none⟩), .agg #[.int .i64 ni, .int .i64 gi], .agg #[.int .i64 n, .int .i64 g], .string s, undef, undef, undef, undef, undef, undef, undef, undef, undef, undef, undef, undef, undef, undef, undef, undef, undef, undef, undef, undef, undef, undef, undef, undef, undef, undef, undef, undef, undef, undef, undef, undef, undef, undef, undef, undef, undef, undef, undef, undef, undef, undef, undef, undef, undef, undef, undef, undef, undef, undef, undef, undef, undef, undef, undef, undef, undef, undef, undef, undef, undef, undef, undef, undef, undef, undef, undef, undef, undef, undef, undef, undef, undef, undef, undef]) Tryd.func22 rfl (by kernel_rfl) fun E w0 w h => ?_
  refine c_seq ?_
  refine c_reg ?_
  refine sq_new rfl (fun b => .pointer (some ⟨b, 0, none⟩)) [.int .i64 ni, .int .i64 gi] 29 (fun _ => by kernel_rfl) h ?_; intro k1 w h
  refine sq_new rfl (fun b => .pointer (some ⟨b, 0, none⟩)) [.int .i64 n, .int .i64 g] 29 (fun _ => by kernel_rfl) h ?_; intro k2 w h
  refine sq_p (.nilIface) rfl (fun _ => by kernel_rfl) ?_
  refine lnil ?_
  refine thn_n ?_
  refine c_seq ?_
  refine d_start 12 [1, 1] (by kernel_rfl) h fun w h => ?_
  refine d_take 0 528 [1, 1] rfl (v := .pointer (some ⟨b, 0, none⟩)) (by kernel_rfl) (qp_thn qp_body) (yq (by kernel_rfl) (g_pure (v := .pointer (some ⟨b, 0, none⟩)) fun _ => by kernel_rfl)) h (by kernel_rfl) ?_
  refine d_take 1 529 [1, 1] rfl (v := .pointer (some ⟨b, 0, none⟩)) (by kernel_rfl) (qp_thn qp_body) (yq (by kernel_rfl) (g_pure (v := .pointer (some ⟨b, 0, none⟩)) fun _ => by kernel_rfl)) h (by kernel_rfl) ?_
  refine d_take 2 531 [1, 1] rfl (v := .pointer (some ⟨b, 0, none⟩)) (by kernel_rfl) (qp_thn qp_body) (yq (by kernel_rfl) (g_pure (v := .pointer (some ⟨b, 0, none⟩)) fun _ => by kernel_rfl)) h (by kernel_rfl) ?_
  refine d_take 3 535 [1, 1] rfl (v := .pointer (some ⟨tb, 0, none⟩)) (by kernel_rfl) (qp_thn qp_body) (yq (by kernel_rfl) (g_ld 0 [.pointer (some ⟨tb, 0, none⟩)] (.pointer (some ⟨tb, 0, none⟩)) (by kernel_rfl) 1 rfl)) h (by kernel_rfl) ?_
  refine d_take 4 527 [1, 1] rfl (v := .agg #[.int .i64 ni, .int .i64 gi]) (by kernel_rfl) (qp_thn qp_body) (yq (by kernel_rfl) (g_ld 0 [.int .i64 ni, .int .i64 gi] (.agg #[.int .i64 ni, .int .i64 gi]) (by kernel_rfl) 0 rfl)) h (by kernel_rfl) ?_
  refine d_ready [5, 9] (by kernel_rfl) rfl ?_
  refine ad_call #[.pointer (some ⟨tb, 0, none⟩), .agg #[.int .i64 ni, .int .i64 gi]] [3, 3, 5] [4, 4] rfl (by kernel_rfl) (attrY_spec ad tb ps gs vl vg T Sl Sg l hl hr ni gi ki Ni hlki hai) (fun _ => by kernel_rfl) h ?_ ?_
  · skip
    rintro v_ L_ w ⟨rfl, rfl⟩ h
    refine ⟨by kernel_rfl, ?_⟩
    refine d_take 6 575 [4, 4] rfl (v := .tuple #[.agg #[.int .i64 Ni.kind, .int .i64 (ndSize Ni), .int .i64 Ni.links, .int .i64 Ni.change, .int .i64 Ni.upn, .int .i64 Ni.upg], .nilIface]) (by kernel_rfl) (qp_thn qp_body) (yq (by kernel_rfl) (g_pure (v := .tuple #[.agg #[.int .i64 Ni.kind, .int .i64 (ndSize Ni), .int .i64 Ni.links, .int .i64 Ni.change, .int .i64 Ni.upn, .int .i64 Ni.upg], .nilIface]) fun _ => by kernel_rfl)) h (by kernel_rfl) ?_
    refine d_take 7 895 [4, 4] rfl (v := .agg #[.int .i64 Ni.kind, .int .i64 (ndSize Ni), .int .i64 Ni.links, .int .i64 Ni.change, .int .i64 Ni.upn, .int .i64 Ni.upg]) (by kernel_rfl) (qp_thn qp_body) (yq (by kernel_rfl) (g_pure (v := .agg #[.int .i64 Ni.kind, .int .i64 (ndSize Ni), .int .i64 Ni.links, .int .i64 Ni.change, .int .i64 Ni.upn, .int .i64 Ni.upg]) fun _ => by kernel_rfl)) h (by kernel_rfl) ?_
    refine d_take 8 1791 [4, 4] rfl (v := .nilIface) (by kernel_rfl) (qp_thn qp_body) (yq (by kernel_rfl) (g_pure (v := .nilIface) fun _ => by kernel_rfl)) h (by kernel_rfl) ?_
    refine d_ready [9] (by kernel_rfl) rfl ?_
    refine ad_new [5, 5] rfl (by kernel_rfl) (fun b => .pointer (some ⟨b, 0, none⟩)) [.int .i64 0, .int .i64 0, .int .i64 0, .int .i64 0, .int .i64 0, .int .i64 0] 180 (fun _ => by kernel_rfl) h ?_ ?_
    · skip
      intro k3 w h; refine ⟨by kernel_rfl, ?_⟩
      refine d_ready [10] (by kernel_rfl) rfl ?_
      refine ad_st [5, 5] rfl (by kernel_rfl) 0 [.int .i64 Ni.kind, .int .i64 (ndSize Ni), .int .i64 Ni.links, .int .i64 Ni.change, .int .i64 Ni.upn, .int .i64 Ni.upg] [.int .i64 Ni.kind, .int .i64 (ndSize Ni), .int .i64 Ni.links, .int .i64 Ni.change, .int .i64 Ni.upn, .int .i64 Ni.upg] h 0 rfl (by kernel_rfl) ?_ ?_
      · skip
        intro w h; refine ⟨by kernel_rfl, ?_⟩
        refine d_take 11 2047 [5, 5] rfl (v := .nilIface) (by kernel_rfl) (qp_thn qp_body) (yq (by kernel_rfl) (g_pure (v := .nilIface) fun _ => by kernel_rfl)) h (by kernel_rfl) ?_
        refine d_done (by kernel_rfl) ?_
        refine thn_n ?_
        refine c_seq ?_
        refine c_seq ?_
        refine c_reg ?_
        refine sq_p (.nilIface) rfl (fun _ => by kernel_rfl) ?_
        refine sq_p (.bool false) rfl (fun _ => by kernel_rfl) ?_
        refine lnil ?_
        refine thn_n ?_
        refine c_false (by kernel_rfl) ?_
        refine c_skip ?_
        refine thn_n ?_
        refine c_seq ?_
        refine c_reg ?_
        refine sq_p (.pointer (some ⟨b, 0, none⟩)) rfl (fun _ => by kernel_rfl) ?_
        refine sq_q rfl h (g_ld 0 [.int .i64 n, .int .i64 g] (.agg #[.int .i64 n, .int .i64 g]) (by kernel_rfl) 4 rfl) ?_
        refine sq_p (.string s) rfl (fun _ => by kernel_rfl) ?_
        refine sq_call #[.pointer (some ⟨b, 0, none⟩), .agg #[.int .i64 n, .int .i64 g], .string s] [6, 1, 1, 4, 1, 4] rfl (namedY_spec ad b most tb dm pm ps gs vl vg T Sl Sg l ds pn hl hr n g k N hlk ha j d hj hdh hdd s hs hok) (fun _ => by kernel_rfl) h ?_; rintro v_ L_ w ⟨rfl, rfl⟩ h
        have h := h.pickE (M := [rDirs ds, rCell true b [.pointer (some ⟨tb, 0, none⟩), .int .i64 (most : Int), .int .i64 0, .int .i64 0, .map (some dm), .map (some pm)] 175, rTab tb ps gs vl vg T Sl Sg, rNds l, rMap true dm hk (ds.map dnKV), rEnv B ad [10], rEnv B ad [4], rCell true k3 [.int .i64 Ni.kind, .int .i64 (ndSize Ni), .int .i64 Ni.links, .int .i64 Ni.change, .int .i64 Ni.upn, .int .i64 Ni.upg] 180, rCell true k2 [.int .i64 n, .int .i64 g] 29, rCell true k1 [.int .i64 ni, .int .i64 gi] 29]) [9, 0, 0, 0, 0, 0, 0, 0, 0, 0] (by kernel_rfl)
        have h := h.dirOpen hj
        have h : Own w0 E [rMap true d.mb sk (d.es.map enKV), rDirsO ds j, rCell true b [.pointer (some ⟨tb, 0, none⟩), .int .i64 (most : Int), .int .i64 0, .int .i64 0, .map (some dm), .map (some pm)] 175, rTab tb ps gs vl vg T Sl Sg, rNds l, rMap true dm hk (ds.map dnKV), rEnv B ad [10], rEnv B ad [4], rCell true k3 [.int .i64 Ni.kind, .int .i64 (ndSize Ni), .int .i64 Ni.links, .int .i64 Ni.change, .int .i64 Ni.upn, .int .i64 Ni.upg] 180, rCell true k2 [.int .i64 n, .int .i64 g] 29, rCell true k1 [.int .i64 ni, .int .i64 gi] 29] w := h
        refine sq_p (.tuple #[.map (some d.mb), .nilIface]) rfl (fun _ => by kernel_rfl) ?_
        refine sq_p (.map (some d.mb)) rfl (fun _ => by kernel_rfl) ?_
        refine sq_p (.nilIface) rfl (fun _ => by kernel_rfl) ?_
        refine sq_p (.map (some d.mb)) rfl (fun _ => by kernel_rfl) ?_
        refine sq_p (.nilIface) rfl (fun _ => by kernel_rfl) ?_
        refine lnil ?_
        refine thn_n ?_
        refine c_seq ?_
        refine c_reg ?_
        refine sq_p (.map (some d.mb)) rfl (fun _ => by kernel_rfl) ?_
        refine sq_p (.string s) rfl (fun _ => by kernel_rfl) ?_
        refine sq_q rfl h (g_eq (v' := .tuple #[.agg #[.int .i64 0, .int .i64 0], .bool false]) (g_look (K := 9) (E := 29) (z := (.agg #[.int .i64 0, .int .i64 0])) (kv := (d.es.map enKV)) (ok := true) (keyStr (by kernel_rfl)) s (by kernel_rfl) (fun _ => by kernel_rfl) 0 rfl) (by rw [en_none hx]; rfl)) ?_
        refine sq_p (.tuple #[.agg #[.int .i64 0, .int .i64 0], .bool false]) rfl (fun _ => by kernel_rfl) ?_
        refine sq_p (.agg #[.int .i64 0, .int .i64 0]) rfl (fun _ => by kernel_rfl) ?_
        refine sq_p (.bool false) rfl (fun _ => by kernel_rfl) ?_
        refine sq_new rfl (fun b => .pointer (some ⟨b, 0, none⟩)) [.int .i64 0, .int .i64 0] 29 (fun _ => by kernel_rfl) h ?_; intro k4 w h
        refine sq_st rfl 0 [.int .i64 0, .int .i64 0] [.int .i64 0, .int .i64 0] h 0 rfl (by kernel_rfl) ?_; intro w h
        refine sq_p (.bool false) rfl (fun _ => by kernel_rfl) ?_
        refine lnil ?_
        refine thn_n ?_
        refine c_seq ?_
        refine c_block ?_
        refine c_seq ?_
        refine c_reg ?_
        refine sq_p (.nilIface) rfl (fun _ => by kernel_rfl) ?_
        refine sq_p (.bool false) rfl (fun _ => by kernel_rfl) ?_
        refine sq_p (.bool false) rfl (fun _ => by kernel_rfl) ?_
        refine lnil ?_
        refine thn_n ?_
        refine c_false (by kernel_rfl) ?_
        refine c_seq ?_
        refine c_reg ?_
        refine sq_p (.pointer (some ⟨k3, 0, none⟩)) rfl (fun _ => by kernel_rfl) ?_
        refine sq_q rfl h (g_ld 0 [.int .i64 Ni.kind] (.int .i64 Ni.kind) (by kernel_rfl) 9 rfl) ?_
        refine sq_p (.bool (decide (Ni.kind = 2))) rfl (fun _ => by kernel_rfl) ?_
        refine sq_p (.bool (decide (Ni.kind = 2))) rfl (fun _ => by kernel_rfl) ?_
        refine lnil ?_
        refine thn_n ?_
        refine c_cond (decide (Ni.kind = 2)) (by kernel_rfl) (fun hc5 => ?_) (fun hc5 => ?_)
        · skip
          have hc5 := of_decide_eq_true hc5
          exfalso; revert hc5; simp; omega
        · skip
          have hc5 := of_decide_eq_false hc5
          refine c_seq ?_
          refine c_reg ?_
          refine sq_p (.bool false) rfl (fun _ => by kernel_rfl) ?_
          refine sq_p (.bool false) rfl (fun _ => by kernel_rfl) ?_
          refine lnil ?_
          refine thn_n ?_
          refine c_false (by kernel_rfl) ?_
          refine c_seq ?_
          refine c_reg ?_
          refine sq_p (.map (some d.mb)) rfl (fun _ => by kernel_rfl) ?_
          refine sq_q rfl h (g_lenm (K := 9) (E := 29) (by kernel_rfl) 1 rfl) ?_
          obtain ⟨b6, hb6⟩ : ∃ b_ : Bool, b_ = (decide (((d.es.map enKV).length : Int) ≥ 60)) := ⟨_, rfl⟩
          refine sq_q (v := .bool b6) rfl h (by subst hb6; exact g_pure (v := .bool (decide (((d.es.map enKV).length : Int) ≥ 60))) fun _ => by kernel_rfl) ?_
          refine sq_p (.bool b6) rfl (fun _ => by kernel_rfl) ?_
          refine sq_m0 (v := .pointer (some ⟨k3, 2, none⟩)) b6 (by cases b6 <;> kernel_rfl) h (fun hB => by subst hB; exact g_pure (v := .pointer (some ⟨k3, 2, none⟩)) fun _ => by kernel_rfl) ?_
          refine sq_m0 (v := .int .i64 Ni.links) b6 (by cases b6 <;> kernel_rfl) h (fun hB => by subst hB; exact g_ld 2 [.int .i64 Ni.links] (.int .i64 Ni.links) (by kernel_rfl) 9 rfl) ?_
          obtain ⟨b7, hb7⟩ : ∃ b_ : Bool, b_ = (decide (Ni.links ≥ 8)) := ⟨_, rfl⟩
          refine sq_m0 (v := .bool b7) b6 (by cases b6 <;> kernel_rfl) h (fun hB => by subst hB; exact by subst hb7; exact g_pure (v := .bool (decide (Ni.links ≥ 8))) fun _ => by kernel_rfl) ?_
          obtain ⟨b8, hb8⟩ : ∃ b_ : Bool, b_ = (b6 || b7) := ⟨_, rfl⟩
          refine sq_q (v := .bool b8) rfl h (by subst hb8; exact g_pure (v := .bool (b6 || b7)) fun _ => by cases b6 <;> kernel_rfl) ?_
          refine sq_p (.bool b8) rfl (fun _ => by kernel_rfl) ?_
          refine lnil ?_
          refine thn_n ?_
          refine c_cond (b8) (by kernel_rfl) (fun hc9 => ?_) (fun hc9 => ?_)
          · skip
            have q10 : (b6 || b7) = true := by rw [← hb8]; exact hc9
            have q11 : ((((d.es.map enKV).length : Int) ≥ 60) ∨ (Ni.links ≥ 8)) := by subst hb7; subst hb6; revert q10; first | (simp; done) | (simp; omega)
            exfalso; revert hc9; subst hb8; subst hb7; subst hb6; simp; omega
          · skip
            have q12 : (b6 || b7) = false := by rw [← hb8]; exact hc9
            have q13 : b6 = false := by revert q12; cases b6 <;> simp
            have q14 : b7 = false := by revert q12; cases b6 <;> cases b7 <;> simp
            have q15 : (decide (((d.es.map enKV).length : Int) ≥ 60)) = false := by rw [← hb6]; exact q13
            have q15 := of_decide_eq_false q15
            have q16 : (decide (Ni.links ≥ 8)) = false := by rw [← hb7]; exact q14
            have q16 := of_decide_eq_false q16
            refine c_skip ?_
            refine blk_n (thn_n ?_)
            refine c_seq ?_
            refine c_reg ?_
            refine sq_p (.map (some d.mb)) rfl (fun _ => by kernel_rfl) ?_
            refine sq_p (.string s) rfl (fun _ => by kernel_rfl) ?_
            refine sq_q rfl h (g_ld 0 [.int .i64 ni, .int .i64 gi] (.agg #[.int .i64 ni, .int .i64 gi]) (by kernel_rfl) 11 rfl) ?_
            refine sq_mapu rfl (K := 9) (E := 29) (keyStr (by kernel_rfl)) s (.agg #[.int .i64 ni, .int .i64 gi]) (by kernel_rfl) h 1 rfl ?_; intro w h
            refine lnil ?_
            refine thn_n ?_
            refine c_seq ?_
            refine c_reg ?_
            refine sq_p (.pointer (some ⟨b, 0, none⟩)) rfl (fun _ => by kernel_rfl) ?_
            refine sq_q rfl h (g_ld 0 [.int .i64 ni, .int .i64 gi] (.agg #[.int .i64 ni, .int .i64 gi]) (by kernel_rfl) 11 rfl) ?_
            refine sq_call #[.pointer (some ⟨b, 0, none⟩), .agg #[.int .i64 ni, .int .i64 gi], .int .i64 1] [3, 3, 3, 4] rfl (links_spec ad b most tb dm pm ps gs vl vg T Sl Sg l ds pn hl hr ni gi ki Ni hlki hai 1 (by omega) (by first | assumption | (constructor <;> first | omega | (simp [linkN, keepN, newND, touchN] <;> omega)))) (fun _ => by kernel_rfl) h ?_; rintro _ L_ w rfl h
            refine lnil ?_
            refine thn_n ?_
            refine c_seq ?_
            refine d_start 6 [0, 10] (by kernel_rfl) h fun w h => ?_
            refine d_take 0 16 [0, 10] rfl (v := .pointer (some ⟨b, 0, none⟩)) (by kernel_rfl) (qp_thn qp_body) (yq (by kernel_rfl) (g_pure (v := .pointer (some ⟨b, 0, none⟩)) fun _ => by kernel_rfl)) h (by kernel_rfl) ?_
            refine d_take 1 17 [0, 10] rfl (v := .pointer (some ⟨b, 0, none⟩)) (by kernel_rfl) (qp_thn qp_body) (yq (by kernel_rfl) (g_pure (v := .pointer (some ⟨b, 0, none⟩)) fun _ => by kernel_rfl)) h (by kernel_rfl) ?_
            refine d_take 2 19 [0, 10] rfl (v := .pointer (some ⟨b, 0, none⟩)) (by kernel_rfl) (qp_thn qp_body) (yq (by kernel_rfl) (g_pure (v := .pointer (some ⟨b, 0, none⟩)) fun _ => by kernel_rfl)) h (by kernel_rfl) ?_
            refine d_take 3 23 [0, 10] rfl (v := .pointer (some ⟨tb, 0, none⟩)) (by kernel_rfl) (qp_thn qp_body) (yq (by kernel_rfl) (g_ld 0 [.pointer (some ⟨tb, 0, none⟩)] (.pointer (some ⟨tb, 0, none⟩)) (by kernel_rfl) 0 rfl)) h (by kernel_rfl) ?_
            refine d_take 4 15 [0, 10] rfl (v := .agg #[.int .i64 ni, .int .i64 gi]) (by kernel_rfl) (qp_thn qp_body) (yq (by kernel_rfl) (g_ld 0 [.int .i64 ni, .int .i64 gi] (.agg #[.int .i64 ni, .int .i64 gi]) (by kernel_rfl) 1 rfl)) h (by kernel_rfl) ?_
            refine d_ready [5] (by kernel_rfl) rfl ?_
            refine ad_call #[.pointer (some ⟨tb, 0, none⟩), .agg #[.int .i64 ni, .int .i64 gi]] [1, 1, 1] [3, 10] rfl (by kernel_rfl) (touch_spec ad tb ps gs vl vg T Sl Sg (l.set ki (some (linkN Ni 1))) hl hr ni gi ki (linkN Ni 1) (get_at (by first | omega | (simp; omega))) hai (by first | assumption | (constructor <;> first | omega | (simp [linkN, keepN, newND, touchN] <;> omega)))) (fun _ => by kernel_rfl) h ?_ ?_
            · skip
              rintro v_ L_ w ⟨rfl, rfl⟩ h
              refine ⟨by kernel_rfl, ?_⟩
              refine d_done (by kernel_rfl) ?_
              refine thn_n ?_
              refine c_seq ?_
              refine d_start 6 [3, 9] (by kernel_rfl) h fun w h => ?_
              refine d_take 0 16 [3, 9] rfl (v := .pointer (some ⟨b, 0, none⟩)) (by kernel_rfl) (qp_thn qp_body) (yq (by kernel_rfl) (g_pure (v := .pointer (some ⟨b, 0, none⟩)) fun _ => by kernel_rfl)) h (by kernel_rfl) ?_
              refine d_take 1 17 [3, 9] rfl (v := .pointer (some ⟨b, 0, none⟩)) (by kernel_rfl) (qp_thn qp_body) (yq (by kernel_rfl) (g_pure (v := .pointer (some ⟨b, 0, none⟩)) fun _ => by kernel_rfl)) h (by kernel_rfl) ?_
              refine d_take 2 19 [3, 9] rfl (v := .pointer (some ⟨b, 0, none⟩)) (by kernel_rfl) (qp_thn qp_body) (yq (by kernel_rfl) (g_pure (v := .pointer (some ⟨b, 0, none⟩)) fun _ => by kernel_rfl)) h (by kernel_rfl) ?_
              refine d_take 3 23 [3, 9] rfl (v := .pointer (some ⟨tb, 0, none⟩)) (by kernel_rfl) (qp_thn qp_body) (yq (by kernel_rfl) (g_ld 0 [.pointer (some ⟨tb, 0, none⟩)] (.pointer (some ⟨tb, 0, none⟩)) (by kernel_rfl) 0 rfl)) h (by kernel_rfl) ?_
              refine d_take 4 15 [3, 9] rfl (v := .agg #[.int .i64 n, .int .i64 g]) (by kernel_rfl) (qp_thn qp_body) (yq (by kernel_rfl) (g_ld 0 [.int .i64 n, .int .i64 g] (.agg #[.int .i64 n, .int .i64 g]) (by kernel_rfl) 1 rfl)) h (by kernel_rfl) ?_
              refine d_ready [5] (by kernel_rfl) rfl ?_
              refine ad_call #[.pointer (some ⟨tb, 0, none⟩), .agg #[.int .i64 n, .int .i64 g]] [0, 0, 0] [3, 9] rfl (by kernel_rfl) (touch_spec ad tb ps gs vl vg T Sl Sg ((l.set ki (some (linkN Ni 1))).set ki (some (touchN (linkN Ni 1)))) hl hr n g k N (get_ne (get_ne hlk (by omega)) (by omega)) ha (by first | assumption | (constructor <;> first | omega | (simp [linkN, keepN, newND, touchN] <;> omega)))) (fun _ => by kernel_rfl) h ?_ ?_
              · skip
                rintro v_ L_ w ⟨rfl, rfl⟩ h
                refine ⟨by kernel_rfl, ?_⟩
                refine d_done (by kernel_rfl) ?_
                refine thn_n ?_
                refine c_seq ?_
                refine c_reg ?_
                refine sq_p (.nilIface) rfl (fun _ => by kernel_rfl) ?_
                refine lnil ?_
                refine thn_n ?_
                refine c_ret ?_
                rw [show aput (d.es.map enKV) s (Value.agg #[Value.int .i64 ni, Value.int .i64 gi]) = (aput d.es s (ni, gi)).map enKV from en_put s (ni, gi) d.es] at h
                have h : Own w0 E [rTab tb ps gs vl vg T Sl Sg, rNds (((l.set ki (some (linkN Ni 1))).set ki (some (touchN (linkN Ni 1)))).set k (some (touchN N))), rEnv B ad [10], rCell true b [.pointer (some ⟨tb, 0, none⟩), .int .i64 (most : Int), .int .i64 0, .int .i64 0, .map (some dm), .map (some pm)] 175, rCell true k4 [.int .i64 0, .int .i64 0] 29, rMap true d.mb sk ((aput d.es s (ni, gi)).map enKV), rDirsO ds j, rMap true dm hk (ds.map dnKV), rEnv B ad [4], rCell true k3 [.int .i64 Ni.kind, .int .i64 (ndSize Ni), .int .i64 Ni.links, .int .i64 Ni.change, .int .i64 Ni.upn, .int .i64 Ni.upg] 180, rCell true k2 [.int .i64 n, .int .i64 g] 29, rCell true k1 [.int .i64 ni, .int .i64 gi] 29] w := h
                have h := h.pickE (M := [rMap true d.mb sk ((aput d.es s (ni, gi)).map enKV), rDirsO ds j, rTab tb ps gs vl vg T Sl Sg, rNds (((l.set ki (some (linkN Ni 1))).set ki (some (touchN (linkN Ni 1)))).set k (some (touchN N))), rEnv B ad [10], rCell true b [.pointer (some ⟨tb, 0, none⟩), .int .i64 (most : Int), .int .i64 0, .int .i64 0, .map (some dm), .map (some pm)] 175, rCell true k4 [.int .i64 0, .int .i64 0] 29, rMap true dm hk (ds.map dnKV), rEnv B ad [4], rCell true k3 [.int .i64 Ni.kind, .int .i64 (ndSize Ni), .int .i64 Ni.links, .int .i64 Ni.change, .int .i64 Ni.upn, .int .i64 Ni.upg] 180, rCell true k2 [.int .i64 n, .int .i64 g] 29, rCell true k1 [.int .i64 ni, .int .i64 gi] 29]) [5, 5, 0, 0, 0, 0, 0, 0, 0, 0, 0, 0] (by kernel_rfl)
                have h := h.dirClose { d with es := aput d.es s (ni, gi) }
                have h : Own w0 E [rDirs (ds.set j { d with es := aput d.es s (ni, gi) }), rTab tb ps gs vl vg T Sl Sg, rNds (((l.set ki (some (linkN Ni 1))).set ki (some (touchN (linkN Ni 1)))).set k (some (touchN N))), rEnv B ad [10], rCell true b [.pointer (some ⟨tb, 0, none⟩), .int .i64 (most : Int), .int .i64 0, .int .i64 0, .map (some dm), .map (some pm)] 175, rCell true k4 [.int .i64 0, .int .i64 0] 29, rMap true dm hk (ds.map dnKV), rEnv B ad [4], rCell true k3 [.int .i64 Ni.kind, .int .i64 (ndSize Ni), .int .i64 Ni.links, .int .i64 Ni.change, .int .i64 Ni.upn, .int .i64 Ni.upg] 180, rCell true k2 [.int .i64 n, .int .i64 g] 29, rCell true k1 [.int .i64 ni, .int .i64 gi] 29] w := h
                rw [← dnKV_set (d' := { d with es := aput d.es s (ni, gi) }) hj rfl rfl] at h
                have h : Own w0 E [rDirs (ds.set j { d with es := aput d.es s (ni, gi) }), rTab tb ps gs vl vg T Sl Sg, rNds (((l.set ki (some (linkN Ni 1))).set ki (some (touchN (linkN Ni 1)))).set k (some (touchN N))), rEnv B ad [10], rCell true b [.pointer (some ⟨tb, 0, none⟩), .int .i64 (most : Int), .int .i64 0, .int .i64 0, .map (some dm), .map (some pm)] 175, rCell true k4 [.int .i64 0, .int .i64 0] 29, rMap true dm hk ((ds.set j { d with es := aput d.es s (ni, gi) }).map dnKV), rEnv B ad [4], rCell true k3 [.int .i64 Ni.kind, .int .i64 (ndSize Ni), .int .i64 Ni.links, .int .i64 Ni.change, .int .i64 Ni.upn, .int .i64 Ni.upg] 180, rCell true k2 [.int .i64 n, .int .i64 g] 29, rCell true k1 [.int .i64 ni, .int .i64 gi] 29] w := h
                refine ret_end [.nilIface] [4, 1, 1, 3, 0, 0, 1] h (by kernel_rfl) (res_t (by kernel_rfl) res_n) ?_
                exact ⟨rfl, rfl⟩
              exact ad_nil
            exact ad_nil
      exact ad_nil
    exact ad_nil
  refine ad_new [2, 2] rfl (by kernel_rfl) (fun b => .pointer (some ⟨b, 0, none⟩)) [.int .i64 0, .int .i64 0, .int .i64 0, .int .i64 0, .int .i64 0, .int .i64 0] 180 (fun _ => by kernel_rfl) h ?_ ?_
  · skip
    intro k17 w h; refine ⟨by kernel_rfl, ?_⟩
    refine d_ready [5] (by kernel_rfl) rfl ?_
    refine ad_call #[.pointer (some ⟨tb, 0, none⟩), .agg #[.int .i64 ni, .int .i64 gi]] [4, 4, 6] [5, 5] rfl (by kernel_rfl) (attrY_spec ad tb ps gs vl vg T Sl Sg l hl hr ni gi ki Ni hlki hai) (fun _ => by kernel_rfl) h ?_ ?_
    · skip
      rintro v_ L_ w ⟨rfl, rfl⟩ h
      refine ⟨by kernel_rfl, ?_⟩
      refine d_take 6 575 [5, 5] rfl (v := .tuple #[.agg #[.int .i64 Ni.kind, .int .i64 (ndSize Ni), .int .i64 Ni.links, .int .i64 Ni.change, .int .i64 Ni.upn, .int .i64 Ni.upg], .nilIface]) (by kernel_rfl) (qp_thn qp_body) (yq (by kernel_rfl) (g_pure (v := .tuple #[.agg #[.int .i64 Ni.kind, .int .i64 (ndSize Ni), .int .i64 Ni.links, .int .i64 Ni.change, .int .i64 Ni.upn, .int .i64 Ni.upg], .nilIface]) fun _ => by kernel_rfl)) h (by kernel_rfl) ?_
      refine d_take 7 895 [5, 5] rfl (v := .agg #[.int .i64 Ni.kind, .int .i64 (ndSize Ni), .int .i64 Ni.links, .int .i64 Ni.change, .int .i64 Ni.upn, .int .i64 Ni.upg]) (by kernel_rfl) (qp_thn qp_body) (yq (by kernel_rfl) (g_pure (v := .agg #[.int .i64 Ni.kind, .int .i64 (ndSize Ni), .int .i64 Ni.links, .int .i64 Ni.change, .int .i64 Ni.upn, .int .i64 Ni.upg]) fun _ => by kernel_rfl)) h (by kernel_rfl) ?_
      refine d_take 8 1791 [5, 5] rfl (v := .nilIface) (by kernel_rfl) (qp_thn qp_body) (yq (by kernel_rfl) (g_pure (v := .nilIface) fun _ => by kernel_rfl)) h (by kernel_rfl) ?_
      refine d_ready [10] (by kernel_rfl) rfl ?_
      refine ad_st [5, 5] rfl (by kernel_rfl) 0 [.int .i64 Ni.kind, .int .i64 (ndSize Ni), .int .i64 Ni.links, .int .i64 Ni.change, .int .i64 Ni.upn, .int .i64 Ni.upg] [.int .i64 Ni.kind, .int .i64 (ndSize Ni), .int .i64 Ni.links, .int .i64 Ni.change, .int .i64 Ni.upn, .int .i64 Ni.upg] h 3 rfl (by kernel_rfl) ?_ ?_
      · skip
        intro w h; refine ⟨by kernel_rfl, ?_⟩
        refine d_take 11 2047 [5, 5] rfl (v := .nilIface) (by kernel_rfl) (qp_thn qp_body) (yq (by kernel_rfl) (g_pure (v := .nilIface) fun _ => by kernel_rfl)) h (by kernel_rfl) ?_
        refine d_done (by kernel_rfl) ?_
        refine thn_n ?_
        refine c_seq ?_
        refine c_seq ?_
        refine c_reg ?_
        refine sq_p (.nilIface) rfl (fun _ => by kernel_rfl) ?_
        refine sq_p (.bool false) rfl (fun _ => by kernel_rfl) ?_
        refine lnil ?_
        refine thn_n ?_
        refine c_false (by kernel_rfl) ?_
        refine c_skip ?_
        refine thn_n ?_
        refine c_seq ?_
        refine c_reg ?_
        refine sq_p (.pointer (some ⟨b, 0, none⟩)) rfl (fun _ => by kernel_rfl) ?_
        refine sq_q rfl h (g_ld 0 [.int .i64 n, .int .i64 g] (.agg #[.int .i64 n, .int .i64 g]) (by kernel_rfl) 4 rfl) ?_
        refine sq_p (.string s) rfl (fun _ => by kernel_rfl) ?_
        refine sq_call #[.pointer (some ⟨b, 0, none⟩), .agg #[.int .i64 n, .int .i64 g], .string s] [6, 0, 0, 4, 0, 4] rfl (namedY_spec ad b most tb dm pm ps gs vl vg T Sl Sg l ds pn hl hr n g k N hlk ha j d hj hdh hdd s hs hok) (fun _ => by kernel_rfl) h ?_; rintro v_ L_ w ⟨rfl, rfl⟩ h
        have h := h.pickE (M := [rDirs ds, rCell true b [.pointer (some ⟨tb, 0, none⟩), .int .i64 (most : Int), .int .i64 0, .int .i64 0, .map (some dm), .map (some pm)] 175, rTab tb ps gs vl vg T Sl Sg, rNds l, rMap true dm hk (ds.map dnKV), rEnv B ad [10], rEnv B ad [4], rCell true k17 [.int .i64 Ni.kind, .int .i64 (ndSize Ni), .int .i64 Ni.links, .int .i64 Ni.change, .int .i64 Ni.upn, .int .i64 Ni.upg] 180, rCell true k2 [.int .i64 n, .int .i64 g] 29, rCell true k1 [.int .i64 ni, .int .i64 gi] 29]) [9, 0, 0, 0, 0, 0, 0, 0, 0, 0] (by kernel_rfl)
        have h := h.dirOpen hj
        have h : Own w0 E [rMap true d.mb sk (d.es.map enKV), rDirsO ds j, rCell true b [.pointer (some ⟨tb, 0, none⟩), .int .i64 (most : Int), .int .i64 0, .int .i64 0, .map (some dm), .map (some pm)] 175, rTab tb ps gs vl vg T Sl Sg, rNds l, rMap true dm hk (ds.map dnKV), rEnv B ad [10], rEnv B ad [4], rCell true k17 [.int .i64 Ni.kind, .int .i64 (ndSize Ni), .int .i64 Ni.links, .int .i64 Ni.change, .int .i64 Ni.upn, .int .i64 Ni.upg] 180, rCell true k2 [.int .i64 n, .int .i64 g] 29, rCell true k1 [.int .i64 ni, .int .i64 gi] 29] w := h
        refine sq_p (.tuple #[.map (some d.mb), .nilIface]) rfl (fun _ => by kernel_rfl) ?_
        refine sq_p (.map (some d.mb)) rfl (fun _ => by kernel_rfl) ?_
        refine sq_p (.nilIface) rfl (fun _ => by kernel_rfl) ?_
        refine sq_p (.map (some d.mb)) rfl (fun _ => by kernel_rfl) ?_
        refine sq_p (.nilIface) rfl (fun _ => by kernel_rfl) ?_
        refine lnil ?_
        refine thn_n ?_
        refine c_seq ?_
        refine c_reg ?_
        refine sq_p (.map (some d.mb)) rfl (fun _ => by kernel_rfl) ?_
        refine sq_p (.string s) rfl (fun _ => by kernel_rfl) ?_
        refine sq_q rfl h (g_eq (v' := .tuple #[.agg #[.int .i64 0, .int .i64 0], .bool false]) (g_look (K := 9) (E := 29) (z := (.agg #[.int .i64 0, .int .i64 0])) (kv := (d.es.map enKV)) (ok := true) (keyStr (by kernel_rfl)) s (by kernel_rfl) (fun _ => by kernel_rfl) 0 rfl) (by rw [en_none hx]; rfl)) ?_
        refine sq_p (.tuple #[.agg #[.int .i64 0, .int .i64 0], .bool false]) rfl (fun _ => by kernel_rfl) ?_
        refine sq_p (.agg #[.int .i64 0, .int .i64 0]) rfl (fun _ => by kernel_rfl) ?_
        refine sq_p (.bool false) rfl (fun _ => by kernel_rfl) ?_
        refine sq_new rfl (fun b => .pointer (some ⟨b, 0, none⟩)) [.int .i64 0, .int .i64 0] 29 (fun _ => by kernel_rfl) h ?_; intro k18 w h
        refine sq_st rfl 0 [.int .i64 0, .int .i64 0] [.int .i64 0, .int .i64 0] h 0 rfl (by kernel_rfl) ?_; intro w h
        refine sq_p (.bool false) rfl (fun _ => by kernel_rfl) ?_
        refine lnil ?_
        refine thn_n ?_
        refine c_seq ?_
        refine c_block ?_
        refine c_seq ?_
        refine c_reg ?_
        refine sq_p (.nilIface) rfl (fun _ => by kernel_rfl) ?_
        refine sq_p (.bool false) rfl (fun _ => by kernel_rfl) ?_
        refine sq_p (.bool false) rfl (fun _ => by kernel_rfl) ?_
        refine lnil ?_
        refine thn_n ?_
        refine c_false (by kernel_rfl) ?_
        refine c_seq ?_
        refine c_reg ?_
        refine sq_p (.pointer (some ⟨k17, 0, none⟩)) rfl (fun _ => by kernel_rfl) ?_
        refine sq_q rfl h (g_ld 0 [.int .i64 Ni.kind] (.int .i64 Ni.kind) (by kernel_rfl) 9 rfl) ?_
        refine sq_p (.bool (decide (Ni.kind = 2))) rfl (fun _ => by kernel_rfl) ?_
        refine sq_p (.bool (decide (Ni.kind = 2))) rfl (fun _ => by kernel_rfl) ?_
        refine lnil ?_
        refine thn_n ?_
        refine c_cond (decide (Ni.kind = 2)) (by kernel_rfl) (fun hc19 => ?_) (fun hc19 => ?_)
        · skip
          have hc19 := of_decide_eq_true hc19
          exfalso; revert hc19; simp; omega
        · skip
          have hc19 := of_decide_eq_false hc19
          refine c_seq ?_
          refine c_reg ?_
          refine sq_p (.bool false) rfl (fun _ => by kernel_rfl) ?_
          refine sq_p (.bool false) rfl (fun _ => by kernel_rfl) ?_
          refine lnil ?_
          refine thn_n ?_
          refine c_false (by kernel_rfl) ?_
          refine c_seq ?_
          refine c_reg ?_
          refine sq_p (.map (some d.mb)) rfl (fun _ => by kernel_rfl) ?_
          refine sq_q rfl h (g_lenm (K := 9) (E := 29) (by kernel_rfl) 1 rfl) ?_
          obtain ⟨b20, hb20⟩ : ∃ b_ : Bool, b_ = (decide (((d.es.map enKV).length : Int) ≥ 60)) := ⟨_, rfl⟩
          refine sq_q (v := .bool b20) rfl h (by subst hb20; exact g_pure (v := .bool (decide (((d.es.map enKV).length : Int) ≥ 60))) fun _ => by kernel_rfl) ?_
          refine sq_p (.bool b20) rfl (fun _ => by kernel_rfl) ?_
          refine sq_m0 (v := .pointer (some ⟨k17, 2, none⟩)) b20 (by cases b20 <;> kernel_rfl) h (fun hB => by subst hB; exact g_pure (v := .pointer (some ⟨k17, 2, none⟩)) fun _ => by kernel_rfl) ?_
          refine sq_m0 (v := .int .i64 Ni.links) b20 (by cases b20 <;> kernel_rfl) h (fun hB => by subst hB; exact g_ld 2 [.int .i64 Ni.links] (.int .i64 Ni.links) (by kernel_rfl) 9 rfl) ?_
          obtain ⟨b21, hb21⟩ : ∃ b_ : Bool, b_ = (decide (Ni.links ≥ 8)) := ⟨_, rfl⟩
          refine sq_m0 (v := .bool b21) b20 (by cases b20 <;> kernel_rfl) h (fun hB => by subst hB; exact by subst hb21; exact g_pure (v := .bool (decide (Ni.links ≥ 8))) fun _ => by kernel_rfl) ?_
          obtain ⟨b22, hb22⟩ : ∃ b_ : Bool, b_ = (b20 || b21) := ⟨_, rfl⟩
          refine sq_q (v := .bool b22) rfl h (by subst hb22; exact g_pure (v := .bool (b20 || b21)) fun _ => by cases b20 <;> kernel_rfl) ?_
          refine sq_p (.bool b22) rfl (fun _ => by kernel_rfl) ?_
          refine lnil ?_
          refine thn_n ?_
          refine c_cond (b22) (by kernel_rfl) (fun hc23 => ?_) (fun hc23 => ?_)
          · skip
            have q24 : (b20 || b21) = true := by rw [← hb22]; exact hc23
            have q25 : ((((d.es.map enKV).length : Int) ≥ 60) ∨ (Ni.links ≥ 8)) := by subst hb21; subst hb20; revert q24; first | (simp; done) | (simp; omega)
            exfalso; revert hc23; subst hb22; subst hb21; subst hb20; simp; omega
          · skip
            have q26 : (b20 || b21) = false := by rw [← hb22]; exact hc23
            have q27 : b20 = false := by revert q26; cases b20 <;> simp
            have q28 : b21 = false := by revert q26; cases b20 <;> cases b21 <;> simp
            have q29 : (decide (((d.es.map enKV).length : Int) ≥ 60)) = false := by rw [← hb20]; exact q27
            have q29 := of_decide_eq_false q29
            have q30 : (decide (Ni.links ≥ 8)) = false := by rw [← hb21]; exact q28
            have q30 := of_decide_eq_false q30
            refine c_skip ?_
            refine blk_n (thn_n ?_)
            refine c_seq ?_
            refine c_reg ?_
            refine sq_p (.map (some d.mb)) rfl (fun _ => by kernel_rfl) ?_
            refine sq_p (.string s) rfl (fun _ => by kernel_rfl) ?_
            refine sq_q rfl h (g_ld 0 [.int .i64 ni, .int .i64 gi] (.agg #[.int .i64 ni, .int .i64 gi]) (by kernel_rfl) 11 rfl) ?_
            refine sq_mapu rfl (K := 9) (E := 29) (keyStr (by kernel_rfl)) s (.agg #[.int .i64 ni, .int .i64 gi]) (by kernel_rfl) h 1 rfl ?_; intro w h
            refine lnil ?_
            refine thn_n ?_
            refine c_seq ?_
            refine c_reg ?_
            refine sq_p (.pointer (some ⟨b, 0, none⟩)) rfl (fun _ => by kernel_rfl) ?_
            refine sq_q rfl h (g_ld 0 [.int .i64 ni, .int .i64 gi] (.agg #[.int .i64 ni, .int .i64 gi]) (by kernel_rfl) 11 rfl) ?_
            refine sq_call #[.pointer (some ⟨b, 0, none⟩), .agg #[.int .i64 ni, .int .i64 gi], .int .i64 1] [3, 3, 3, 4] rfl (links_spec ad b most tb dm pm ps gs vl vg T Sl Sg l ds pn hl hr ni gi ki Ni hlki hai 1 (by omega) (by first | assumption | (constructor <;> first | omega | (simp [linkN, keepN, newND, touchN] <;> omega)))) (fun _ => by kernel_rfl) h ?_; rintro _ L_ w rfl h
            refine lnil ?_
            refine thn_n ?_
            refine c_seq ?_
            refine d_start 6 [0, 10] (by kernel_rfl) h fun w h => ?_
            refine d_take 0 16 [0, 10] rfl (v := .pointer (some ⟨b, 0, none⟩)) (by kernel_rfl) (qp_thn qp_body) (yq (by kernel_rfl) (g_pure (v := .pointer (some ⟨b, 0, none⟩)) fun _ => by kernel_rfl)) h (by kernel_rfl) ?_
            refine d_take 1 17 [0, 10] rfl (v := .pointer (some ⟨b, 0, none⟩)) (by kernel_rfl) (qp_thn qp_body) (yq (by kernel_rfl) (g_pure (v := .pointer (some ⟨b, 0, none⟩)) fun _ => by kernel_rfl)) h (by kernel_rfl) ?_
            refine d_take 2 19 [0, 10] rfl (v := .pointer (some ⟨b, 0, none⟩)) (by kernel_rfl) (qp_thn qp_body) (yq (by kernel_rfl) (g_pure (v := .pointer (some ⟨b, 0, none⟩)) fun _ => by kernel_rfl)) h (by kernel_rfl) ?_
            refine d_take 3 23 [0, 10] rfl (v := .pointer (some ⟨tb, 0, none⟩)) (by kernel_rfl) (qp_thn qp_body) (yq (by kernel_rfl) (g_ld 0 [.pointer (some ⟨tb, 0, none⟩)] (.pointer (some ⟨tb, 0, none⟩)) (by kernel_rfl) 0 rfl)) h (by kernel_rfl) ?_
            refine d_take 4 15 [0, 10] rfl (v := .agg #[.int .i64 ni, .int .i64 gi]) (by kernel_rfl) (qp_thn qp_body) (yq (by kernel_rfl) (g_ld 0 [.int .i64 ni, .int .i64 gi] (.agg #[.int .i64 ni, .int .i64 gi]) (by kernel_rfl) 1 rfl)) h (by kernel_rfl) ?_
            refine d_ready [5] (by kernel_rfl) rfl ?_
            refine ad_call #[.pointer (some ⟨tb, 0, none⟩), .agg #[.int .i64 ni, .int .i64 gi]] [1, 1, 1] [3, 10] rfl (by kernel_rfl) (touch_spec ad tb ps gs vl vg T Sl Sg (l.set ki (some (linkN Ni 1))) hl hr ni gi ki (linkN Ni 1) (get_at (by first | omega | (simp; omega))) hai (by first | assumption | (constructor <;> first | omega | (simp [linkN, keepN, newND, touchN] <;> omega)))) (fun _ => by kernel_rfl) h ?_ ?_
            · skip
              rintro v_ L_ w ⟨rfl, rfl⟩ h
              refine ⟨by kernel_rfl, ?_⟩
              refine d_done (by kernel_rfl) ?_
              refine thn_n ?_
              refine c_seq ?_
              refine d_start 6 [3, 9] (by kernel_rfl) h fun w h => ?_
              refine d_take 0 16 [3, 9] rfl (v := .pointer (some ⟨b, 0, none⟩)) (by kernel_rfl) (qp_thn qp_body) (yq (by kernel_rfl) (g_pure (v := .pointer (some ⟨b, 0, none⟩)) fun _ => by kernel_rfl)) h (by kernel_rfl) ?_
              refine d_take 1 17 [3, 9] rfl (v := .pointer (some ⟨b, 0, none⟩)) (by kernel_rfl) (qp_thn qp_body) (yq (by kernel_rfl) (g_pure (v := .pointer (some ⟨b, 0, none⟩)) fun _ => by kernel_rfl)) h (by kernel_rfl) ?_
              refine d_take 2 19 [3, 9] rfl (v := .pointer (some ⟨b, 0, none⟩)) (by kernel_rfl) (qp_thn qp_body) (yq (by kernel_rfl) (g_pure (v := .pointer (some ⟨b, 0, none⟩)) fun _ => by kernel_rfl)) h (by kernel_rfl) ?_
              refine d_take 3 23 [3, 9] rfl (v := .pointer (some ⟨tb, 0, none⟩)) (by kernel_rfl) (qp_thn qp_body) (yq (by kernel_rfl) (g_ld 0 [.pointer (some ⟨tb, 0, none⟩)] (.pointer (some ⟨tb, 0, none⟩)) (by kernel_rfl) 0 rfl)) h (by kernel_rfl) ?_
              refine d_take 4 15 [3, 9] rfl (v := .agg #[.int .i64 n, .int .i64 g]) (by kernel_rfl) (qp_thn qp_body) (yq (by kernel_rfl) (g_ld 0 [.int .i64 n, .int .i64 g] (.agg #[.int .i64 n, .int .i64 g]) (by kernel_rfl) 1 rfl)) h (by kernel_rfl) ?_
              refine d_ready [5] (by kernel_rfl) rfl ?_
              refine ad_call #[.pointer (some ⟨tb, 0, none⟩), .agg #[.int .i64 n, .int .i64 g]] [0, 0, 0] [3, 9] rfl (by kernel_rfl) (touch_spec ad tb ps gs vl vg T Sl Sg ((l.set ki (some (linkN Ni 1))).set ki (some (touchN (linkN Ni 1)))) hl hr n g k N (get_ne (get_ne hlk (by omega)) (by omega)) ha (by first | assumption | (constructor <;> first | omega | (simp [linkN, keepN, newND, touchN] <;> omega)))) (fun _ => by kernel_rfl) h ?_ ?_
              · skip
                rintro v_ L_ w ⟨rfl, rfl⟩ h
                refine ⟨by kernel_rfl, ?_⟩
                refine d_done (by kernel_rfl) ?_
                refine thn_n ?_
                refine c_seq ?_
                refine c_reg ?_
                refine sq_p (.nilIface) rfl (fun _ => by kernel_rfl) ?_
                refine lnil ?_
                refine thn_n ?_
                refine c_ret ?_
                rw [show aput (d.es.map enKV) s (Value.agg #[Value.int .i64 ni, Value.int .i64 gi]) = (aput d.es s (ni, gi)).map enKV from en_put s (ni, gi) d.es] at h
                have h : Own w0 E [rTab tb ps gs vl vg T Sl Sg, rNds (((l.set ki (some (linkN Ni 1))).set ki (some (touchN (linkN Ni 1)))).set k (some (touchN N))), rEnv B ad [10], rCell true b [.pointer (some ⟨tb, 0, none⟩), .int .i64 (most : Int), .int .i64 0, .int .i64 0, .map (some dm), .map (some pm)] 175, rCell true k18 [.int .i64 0, .int .i64 0] 29, rMap true d.mb sk ((aput d.es s (ni, gi)).map enKV), rDirsO ds j, rMap true dm hk (ds.map dnKV), rEnv B ad [4], rCell true k17 [.int .i64 Ni.kind, .int .i64 (ndSize Ni), .int .i64 Ni.links, .int .i64 Ni.change, .int .i64 Ni.upn, .int .i64 Ni.upg] 180, rCell true k2 [.int .i64 n, .int .i64 g] 29, rCell true k1 [.int .i64 ni, .int .i64 gi] 29] w := h
                have h := h.pickE (M := [rMap true d.mb sk ((aput d.es s (ni, gi)).map enKV), rDirsO ds j, rTab tb ps gs vl vg T Sl Sg, rNds (((l.set ki (some (linkN Ni 1))).set ki (some (touchN (linkN Ni 1)))).set k (some (touchN N))), rEnv B ad [10], rCell true b [.pointer (some ⟨tb, 0, none⟩), .int .i64 (most : Int), .int .i64 0, .int .i64 0, .map (some dm), .map (some pm)] 175, rCell true k18 [.int .i64 0, .int .i64 0] 29, rMap true dm hk (ds.map dnKV), rEnv B ad [4], rCell true k17 [.int .i64 Ni.kind, .int .i64 (ndSize Ni), .int .i64 Ni.links, .int .i64 Ni.change, .int .i64 Ni.upn, .int .i64 Ni.upg] 180, rCell true k2 [.int .i64 n, .int .i64 g] 29, rCell true k1 [.int .i64 ni, .int .i64 gi] 29]) [5, 5, 0, 0, 0, 0, 0, 0, 0, 0, 0, 0] (by kernel_rfl)
                have h := h.dirClose { d with es := aput d.es s (ni, gi) }
                have h : Own w0 E [rDirs (ds.set j { d with es := aput d.es s (ni, gi) }), rTab tb ps gs vl vg T Sl Sg, rNds (((l.set ki (some (linkN Ni 1))).set ki (some (touchN (linkN Ni 1)))).set k (some (touchN N))), rEnv B ad [10], rCell true b [.pointer (some ⟨tb, 0, none⟩), .int .i64 (most : Int), .int .i64 0, .int .i64 0, .map (some dm), .map (some pm)] 175, rCell true k18 [.int .i64 0, .int .i64 0] 29, rMap true dm hk (ds.map dnKV), rEnv B ad [4], rCell true k17 [.int .i64 Ni.kind, .int .i64 (ndSize Ni), .int .i64 Ni.links, .int .i64 Ni.change, .int .i64 Ni.upn, .int .i64 Ni.upg] 180, rCell true k2 [.int .i64 n, .int .i64 g] 29, rCell true k1 [.int .i64 ni, .int .i64 gi] 29] w := h
                rw [← dnKV_set (d' := { d with es := aput d.es s (ni, gi) }) hj rfl rfl] at h
                have h : Own w0 E [rDirs (ds.set j { d with es := aput d.es s (ni, gi) }), rTab tb ps gs vl vg T Sl Sg, rNds (((l.set ki (some (linkN Ni 1))).set ki (some (touchN (linkN Ni 1)))).set k (some (touchN N))), rEnv B ad [10], rCell true b [.pointer (some ⟨tb, 0, none⟩), .int .i64 (most : Int), .int .i64 0, .int .i64 0, .map (some dm), .map (some pm)] 175, rCell true k18 [.int .i64 0, .int .i64 0] 29, rMap true dm hk ((ds.set j { d with es := aput d.es s (ni, gi) }).map dnKV), rEnv B ad [4], rCell true k17 [.int .i64 Ni.kind, .int .i64 (ndSize Ni), .int .i64 Ni.links, .int .i64 Ni.change, .int .i64 Ni.upn, .int .i64 Ni.upg] 180, rCell true k2 [.int .i64 n, .int .i64 g] 29, rCell true k1 [.int .i64 ni, .int .i64 gi] 29] w := h
                refine ret_end [.nilIface] [4, 1, 1, 3, 0, 0, 1] h (by kernel_rfl) (res_t (by kernel_rfl) res_n) ?_
                exact ⟨rfl, rfl⟩
              exact ad_nil
            exact ad_nil
      exact ad_nil
    exact ad_nil
  exact ad_nil
set_option maxHeartbeats 1000000 in
theorem linkFull_spec {B : Nat} (ad : Nat → Addr) (b most tb dm pm : Nat) (ps : List (Option Nat)) (gs : List Int) (vl vg : Value) (T : TypeId) (Sl Sg : Nat → Prop) (l : List (Option ND)) (ds : List DN) (pn : List ((Int × Int) × Int)) (hl : ps.length = gs.length) (hr : ∀ x ∈ gs, 0 ≤ x ∧ x ≤ 1000000) (n g : Int) (k : Nat) (N : ND) (hlk : l[k]? = some (some N)) (ha : atOf ps gs n g = some N.nb) (j : Nat) (d : DN) (hj : ds[j]? = some d) (hdh : d.h = (n, g)) (hdd : (ds.map (·.h)).Nodup) (s : ByteArray) (hs : s.size ≤ 9223372036854775807) (hok : nameOk s) (hx : aget d.es s = none) (ni gi : Int) (ki : Nat) (Ni : ND) (hlki : l[ki]? = some (some Ni)) (hai : atOf ps gs ni gi = some Ni.nb) (hkd : Ni.kind = 1) (hli : 8 ≤ Ni.links)  : Spec Tryd.prog 22 #[.pointer (some ⟨b, 0, none⟩), .agg #[.int .i64 ni, .int .i64 gi], .agg #[.int .i64 n, .int .i64 g], .string s] [rCell true b [.pointer (some ⟨tb, 0, none⟩), .int .i64 (most : Int), .int .i64 0, .int .i64 0, .map (some dm), .map (some pm)] 175, rTab tb ps gs vl vg T Sl Sg, rNds l, rMap true dm hk (ds.map dnKV), rDirs ds, rEnv B ad [10], rEnv B ad [4], rEnv B ad [9]] (fun u L => u = errV ad 9 ∧ L = [rCell true b [.pointer (some ⟨tb, 0, none⟩), .int .i64 (most : Int), .int .i64 0, .int .i64 0, .map (some dm), .map (some pm)] 175, rTab tb ps gs vl vg T Sl Sg, rNds l, rMap true dm hk (ds.map dnKV), rDirs ds, rEnv B ad [10], rEnv B ad [4], rEnv B ad [9]]) := by
  refine spec_of (#[.pointer (some ⟨b, 0, none⟩), .agg #[.int .i64 ni, .int .i64 gi], .agg #[.int .i64 n, .int .i64 g], .string s, undef, undef, undef, undef, undef, undef, undef, undef, undef, undef, undef, undef, undef, undef, undef, undef, undef, undef, undef, undef, undef, undef, undef, undef, undef, undef, undef, undef, undef, undef, undef, undef, undef, undef, undef, undef, undef, undef, undef, undef, undef, undef, undef, undef, undef, undef, undef, undef, undef, undef, undef, undef, undef, undef, undef, undef, undef, undef, undef, undef, undef, undef, undef, undef, undef, undef, undef, undef, undef, undef, undef, undef, undef, undef, undef]) Tryd.func22 rfl (by kernel_rfl) fun E w0 w h => ?_
  refine c_seq ?_
  refine c_reg ?_
  refine sq_new rfl (fun b => .pointer (some ⟨b, 0, none⟩)) [.int .i64 ni, .int .i64 gi] 29 (fun _ => by kernel_rfl) h ?_; intro k1 w h
  refine sq_new rfl (fun b => .pointer (some ⟨b, 0, none⟩)) [.int .i64 n, .int .i64 g] 29 (fun _ => by kernel_rfl) h ?_; intro k2 w h
  refine sq_p (.nilIface) rfl (fun _ => by kernel_rfl) ?_
  refine lnil ?_
  refine thn_n ?_
  refine c_seq ?_
  refine d_start 12 [1, 1] (by kernel_rfl) h fun w h => ?_
  refine d_take 0 528 [1, 1] rfl (v := .pointer (some ⟨b, 0, none⟩)) (by kernel_rfl) (qp_thn qp_body) (yq (by kernel_rfl) (g_pure (v := .pointer (some ⟨b, 0, none⟩)) fun _ => by kernel_rfl)) h (by kernel_rfl) ?_
  refine d_take 1 529 [1, 1] rfl (v := .pointer (some ⟨b, 0, none⟩)) (by kernel_rfl) (qp_thn qp_body) (yq (by kernel_rfl) (g_pure (v := .pointer (some ⟨b, 0, none⟩)) fun _ => by kernel_rfl)) h (by kernel_rfl) ?_
  refine d_take 2 531 [1, 1] rfl (v := .pointer (some ⟨b, 0, none⟩)) (by kernel_rfl) (qp_thn qp_body) (yq (by kernel_rfl) (g_pure (v := .pointer (some ⟨b, 0, none⟩)) fun _ => by kernel_rfl)) h (by kernel_rfl) ?_
  refine d_take 3 535 [1, 1] rfl (v := .pointer (some ⟨tb, 0, none⟩)) (by kernel_rfl) (qp_thn qp_body) (yq (by kernel_rfl) (g_ld 0 [.pointer (some ⟨tb, 0, none⟩)] (.pointer (some ⟨tb, 0, none⟩)) (by kernel_rfl) 1 rfl)) h (by kernel_rfl) ?_
  refine d_take 4 527 [1, 1] rfl (v := .agg #[.int .i64 ni, .int .i64 gi]) (by kernel_rfl) (qp_thn qp_body) (yq (by kernel_rfl) (g_ld 0 [.int .i64 ni, .int .i64 gi] (.agg #[.int .i64 ni, .int .i64 gi]) (by kernel_rfl) 0 rfl)) h (by kernel_rfl) ?_
  refine d_ready [5, 9] (by kernel_rfl) rfl ?_
  refine ad_call #[.pointer (some ⟨tb, 0, none⟩), .agg #[.int .i64 ni, .int .i64 gi]] [3, 3, 5] [4, 4] rfl (by kernel_rfl) (attrY_spec ad tb ps gs vl vg T Sl Sg l hl hr ni gi ki Ni hlki hai) (fun _ => by kernel_rfl) h ?_ ?_
  · skip
    rintro v_ L_ w ⟨rfl, rfl⟩ h
    refine ⟨by kernel_rfl, ?_⟩
    refine d_take 6 575 [4, 4] rfl (v := .tuple #[.agg #[.int .i64 Ni.kind, .int .i64 (ndSize Ni), .int .i64 Ni.links, .int .i64 Ni.change, .int .i64 Ni.upn, .int .i64 Ni.upg], .nilIface]) (by kernel_rfl) (qp_thn qp_body) (yq (by kernel_rfl) (g_pure (v := .tuple #[.agg #[.int .i64 Ni.kind, .int .i64 (ndSize Ni), .int .i64 Ni.links, .int .i64 Ni.change, .int .i64 Ni.upn, .int .i64 Ni.upg], .nilIface]) fun _ => by kernel_rfl)) h (by kernel_rfl) ?_
    refine d_take 7 895 [4, 4] rfl (v := .agg #[.int .i64 Ni.kind, .int .i64 (ndSize Ni), .int .i64 Ni.links, .int .i64 Ni.change, .int .i64 Ni.upn, .int .i64 Ni.upg]) (by kernel_rfl) (qp_thn qp_body) (yq (by kernel_rfl) (g_pure (v := .agg #[.int .i64 Ni.kind, .int .i64 (ndSize Ni), .int .i64 Ni.links, .int .i64 Ni.change, .int .i64 Ni.upn, .int .i64 Ni.upg]) fun _ => by kernel_rfl)) h (by kernel_rfl) ?_
    refine d_take 8 1791 [4, 4] rfl (v := .nilIface) (by kernel_rfl) (qp_thn qp_body) (yq (by kernel_rfl) (g_pure (v := .nilIface) fun _ => by kernel_rfl)) h (by kernel_rfl) ?_
    refine d_ready [9] (by kernel_rfl) rfl ?_
    refine ad_new [5, 5] rfl (by kernel_rfl) (fun b => .pointer (some ⟨b, 0, none⟩)) [.int .i64 0, .int .i64 0, .int .i64 0, .int .i64 0, .int .i64 0, .int .i64 0] 180 (fun _ => by kernel_rfl) h ?_ ?_
    · skip
      intro k3 w h; refine ⟨by kernel_rfl, ?_⟩
      refine d_ready [10] (by kernel_rfl) rfl ?_
      refine ad_st [5, 5] rfl (by kernel_rfl) 0 [.int .i64 Ni.kind, .int .i64 (ndSize Ni), .int .i64 Ni.links, .int .i64 Ni.change, .int .i64 Ni.upn, .int .i64 Ni.upg] [.int .i64 Ni.kind, .int .i64 (ndSize Ni), .int .i64 Ni.links, .int .i64 Ni.change, .int .i64 Ni.upn, .int .i64 Ni.upg] h 0 rfl (by kernel_rfl) ?_ ?_
      · skip
        intro w h; refine ⟨by kernel_rfl, ?_⟩
        refine d_take 11 2047 [5, 5] rfl (v := .nilIface) (by kernel_rfl) (qp_thn qp_body) (yq (by kernel_rfl) (g_pure (v := .nilIface) fun _ => by kernel_rfl)) h (by kernel_rfl) ?_
        refine d_done (by kernel_rfl) ?_
        refine thn_n ?_
        refine c_seq ?_
        refine c_seq ?_
        refine c_reg ?_
        refine sq_p (.nilIface) rfl (fun _ => by kernel_rfl) ?_
        refine sq_p (.bool false) rfl (fun _ => by kernel_rfl) ?_
        refine lnil ?_
        refine thn_n ?_
        refine c_false (by kernel_rfl) ?_
        refine c_skip ?_
        refine thn_n ?_
        refine c_seq ?_
        refine c_reg ?_
        refine sq_p (.pointer (some ⟨b, 0, none⟩)) rfl (fun _ => by kernel_rfl) ?_
        refine sq_q rfl h (g_ld 0 [.int .i64 n, .int .i64 g] (.agg #[.int .i64 n, .int .i64 g]) (by kernel_rfl) 4 rfl) ?_
        refine sq_p (.string s) rfl (fun _ => by kernel_rfl) ?_
        refine sq_call #[.pointer (some ⟨b, 0, none⟩), .agg #[.int .i64 n, .int .i64 g], .string s] [6, 1, 1, 4, 1, 4] rfl (namedY_spec ad b most tb dm pm ps gs vl vg T Sl Sg l ds pn hl hr n g k N hlk ha j d hj hdh hdd s hs hok) (fun _ => by kernel_rfl) h ?_; rintro v_ L_ w ⟨rfl, rfl⟩ h
        have h := h.pickE (M := [rDirs ds, rCell true b [.pointer (some ⟨tb, 0, none⟩), .int .i64 (most : Int), .int .i64 0, .int .i64 0, .map (some dm), .map (some pm)] 175, rTab tb ps gs vl vg T Sl Sg, rNds l, rMap true dm hk (ds.map dnKV), rEnv B ad [10], rEnv B ad [4], rCell true k3 [.int .i64 Ni.kind, .int .i64 (ndSize Ni), .int .i64 Ni.links, .int .i64 Ni.change, .int .i64 Ni.upn, .int .i64 Ni.upg] 180, rCell true k2 [.int .i64 n, .int .i64 g] 29, rCell true k1 [.int .i64 ni, .int .i64 gi] 29, rEnv B ad [9]]) [9, 0, 0, 0, 0, 0, 0, 0, 0, 0, 0] (by kernel_rfl)
        have h := h.dirOpen hj
        have h : Own w0 E [rMap true d.mb sk (d.es.map enKV), rDirsO ds j, rCell true b [.pointer (some ⟨tb, 0, none⟩), .int .i64 (most : Int), .int .i64 0, .int .i64 0, .map (some dm), .map (some pm)] 175, rTab tb ps gs vl vg T Sl Sg, rNds l, rMap true dm hk (ds.map dnKV), rEnv B ad [10], rEnv B ad [4], rCell true k3 [.int .i64 Ni.kind, .int .i64 (ndSize Ni), .int .i64 Ni.links, .int .i64 Ni.change, .int .i64 Ni.upn, .int .i64 Ni.upg] 180, rCell true k2 [.int .i64 n, .int .i64 g] 29, rCell true k1 [.int .i64 ni, .int .i64 gi] 29, rEnv B ad [9]] w := h
        refine sq_p (.tuple #[.map (some d.mb), .nilIface]) rfl (fun _ => by kernel_rfl) ?_
        refine sq_p (.map (some d.mb)) rfl (fun _ => by kernel_rfl) ?_
        refine sq_p (.nilIface) rfl (fun _ => by kernel_rfl) ?_
        refine sq_p (.map (some d.mb)) rfl (fun _ => by kernel_rfl) ?_
        refine sq_p (.nilIface) rfl (fun _ => by kernel_rfl) ?_
        refine lnil ?_
        refine thn_n ?_
        refine c_seq ?_
        refine c_reg ?_
        refine sq_p (.map (some d.mb)) rfl (fun _ => by kernel_rfl) ?_
        refine sq_p (.string s) rfl (fun _ => by kernel_rfl) ?_
        refine sq_q rfl h (g_eq (v' := .tuple #[.agg #[.int .i64 0, .int .i64 0], .bool false]) (g_look (K := 9) (E := 29) (z := (.agg #[.int .i64 0, .int .i64 0])) (kv := (d.es.map enKV)) (ok := true) (keyStr (by kernel_rfl)) s (by kernel_rfl) (fun _ => by kernel_rfl) 0 rfl) (by rw [en_none hx]; rfl)) ?_
        refine sq_p (.tuple #[.agg #[.int .i64 0, .int .i64 0], .bool false]) rfl (fun _ => by kernel_rfl) ?_
        refine sq_p (.agg #[.int .i64 0, .int .i64 0]) rfl (fun _ => by kernel_rfl) ?_
        refine sq_p (.bool false) rfl (fun _ => by kernel_rfl) ?_
        refine sq_new rfl (fun b => .pointer (some ⟨b, 0, none⟩)) [.int .i64 0, .int .i64 0] 29 (fun _ => by kernel_rfl) h ?_; intro k4 w h
        refine sq_st rfl 0 [.int .i64 0, .int .i64 0] [.int .i64 0, .int .i64 0] h 0 rfl (by kernel_rfl) ?_; intro w h
        refine sq_p (.bool false) rfl (fun _ => by kernel_rfl) ?_
        refine lnil ?_
        refine thn_n ?_
        refine c_seq ?_
        refine c_block ?_
        refine c_seq ?_
        refine c_reg ?_
        refine sq_p (.nilIface) rfl (fun _ => by kernel_rfl) ?_
        refine sq_p (.bool false) rfl (fun _ => by kernel_rfl) ?_
        refine sq_p (.bool false) rfl (fun _ => by kernel_rfl) ?_
        refine lnil ?_
        refine thn_n ?_
        refine c_false (by kernel_rfl) ?_
        refine c_seq ?_
        refine c_reg ?_
        refine sq_p (.pointer (some ⟨k3, 0, none⟩)) rfl (fun _ => by kernel_rfl) ?_
        refine sq_q rfl h (g_ld 0 [.int .i64 Ni.kind] (.int .i64 Ni.kind) (by kernel_rfl) 9 rfl) ?_
        refine sq_p (.bool (decide (Ni.kind = 2))) rfl (fun _ => by kernel_rfl) ?_
        refine sq_p (.bool (decide (Ni.kind = 2))) rfl (fun _ => by kernel_rfl) ?_
        refine lnil ?_
        refine thn_n ?_
        refine c_cond (decide (Ni.kind = 2)) (by kernel_rfl) (fun hc5 => ?_) (fun hc5 => ?_)
        · skip
          have hc5 := of_decide_eq_true hc5
          exfalso; revert hc5; simp; omega
        · skip
          have hc5 := of_decide_eq_false hc5
          refine c_seq ?_
          refine c_reg ?_
          refine sq_p (.bool false) rfl (fun _ => by kernel_rfl) ?_
          refine sq_p (.bool false) rfl (fun _ => by kernel_rfl) ?_
          refine lnil ?_
          refine thn_n ?_
          refine c_false (by kernel_rfl) ?_
          refine c_seq ?_
          refine c_reg ?_
          refine sq_p (.map (some d.mb)) rfl (fun _ => by kernel_rfl) ?_
          refine sq_q rfl h (g_lenm (K := 9) (E := 29) (by kernel_rfl) 1 rfl) ?_
          obtain ⟨b6, hb6⟩ : ∃ b_ : Bool, b_ = (decide (((d.es.map enKV).length : Int) ≥ 60)) := ⟨_, rfl⟩
          refine sq_q (v := .bool b6) rfl h (by subst hb6; exact g_pure (v := .bool (decide (((d.es.map enKV).length : Int) ≥ 60))) fun _ => by kernel_rfl) ?_
          refine sq_p (.bool b6) rfl (fun _ => by kernel_rfl) ?_
          refine sq_m0 (v := .pointer (some ⟨k3, 2, none⟩)) b6 (by cases b6 <;> kernel_rfl) h (fun hB => by subst hB; exact g_pure (v := .pointer (some ⟨k3, 2, none⟩)) fun _ => by kernel_rfl) ?_
          refine sq_m0 (v := .int .i64 Ni.links) b6 (by cases b6 <;> kernel_rfl) h (fun hB => by subst hB; exact g_ld 2 [.int .i64 Ni.links] (.int .i64 Ni.links) (by kernel_rfl) 9 rfl) ?_
          obtain ⟨b7, hb7⟩ : ∃ b_ : Bool, b_ = (decide (Ni.links ≥ 8)) := ⟨_, rfl⟩
          refine sq_m0 (v := .bool b7) b6 (by cases b6 <;> kernel_rfl) h (fun hB => by subst hB; exact by subst hb7; exact g_pure (v := .bool (decide (Ni.links ≥ 8))) fun _ => by kernel_rfl) ?_
          obtain ⟨b8, hb8⟩ : ∃ b_ : Bool, b_ = (b6 || b7) := ⟨_, rfl⟩
          refine sq_q (v := .bool b8) rfl h (by subst hb8; exact g_pure (v := .bool (b6 || b7)) fun _ => by cases b6 <;> kernel_rfl) ?_
          refine sq_p (.bool b8) rfl (fun _ => by kernel_rfl) ?_
          refine lnil ?_
          refine thn_n ?_
          refine c_cond (b8) (by kernel_rfl) (fun hc9 => ?_) (fun hc9 => ?_)
          · skip
            have q10 : (b6 || b7) = true := by rw [← hb8]; exact hc9
            have q11 : ((((d.es.map enKV).length : Int) ≥ 60) ∨ (Ni.links ≥ 8)) := by subst hb7; subst hb6; revert q10; first | (simp; done) | (simp; omega)
            refine c_seq ?_
            refine c_reg ?_
            refine sq_q rfl h (g_ldr (b := gl 9) 0 [errV ad 9] (errV ad 9) (by kernel_rfl) 12 rfl (rdEnv (c := 9) (by decide) rfl)) ?_
            refine sq_p (errV ad 9) rfl (fun _ => by kernel_rfl) ?_
            refine lnil ?_
            refine thn_n ?_
            refine c_ret ?_
            refine blk_r (thn_r ?_)
            have h := h.pickE (M := [rMap true d.mb sk (d.es.map enKV), rDirsO ds j, rCell true k4 [.int .i64 0, .int .i64 0] 29, rCell true b [.pointer (some ⟨tb, 0, none⟩), .int .i64 (most : Int), .int .i64 0, .int .i64 0, .map (some dm), .map (some pm)] 175, rTab tb ps gs vl vg T Sl Sg, rNds l, rMap true dm hk (ds.map dnKV), rEnv B ad [10], rEnv B ad [4], rCell true k3 [.int .i64 Ni.kind, .int .i64 (ndSize Ni), .int .i64 Ni.links, .int .i64 Ni.change, .int .i64 Ni.upn, .int .i64 Ni.upg] 180, rCell true k2 [.int .i64 n, .int .i64 g] 29, rCell true k1 [.int .i64 ni, .int .i64 gi] 29, rEnv B ad [9]]) [1, 1, 0, 0, 0, 0, 0, 0, 0, 0, 0, 0, 0] (by kernel_rfl)
            have h := h.dirBack (d := d) hj
            refine ret_end [errV ad 9] [2, 2, 2, 2, 0, 1, 1, 4] h (by kernel_rfl) (res_t (by kernel_rfl) res_n) ?_
            exact ⟨rfl, rfl⟩
          · skip
            have q12 : (b6 || b7) = false := by rw [← hb8]; exact hc9
            have q13 : b6 = false := by revert q12; cases b6 <;> simp
            have q14 : b7 = false := by revert q12; cases b6 <;> cases b7 <;> simp
            have q15 : (decide (((d.es.map enKV).length : Int) ≥ 60)) = false := by rw [← hb6]; exact q13
            have q15 := of_decide_eq_false q15
            have q16 : (decide (Ni.links ≥ 8)) = false := by rw [← hb7]; exact q14
            have q16 := of_decide_eq_false q16
            exfalso; revert hc9; subst hb8; subst hb7; subst hb6; simp; omega
      exact ad_nil
    exact ad_nil
  refine ad_new [2, 2] rfl (by kernel_rfl) (fun b => .pointer (some ⟨b, 0, none⟩)) [.int .i64 0, .int .i64 0, .int .i64 0, .int .i64 0, .int .i64 0, .int .i64 0] 180 (fun _ => by kernel_rfl) h ?_ ?_
  · skip
    intro k17 w h; refine ⟨by kernel_rfl, ?_⟩
    refine d_ready [5] (by kernel_rfl) rfl ?_
    refine ad_call #[.pointer (some ⟨tb, 0, none⟩), .agg #[.int .i64 ni, .int .i64 gi]] [4, 4, 6] [5, 5] rfl (by kernel_rfl) (attrY_spec ad tb ps gs vl vg T Sl Sg l hl hr ni gi ki Ni hlki hai) (fun _ => by kernel_rfl) h ?_ ?_
    · skip
      rintro v_ L_ w ⟨rfl, rfl⟩ h
      refine ⟨by kernel_rfl, ?_⟩
      refine d_take 6 575 [5, 5] rfl (v := .tuple #[.agg #[.int .i64 Ni.kind, .int .i64 (ndSize Ni), .int .i64 Ni.links, .int .i64 Ni.change, .int .i64 Ni.upn, .int .i64 Ni.upg], .nilIface]) (by kernel_rfl) (qp_thn qp_body) (yq (by kernel_rfl) (g_pure (v := .tuple #[.agg #[.int .i64 Ni.kind, .int .i64 (ndSize Ni), .int .i64 Ni.links, .int .i64 Ni.change, .int .i64 Ni.upn, .int .i64 Ni.upg], .nilIface]) fun _ => by kernel_rfl)) h (by kernel_rfl) ?_
      refine d_take 7 895 [5, 5] rfl (v := .agg #[.int .i64 Ni.kind, .int .i64 (ndSize Ni), .int .i64 Ni.links, .int .i64 Ni.change, .int .i64 Ni.upn, .int .i64 Ni.upg]) (by kernel_rfl) (qp_thn qp_body) (yq (by kernel_rfl) (g_pure (v := .agg #[.int .i64 Ni.kind, .int .i64 (ndSize Ni), .int .i64 Ni.links, .int .i64 Ni.change, .int .i64 Ni.upn, .int .i64 Ni.upg]) fun _ => by kernel_rfl)) h (by kernel_rfl) ?_
      refine d_take 8 1791 [5, 5] rfl (v := .nilIface) (by kernel_rfl) (qp_thn qp_body) (yq (by kernel_rfl) (g_pure (v := .nilIface) fun _ => by kernel_rfl)) h (by kernel_rfl) ?_
      refine d_ready [10] (by kernel_rfl) rfl ?_
      refine ad_st [5, 5] rfl (by kernel_rfl) 0 [.int .i64 Ni.kind, .int .i64 (ndSize Ni), .int .i64 Ni.links, .int .i64 Ni.change, .int .i64 Ni.upn, .int .i64 Ni.upg] [.int .i64 Ni.kind, .int .i64 (ndSize Ni), .int .i64 Ni.links, .int .i64 Ni.change, .int .i64 Ni.upn, .int .i64 Ni.upg] h 3 rfl (by kernel_rfl) ?_ ?_
      · skip
        intro w h; refine ⟨by kernel_rfl, ?_⟩
        refine d_take 11 2047 [5, 5] rfl (v := .nilIface) (by kernel_rfl) (qp_thn qp_body) (yq (by kernel_rfl) (g_pure (v := .nilIface) fun _ => by kernel_rfl)) h (by kernel_rfl) ?_
        refine d_done (by kernel_rfl) ?_
        refine thn_n ?_
        refine c_seq ?_
        refine c_seq ?_
        refine c_reg ?_
        refine sq_p (.nilIface) rfl (fun _ => by kernel_rfl) ?_
        refine sq_p (.bool false) rfl (fun _ => by kernel_rfl) ?_
        refine lnil ?_
        refine thn_n ?_
        refine c_false (by kernel_rfl) ?_
        refine c_skip ?_
        refine thn_n ?_
        refine c_seq ?_
        refine c_reg ?_
        refine sq_p (.pointer (some ⟨b, 0, none⟩)) rfl (fun _ => by kernel_rfl) ?_
        refine sq_q rfl h (g_ld 0 [.int .i64 n, .int .i64 g] (.agg #[.int .i64 n, .int .i64 g]) (by kernel_rfl) 4 rfl) ?_
        refine sq_p (.string s) rfl (fun _ => by kernel_rfl) ?_
        refine sq_call #[.pointer (some ⟨b, 0, none⟩), .agg #[.int .i64 n, .int .i64 g], .string s] [6, 0, 0, 4, 0, 4] rfl (namedY_spec ad b most tb dm pm ps gs vl vg T Sl Sg l ds pn hl hr n g k N hlk ha j d hj hdh hdd s hs hok) (fun _ => by kernel_rfl) h ?_; rintro v_ L_ w ⟨rfl, rfl⟩ h
        have h := h.pickE (M := [rDirs ds, rCell true b [.pointer (some ⟨tb, 0, none⟩), .int .i64 (most : Int), .int .i64 0, .int .i64 0, .map (some dm), .map (some pm)] 175, rTab tb ps gs vl vg T Sl Sg, rNds l, rMap true dm hk (ds.map dnKV), rEnv B ad [10], rEnv B ad [4], rCell true k17 [.int .i64 Ni.kind, .int .i64 (ndSize Ni), .int .i64 Ni.links, .int .i64 Ni.change, .int .i64 Ni.upn, .int .i64 Ni.upg] 180, rCell true k2 [.int .i64 n, .int .i64 g] 29, rCell true k1 [.int .i64 ni, .int .i64 gi] 29, rEnv B ad [9]]) [9, 0, 0, 0, 0, 0, 0, 0, 0, 0, 0] (by kernel_rfl)
        have h := h.dirOpen hj
        have h : Own w0 E [rMap true d.mb sk (d.es.map enKV), rDirsO ds j, rCell true b [.pointer (some ⟨tb, 0, none⟩), .int .i64 (most : Int), .int .i64 0, .int .i64 0, .map (some dm), .map (some pm)] 175, rTab tb ps gs vl vg T Sl Sg, rNds l, rMap true dm hk (ds.map dnKV), rEnv B ad [10], rEnv B ad [4], rCell true k17 [.int .i64 Ni.kind, .int .i64 (ndSize Ni), .int .i64 Ni.links, .int .i64 Ni.change, .int .i64 Ni.upn, .int .i64 Ni.upg] 180, rCell true k2 [.int .i64 n, .int .i64 g] 29, rCell true k1 [.int .i64 ni, .int .i64 gi] 29, rEnv B ad [9]] w := h
        refine sq_p (.tuple #[.map (some d.mb), .nilIface]) rfl (fun _ => by kernel_rfl) ?_
        refine sq_p (.map (some d.mb)) rfl (fun _ => by kernel_rfl) ?_
        refine sq_p (.nilIface) rfl (fun _ => by kernel_rfl) ?_
        refine sq_p (.map (some d.mb)) rfl (fun _ => by kernel_rfl) ?_
        refine sq_p (.nilIface) rfl (fun _ => by kernel_rfl) ?_
        refine lnil ?_
        refine thn_n ?_
        refine c_seq ?_
        refine c_reg ?_
        refine sq_p (.map (some d.mb)) rfl (fun _ => by kernel_rfl) ?_
        refine sq_p (.string s) rfl (fun _ => by kernel_rfl) ?_
        refine sq_q rfl h (g_eq (v' := .tuple #[.agg #[.int .i64 0, .int .i64 0], .bool false]) (g_look (K := 9) (E := 29) (z := (.agg #[.int .i64 0, .int .i64 0])) (kv := (d.es.map enKV)) (ok := true) (keyStr (by kernel_rfl)) s (by kernel_rfl) (fun _ => by kernel_rfl) 0 rfl) (by rw [en_none hx]; rfl)) ?_
        refine sq_p (.tuple #[.agg #[.int .i64 0, .int .i64 0], .bool false]) rfl (fun _ => by kernel_rfl) ?_
        refine sq_p (.agg #[.int .i64 0, .int .i64 0]) rfl (fun _ => by kernel_rfl) ?_
        refine sq_p (.bool false) rfl (fun _ => by kernel_rfl) ?_
        refine sq_new rfl (fun b => .pointer (some ⟨b, 0, none⟩)) [.int .i64 0, .int .i64 0] 29 (fun _ => by kernel_rfl) h ?_; intro k18 w h
        refine sq_st rfl 0 [.int .i64 0, .int .i64 0] [.int .i64 0, .int .i64 0] h 0 rfl (by kernel_rfl) ?_; intro w h
        refine sq_p (.bool false) rfl (fun _ => by kernel_rfl) ?_
        refine lnil ?_
        refine thn_n ?_
        refine c_seq ?_
        refine c_block ?_
        refine c_seq ?_
        refine c_reg ?_
        refine sq_p (.nilIface) rfl (fun _ => by kernel_rfl) ?_
        refine sq_p (.bool false) rfl (fun _ => by kernel_rfl) ?_
        refine sq_p (.bool false) rfl (fun _ => by kernel_rfl) ?_
        refine lnil ?_
        refine thn_n ?_
        refine c_false (by kernel_rfl) ?_
        refine c_seq ?_
        refine c_reg ?_
        refine sq_p (.pointer (some ⟨k17, 0, none⟩)) rfl (fun _ => by kernel_rfl) ?_
        refine sq_q rfl h (g_ld 0 [.int .i64 Ni.kind] (.int .i64 Ni.kind) (by kernel_rfl) 9 rfl) ?_
        refine sq_p (.bool (decide (Ni.kind = 2))) rfl (fun _ => by kernel_rfl) ?_
        refine sq_p (.bool (decide (Ni.kind = 2))) rfl (fun _ => by kernel_rfl) ?_
        refine lnil ?_
        refine thn_n ?_
        refine c_cond (decide (Ni.kind = 2)) (by kernel_rfl) (fun hc19 => ?_) (fun hc19 => ?_)
        · skip
          have hc19 := of_decide_eq_true hc19
          exfalso; revert hc19; simp; omega
        · skip
          have hc19 := of_decide_eq_false hc19
          refine c_seq ?_
          refine c_reg ?_
          refine sq_p (.bool false) rfl (fun _ => by kernel_rfl) ?_
          refine sq_p (.bool false) rfl (fun _ => by kernel_rfl) ?_
          refine lnil ?_
          refine thn_n ?_
          refine c_false (by kernel_rfl) ?_
          refine c_seq ?_
          refine c_reg ?_
          refine sq_p (.map (some d.mb)) rfl (fun _ => by kernel_rfl) ?_
          refine sq_q rfl h (g_lenm (K := 9) (E := 29) (by kernel_rfl) 1 rfl) ?_
          obtain ⟨b20, hb20⟩ : ∃ b_ : Bool, b_ = (decide (((d.es.map enKV).length : Int) ≥ 60)) := ⟨_, rfl⟩
          refine sq_q (v := .bool b20) rfl h (by subst hb20; exact g_pure (v := .bool (decide (((d.es.map enKV).length : Int) ≥ 60))) fun _ => by kernel_rfl) ?_
          refine sq_p (.bool b20) rfl (fun _ => by kernel_rfl) ?_
          refine sq_m0 (v := .pointer (some ⟨k17, 2, none⟩)) b20 (by cases b20 <;> kernel_rfl) h (fun hB => by subst hB; exact g_pure (v := .pointer (some ⟨k17, 2, none⟩)) fun _ => by kernel_rfl) ?_
          refine sq_m0 (v := .int .i64 Ni.links) b20 (by cases b20 <;> kernel_rfl) h (fun hB => by subst hB; exact g_ld 2 [.int .i64 Ni.links] (.int .i64 Ni.links) (by kernel_rfl) 9 rfl) ?_
          obtain ⟨b21, hb21⟩ : ∃ b_ : Bool, b_ = (decide (Ni.links ≥ 8)) := ⟨_, rfl⟩
          refine sq_m0 (v := .bool b21) b20 (by cases b20 <;> kernel_rfl) h (fun hB => by subst hB; exact by subst hb21; exact g_pure (v := .bool (decide (Ni.links ≥ 8))) fun _ => by kernel_rfl) ?_
          obtain ⟨b22, hb22⟩ : ∃ b_ : Bool, b_ = (b20 || b21) := ⟨_, rfl⟩
          refine sq_q (v := .bool b22) rfl h (by subst hb22; exact g_pure (v := .bool (b20 || b21)) fun _ => by cases b20 <;> kernel_rfl) ?_
          refine sq_p (.bool b22) rfl (fun _ => by kernel_rfl) ?_
          refine lnil ?_
          refine thn_n ?_
          refine c_cond (b22) (by kernel_rfl) (fun hc23 => ?_) (fun hc23 => ?_)
          · skip
            have q24 : (b20 || b21) = true := by rw [← hb22]; exact hc23
            have q25 : ((((d.es.map enKV).length : Int) ≥ 60) ∨ (Ni.links ≥ 8)) := by subst hb21; subst hb20; revert q24; first | (simp; done) | (simp; omega)
            refine c_seq ?_
            refine c_reg ?_
            refine sq_q rfl h (g_ldr (b := gl 9) 0 [errV ad 9] (errV ad 9) (by kernel_rfl) 12 rfl (rdEnv (c := 9) (by decide) rfl)) ?_
            refine sq_p (errV ad 9) rfl (fun _ => by kernel_rfl) ?_
            refine lnil ?_
            refine thn_n ?_
            refine c_ret ?_
            refine blk_r (thn_r ?_)
            have h := h.pickE (M := [rMap true d.mb sk (d.es.map enKV), rDirsO ds j, rCell true k18 [.int .i64 0, .int .i64 0] 29, rCell true b [.pointer (some ⟨tb, 0, none⟩), .int .i64 (most : Int), .int .i64 0, .int .i64 0, .map (some dm), .map (some pm)] 175, rTab tb ps gs vl vg T Sl Sg, rNds l, rMap true dm hk (ds.map dnKV), rEnv B ad [10], rEnv B ad [4], rCell true k17 [.int .i64 Ni.kind, .int .i64 (ndSize Ni), .int .i64 Ni.links, .int .i64 Ni.change, .int .i64 Ni.upn, .int .i64 Ni.upg] 180, rCell true k2 [.int .i64 n, .int .i64 g] 29, rCell true k1 [.int .i64 ni, .int .i64 gi] 29, rEnv B ad [9]]) [1, 1, 0, 0, 0, 0, 0, 0, 0, 0, 0, 0, 0] (by kernel_rfl)
            have h := h.dirBack (d := d) hj
            refine ret_end [errV ad 9] [2, 2, 2, 2, 0, 1, 1, 4] h (by kernel_rfl) (res_t (by kernel_rfl) res_n) ?_
            exact ⟨rfl, rfl⟩
          · skip
            have q26 : (b20 || b21) = false := by rw [← hb22]; exact hc23
            have q27 : b20 = false := by revert q26; cases b20 <;> simp
            have q28 : b21 = false := by revert q26; cases b20 <;> cases b21 <;> simp
            have q29 : (decide (((d.es.map enKV).length : Int) ≥ 60)) = false := by rw [← hb20]; exact q27
            have q29 := of_decide_eq_false q29
            have q30 : (decide (Ni.links ≥ 8)) = false := by rw [← hb21]; exact q28
            have q30 := of_decide_eq_false q30
            exfalso; revert hc23; subst hb22; subst hb21; subst hb20; simp; omega
      exact ad_nil
    exact ad_nil
  exact ad_nil
end Go.Proofs.YtofhnglgebllbaaDoor
