/- nodes: contracts by what is owned (printed by walk.py). -/
import Derived.Test.YtgebinfbbopnlaaDoorTabO
import Derived.Test.YtgebinfbbopnlaaDoorEnvAR
import Derived.Test.YtgebinfbbopnlaaDoorOp11
import Derived.Test.YtgebinfbbopnlaaDoorNodeR
import Derived.Test.YtgebinfbbopnlaaDoorOp16
import Derived.Test.YtgebinfbbopnlaaDoorCoded1
import Derived.Test.YtgebinfbbopnlaaDoorArg
namespace Go.Proofs.YtgebinfbbopnlaaDoor
open Go.RowKit
set_option linter.unusedVariables false
set_option linter.unusedSimpArgs false
set_option linter.unnecessarySimpa false
set_option maxRecDepth 100000

theorem tabAtN_spec {B : Nat} (ad : Nat → Addr) (b : Nat) (n g : Int) (ps : List (Option Nat)) (gs : List Int) (vl vg : Value) (T : TypeId) (Sl Sg : Nat → Prop) (hl : ps.length = gs.length) (hr : ∀ x ∈ gs, 0 ≤ x ∧ x ≤ 1000000) (ha : atOf ps gs n g = none) :
    Spec Tryd.prog 33 #[.pointer (some ⟨b, 0, none⟩), .agg #[.int .i64 n, .int .i64 g]] [rTab b ps gs vl vg T Sl Sg, rEnv B ad [10]] fun u L => u = .tuple #[.pointer none, errV ad 10] ∧ L = [rTab b ps gs vl vg T Sl Sg, rEnv B ad [10]] :=
  (tabAt_spec ad b n g ps gs vl vg T Sl Sg hl hr).mono fun u L h => by
    rcases h with ⟨nb, h1, _⟩ | ⟨_, h2, h3⟩
    · rw [ha] at h1; cases h1
    · exact ⟨h2, h3⟩

set_option maxHeartbeats 1000000 in
theorem touch_spec {B : Nat} (ad : Nat → Addr) (tb : Nat) (ps : List (Option Nat)) (gs : List Int) (vl vg : Value) (T : TypeId) (Sl Sg : Nat → Prop) (l : List (Option ND)) (hl : ps.length = gs.length) (hr : ∀ x ∈ gs, 0 ≤ x ∧ x ≤ 1000000) (n g : Int) (k : Nat) (N : ND) (hk : l[k]? = some (some N)) (ha : atOf ps gs n g = some N.nb) (hc : 0 ≤ N.change ∧ N.change ≤ 1000000)  : Spec Tryd.prog 11 #[.pointer (some ⟨tb, 0, none⟩), .agg #[.int .i64 n, .int .i64 g]] [rTab tb ps gs vl vg T Sl Sg, rNds l, rEnv B ad [10]] (fun u L => u = .nilIface ∧ L = [rTab tb ps gs vl vg T Sl Sg, rNds (l.set k (some { N with change := N.change + 1 })), rEnv B ad [10]]) := by
  refine spec_of (#[.pointer (some ⟨tb, 0, none⟩), .agg #[.int .i64 n, .int .i64 g], undef, undef, undef, undef, undef, undef, undef, undef, undef, undef, undef, undef, undef, undef, undef, undef, undef, undef, undef, undef, undef, undef, undef]) Tryd.func11 rfl (by kernel_rfl) fun E w0 w h => ?_
  refine c_seq ?_
  refine c_reg ?_
  refine sq_new rfl (fun b => .pointer (some ⟨b, 0, none⟩)) [.int .i64 n, .int .i64 g] 33 (fun _ => by kernel_rfl) h ?_; intro k1 w h
  refine sq_p (.nilIface) rfl (fun _ => by kernel_rfl) ?_
  refine lnil ?_
  refine thn_n ?_
  refine c_seq ?_
  refine c_reg ?_
  refine sq_p (.pointer (some ⟨tb, 0, none⟩)) rfl (fun _ => by kernel_rfl) ?_
  refine sq_q rfl h (g_ld 0 [.int .i64 n, .int .i64 g] (.agg #[.int .i64 n, .int .i64 g]) (by kernel_rfl) 0 rfl) ?_
  refine sq_call #[.pointer (some ⟨tb, 0, none⟩), .agg #[.int .i64 n, .int .i64 g]] [1, 2] rfl (nodesAt_spec ad tb _ n g ps gs vl vg T Sl Sg hl hr ha) (fun _ => by kernel_rfl) h ?_; rintro v_ L_ w ⟨rfl, rfl⟩ h
  have h := h.pickE (M := [rNds l, rTab tb ps gs vl vg T Sl Sg, rEnv B ad [10], rCell true k1 [.int .i64 n, .int .i64 g] 33]) [3, 0, 0, 0] (by kernel_rfl)
  have h := h.ndOpen hk
  have h : Own w0 E [rCell true N.nb [.int .i64 N.kind, .int .i64 N.size, .int .i64 N.links, .int .i64 N.change, .int .i64 N.upn, .int .i64 N.upg, (ndPtr N.dq)] 91, datRes N.dq, rNdsO l k, rTab tb ps gs vl vg T Sl Sg, rEnv B ad [10], rCell true k1 [.int .i64 n, .int .i64 g] 33] w := h
  refine sq_p (.tuple #[.pointer (some ⟨N.nb, 0, none⟩), .nilIface]) rfl (fun _ => by kernel_rfl) ?_
  refine sq_p (.pointer (some ⟨N.nb, 0, none⟩)) rfl (fun _ => by kernel_rfl) ?_
  refine sq_p (.nilIface) rfl (fun _ => by kernel_rfl) ?_
  refine sq_p (.pointer (some ⟨N.nb, 0, none⟩)) rfl (fun _ => by kernel_rfl) ?_
  refine sq_p (.nilIface) rfl (fun _ => by kernel_rfl) ?_
  refine lnil ?_
  refine thn_n ?_
  refine c_seq ?_
  refine c_seq ?_
  refine c_reg ?_
  refine sq_p (.nilIface) rfl (fun _ => by kernel_rfl) ?_
  refine sq_p (.bool false) rfl (fun _ => by kernel_rfl) ?_
  refine lnil ?_
  refine thn_n ?_
  refine c_false (by kernel_rfl) ?_
  refine c_skip ?_
  refine thn_n ?_
  refine c_seq ?_
  refine c_reg ?_
  refine sq_p (.pointer (some ⟨N.nb, 0, none⟩)) rfl (fun _ => by kernel_rfl) ?_
  refine sq_p (.pointer (some ⟨N.nb, 0, none⟩)) rfl (fun _ => by kernel_rfl) ?_
  refine sq_p (.pointer (some ⟨N.nb, 0, none⟩)) rfl (fun _ => by kernel_rfl) ?_
  refine sq_p (.pointer (some ⟨N.nb, 3, none⟩)) rfl (fun _ => by kernel_rfl) ?_
  refine sq_q rfl h (g_ld 3 [.int .i64 N.change] (.int .i64 N.change) (by kernel_rfl) 0 rfl) ?_
  refine sq_q rfl h (g_eq (v := .int .i64 (IntKind.i64.wrap (N.change + 1))) (v' := .int .i64 (N.change + 1)) (g_pure fun _ => by kernel_rfl) (wr (by omega))) ?_
  refine sq_p (.pointer (some ⟨N.nb, 0, none⟩)) rfl (fun _ => by kernel_rfl) ?_
  refine sq_p (.pointer (some ⟨N.nb, 0, none⟩)) rfl (fun _ => by kernel_rfl) ?_
  refine sq_p (.pointer (some ⟨N.nb, 3, none⟩)) rfl (fun _ => by kernel_rfl) ?_
  refine sq_st rfl 3 [.int .i64 (N.change + 1)] [.int .i64 N.kind, .int .i64 N.size, .int .i64 N.links, .int .i64 (N.change + 1), .int .i64 N.upn, .int .i64 N.upg, (ndPtr N.dq)] h 0 rfl (by kernel_rfl) ?_; intro w h
  refine lnil ?_
  refine thn_n ?_
  refine c_seq ?_
  refine c_reg ?_
  refine sq_p (.nilIface) rfl (fun _ => by kernel_rfl) ?_
  refine lnil ?_
  refine thn_n ?_
  refine c_ret ?_
  have h := h.pickE (M := [rCell true N.nb [.int .i64 N.kind, .int .i64 N.size, .int .i64 N.links, .int .i64 (N.change + 1), .int .i64 N.upn, .int .i64 N.upg, (ndPtr N.dq)] 91, datRes N.dq, rNdsO l k, rTab tb ps gs vl vg T Sl Sg, rEnv B ad [10], rCell true k1 [.int .i64 n, .int .i64 g] 33]) [0, 0, 0, 0, 0, 0] (by kernel_rfl)
  have h := h.ndClose { N with change := N.change + 1 }
  refine ret_end [.nilIface] [1, 0, 0] h (by kernel_rfl) (res_t (by kernel_rfl) res_n) ?_
  exact ⟨rfl, rfl⟩
set_option maxHeartbeats 1000000 in
theorem attrN_spec {B : Nat} (ad : Nat → Addr) (tb : Nat) (ps : List (Option Nat)) (gs : List Int) (vl vg : Value) (T : TypeId) (Sl Sg : Nat → Prop) (l : List (Option ND)) (hl : ps.length = gs.length) (hr : ∀ x ∈ gs, 0 ≤ x ∧ x ≤ 1000000) (n g : Int) (ha : atOf ps gs n g = none)  : Spec Tryd.prog 16 #[.pointer (some ⟨tb, 0, none⟩), .agg #[.int .i64 n, .int .i64 g]] [rTab tb ps gs vl vg T Sl Sg, rNds l, rEnv B ad [10]] (fun u L => u = .tuple #[.agg #[.int .i64 0, .int .i64 0, .int .i64 0, .int .i64 0, .int .i64 0, .int .i64 0], errV ad 10] ∧ L = [rTab tb ps gs vl vg T Sl Sg, rNds l, rEnv B ad [10]]) := by
  refine spec_of (#[.pointer (some ⟨tb, 0, none⟩), .agg #[.int .i64 n, .int .i64 g], undef, undef, undef, undef, undef, undef, undef, undef, undef, undef, undef, undef, undef, undef, undef, undef, undef, undef, undef, undef, undef, undef, undef, undef, undef, undef, undef, undef, undef, undef, undef, undef, undef]) Tryd.func16 rfl (by kernel_rfl) fun E w0 w h => ?_
  refine c_seq ?_
  refine c_reg ?_
  refine sq_new rfl (fun b => .pointer (some ⟨b, 0, none⟩)) [.int .i64 n, .int .i64 g] 33 (fun _ => by kernel_rfl) h ?_; intro k1 w h
  refine sq_new rfl (fun b => .pointer (some ⟨b, 0, none⟩)) [.int .i64 0, .int .i64 0, .int .i64 0, .int .i64 0, .int .i64 0, .int .i64 0] 37 (fun _ => by kernel_rfl) h ?_; intro k2 w h
  refine sq_p (.nilIface) rfl (fun _ => by kernel_rfl) ?_
  refine lnil ?_
  refine thn_n ?_
  refine c_seq ?_
  refine c_reg ?_
  refine sq_p (.pointer (some ⟨tb, 0, none⟩)) rfl (fun _ => by kernel_rfl) ?_
  refine sq_q rfl h (g_ld 0 [.int .i64 n, .int .i64 g] (.agg #[.int .i64 n, .int .i64 g]) (by kernel_rfl) 1 rfl) ?_
  refine sq_call #[.pointer (some ⟨tb, 0, none⟩), .agg #[.int .i64 n, .int .i64 g]] [2, 3] rfl (tabAtN_spec ad tb n g ps gs vl vg T Sl Sg hl hr ha) (fun _ => by kernel_rfl) h ?_; rintro v_ L_ w ⟨rfl, rfl⟩ h
  refine sq_p (.tuple #[.pointer none, errV ad 10]) rfl (fun _ => by kernel_rfl) ?_
  refine sq_p (.pointer none) rfl (fun _ => by kernel_rfl) ?_
  refine sq_p (errV ad 10) rfl (fun _ => by kernel_rfl) ?_
  refine sq_p (.pointer none) rfl (fun _ => by kernel_rfl) ?_
  refine sq_p (errV ad 10) rfl (fun _ => by kernel_rfl) ?_
  refine lnil ?_
  refine thn_n ?_
  refine c_seq ?_
  refine c_seq ?_
  refine c_reg ?_
  refine sq_p (errV ad 10) rfl (fun _ => by kernel_rfl) ?_
  refine sq_p (.bool true) rfl (fun _ => by kernel_rfl) ?_
  refine lnil ?_
  refine thn_n ?_
  refine c_true (by kernel_rfl) ?_
  refine c_seq ?_
  refine c_reg ?_
  refine sq_p (.agg #[.int .i64 0, .int .i64 0, .int .i64 0, .int .i64 0, .int .i64 0, .int .i64 0]) rfl (fun _ => by kernel_rfl) ?_
  refine sq_p (errV ad 10) rfl (fun _ => by kernel_rfl) ?_
  refine sq_st rfl 0 [.int .i64 0, .int .i64 0, .int .i64 0, .int .i64 0, .int .i64 0, .int .i64 0] [.int .i64 0, .int .i64 0, .int .i64 0, .int .i64 0, .int .i64 0, .int .i64 0] h 2 rfl (by kernel_rfl) ?_; intro w h
  refine sq_p (errV ad 10) rfl (fun _ => by kernel_rfl) ?_
  refine lnil ?_
  refine thn_n ?_
  refine c_ret ?_
  refine thn_r ?_
  refine ret_end [.agg #[.int .i64 0, .int .i64 0, .int .i64 0, .int .i64 0, .int .i64 0, .int .i64 0], errV ad 10] [0, 3, 0] h (by kernel_rfl) (res_c 0 [.int .i64 0, .int .i64 0, .int .i64 0, .int .i64 0, .int .i64 0, .int .i64 0] (.agg #[.int .i64 0, .int .i64 0, .int .i64 0, .int .i64 0, .int .i64 0, .int .i64 0]) 2 rfl (by kernel_rfl) (res_t (by kernel_rfl) res_n)) ?_
  exact ⟨rfl, rfl⟩
set_option maxHeartbeats 1000000 in
theorem attrD_spec {B : Nat} (ad : Nat → Addr) (tb : Nat) (ps : List (Option Nat)) (gs : List Int) (vl vg : Value) (T : TypeId) (Sl Sg : Nat → Prop) (l : List (Option ND)) (hl : ps.length = gs.length) (hr : ∀ x ∈ gs, 0 ≤ x ∧ x ≤ 1000000) (n g : Int) (k nb : Nat) (ki si li ch un ug : Int) (hk : l[k]? = some (some (⟨nb, ki, si, li, ch, un, ug, none⟩ : ND))) (ha : atOf ps gs n g = some nb)  : Spec Tryd.prog 16 #[.pointer (some ⟨tb, 0, none⟩), .agg #[.int .i64 n, .int .i64 g]] [rTab tb ps gs vl vg T Sl Sg, rNds l, rEnv B ad [10]] (fun u L => u = .tuple #[.agg #[.int .i64 ki, .int .i64 si, .int .i64 li, .int .i64 ch, .int .i64 un, .int .i64 ug], .nilIface] ∧ L = [rTab tb ps gs vl vg T Sl Sg, rNds l, rEnv B ad [10]]) := by
  refine spec_of (#[.pointer (some ⟨tb, 0, none⟩), .agg #[.int .i64 n, .int .i64 g], undef, undef, undef, undef, undef, undef, undef, undef, undef, undef, undef, undef, undef, undef, undef, undef, undef, undef, undef, undef, undef, undef, undef, undef, undef, undef, undef, undef, undef, undef, undef, undef, undef]) Tryd.func16 rfl (by kernel_rfl) fun E w0 w h => ?_
  refine c_seq ?_
  refine c_reg ?_
  refine sq_new rfl (fun b => .pointer (some ⟨b, 0, none⟩)) [.int .i64 n, .int .i64 g] 33 (fun _ => by kernel_rfl) h ?_; intro k1 w h
  refine sq_new rfl (fun b => .pointer (some ⟨b, 0, none⟩)) [.int .i64 0, .int .i64 0, .int .i64 0, .int .i64 0, .int .i64 0, .int .i64 0] 37 (fun _ => by kernel_rfl) h ?_; intro k2 w h
  refine sq_p (.nilIface) rfl (fun _ => by kernel_rfl) ?_
  refine lnil ?_
  refine thn_n ?_
  refine c_seq ?_
  refine c_reg ?_
  refine sq_p (.pointer (some ⟨tb, 0, none⟩)) rfl (fun _ => by kernel_rfl) ?_
  refine sq_q rfl h (g_ld 0 [.int .i64 n, .int .i64 g] (.agg #[.int .i64 n, .int .i64 g]) (by kernel_rfl) 1 rfl) ?_
  refine sq_call #[.pointer (some ⟨tb, 0, none⟩), .agg #[.int .i64 n, .int .i64 g]] [2, 3] rfl (nodesAt_spec ad tb nb n g ps gs vl vg T Sl Sg hl hr ha) (fun _ => by kernel_rfl) h ?_; rintro v_ L_ w ⟨rfl, rfl⟩ h
  have h := h.pickE (M := [rNds l, rTab tb ps gs vl vg T Sl Sg, rEnv B ad [10], rCell true k2 [.int .i64 0, .int .i64 0, .int .i64 0, .int .i64 0, .int .i64 0, .int .i64 0] 37, rCell true k1 [.int .i64 n, .int .i64 g] 33]) [4, 0, 0, 0, 0] (by kernel_rfl)
  have h := h.ndOpen hk
  have h : Own w0 E [rCell true nb [.int .i64 ki, .int .i64 si, .int .i64 li, .int .i64 ch, .int .i64 un, .int .i64 ug, .pointer none] 91, datRes none, rNdsO l k, rTab tb ps gs vl vg T Sl Sg, rEnv B ad [10], rCell true k2 [.int .i64 0, .int .i64 0, .int .i64 0, .int .i64 0, .int .i64 0, .int .i64 0] 37, rCell true k1 [.int .i64 n, .int .i64 g] 33] w := h
  refine sq_p (.tuple #[.pointer (some ⟨nb, 0, none⟩), .nilIface]) rfl (fun _ => by kernel_rfl) ?_
  refine sq_p (.pointer (some ⟨nb, 0, none⟩)) rfl (fun _ => by kernel_rfl) ?_
  refine sq_p (.nilIface) rfl (fun _ => by kernel_rfl) ?_
  refine sq_p (.pointer (some ⟨nb, 0, none⟩)) rfl (fun _ => by kernel_rfl) ?_
  refine sq_p (.nilIface) rfl (fun _ => by kernel_rfl) ?_
  refine lnil ?_
  refine thn_n ?_
  refine c_seq ?_
  refine c_seq ?_
  refine c_reg ?_
  refine sq_p (.nilIface) rfl (fun _ => by kernel_rfl) ?_
  refine sq_p (.bool false) rfl (fun _ => by kernel_rfl) ?_
  refine lnil ?_
  refine thn_n ?_
  refine c_false (by kernel_rfl) ?_
  refine c_skip ?_
  refine thn_n ?_
  refine c_seq ?_
  refine c_reg ?_
  refine sq_p (.pointer (some ⟨nb, 0, none⟩)) rfl (fun _ => by kernel_rfl) ?_
  refine sq_p (.pointer (some ⟨nb, 0, none⟩)) rfl (fun _ => by kernel_rfl) ?_
  refine sq_p (.pointer (some ⟨nb, 0, none⟩)) rfl (fun _ => by kernel_rfl) ?_
  refine sq_q rfl h (g_ld 0 [.int .i64 ki, .int .i64 si, .int .i64 li, .int .i64 ch, .int .i64 un, .int .i64 ug] (.agg #[.int .i64 ki, .int .i64 si, .int .i64 li, .int .i64 ch, .int .i64 un, .int .i64 ug]) (by kernel_rfl) 0 rfl) ?_
  refine sq_new rfl (fun b => .pointer (some ⟨b, 0, none⟩)) [.int .i64 0, .int .i64 0, .int .i64 0, .int .i64 0, .int .i64 0, .int .i64 0] 37 (fun _ => by kernel_rfl) h ?_; intro k3 w h
  refine sq_st rfl 0 [.int .i64 ki, .int .i64 si, .int .i64 li, .int .i64 ch, .int .i64 un, .int .i64 ug] [.int .i64 ki, .int .i64 si, .int .i64 li, .int .i64 ch, .int .i64 un, .int .i64 ug] h 0 rfl (by kernel_rfl) ?_; intro w h
  refine lnil ?_
  refine thn_n ?_
  refine c_seq ?_
  refine c_seq ?_
  refine c_reg ?_
  refine sq_p (.pointer (some ⟨nb, 0, none⟩)) rfl (fun _ => by kernel_rfl) ?_
  refine sq_p (.pointer (some ⟨nb, 0, none⟩)) rfl (fun _ => by kernel_rfl) ?_
  refine sq_p (.pointer (some ⟨nb, 6, none⟩)) rfl (fun _ => by kernel_rfl) ?_
  refine sq_q rfl h (g_ld 6 [.pointer none] (.pointer none) (by kernel_rfl) 1 rfl) ?_
  refine sq_p (.bool false) rfl (fun _ => by kernel_rfl) ?_
  refine lnil ?_
  refine thn_n ?_
  refine c_false (by kernel_rfl) ?_
  refine c_skip ?_
  refine thn_n ?_
  refine c_seq ?_
  refine c_reg ?_
  refine sq_q rfl h (g_ld 0 [.int .i64 ki, .int .i64 si, .int .i64 li, .int .i64 ch, .int .i64 un, .int .i64 ug] (.agg #[.int .i64 ki, .int .i64 si, .int .i64 li, .int .i64 ch, .int .i64 un, .int .i64 ug]) (by kernel_rfl) 0 rfl) ?_
  refine sq_st rfl 0 [.int .i64 ki, .int .i64 si, .int .i64 li, .int .i64 ch, .int .i64 un, .int .i64 ug] [.int .i64 ki, .int .i64 si, .int .i64 li, .int .i64 ch, .int .i64 un, .int .i64 ug] h 6 rfl (by kernel_rfl) ?_; intro w h
  refine sq_p (.nilIface) rfl (fun _ => by kernel_rfl) ?_
  refine lnil ?_
  refine thn_n ?_
  refine c_ret ?_
  have h := h.pickE (M := [rCell true nb [.int .i64 ki, .int .i64 si, .int .i64 li, .int .i64 ch, .int .i64 un, .int .i64 ug, .pointer none] 91, datRes none, rNdsO l k, rCell true k3 [.int .i64 ki, .int .i64 si, .int .i64 li, .int .i64 ch, .int .i64 un, .int .i64 ug] 37, rTab tb ps gs vl vg T Sl Sg, rEnv B ad [10], rCell true k2 [.int .i64 ki, .int .i64 si, .int .i64 li, .int .i64 ch, .int .i64 un, .int .i64 ug] 37, rCell true k1 [.int .i64 n, .int .i64 g] 33]) [1, 1, 1, 0, 0, 0, 0, 0] (by kernel_rfl)
  have h := h.ndBack (N := (⟨nb, ki, si, li, ch, un, ug, none⟩ : ND)) hk
  refine ret_end [.agg #[.int .i64 ki, .int .i64 si, .int .i64 li, .int .i64 ch, .int .i64 un, .int .i64 ug], .nilIface] [2, 0, 1] h (by kernel_rfl) (res_c 0 [.int .i64 ki, .int .i64 si, .int .i64 li, .int .i64 ch, .int .i64 un, .int .i64 ug] (.agg #[.int .i64 ki, .int .i64 si, .int .i64 li, .int .i64 ch, .int .i64 un, .int .i64 ug]) 4 rfl (by kernel_rfl) (res_t (by kernel_rfl) res_n)) ?_
  exact ⟨rfl, rfl⟩
set_option maxHeartbeats 1000000 in
theorem attrF_spec {B : Nat} (ad : Nat → Addr) (tb : Nat) (ps : List (Option Nat)) (gs : List Int) (vl vg : Value) (T : TypeId) (Sl Sg : Nat → Prop) (l : List (Option ND)) (hl : ps.length = gs.length) (hr : ∀ x ∈ gs, 0 ≤ x ∧ x ≤ 1000000) (n g : Int) (k nb : Nat) (ki si li ch un ug : Int) (q : DQ) (hk : l[k]? = some (some (⟨nb, ki, si, li, ch, un, ug, some q⟩ : ND))) (ha : atOf ps gs n g = some nb)  : Spec Tryd.prog 16 #[.pointer (some ⟨tb, 0, none⟩), .agg #[.int .i64 n, .int .i64 g]] [rTab tb ps gs vl vg T Sl Sg, rNds l, rEnv B ad [10]] (fun u L => u = .tuple #[.agg #[.int .i64 ki, .int .i64 q.size, .int .i64 li, .int .i64 ch, .int .i64 un, .int .i64 ug], .nilIface] ∧ L = [rTab tb ps gs vl vg T Sl Sg, rNds l, rEnv B ad [10]]) := by
  refine spec_of (#[.pointer (some ⟨tb, 0, none⟩), .agg #[.int .i64 n, .int .i64 g], undef, undef, undef, undef, undef, undef, undef, undef, undef, undef, undef, undef, undef, undef, undef, undef, undef, undef, undef, undef, undef, undef, undef, undef, undef, undef, undef, undef, undef, undef, undef, undef, undef]) Tryd.func16 rfl (by kernel_rfl) fun E w0 w h => ?_
  refine c_seq ?_
  refine c_reg ?_
  refine sq_new rfl (fun b => .pointer (some ⟨b, 0, none⟩)) [.int .i64 n, .int .i64 g] 33 (fun _ => by kernel_rfl) h ?_; intro k1 w h
  refine sq_new rfl (fun b => .pointer (some ⟨b, 0, none⟩)) [.int .i64 0, .int .i64 0, .int .i64 0, .int .i64 0, .int .i64 0, .int .i64 0] 37 (fun _ => by kernel_rfl) h ?_; intro k2 w h
  refine sq_p (.nilIface) rfl (fun _ => by kernel_rfl) ?_
  refine lnil ?_
  refine thn_n ?_
  refine c_seq ?_
  refine c_reg ?_
  refine sq_p (.pointer (some ⟨tb, 0, none⟩)) rfl (fun _ => by kernel_rfl) ?_
  refine sq_q rfl h (g_ld 0 [.int .i64 n, .int .i64 g] (.agg #[.int .i64 n, .int .i64 g]) (by kernel_rfl) 1 rfl) ?_
  refine sq_call #[.pointer (some ⟨tb, 0, none⟩), .agg #[.int .i64 n, .int .i64 g]] [2, 3] rfl (nodesAt_spec ad tb nb n g ps gs vl vg T Sl Sg hl hr ha) (fun _ => by kernel_rfl) h ?_; rintro v_ L_ w ⟨rfl, rfl⟩ h
  have h := h.pickE (M := [rNds l, rTab tb ps gs vl vg T Sl Sg, rEnv B ad [10], rCell true k2 [.int .i64 0, .int .i64 0, .int .i64 0, .int .i64 0, .int .i64 0, .int .i64 0] 37, rCell true k1 [.int .i64 n, .int .i64 g] 33]) [4, 0, 0, 0, 0] (by kernel_rfl)
  have h := h.ndOpen hk
  have h : Own w0 E [rCell true nb [.int .i64 ki, .int .i64 si, .int .i64 li, .int .i64 ch, .int .i64 un, .int .i64 ug, .pointer (some ⟨q.db, 0, none⟩)] 91, datRes (some q), rNdsO l k, rTab tb ps gs vl vg T Sl Sg, rEnv B ad [10], rCell true k2 [.int .i64 0, .int .i64 0, .int .i64 0, .int .i64 0, .int .i64 0, .int .i64 0] 37, rCell true k1 [.int .i64 n, .int .i64 g] 33] w := h
  refine sq_p (.tuple #[.pointer (some ⟨nb, 0, none⟩), .nilIface]) rfl (fun _ => by kernel_rfl) ?_
  refine sq_p (.pointer (some ⟨nb, 0, none⟩)) rfl (fun _ => by kernel_rfl) ?_
  refine sq_p (.nilIface) rfl (fun _ => by kernel_rfl) ?_
  refine sq_p (.pointer (some ⟨nb, 0, none⟩)) rfl (fun _ => by kernel_rfl) ?_
  refine sq_p (.nilIface) rfl (fun _ => by kernel_rfl) ?_
  refine lnil ?_
  refine thn_n ?_
  refine c_seq ?_
  refine c_seq ?_
  refine c_reg ?_
  refine sq_p (.nilIface) rfl (fun _ => by kernel_rfl) ?_
  refine sq_p (.bool false) rfl (fun _ => by kernel_rfl) ?_
  refine lnil ?_
  refine thn_n ?_
  refine c_false (by kernel_rfl) ?_
  refine c_skip ?_
  refine thn_n ?_
  refine c_seq ?_
  refine c_reg ?_
  refine sq_p (.pointer (some ⟨nb, 0, none⟩)) rfl (fun _ => by kernel_rfl) ?_
  refine sq_p (.pointer (some ⟨nb, 0, none⟩)) rfl (fun _ => by kernel_rfl) ?_
  refine sq_p (.pointer (some ⟨nb, 0, none⟩)) rfl (fun _ => by kernel_rfl) ?_
  refine sq_q rfl h (g_ld 0 [.int .i64 ki, .int .i64 si, .int .i64 li, .int .i64 ch, .int .i64 un, .int .i64 ug] (.agg #[.int .i64 ki, .int .i64 si, .int .i64 li, .int .i64 ch, .int .i64 un, .int .i64 ug]) (by kernel_rfl) 0 rfl) ?_
  refine sq_new rfl (fun b => .pointer (some ⟨b, 0, none⟩)) [.int .i64 0, .int .i64 0, .int .i64 0, .int .i64 0, .int .i64 0, .int .i64 0] 37 (fun _ => by kernel_rfl) h ?_; intro k3 w h
  refine sq_st rfl 0 [.int .i64 ki, .int .i64 si, .int .i64 li, .int .i64 ch, .int .i64 un, .int .i64 ug] [.int .i64 ki, .int .i64 si, .int .i64 li, .int .i64 ch, .int .i64 un, .int .i64 ug] h 0 rfl (by kernel_rfl) ?_; intro w h
  refine lnil ?_
  refine thn_n ?_
  refine c_seq ?_
  refine c_seq ?_
  refine c_reg ?_
  refine sq_p (.pointer (some ⟨nb, 0, none⟩)) rfl (fun _ => by kernel_rfl) ?_
  refine sq_p (.pointer (some ⟨nb, 0, none⟩)) rfl (fun _ => by kernel_rfl) ?_
  refine sq_p (.pointer (some ⟨nb, 6, none⟩)) rfl (fun _ => by kernel_rfl) ?_
  refine sq_q rfl h (g_ld 6 [.pointer (some ⟨q.db, 0, none⟩)] (.pointer (some ⟨q.db, 0, none⟩)) (by kernel_rfl) 1 rfl) ?_
  refine sq_p (.bool true) rfl (fun _ => by kernel_rfl) ?_
  refine lnil ?_
  refine thn_n ?_
  refine c_true (by kernel_rfl) ?_
  refine c_reg ?_
  refine sq_p (.pointer (some ⟨nb, 0, none⟩)) rfl (fun _ => by kernel_rfl) ?_
  refine sq_p (.pointer (some ⟨nb, 0, none⟩)) rfl (fun _ => by kernel_rfl) ?_
  refine sq_p (.pointer (some ⟨nb, 6, none⟩)) rfl (fun _ => by kernel_rfl) ?_
  refine sq_q rfl h (g_ld 6 [.pointer (some ⟨q.db, 0, none⟩)] (.pointer (some ⟨q.db, 0, none⟩)) (by kernel_rfl) 1 rfl) ?_
  refine sq_call #[.pointer (some ⟨q.db, 0, none⟩)] [2] rfl (sizeD_spec q) (fun _ => by kernel_rfl) h ?_; rintro v_ L_ w ⟨rfl, rfl⟩ h
  refine sq_p (.pointer (some ⟨k3, 1, none⟩)) rfl (fun _ => by kernel_rfl) ?_
  refine sq_st rfl 1 [.int .i64 q.size] [.int .i64 ki, .int .i64 q.size, .int .i64 li, .int .i64 ch, .int .i64 un, .int .i64 ug] h 1 rfl (by kernel_rfl) ?_; intro w h
  refine lnil ?_
  refine thn_n ?_
  refine c_seq ?_
  refine c_reg ?_
  refine sq_q rfl h (g_ld 0 [.int .i64 ki, .int .i64 q.size, .int .i64 li, .int .i64 ch, .int .i64 un, .int .i64 ug] (.agg #[.int .i64 ki, .int .i64 q.size, .int .i64 li, .int .i64 ch, .int .i64 un, .int .i64 ug]) (by kernel_rfl) 1 rfl) ?_
  refine sq_st rfl 0 [.int .i64 ki, .int .i64 q.size, .int .i64 li, .int .i64 ch, .int .i64 un, .int .i64 ug] [.int .i64 ki, .int .i64 q.size, .int .i64 li, .int .i64 ch, .int .i64 un, .int .i64 ug] h 6 rfl (by kernel_rfl) ?_; intro w h
  refine sq_p (.nilIface) rfl (fun _ => by kernel_rfl) ?_
  refine lnil ?_
  refine thn_n ?_
  refine c_ret ?_
  have h := h.pickE (M := [rCell true nb [.int .i64 ki, .int .i64 si, .int .i64 li, .int .i64 ch, .int .i64 un, .int .i64 ug, .pointer (some ⟨q.db, 0, none⟩)] 91, datRes (some q), rNdsO l k, rCell true k3 [.int .i64 ki, .int .i64 q.size, .int .i64 li, .int .i64 ch, .int .i64 un, .int .i64 ug] 37, rTab tb ps gs vl vg T Sl Sg, rEnv B ad [10], rCell true k2 [.int .i64 ki, .int .i64 q.size, .int .i64 li, .int .i64 ch, .int .i64 un, .int .i64 ug] 37, rCell true k1 [.int .i64 n, .int .i64 g] 33]) [2, 0, 1, 0, 0, 0, 0, 0] (by kernel_rfl)
  have h := h.ndBack (N := (⟨nb, ki, si, li, ch, un, ug, some q⟩ : ND)) hk
  refine ret_end [.agg #[.int .i64 ki, .int .i64 q.size, .int .i64 li, .int .i64 ch, .int .i64 un, .int .i64 ug], .nilIface] [2, 0, 1] h (by kernel_rfl) (res_c 0 [.int .i64 ki, .int .i64 q.size, .int .i64 li, .int .i64 ch, .int .i64 un, .int .i64 ug] (.agg #[.int .i64 ki, .int .i64 q.size, .int .i64 li, .int .i64 ch, .int .i64 un, .int .i64 ug]) 4 rfl (by kernel_rfl) (res_t (by kernel_rfl) res_n)) ?_
  exact ⟨rfl, rfl⟩
set_option maxHeartbeats 1000000 in
theorem touchN_spec {B : Nat} (ad : Nat → Addr) (tb : Nat) (ps : List (Option Nat)) (gs : List Int) (vl vg : Value) (T : TypeId) (Sl Sg : Nat → Prop) (l : List (Option ND)) (hl : ps.length = gs.length) (hr : ∀ x ∈ gs, 0 ≤ x ∧ x ≤ 1000000) (n g : Int) (ha : atOf ps gs n g = none)  : Spec Tryd.prog 11 #[.pointer (some ⟨tb, 0, none⟩), .agg #[.int .i64 n, .int .i64 g]] [rTab tb ps gs vl vg T Sl Sg, rNds l, rEnv B ad [10]] (fun u L => u = errV ad 10 ∧ L = [rTab tb ps gs vl vg T Sl Sg, rNds l, rEnv B ad [10]]) := by
  refine spec_of (#[.pointer (some ⟨tb, 0, none⟩), .agg #[.int .i64 n, .int .i64 g], undef, undef, undef, undef, undef, undef, undef, undef, undef, undef, undef, undef, undef, undef, undef, undef, undef, undef, undef, undef, undef, undef, undef]) Tryd.func11 rfl (by kernel_rfl) fun E w0 w h => ?_
  refine c_seq ?_
  refine c_reg ?_
  refine sq_new rfl (fun b => .pointer (some ⟨b, 0, none⟩)) [.int .i64 n, .int .i64 g] 33 (fun _ => by kernel_rfl) h ?_; intro k1 w h
  refine sq_p (.nilIface) rfl (fun _ => by kernel_rfl) ?_
  refine lnil ?_
  refine thn_n ?_
  refine c_seq ?_
  refine c_reg ?_
  refine sq_p (.pointer (some ⟨tb, 0, none⟩)) rfl (fun _ => by kernel_rfl) ?_
  refine sq_q rfl h (g_ld 0 [.int .i64 n, .int .i64 g] (.agg #[.int .i64 n, .int .i64 g]) (by kernel_rfl) 0 rfl) ?_
  refine sq_call #[.pointer (some ⟨tb, 0, none⟩), .agg #[.int .i64 n, .int .i64 g]] [1, 2] rfl (tabAtN_spec ad tb n g ps gs vl vg T Sl Sg hl hr ha) (fun _ => by kernel_rfl) h ?_; rintro v_ L_ w ⟨rfl, rfl⟩ h
  refine sq_p (.tuple #[.pointer none, errV ad 10]) rfl (fun _ => by kernel_rfl) ?_
  refine sq_p (.pointer none) rfl (fun _ => by kernel_rfl) ?_
  refine sq_p (errV ad 10) rfl (fun _ => by kernel_rfl) ?_
  refine sq_p (.pointer none) rfl (fun _ => by kernel_rfl) ?_
  refine sq_p (errV ad 10) rfl (fun _ => by kernel_rfl) ?_
  refine lnil ?_
  refine thn_n ?_
  refine c_seq ?_
  refine c_seq ?_
  refine c_reg ?_
  refine sq_p (errV ad 10) rfl (fun _ => by kernel_rfl) ?_
  refine sq_p (.bool true) rfl (fun _ => by kernel_rfl) ?_
  refine lnil ?_
  refine thn_n ?_
  refine c_true (by kernel_rfl) ?_
  refine c_seq ?_
  refine c_reg ?_
  refine sq_p (errV ad 10) rfl (fun _ => by kernel_rfl) ?_
  refine sq_p (errV ad 10) rfl (fun _ => by kernel_rfl) ?_
  refine lnil ?_
  refine thn_n ?_
  refine c_ret ?_
  refine thn_r ?_
  refine ret_end [errV ad 10] [0, 2, 0] h (by kernel_rfl) (res_t (by kernel_rfl) res_n) ?_
  exact ⟨rfl, rfl⟩
set_option maxHeartbeats 1000000 in
theorem setN_spec {B : Nat} (ad : Nat → Addr) (tb : Nat) (ps : List (Option Nat)) (gs : List Int) (vl vg : Value) (T : TypeId) (Sl Sg : Nat → Prop) (l : List (Option ND)) (hl : ps.length = gs.length) (hr : ∀ x ∈ gs, 0 ≤ x ∧ x ≤ 1000000) (n g : Int) (ha : atOf ps gs n g = none) (z li un ug : Int)  : Spec Tryd.prog 10 #[.pointer (some ⟨tb, 0, none⟩), .agg #[.int .i64 n, .int .i64 g], .int .i64 z, .int .i64 li, .agg #[.int .i64 un, .int .i64 ug]] [rTab tb ps gs vl vg T Sl Sg, rNds l, rEnv B ad [10]] (fun u L => u = errV ad 10 ∧ L = [rTab tb ps gs vl vg T Sl Sg, rNds l, rEnv B ad [10]]) := by
  refine spec_of (#[.pointer (some ⟨tb, 0, none⟩), .agg #[.int .i64 n, .int .i64 g], .int .i64 z, .int .i64 li, .agg #[.int .i64 un, .int .i64 ug], undef, undef, undef, undef, undef, undef, undef, undef, undef, undef, undef, undef, undef, undef, undef, undef, undef, undef, undef, undef, undef, undef, undef, undef, undef, undef, undef, undef, undef, undef, undef, undef, undef, undef, undef, undef, undef, undef, undef, undef, undef, undef, undef, undef, undef, undef, undef, undef, undef, undef, undef, undef, undef, undef]) Tryd.func10 rfl (by kernel_rfl) fun E w0 w h => ?_
  refine c_seq ?_
  refine c_reg ?_
  refine sq_new rfl (fun b => .pointer (some ⟨b, 0, none⟩)) [.int .i64 n, .int .i64 g] 33 (fun _ => by kernel_rfl) h ?_; intro k1 w h
  refine sq_new rfl (fun b => .pointer (some ⟨b, 0, none⟩)) [.int .i64 un, .int .i64 ug] 33 (fun _ => by kernel_rfl) h ?_; intro k2 w h
  refine sq_p (.nilIface) rfl (fun _ => by kernel_rfl) ?_
  refine lnil ?_
  refine thn_n ?_
  refine c_seq ?_
  refine c_reg ?_
  refine sq_p (.pointer (some ⟨tb, 0, none⟩)) rfl (fun _ => by kernel_rfl) ?_
  refine sq_q rfl h (g_ld 0 [.int .i64 n, .int .i64 g] (.agg #[.int .i64 n, .int .i64 g]) (by kernel_rfl) 1 rfl) ?_
  refine sq_call #[.pointer (some ⟨tb, 0, none⟩), .agg #[.int .i64 n, .int .i64 g]] [2, 3] rfl (tabAtN_spec ad tb n g ps gs vl vg T Sl Sg hl hr ha) (fun _ => by kernel_rfl) h ?_; rintro v_ L_ w ⟨rfl, rfl⟩ h
  refine sq_p (.tuple #[.pointer none, errV ad 10]) rfl (fun _ => by kernel_rfl) ?_
  refine sq_p (.pointer none) rfl (fun _ => by kernel_rfl) ?_
  refine sq_p (errV ad 10) rfl (fun _ => by kernel_rfl) ?_
  refine sq_p (.pointer none) rfl (fun _ => by kernel_rfl) ?_
  refine sq_p (errV ad 10) rfl (fun _ => by kernel_rfl) ?_
  refine lnil ?_
  refine thn_n ?_
  refine c_seq ?_
  refine c_seq ?_
  refine c_reg ?_
  refine sq_p (errV ad 10) rfl (fun _ => by kernel_rfl) ?_
  refine sq_p (.bool true) rfl (fun _ => by kernel_rfl) ?_
  refine lnil ?_
  refine thn_n ?_
  refine c_true (by kernel_rfl) ?_
  refine c_seq ?_
  refine c_reg ?_
  refine sq_p (errV ad 10) rfl (fun _ => by kernel_rfl) ?_
  refine sq_p (errV ad 10) rfl (fun _ => by kernel_rfl) ?_
  refine lnil ?_
  refine thn_n ?_
  refine c_ret ?_
  refine thn_r ?_
  refine ret_end [errV ad 10] [0, 3, 0] h (by kernel_rfl) (res_t (by kernel_rfl) res_n) ?_
  exact ⟨rfl, rfl⟩
set_option maxHeartbeats 1000000 in
theorem setBad_spec {B : Nat} (ad : Nat → Addr) (tb : Nat) (ps : List (Option Nat)) (gs : List Int) (vl vg : Value) (T : TypeId) (Sl Sg : Nat → Prop) (l : List (Option ND)) (hl : ps.length = gs.length) (hr : ∀ x ∈ gs, 0 ≤ x ∧ x ≤ 1000000) (n g : Int) (k : Nat) (N : ND) (hk : l[k]? = some (some N)) (ha : atOf ps gs n g = some N.nb) (z li un ug : Int) (hb : z < 0 ∨ li < 0)  : Spec Tryd.prog 10 #[.pointer (some ⟨tb, 0, none⟩), .agg #[.int .i64 n, .int .i64 g], .int .i64 z, .int .i64 li, .agg #[.int .i64 un, .int .i64 ug]] [rTab tb ps gs vl vg T Sl Sg, rNds l, rEnv B ad [10], rEnv B ad [2]] (fun u L => u = errV ad 2 ∧ L = [rTab tb ps gs vl vg T Sl Sg, rNds l, rEnv B ad [10], rEnv B ad [2]]) := by
  refine spec_of (#[.pointer (some ⟨tb, 0, none⟩), .agg #[.int .i64 n, .int .i64 g], .int .i64 z, .int .i64 li, .agg #[.int .i64 un, .int .i64 ug], undef, undef, undef, undef, undef, undef, undef, undef, undef, undef, undef, undef, undef, undef, undef, undef, undef, undef, undef, undef, undef, undef, undef, undef, undef, undef, undef, undef, undef, undef, undef, undef, undef, undef, undef, undef, undef, undef, undef, undef, undef, undef, undef, undef, undef, undef, undef, undef, undef, undef, undef, undef, undef, undef]) Tryd.func10 rfl (by kernel_rfl) fun E w0 w h => ?_
  refine c_seq ?_
  refine c_reg ?_
  refine sq_new rfl (fun b => .pointer (some ⟨b, 0, none⟩)) [.int .i64 n, .int .i64 g] 33 (fun _ => by kernel_rfl) h ?_; intro k1 w h
  refine sq_new rfl (fun b => .pointer (some ⟨b, 0, none⟩)) [.int .i64 un, .int .i64 ug] 33 (fun _ => by kernel_rfl) h ?_; intro k2 w h
  refine sq_p (.nilIface) rfl (fun _ => by kernel_rfl) ?_
  refine lnil ?_
  refine thn_n ?_
  refine c_seq ?_
  refine c_reg ?_
  refine sq_p (.pointer (some ⟨tb, 0, none⟩)) rfl (fun _ => by kernel_rfl) ?_
  refine sq_q rfl h (g_ld 0 [.int .i64 n, .int .i64 g] (.agg #[.int .i64 n, .int .i64 g]) (by kernel_rfl) 1 rfl) ?_
  refine sq_call #[.pointer (some ⟨tb, 0, none⟩), .agg #[.int .i64 n, .int .i64 g]] [2, 3] rfl (nodesAt_spec ad tb _ n g ps gs vl vg T Sl Sg hl hr ha) (fun _ => by kernel_rfl) h ?_; rintro v_ L_ w ⟨rfl, rfl⟩ h
  have h := h.pickE (M := [rNds l, rTab tb ps gs vl vg T Sl Sg, rEnv B ad [10], rCell true k2 [.int .i64 un, .int .i64 ug] 33, rCell true k1 [.int .i64 n, .int .i64 g] 33, rEnv B ad [2]]) [4, 0, 0, 0, 0, 0] (by kernel_rfl)
  have h := h.ndOpen hk
  have h : Own w0 E [rCell true N.nb [.int .i64 N.kind, .int .i64 N.size, .int .i64 N.links, .int .i64 N.change, .int .i64 N.upn, .int .i64 N.upg, (ndPtr N.dq)] 91, datRes N.dq, rNdsO l k, rTab tb ps gs vl vg T Sl Sg, rEnv B ad [10], rCell true k2 [.int .i64 un, .int .i64 ug] 33, rCell true k1 [.int .i64 n, .int .i64 g] 33, rEnv B ad [2]] w := h
  refine sq_p (.tuple #[.pointer (some ⟨N.nb, 0, none⟩), .nilIface]) rfl (fun _ => by kernel_rfl) ?_
  refine sq_p (.pointer (some ⟨N.nb, 0, none⟩)) rfl (fun _ => by kernel_rfl) ?_
  refine sq_p (.nilIface) rfl (fun _ => by kernel_rfl) ?_
  refine sq_p (.pointer (some ⟨N.nb, 0, none⟩)) rfl (fun _ => by kernel_rfl) ?_
  refine sq_p (.nilIface) rfl (fun _ => by kernel_rfl) ?_
  refine lnil ?_
  refine thn_n ?_
  refine c_seq ?_
  refine c_seq ?_
  refine c_reg ?_
  refine sq_p (.nilIface) rfl (fun _ => by kernel_rfl) ?_
  refine sq_p (.bool false) rfl (fun _ => by kernel_rfl) ?_
  refine lnil ?_
  refine thn_n ?_
  refine c_false (by kernel_rfl) ?_
  refine c_skip ?_
  refine thn_n ?_
  refine c_seq ?_
  refine c_seq ?_
  refine c_reg ?_
  refine sq_p (.int .i64 z) rfl (fun _ => by kernel_rfl) ?_
  obtain ⟨b3, hb3⟩ : ∃ b_ : Bool, b_ = (decide (z < 0)) := ⟨_, rfl⟩
  refine sq_q (v := .bool b3) rfl h (by subst hb3; exact g_pure (v := .bool (decide (z < 0))) fun _ => by kernel_rfl) ?_
  refine sq_p (.bool b3) rfl (fun _ => by kernel_rfl) ?_
  refine sq_m0 (v := .int .i64 li) b3 (by cases b3 <;> kernel_rfl) h (fun hB => by subst hB; exact g_pure (v := .int .i64 li) fun _ => by kernel_rfl) ?_
  obtain ⟨b4, hb4⟩ : ∃ b_ : Bool, b_ = (decide (li < 0)) := ⟨_, rfl⟩
  refine sq_m0 (v := .bool b4) b3 (by cases b3 <;> kernel_rfl) h (fun hB => by subst hB; exact by subst hb4; exact g_pure (v := .bool (decide (li < 0))) fun _ => by kernel_rfl) ?_
  obtain ⟨b5, hb5⟩ : ∃ b_ : Bool, b_ = (b3 || b4) := ⟨_, rfl⟩
  refine sq_q (v := .bool b5) rfl h (by subst hb5; exact g_pure (v := .bool (b3 || b4)) fun _ => by cases b3 <;> kernel_rfl) ?_
  refine lnil ?_
  refine thn_n ?_
  refine c_cond (b5) (by kernel_rfl) (fun hc6 => ?_) (fun hc6 => ?_)
  · skip
    have q7 : (b3 || b4) = true := by rw [← hb5]; exact hc6
    have q8 : ((z < 0) ∨ (li < 0)) := by subst hb4; subst hb3; revert q7; first | (simp; done) | (simp; omega)
    refine c_seq ?_
    refine c_reg ?_
    refine sq_q rfl h (g_ldr (b := gl 2) 0 [errV ad 2] (errV ad 2) (by kernel_rfl) 7 rfl (rdEnv (c := 2) (by decide) rfl)) ?_
    refine sq_p (errV ad 2) rfl (fun _ => by kernel_rfl) ?_
    refine lnil ?_
    refine thn_n ?_
    refine c_ret ?_
    refine thn_r ?_
    have h := h.pickE (M := [rCell true N.nb [.int .i64 N.kind, .int .i64 N.size, .int .i64 N.links, .int .i64 N.change, .int .i64 N.upn, .int .i64 N.upg, (ndPtr N.dq)] 91, datRes N.dq, rNdsO l k, rTab tb ps gs vl vg T Sl Sg, rEnv B ad [10], rCell true k2 [.int .i64 un, .int .i64 ug] 33, rCell true k1 [.int .i64 n, .int .i64 g] 33, rEnv B ad [2]]) [0, 0, 0, 0, 0, 0, 0, 0] (by kernel_rfl)
    have h := h.ndBack (N := N) hk
    refine ret_end [errV ad 2] [1, 0, 0, 2] h (by kernel_rfl) (res_t (by kernel_rfl) res_n) ?_
    exact ⟨rfl, rfl⟩
  · skip
    have q9 : (b3 || b4) = false := by rw [← hb5]; exact hc6
    have q10 : b3 = false := by revert q9; cases b3 <;> simp
    have q11 : b4 = false := by revert q9; cases b3 <;> cases b4 <;> simp
    have q12 : (decide (z < 0)) = false := by rw [← hb3]; exact q10
    have q12 := of_decide_eq_false q12
    have q13 : (decide (li < 0)) = false := by rw [← hb4]; exact q11
    have q13 := of_decide_eq_false q13
    exfalso; revert hc6; subst hb5; subst hb4; subst hb3; simp; omega
set_option maxHeartbeats 1000000 in
theorem setD_spec {B : Nat} (ad : Nat → Addr) (tb : Nat) (ps : List (Option Nat)) (gs : List Int) (vl vg : Value) (T : TypeId) (Sl Sg : Nat → Prop) (l : List (Option ND)) (hl : ps.length = gs.length) (hr : ∀ x ∈ gs, 0 ≤ x ∧ x ≤ 1000000) (n g : Int) (k : Nat) (N : ND) (hk : l[k]? = some (some N)) (ha : atOf ps gs n g = some N.nb) (z li un ug : Int) (hb : 0 ≤ z ∧ 0 ≤ li) (hkd : N.kind = 2) (hc : 0 ≤ N.change ∧ N.change ≤ 1000000)  : Spec Tryd.prog 10 #[.pointer (some ⟨tb, 0, none⟩), .agg #[.int .i64 n, .int .i64 g], .int .i64 z, .int .i64 li, .agg #[.int .i64 un, .int .i64 ug]] [rTab tb ps gs vl vg T Sl Sg, rNds l, rEnv B ad [10], rEnv B ad [2]] (fun u L => u = .nilIface ∧ L = [rTab tb ps gs vl vg T Sl Sg, rNds (l.set k (some { N with size := z, links := li, change := N.change + 1, upn := un, upg := ug })), rEnv B ad [10], rEnv B ad [2]]) := by
  refine spec_of (#[.pointer (some ⟨tb, 0, none⟩), .agg #[.int .i64 n, .int .i64 g], .int .i64 z, .int .i64 li, .agg #[.int .i64 un, .int .i64 ug], undef, undef, undef, undef, undef, undef, undef, undef, undef, undef, undef, undef, undef, undef, undef, undef, undef, undef, undef, undef, undef, undef, undef, undef, undef, undef, undef, undef, undef, undef, undef, undef, undef, undef, undef, undef, undef, undef, undef, undef, undef, undef, undef, undef, undef, undef, undef, undef, undef, undef, undef, undef, undef, undef]) Tryd.func10 rfl (by kernel_rfl) fun E w0 w h => ?_
  refine c_seq ?_
  refine c_reg ?_
  refine sq_new rfl (fun b => .pointer (some ⟨b, 0, none⟩)) [.int .i64 n, .int .i64 g] 33 (fun _ => by kernel_rfl) h ?_; intro k1 w h
  refine sq_new rfl (fun b => .pointer (some ⟨b, 0, none⟩)) [.int .i64 un, .int .i64 ug] 33 (fun _ => by kernel_rfl) h ?_; intro k2 w h
  refine sq_p (.nilIface) rfl (fun _ => by kernel_rfl) ?_
  refine lnil ?_
  refine thn_n ?_
  refine c_seq ?_
  refine c_reg ?_
  refine sq_p (.pointer (some ⟨tb, 0, none⟩)) rfl (fun _ => by kernel_rfl) ?_
  refine sq_q rfl h (g_ld 0 [.int .i64 n, .int .i64 g] (.agg #[.int .i64 n, .int .i64 g]) (by kernel_rfl) 1 rfl) ?_
  refine sq_call #[.pointer (some ⟨tb, 0, none⟩), .agg #[.int .i64 n, .int .i64 g]] [2, 3] rfl (nodesAt_spec ad tb _ n g ps gs vl vg T Sl Sg hl hr ha) (fun _ => by kernel_rfl) h ?_; rintro v_ L_ w ⟨rfl, rfl⟩ h
  have h := h.pickE (M := [rNds l, rTab tb ps gs vl vg T Sl Sg, rEnv B ad [10], rCell true k2 [.int .i64 un, .int .i64 ug] 33, rCell true k1 [.int .i64 n, .int .i64 g] 33, rEnv B ad [2]]) [4, 0, 0, 0, 0, 0] (by kernel_rfl)
  have h := h.ndOpen hk
  have h : Own w0 E [rCell true N.nb [.int .i64 N.kind, .int .i64 N.size, .int .i64 N.links, .int .i64 N.change, .int .i64 N.upn, .int .i64 N.upg, (ndPtr N.dq)] 91, datRes N.dq, rNdsO l k, rTab tb ps gs vl vg T Sl Sg, rEnv B ad [10], rCell true k2 [.int .i64 un, .int .i64 ug] 33, rCell true k1 [.int .i64 n, .int .i64 g] 33, rEnv B ad [2]] w := h
  refine sq_p (.tuple #[.pointer (some ⟨N.nb, 0, none⟩), .nilIface]) rfl (fun _ => by kernel_rfl) ?_
  refine sq_p (.pointer (some ⟨N.nb, 0, none⟩)) rfl (fun _ => by kernel_rfl) ?_
  refine sq_p (.nilIface) rfl (fun _ => by kernel_rfl) ?_
  refine sq_p (.pointer (some ⟨N.nb, 0, none⟩)) rfl (fun _ => by kernel_rfl) ?_
  refine sq_p (.nilIface) rfl (fun _ => by kernel_rfl) ?_
  refine lnil ?_
  refine thn_n ?_
  refine c_seq ?_
  refine c_seq ?_
  refine c_reg ?_
  refine sq_p (.nilIface) rfl (fun _ => by kernel_rfl) ?_
  refine sq_p (.bool false) rfl (fun _ => by kernel_rfl) ?_
  refine lnil ?_
  refine thn_n ?_
  refine c_false (by kernel_rfl) ?_
  refine c_skip ?_
  refine thn_n ?_
  refine c_seq ?_
  refine c_seq ?_
  refine c_reg ?_
  refine sq_p (.int .i64 z) rfl (fun _ => by kernel_rfl) ?_
  obtain ⟨b3, hb3⟩ : ∃ b_ : Bool, b_ = (decide (z < 0)) := ⟨_, rfl⟩
  refine sq_q (v := .bool b3) rfl h (by subst hb3; exact g_pure (v := .bool (decide (z < 0))) fun _ => by kernel_rfl) ?_
  refine sq_p (.bool b3) rfl (fun _ => by kernel_rfl) ?_
  refine sq_m0 (v := .int .i64 li) b3 (by cases b3 <;> kernel_rfl) h (fun hB => by subst hB; exact g_pure (v := .int .i64 li) fun _ => by kernel_rfl) ?_
  obtain ⟨b4, hb4⟩ : ∃ b_ : Bool, b_ = (decide (li < 0)) := ⟨_, rfl⟩
  refine sq_m0 (v := .bool b4) b3 (by cases b3 <;> kernel_rfl) h (fun hB => by subst hB; exact by subst hb4; exact g_pure (v := .bool (decide (li < 0))) fun _ => by kernel_rfl) ?_
  obtain ⟨b5, hb5⟩ : ∃ b_ : Bool, b_ = (b3 || b4) := ⟨_, rfl⟩
  refine sq_q (v := .bool b5) rfl h (by subst hb5; exact g_pure (v := .bool (b3 || b4)) fun _ => by cases b3 <;> kernel_rfl) ?_
  refine lnil ?_
  refine thn_n ?_
  refine c_cond (b5) (by kernel_rfl) (fun hc6 => ?_) (fun hc6 => ?_)
  · skip
    have q7 : (b3 || b4) = true := by rw [← hb5]; exact hc6
    have q8 : ((z < 0) ∨ (li < 0)) := by subst hb4; subst hb3; revert q7; first | (simp; done) | (simp; omega)
    exfalso; revert hc6; subst hb5; subst hb4; subst hb3; simp; omega
  · skip
    have q9 : (b3 || b4) = false := by rw [← hb5]; exact hc6
    have q10 : b3 = false := by revert q9; cases b3 <;> simp
    have q11 : b4 = false := by revert q9; cases b3 <;> cases b4 <;> simp
    have q12 : (decide (z < 0)) = false := by rw [← hb3]; exact q10
    have q12 := of_decide_eq_false q12
    have q13 : (decide (li < 0)) = false := by rw [← hb4]; exact q11
    have q13 := of_decide_eq_false q13
    refine c_skip ?_
    refine thn_n ?_
    refine c_seq ?_
    refine c_reg ?_
    refine sq_p (.pointer (some ⟨N.nb, 0, none⟩)) rfl (fun _ => by kernel_rfl) ?_
    refine sq_p (.int .i64 li) rfl (fun _ => by kernel_rfl) ?_
    refine sq_p (.pointer (some ⟨N.nb, 0, none⟩)) rfl (fun _ => by kernel_rfl) ?_
    refine sq_p (.pointer (some ⟨N.nb, 0, none⟩)) rfl (fun _ => by kernel_rfl) ?_
    refine sq_p (.pointer (some ⟨N.nb, 2, none⟩)) rfl (fun _ => by kernel_rfl) ?_
    refine sq_st rfl 2 [.int .i64 li] [.int .i64 N.kind, .int .i64 N.size, .int .i64 li, .int .i64 N.change, .int .i64 N.upn, .int .i64 N.upg, (ndPtr N.dq)] h 0 rfl (by kernel_rfl) ?_; intro w h
    refine lnil ?_
    refine thn_n ?_
    refine c_seq ?_
    refine c_seq ?_
    refine c_reg ?_
    refine sq_p (.pointer (some ⟨N.nb, 0, none⟩)) rfl (fun _ => by kernel_rfl) ?_
    refine sq_p (.pointer (some ⟨N.nb, 0, none⟩)) rfl (fun _ => by kernel_rfl) ?_
    refine sq_p (.pointer (some ⟨N.nb, 0, none⟩)) rfl (fun _ => by kernel_rfl) ?_
    refine sq_p (.pointer (some ⟨N.nb, 0, none⟩)) rfl (fun _ => by kernel_rfl) ?_
    refine sq_q rfl h (g_ld 0 [.int .i64 N.kind] (.int .i64 N.kind) (by kernel_rfl) 0 rfl) ?_
    refine sq_p (.bool (decide (N.kind = 2))) rfl (fun _ => by kernel_rfl) ?_
    refine lnil ?_
    refine thn_n ?_
    refine c_cond (decide (N.kind = 2)) (by kernel_rfl) (fun hc14 => ?_) (fun hc14 => ?_)
    · skip
      have hc14 := of_decide_eq_true hc14
      refine d_start 12 [5] (by kernel_rfl) h fun w h => ?_
      refine d_take 0 14 [5] rfl (v := .pointer (some ⟨N.nb, 0, none⟩)) (by kernel_rfl) (qp_thn qp_body) (yq (by kernel_rfl) (g_pure (v := .pointer (some ⟨N.nb, 0, none⟩)) fun _ => by kernel_rfl)) h (by kernel_rfl) ?_
      refine d_take 1 253 [5] rfl (v := .pointer (some ⟨N.nb, 0, none⟩)) (by kernel_rfl) (qp_thn qp_body) (yq (by kernel_rfl) (g_pure (v := .pointer (some ⟨N.nb, 0, none⟩)) fun _ => by kernel_rfl)) h (by kernel_rfl) ?_
      refine d_take 2 11 [5] rfl (v := .int .i64 z) (by kernel_rfl) (qp_thn qp_body) (yq (by kernel_rfl) (g_pure (v := .int .i64 z) fun _ => by kernel_rfl)) h (by kernel_rfl) ?_
      refine d_take 3 247 [5] rfl (v := .agg #[.int .i64 un, .int .i64 ug]) (by kernel_rfl) (qp_thn qp_body) (yq (by kernel_rfl) (g_ld 0 [.int .i64 un, .int .i64 ug] (.agg #[.int .i64 un, .int .i64 ug]) (by kernel_rfl) 0 rfl)) h (by kernel_rfl) ?_
      refine d_take 4 15 [5] rfl (v := .pointer (some ⟨N.nb, 0, none⟩)) (by kernel_rfl) (qp_thn qp_body) (yq (by kernel_rfl) (g_pure (v := .pointer (some ⟨N.nb, 0, none⟩)) fun _ => by kernel_rfl)) h (by kernel_rfl) ?_
      refine d_take 5 31 [5] rfl (v := .pointer (some ⟨N.nb, 0, none⟩)) (by kernel_rfl) (qp_thn qp_body) (yq (by kernel_rfl) (g_pure (v := .pointer (some ⟨N.nb, 0, none⟩)) fun _ => by kernel_rfl)) h (by kernel_rfl) ?_
      refine d_take 6 63 [5] rfl (v := .pointer (some ⟨N.nb, 1, none⟩)) (by kernel_rfl) (qp_thn qp_body) (yq (by kernel_rfl) (g_pure (v := .pointer (some ⟨N.nb, 1, none⟩)) fun _ => by kernel_rfl)) h (by kernel_rfl) ?_
      refine d_ready [7] (by kernel_rfl) rfl ?_
      refine ad_st [5] rfl (by kernel_rfl) 1 [.int .i64 z] [.int .i64 N.kind, .int .i64 z, .int .i64 li, .int .i64 N.change, .int .i64 N.upn, .int .i64 N.upg, (ndPtr N.dq)] h 0 rfl (by kernel_rfl) ?_ ?_
      · skip
        intro w h; refine ⟨by kernel_rfl, ?_⟩
        refine d_take 8 255 [5] rfl (v := .pointer (some ⟨N.nb, 0, none⟩)) (by kernel_rfl) (qp_thn qp_body) (yq (by kernel_rfl) (g_pure (v := .pointer (some ⟨N.nb, 0, none⟩)) fun _ => by kernel_rfl)) h (by kernel_rfl) ?_
        refine d_take 9 511 [5] rfl (v := .pointer (some ⟨N.nb, 0, none⟩)) (by kernel_rfl) (qp_thn qp_body) (yq (by kernel_rfl) (g_pure (v := .pointer (some ⟨N.nb, 0, none⟩)) fun _ => by kernel_rfl)) h (by kernel_rfl) ?_
        refine d_take 10 1023 [5] rfl (v := .pointer (some ⟨N.nb, 4, none⟩)) (by kernel_rfl) (qp_thn qp_body) (yq (by kernel_rfl) (g_pure (v := .pointer (some ⟨N.nb, 4, none⟩)) fun _ => by kernel_rfl)) h (by kernel_rfl) ?_
        refine d_ready [11] (by kernel_rfl) rfl ?_
        refine ad_st [5] rfl (by kernel_rfl) 4 [.int .i64 un, .int .i64 ug] [.int .i64 N.kind, .int .i64 z, .int .i64 li, .int .i64 N.change, .int .i64 un, .int .i64 ug, (ndPtr N.dq)] h 0 rfl (by kernel_rfl) ?_ ?_
        · skip
          intro w h; refine ⟨by kernel_rfl, ?_⟩
          refine d_done (by kernel_rfl) ?_
          refine thn_n ?_
          refine c_seq ?_
          refine c_reg ?_
          refine sq_p (.pointer (some ⟨N.nb, 0, none⟩)) rfl (fun _ => by kernel_rfl) ?_
          refine sq_p (.pointer (some ⟨N.nb, 0, none⟩)) rfl (fun _ => by kernel_rfl) ?_
          refine sq_p (.pointer (some ⟨N.nb, 0, none⟩)) rfl (fun _ => by kernel_rfl) ?_
          refine sq_p (.pointer (some ⟨N.nb, 3, none⟩)) rfl (fun _ => by kernel_rfl) ?_
          refine sq_q rfl h (g_ld 3 [.int .i64 N.change] (.int .i64 N.change) (by kernel_rfl) 0 rfl) ?_
          refine sq_q rfl h (g_eq (v := .int .i64 (IntKind.i64.wrap (N.change + 1))) (v' := .int .i64 (N.change + 1)) (g_pure fun _ => by kernel_rfl) (wr (by omega))) ?_
          refine sq_p (.pointer (some ⟨N.nb, 0, none⟩)) rfl (fun _ => by kernel_rfl) ?_
          refine sq_p (.pointer (some ⟨N.nb, 0, none⟩)) rfl (fun _ => by kernel_rfl) ?_
          refine sq_p (.pointer (some ⟨N.nb, 3, none⟩)) rfl (fun _ => by kernel_rfl) ?_
          refine sq_st rfl 3 [.int .i64 (N.change + 1)] [.int .i64 N.kind, .int .i64 z, .int .i64 li, .int .i64 (N.change + 1), .int .i64 un, .int .i64 ug, (ndPtr N.dq)] h 0 rfl (by kernel_rfl) ?_; intro w h
          refine lnil ?_
          refine thn_n ?_
          refine c_seq ?_
          refine c_reg ?_
          refine sq_p (.nilIface) rfl (fun _ => by kernel_rfl) ?_
          refine lnil ?_
          refine thn_n ?_
          refine c_ret ?_
          have h := h.pickE (M := [rCell true N.nb [.int .i64 N.kind, .int .i64 z, .int .i64 li, .int .i64 (N.change + 1), .int .i64 un, .int .i64 ug, (ndPtr N.dq)] 91, datRes N.dq, rNdsO l k, rTab tb ps gs vl vg T Sl Sg, rEnv B ad [10], rCell true k2 [.int .i64 un, .int .i64 ug] 33, rCell true k1 [.int .i64 n, .int .i64 g] 33, rEnv B ad [2]]) [0, 0, 0, 0, 0, 0, 0, 0] (by kernel_rfl)
          have h := h.ndClose { N with size := z, links := li, change := N.change + 1, upn := un, upg := ug }
          refine ret_end [.nilIface] [1, 0, 0, 2] h (by kernel_rfl) (res_t (by kernel_rfl) res_n) ?_
          exact ⟨rfl, rfl⟩
        exact ad_nil
      exact ad_nil
    · skip
      have hc14 := of_decide_eq_false hc14
      exfalso; revert hc14; simp; omega
set_option maxHeartbeats 1000000 in
theorem setF_spec {B : Nat} (ad : Nat → Addr) (tb : Nat) (ps : List (Option Nat)) (gs : List Int) (vl vg : Value) (T : TypeId) (Sl Sg : Nat → Prop) (l : List (Option ND)) (hl : ps.length = gs.length) (hr : ∀ x ∈ gs, 0 ≤ x ∧ x ≤ 1000000) (n g : Int) (k : Nat) (N : ND) (hk : l[k]? = some (some N)) (ha : atOf ps gs n g = some N.nb) (z li un ug : Int) (hb : 0 ≤ z ∧ 0 ≤ li) (hkd : ¬ N.kind = 2) (hc : 0 ≤ N.change ∧ N.change ≤ 1000000)  : Spec Tryd.prog 10 #[.pointer (some ⟨tb, 0, none⟩), .agg #[.int .i64 n, .int .i64 g], .int .i64 z, .int .i64 li, .agg #[.int .i64 un, .int .i64 ug]] [rTab tb ps gs vl vg T Sl Sg, rNds l, rEnv B ad [10], rEnv B ad [2]] (fun u L => u = .nilIface ∧ L = [rTab tb ps gs vl vg T Sl Sg, rNds (l.set k (some { N with links := li, change := N.change + 1 })), rEnv B ad [10], rEnv B ad [2]]) := by
  refine spec_of (#[.pointer (some ⟨tb, 0, none⟩), .agg #[.int .i64 n, .int .i64 g], .int .i64 z, .int .i64 li, .agg #[.int .i64 un, .int .i64 ug], undef, undef, undef, undef, undef, undef, undef, undef, undef, undef, undef, undef, undef, undef, undef, undef, undef, undef, undef, undef, undef, undef, undef, undef, undef, undef, undef, undef, undef, undef, undef, undef, undef, undef, undef, undef, undef, undef, undef, undef, undef, undef, undef, undef, undef, undef, undef, undef, undef, undef, undef, undef, undef, undef]) Tryd.func10 rfl (by kernel_rfl) fun E w0 w h => ?_
  refine c_seq ?_
  refine c_reg ?_
  refine sq_new rfl (fun b => .pointer (some ⟨b, 0, none⟩)) [.int .i64 n, .int .i64 g] 33 (fun _ => by kernel_rfl) h ?_; intro k1 w h
  refine sq_new rfl (fun b => .pointer (some ⟨b, 0, none⟩)) [.int .i64 un, .int .i64 ug] 33 (fun _ => by kernel_rfl) h ?_; intro k2 w h
  refine sq_p (.nilIface) rfl (fun _ => by kernel_rfl) ?_
  refine lnil ?_
  refine thn_n ?_
  refine c_seq ?_
  refine c_reg ?_
  refine sq_p (.pointer (some ⟨tb, 0, none⟩)) rfl (fun _ => by kernel_rfl) ?_
  refine sq_q rfl h (g_ld 0 [.int .i64 n, .int .i64 g] (.agg #[.int .i64 n, .int .i64 g]) (by kernel_rfl) 1 rfl) ?_
  refine sq_call #[.pointer (some ⟨tb, 0, none⟩), .agg #[.int .i64 n, .int .i64 g]] [2, 3] rfl (nodesAt_spec ad tb _ n g ps gs vl vg T Sl Sg hl hr ha) (fun _ => by kernel_rfl) h ?_; rintro v_ L_ w ⟨rfl, rfl⟩ h
  have h := h.pickE (M := [rNds l, rTab tb ps gs vl vg T Sl Sg, rEnv B ad [10], rCell true k2 [.int .i64 un, .int .i64 ug] 33, rCell true k1 [.int .i64 n, .int .i64 g] 33, rEnv B ad [2]]) [4, 0, 0, 0, 0, 0] (by kernel_rfl)
  have h := h.ndOpen hk
  have h : Own w0 E [rCell true N.nb [.int .i64 N.kind, .int .i64 N.size, .int .i64 N.links, .int .i64 N.change, .int .i64 N.upn, .int .i64 N.upg, (ndPtr N.dq)] 91, datRes N.dq, rNdsO l k, rTab tb ps gs vl vg T Sl Sg, rEnv B ad [10], rCell true k2 [.int .i64 un, .int .i64 ug] 33, rCell true k1 [.int .i64 n, .int .i64 g] 33, rEnv B ad [2]] w := h
  refine sq_p (.tuple #[.pointer (some ⟨N.nb, 0, none⟩), .nilIface]) rfl (fun _ => by kernel_rfl) ?_
  refine sq_p (.pointer (some ⟨N.nb, 0, none⟩)) rfl (fun _ => by kernel_rfl) ?_
  refine sq_p (.nilIface) rfl (fun _ => by kernel_rfl) ?_
  refine sq_p (.pointer (some ⟨N.nb, 0, none⟩)) rfl (fun _ => by kernel_rfl) ?_
  refine sq_p (.nilIface) rfl (fun _ => by kernel_rfl) ?_
  refine lnil ?_
  refine thn_n ?_
  refine c_seq ?_
  refine c_seq ?_
  refine c_reg ?_
  refine sq_p (.nilIface) rfl (fun _ => by kernel_rfl) ?_
  refine sq_p (.bool false) rfl (fun _ => by kernel_rfl) ?_
  refine lnil ?_
  refine thn_n ?_
  refine c_false (by kernel_rfl) ?_
  refine c_skip ?_
  refine thn_n ?_
  refine c_seq ?_
  refine c_seq ?_
  refine c_reg ?_
  refine sq_p (.int .i64 z) rfl (fun _ => by kernel_rfl) ?_
  obtain ⟨b3, hb3⟩ : ∃ b_ : Bool, b_ = (decide (z < 0)) := ⟨_, rfl⟩
  refine sq_q (v := .bool b3) rfl h (by subst hb3; exact g_pure (v := .bool (decide (z < 0))) fun _ => by kernel_rfl) ?_
  refine sq_p (.bool b3) rfl (fun _ => by kernel_rfl) ?_
  refine sq_m0 (v := .int .i64 li) b3 (by cases b3 <;> kernel_rfl) h (fun hB => by subst hB; exact g_pure (v := .int .i64 li) fun _ => by kernel_rfl) ?_
  obtain ⟨b4, hb4⟩ : ∃ b_ : Bool, b_ = (decide (li < 0)) := ⟨_, rfl⟩
  refine sq_m0 (v := .bool b4) b3 (by cases b3 <;> kernel_rfl) h (fun hB => by subst hB; exact by subst hb4; exact g_pure (v := .bool (decide (li < 0))) fun _ => by kernel_rfl) ?_
  obtain ⟨b5, hb5⟩ : ∃ b_ : Bool, b_ = (b3 || b4) := ⟨_, rfl⟩
  refine sq_q (v := .bool b5) rfl h (by subst hb5; exact g_pure (v := .bool (b3 || b4)) fun _ => by cases b3 <;> kernel_rfl) ?_
  refine lnil ?_
  refine thn_n ?_
  refine c_cond (b5) (by kernel_rfl) (fun hc6 => ?_) (fun hc6 => ?_)
  · skip
    have q7 : (b3 || b4) = true := by rw [← hb5]; exact hc6
    have q8 : ((z < 0) ∨ (li < 0)) := by subst hb4; subst hb3; revert q7; first | (simp; done) | (simp; omega)
    exfalso; revert hc6; subst hb5; subst hb4; subst hb3; simp; omega
  · skip
    have q9 : (b3 || b4) = false := by rw [← hb5]; exact hc6
    have q10 : b3 = false := by revert q9; cases b3 <;> simp
    have q11 : b4 = false := by revert q9; cases b3 <;> cases b4 <;> simp
    have q12 : (decide (z < 0)) = false := by rw [← hb3]; exact q10
    have q12 := of_decide_eq_false q12
    have q13 : (decide (li < 0)) = false := by rw [← hb4]; exact q11
    have q13 := of_decide_eq_false q13
    refine c_skip ?_
    refine thn_n ?_
    refine c_seq ?_
    refine c_reg ?_
    refine sq_p (.pointer (some ⟨N.nb, 0, none⟩)) rfl (fun _ => by kernel_rfl) ?_
    refine sq_p (.int .i64 li) rfl (fun _ => by kernel_rfl) ?_
    refine sq_p (.pointer (some ⟨N.nb, 0, none⟩)) rfl (fun _ => by kernel_rfl) ?_
    refine sq_p (.pointer (some ⟨N.nb, 0, none⟩)) rfl (fun _ => by kernel_rfl) ?_
    refine sq_p (.pointer (some ⟨N.nb, 2, none⟩)) rfl (fun _ => by kernel_rfl) ?_
    refine sq_st rfl 2 [.int .i64 li] [.int .i64 N.kind, .int .i64 N.size, .int .i64 li, .int .i64 N.change, .int .i64 N.upn, .int .i64 N.upg, (ndPtr N.dq)] h 0 rfl (by kernel_rfl) ?_; intro w h
    refine lnil ?_
    refine thn_n ?_
    refine c_seq ?_
    refine c_seq ?_
    refine c_reg ?_
    refine sq_p (.pointer (some ⟨N.nb, 0, none⟩)) rfl (fun _ => by kernel_rfl) ?_
    refine sq_p (.pointer (some ⟨N.nb, 0, none⟩)) rfl (fun _ => by kernel_rfl) ?_
    refine sq_p (.pointer (some ⟨N.nb, 0, none⟩)) rfl (fun _ => by kernel_rfl) ?_
    refine sq_p (.pointer (some ⟨N.nb, 0, none⟩)) rfl (fun _ => by kernel_rfl) ?_
    refine sq_q rfl h (g_ld 0 [.int .i64 N.kind] (.int .i64 N.kind) (by kernel_rfl) 0 rfl) ?_
    refine sq_p (.bool (decide (N.kind = 2))) rfl (fun _ => by kernel_rfl) ?_
    refine lnil ?_
    refine thn_n ?_
    refine c_cond (decide (N.kind = 2)) (by kernel_rfl) (fun hc14 => ?_) (fun hc14 => ?_)
    · skip
      have hc14 := of_decide_eq_true hc14
      exfalso; revert hc14; simp; omega
    · skip
      have hc14 := of_decide_eq_false hc14
      refine c_skip ?_
      refine thn_n ?_
      refine c_seq ?_
      refine c_reg ?_
      refine sq_p (.pointer (some ⟨N.nb, 0, none⟩)) rfl (fun _ => by kernel_rfl) ?_
      refine sq_p (.pointer (some ⟨N.nb, 0, none⟩)) rfl (fun _ => by kernel_rfl) ?_
      refine sq_p (.pointer (some ⟨N.nb, 0, none⟩)) rfl (fun _ => by kernel_rfl) ?_
      refine sq_p (.pointer (some ⟨N.nb, 3, none⟩)) rfl (fun _ => by kernel_rfl) ?_
      refine sq_q rfl h (g_ld 3 [.int .i64 N.change] (.int .i64 N.change) (by kernel_rfl) 0 rfl) ?_
      refine sq_q rfl h (g_eq (v := .int .i64 (IntKind.i64.wrap (N.change + 1))) (v' := .int .i64 (N.change + 1)) (g_pure fun _ => by kernel_rfl) (wr (by omega))) ?_
      refine sq_p (.pointer (some ⟨N.nb, 0, none⟩)) rfl (fun _ => by kernel_rfl) ?_
      refine sq_p (.pointer (some ⟨N.nb, 0, none⟩)) rfl (fun _ => by kernel_rfl) ?_
      refine sq_p (.pointer (some ⟨N.nb, 3, none⟩)) rfl (fun _ => by kernel_rfl) ?_
      refine sq_st rfl 3 [.int .i64 (N.change + 1)] [.int .i64 N.kind, .int .i64 N.size, .int .i64 li, .int .i64 (N.change + 1), .int .i64 N.upn, .int .i64 N.upg, (ndPtr N.dq)] h 0 rfl (by kernel_rfl) ?_; intro w h
      refine lnil ?_
      refine thn_n ?_
      refine c_seq ?_
      refine c_reg ?_
      refine sq_p (.nilIface) rfl (fun _ => by kernel_rfl) ?_
      refine lnil ?_
      refine thn_n ?_
      refine c_ret ?_
      have h := h.pickE (M := [rCell true N.nb [.int .i64 N.kind, .int .i64 N.size, .int .i64 li, .int .i64 (N.change + 1), .int .i64 N.upn, .int .i64 N.upg, (ndPtr N.dq)] 91, datRes N.dq, rNdsO l k, rTab tb ps gs vl vg T Sl Sg, rEnv B ad [10], rCell true k2 [.int .i64 un, .int .i64 ug] 33, rCell true k1 [.int .i64 n, .int .i64 g] 33, rEnv B ad [2]]) [0, 0, 0, 0, 0, 0, 0, 0] (by kernel_rfl)
      have h := h.ndClose { N with links := li, change := N.change + 1 }
      refine ret_end [.nilIface] [1, 0, 0, 2] h (by kernel_rfl) (res_t (by kernel_rfl) res_n) ?_
      exact ⟨rfl, rfl⟩
set_option maxHeartbeats 1000000 in
theorem dataN_spec {B : Nat} (ad : Nat → Addr) (tb : Nat) (ps : List (Option Nat)) (gs : List Int) (vl vg : Value) (T : TypeId) (Sl Sg : Nat → Prop) (l : List (Option ND)) (hl : ps.length = gs.length) (hr : ∀ x ∈ gs, 0 ≤ x ∧ x ≤ 1000000) (n g : Int) (ha : atOf ps gs n g = none)  : Spec Tryd.prog 13 #[.pointer (some ⟨tb, 0, none⟩), .agg #[.int .i64 n, .int .i64 g]] [rTab tb ps gs vl vg T Sl Sg, rNds l, rEnv B ad [10]] (fun u L => u = .tuple #[.pointer none, errV ad 10] ∧ L = [rTab tb ps gs vl vg T Sl Sg, rNds l, rEnv B ad [10]]) := by
  refine spec_of (#[.pointer (some ⟨tb, 0, none⟩), .agg #[.int .i64 n, .int .i64 g], undef, undef, undef, undef, undef, undef, undef, undef, undef, undef, undef, undef, undef, undef, undef, undef, undef, undef, undef, undef, undef, undef, undef, undef, undef, undef, undef]) Tryd.func13 rfl (by kernel_rfl) fun E w0 w h => ?_
  refine c_seq ?_
  refine c_reg ?_
  refine sq_new rfl (fun b => .pointer (some ⟨b, 0, none⟩)) [.int .i64 n, .int .i64 g] 33 (fun _ => by kernel_rfl) h ?_; intro k1 w h
  refine sq_p (.pointer none) rfl (fun _ => by kernel_rfl) ?_
  refine sq_p (.nilIface) rfl (fun _ => by kernel_rfl) ?_
  refine lnil ?_
  refine thn_n ?_
  refine c_seq ?_
  refine c_reg ?_
  refine sq_p (.pointer (some ⟨tb, 0, none⟩)) rfl (fun _ => by kernel_rfl) ?_
  refine sq_q rfl h (g_ld 0 [.int .i64 n, .int .i64 g] (.agg #[.int .i64 n, .int .i64 g]) (by kernel_rfl) 0 rfl) ?_
  refine sq_call #[.pointer (some ⟨tb, 0, none⟩), .agg #[.int .i64 n, .int .i64 g]] [1, 2] rfl (tabAtN_spec ad tb n g ps gs vl vg T Sl Sg hl hr ha) (fun _ => by kernel_rfl) h ?_; rintro v_ L_ w ⟨rfl, rfl⟩ h
  refine sq_p (.tuple #[.pointer none, errV ad 10]) rfl (fun _ => by kernel_rfl) ?_
  refine sq_p (.pointer none) rfl (fun _ => by kernel_rfl) ?_
  refine sq_p (errV ad 10) rfl (fun _ => by kernel_rfl) ?_
  refine sq_p (.pointer none) rfl (fun _ => by kernel_rfl) ?_
  refine sq_p (errV ad 10) rfl (fun _ => by kernel_rfl) ?_
  refine lnil ?_
  refine thn_n ?_
  refine c_seq ?_
  refine c_block ?_
  refine c_seq ?_
  refine c_reg ?_
  refine sq_p (errV ad 10) rfl (fun _ => by kernel_rfl) ?_
  refine sq_p (.bool true) rfl (fun _ => by kernel_rfl) ?_
  refine sq_p (.bool true) rfl (fun _ => by kernel_rfl) ?_
  refine lnil ?_
  refine thn_n ?_
  refine c_true (by kernel_rfl) ?_
  refine c_seq ?_
  refine c_reg ?_
  refine sq_p (errV ad 10) rfl (fun _ => by kernel_rfl) ?_
  refine sq_p (.pointer none) rfl (fun _ => by kernel_rfl) ?_
  refine sq_p (errV ad 10) rfl (fun _ => by kernel_rfl) ?_
  refine lnil ?_
  refine thn_n ?_
  refine c_ret ?_
  refine blk_r (thn_r ?_)
  refine ret_end [.pointer none, errV ad 10] [0, 2, 0] h (by kernel_rfl) (res_t (by kernel_rfl) (res_t (by kernel_rfl) res_n)) ?_
  exact ⟨rfl, rfl⟩
set_option maxHeartbeats 1000000 in
theorem dataD_spec {B : Nat} (ad : Nat → Addr) (tb : Nat) (ps : List (Option Nat)) (gs : List Int) (vl vg : Value) (T : TypeId) (Sl Sg : Nat → Prop) (l : List (Option ND)) (hl : ps.length = gs.length) (hr : ∀ x ∈ gs, 0 ≤ x ∧ x ≤ 1000000) (n g : Int) (k nb : Nat) (kd si li ch un ug : Int) (hk : l[k]? = some (some (⟨nb, kd, si, li, ch, un, ug, none⟩ : ND))) (ha : atOf ps gs n g = some nb)  : Spec Tryd.prog 13 #[.pointer (some ⟨tb, 0, none⟩), .agg #[.int .i64 n, .int .i64 g]] [rTab tb ps gs vl vg T Sl Sg, rNds l, rEnv B ad [10], rEnv B ad [8]] (fun u L => u = .tuple #[.pointer none, errV ad 8] ∧ L = [rTab tb ps gs vl vg T Sl Sg, rNds l, rEnv B ad [10], rEnv B ad [8]]) := by
  refine spec_of (#[.pointer (some ⟨tb, 0, none⟩), .agg #[.int .i64 n, .int .i64 g], undef, undef, undef, undef, undef, undef, undef, undef, undef, undef, undef, undef, undef, undef, undef, undef, undef, undef, undef, undef, undef, undef, undef, undef, undef, undef, undef]) Tryd.func13 rfl (by kernel_rfl) fun E w0 w h => ?_
  refine c_seq ?_
  refine c_reg ?_
  refine sq_new rfl (fun b => .pointer (some ⟨b, 0, none⟩)) [.int .i64 n, .int .i64 g] 33 (fun _ => by kernel_rfl) h ?_; intro k1 w h
  refine sq_p (.pointer none) rfl (fun _ => by kernel_rfl) ?_
  refine sq_p (.nilIface) rfl (fun _ => by kernel_rfl) ?_
  refine lnil ?_
  refine thn_n ?_
  refine c_seq ?_
  refine c_reg ?_
  refine sq_p (.pointer (some ⟨tb, 0, none⟩)) rfl (fun _ => by kernel_rfl) ?_
  refine sq_q rfl h (g_ld 0 [.int .i64 n, .int .i64 g] (.agg #[.int .i64 n, .int .i64 g]) (by kernel_rfl) 0 rfl) ?_
  refine sq_call #[.pointer (some ⟨tb, 0, none⟩), .agg #[.int .i64 n, .int .i64 g]] [1, 2] rfl (nodesAt_spec ad tb nb n g ps gs vl vg T Sl Sg hl hr ha) (fun _ => by kernel_rfl) h ?_; rintro v_ L_ w ⟨rfl, rfl⟩ h
  have h := h.pickE (M := [rNds l, rTab tb ps gs vl vg T Sl Sg, rEnv B ad [10], rCell true k1 [.int .i64 n, .int .i64 g] 33, rEnv B ad [8]]) [3, 0, 0, 0, 0] (by kernel_rfl)
  have h := h.ndOpen hk
  have h : Own w0 E [rCell true nb [.int .i64 kd, .int .i64 si, .int .i64 li, .int .i64 ch, .int .i64 un, .int .i64 ug, .pointer none] 91, datRes none, rNdsO l k, rTab tb ps gs vl vg T Sl Sg, rEnv B ad [10], rCell true k1 [.int .i64 n, .int .i64 g] 33, rEnv B ad [8]] w := h
  refine sq_p (.tuple #[.pointer (some ⟨nb, 0, none⟩), .nilIface]) rfl (fun _ => by kernel_rfl) ?_
  refine sq_p (.pointer (some ⟨nb, 0, none⟩)) rfl (fun _ => by kernel_rfl) ?_
  refine sq_p (.nilIface) rfl (fun _ => by kernel_rfl) ?_
  refine sq_p (.pointer (some ⟨nb, 0, none⟩)) rfl (fun _ => by kernel_rfl) ?_
  refine sq_p (.nilIface) rfl (fun _ => by kernel_rfl) ?_
  refine lnil ?_
  refine thn_n ?_
  refine c_seq ?_
  refine c_block ?_
  refine c_seq ?_
  refine c_reg ?_
  refine sq_p (.nilIface) rfl (fun _ => by kernel_rfl) ?_
  refine sq_p (.bool false) rfl (fun _ => by kernel_rfl) ?_
  refine sq_p (.bool false) rfl (fun _ => by kernel_rfl) ?_
  refine lnil ?_
  refine thn_n ?_
  refine c_false (by kernel_rfl) ?_
  refine c_seq ?_
  refine c_reg ?_
  refine sq_p (.pointer (some ⟨nb, 0, none⟩)) rfl (fun _ => by kernel_rfl) ?_
  refine sq_p (.pointer (some ⟨nb, 0, none⟩)) rfl (fun _ => by kernel_rfl) ?_
  refine sq_p (.pointer (some ⟨nb, 6, none⟩)) rfl (fun _ => by kernel_rfl) ?_
  refine sq_q rfl h (g_ld 6 [.pointer none] (.pointer none) (by kernel_rfl) 0 rfl) ?_
  refine sq_p (.bool true) rfl (fun _ => by kernel_rfl) ?_
  refine sq_p (.bool true) rfl (fun _ => by kernel_rfl) ?_
  refine lnil ?_
  refine thn_n ?_
  refine c_true (by kernel_rfl) ?_
  refine c_seq ?_
  refine d_start 3 [6] (by kernel_rfl) h fun w h => ?_
  refine d_take 0 2 [6] rfl (v := errV ad 8) (by kernel_rfl) (qp_thn (qp_blk (qp_thn qp_body))) (yq (by kernel_rfl) (g_ldr (b := gl 8) 0 [errV ad 8] (errV ad 8) (by kernel_rfl) 0 rfl (rdEnv (c := 8) (by decide) rfl))) h (by kernel_rfl) ?_
  refine d_take 1 1 [6] rfl (v := .pointer none) (by kernel_rfl) (qp_thn (qp_blk (qp_thn qp_body))) (yq (by kernel_rfl) (g_pure (v := .pointer none) fun _ => by kernel_rfl)) h (by kernel_rfl) ?_
  refine d_take 2 3 [6] rfl (v := errV ad 8) (by kernel_rfl) (qp_thn (qp_blk (qp_thn qp_body))) (yq (by kernel_rfl) (g_pure (v := errV ad 8) fun _ => by kernel_rfl)) h (by kernel_rfl) ?_
  refine d_done (by kernel_rfl) ?_
  refine thn_n ?_
  refine c_ret ?_
  refine blk_r (thn_r ?_)
  have h := h.pickE (M := [rCell true nb [.int .i64 kd, .int .i64 si, .int .i64 li, .int .i64 ch, .int .i64 un, .int .i64 ug, .pointer none] 91, datRes none, rNdsO l k, rTab tb ps gs vl vg T Sl Sg, rEnv B ad [10], rCell true k1 [.int .i64 n, .int .i64 g] 33, rEnv B ad [8]]) [0, 0, 0, 0, 0, 0, 0] (by kernel_rfl)
  have h := h.ndBack (N := (⟨nb, kd, si, li, ch, un, ug, none⟩ : ND)) hk
  refine ret_end [.pointer none, errV ad 8] [1, 0, 0, 1] h (by kernel_rfl) (res_t (by kernel_rfl) (res_t (by kernel_rfl) res_n)) ?_
  exact ⟨rfl, rfl⟩
set_option maxHeartbeats 1000000 in
theorem dataF_spec {B : Nat} (ad : Nat → Addr) (tb : Nat) (ps : List (Option Nat)) (gs : List Int) (vl vg : Value) (T : TypeId) (Sl Sg : Nat → Prop) (l : List (Option ND)) (hl : ps.length = gs.length) (hr : ∀ x ∈ gs, 0 ≤ x ∧ x ≤ 1000000) (n g : Int) (k nb : Nat) (kd si li ch un ug : Int) (q : DQ) (hk : l[k]? = some (some (⟨nb, kd, si, li, ch, un, ug, some q⟩ : ND))) (ha : atOf ps gs n g = some nb)  : Spec Tryd.prog 13 #[.pointer (some ⟨tb, 0, none⟩), .agg #[.int .i64 n, .int .i64 g]] [rTab tb ps gs vl vg T Sl Sg, rNds l, rEnv B ad [10]] (fun u L => u = .tuple #[.pointer (some ⟨q.db, 0, none⟩), .nilIface] ∧ L = [rTab tb ps gs vl vg T Sl Sg, rNds l, rEnv B ad [10]]) := by
  refine spec_of (#[.pointer (some ⟨tb, 0, none⟩), .agg #[.int .i64 n, .int .i64 g], undef, undef, undef, undef, undef, undef, undef, undef, undef, undef, undef, undef, undef, undef, undef, undef, undef, undef, undef, undef, undef, undef, undef, undef, undef, undef, undef]) Tryd.func13 rfl (by kernel_rfl) fun E w0 w h => ?_
  refine c_seq ?_
  refine c_reg ?_
  refine sq_new rfl (fun b => .pointer (some ⟨b, 0, none⟩)) [.int .i64 n, .int .i64 g] 33 (fun _ => by kernel_rfl) h ?_; intro k1 w h
  refine sq_p (.pointer none) rfl (fun _ => by kernel_rfl) ?_
  refine sq_p (.nilIface) rfl (fun _ => by kernel_rfl) ?_
  refine lnil ?_
  refine thn_n ?_
  refine c_seq ?_
  refine c_reg ?_
  refine sq_p (.pointer (some ⟨tb, 0, none⟩)) rfl (fun _ => by kernel_rfl) ?_
  refine sq_q rfl h (g_ld 0 [.int .i64 n, .int .i64 g] (.agg #[.int .i64 n, .int .i64 g]) (by kernel_rfl) 0 rfl) ?_
  refine sq_call #[.pointer (some ⟨tb, 0, none⟩), .agg #[.int .i64 n, .int .i64 g]] [1, 2] rfl (nodesAt_spec ad tb nb n g ps gs vl vg T Sl Sg hl hr ha) (fun _ => by kernel_rfl) h ?_; rintro v_ L_ w ⟨rfl, rfl⟩ h
  have h := h.pickE (M := [rNds l, rTab tb ps gs vl vg T Sl Sg, rEnv B ad [10], rCell true k1 [.int .i64 n, .int .i64 g] 33]) [3, 0, 0, 0] (by kernel_rfl)
  have h := h.ndOpen hk
  have h : Own w0 E [rCell true nb [.int .i64 kd, .int .i64 si, .int .i64 li, .int .i64 ch, .int .i64 un, .int .i64 ug, .pointer (some ⟨q.db, 0, none⟩)] 91, datRes (some q), rNdsO l k, rTab tb ps gs vl vg T Sl Sg, rEnv B ad [10], rCell true k1 [.int .i64 n, .int .i64 g] 33] w := h
  refine sq_p (.tuple #[.pointer (some ⟨nb, 0, none⟩), .nilIface]) rfl (fun _ => by kernel_rfl) ?_
  refine sq_p (.pointer (some ⟨nb, 0, none⟩)) rfl (fun _ => by kernel_rfl) ?_
  refine sq_p (.nilIface) rfl (fun _ => by kernel_rfl) ?_
  refine sq_p (.pointer (some ⟨nb, 0, none⟩)) rfl (fun _ => by kernel_rfl) ?_
  refine sq_p (.nilIface) rfl (fun _ => by kernel_rfl) ?_
  refine lnil ?_
  refine thn_n ?_
  refine c_seq ?_
  refine c_block ?_
  refine c_seq ?_
  refine c_reg ?_
  refine sq_p (.nilIface) rfl (fun _ => by kernel_rfl) ?_
  refine sq_p (.bool false) rfl (fun _ => by kernel_rfl) ?_
  refine sq_p (.bool false) rfl (fun _ => by kernel_rfl) ?_
  refine lnil ?_
  refine thn_n ?_
  refine c_false (by kernel_rfl) ?_
  refine c_seq ?_
  refine c_reg ?_
  refine sq_p (.pointer (some ⟨nb, 0, none⟩)) rfl (fun _ => by kernel_rfl) ?_
  refine sq_p (.pointer (some ⟨nb, 0, none⟩)) rfl (fun _ => by kernel_rfl) ?_
  refine sq_p (.pointer (some ⟨nb, 6, none⟩)) rfl (fun _ => by kernel_rfl) ?_
  refine sq_q rfl h (g_ld 6 [.pointer (some ⟨q.db, 0, none⟩)] (.pointer (some ⟨q.db, 0, none⟩)) (by kernel_rfl) 0 rfl) ?_
  refine sq_p (.bool false) rfl (fun _ => by kernel_rfl) ?_
  refine sq_p (.bool false) rfl (fun _ => by kernel_rfl) ?_
  refine lnil ?_
  refine thn_n ?_
  refine c_false (by kernel_rfl) ?_
  refine c_skip ?_
  refine blk_n (thn_n ?_)
  refine c_seq ?_
  refine c_reg ?_
  refine sq_p (.pointer (some ⟨nb, 0, none⟩)) rfl (fun _ => by kernel_rfl) ?_
  refine sq_p (.pointer (some ⟨nb, 0, none⟩)) rfl (fun _ => by kernel_rfl) ?_
  refine sq_p (.pointer (some ⟨nb, 6, none⟩)) rfl (fun _ => by kernel_rfl) ?_
  refine sq_q rfl h (g_ld 6 [.pointer (some ⟨q.db, 0, none⟩)] (.pointer (some ⟨q.db, 0, none⟩)) (by kernel_rfl) 0 rfl) ?_
  refine sq_p (.pointer (some ⟨q.db, 0, none⟩)) rfl (fun _ => by kernel_rfl) ?_
  refine sq_p (.nilIface) rfl (fun _ => by kernel_rfl) ?_
  refine lnil ?_
  refine thn_n ?_
  refine c_ret ?_
  have h := h.pickE (M := [rCell true nb [.int .i64 kd, .int .i64 si, .int .i64 li, .int .i64 ch, .int .i64 un, .int .i64 ug, .pointer (some ⟨q.db, 0, none⟩)] 91, datRes (some q), rNdsO l k, rTab tb ps gs vl vg T Sl Sg, rEnv B ad [10], rCell true k1 [.int .i64 n, .int .i64 g] 33]) [0, 0, 0, 0, 0, 0] (by kernel_rfl)
  have h := h.ndBack (N := (⟨nb, kd, si, li, ch, un, ug, some q⟩ : ND)) hk
  refine ret_end [.pointer (some ⟨q.db, 0, none⟩), .nilIface] [1, 0, 0] h (by kernel_rfl) (res_t (by kernel_rfl) (res_t (by kernel_rfl) res_n)) ?_
  exact ⟨rfl, rfl⟩
set_option maxHeartbeats 1000000 in
theorem newBad_spec {B : Nat} (ad : Nat → Addr) (m : Int) (hm : m < 1 ∨ 300 < m)  : Spec Tryd.prog 6 #[.int .i64 m] [rEnv B ad [2]] (fun u L => u = .tuple #[.pointer none, errV ad 2] ∧ L = [rEnv B ad [2]]) := by
  refine spec_of (#[.int .i64 m, undef, undef, undef, undef, undef, undef, undef, undef, undef, undef, undef, undef, undef, undef, undef, undef]) Tryd.func6 rfl (by kernel_rfl) fun E w0 w h => ?_
  refine c_seq ?_
  refine c_reg ?_
  refine sq_p (.pointer none) rfl (fun _ => by kernel_rfl) ?_
  refine sq_p (.nilIface) rfl (fun _ => by kernel_rfl) ?_
  refine lnil ?_
  refine thn_n ?_
  refine c_seq ?_
  refine c_seq ?_
  refine c_reg ?_
  refine sq_p (.int .i64 m) rfl (fun _ => by kernel_rfl) ?_
  obtain ⟨b1, hb1⟩ : ∃ b_ : Bool, b_ = (decide (m < 1)) := ⟨_, rfl⟩
  refine sq_q (v := .bool b1) rfl h (by subst hb1; exact g_pure (v := .bool (decide (m < 1))) fun _ => by kernel_rfl) ?_
  refine sq_p (.bool b1) rfl (fun _ => by kernel_rfl) ?_
  refine sq_m0 (v := .int .i64 m) b1 (by cases b1 <;> kernel_rfl) h (fun hB => by subst hB; exact g_pure (v := .int .i64 m) fun _ => by kernel_rfl) ?_
  obtain ⟨b2, hb2⟩ : ∃ b_ : Bool, b_ = (decide (m > 300)) := ⟨_, rfl⟩
  refine sq_m0 (v := .bool b2) b1 (by cases b1 <;> kernel_rfl) h (fun hB => by subst hB; exact by subst hb2; exact g_pure (v := .bool (decide (m > 300))) fun _ => by kernel_rfl) ?_
  obtain ⟨b3, hb3⟩ : ∃ b_ : Bool, b_ = (b1 || b2) := ⟨_, rfl⟩
  refine sq_q (v := .bool b3) rfl h (by subst hb3; exact g_pure (v := .bool (b1 || b2)) fun _ => by cases b1 <;> kernel_rfl) ?_
  refine lnil ?_
  refine thn_n ?_
  refine c_cond (b3) (by kernel_rfl) (fun hc4 => ?_) (fun hc4 => ?_)
  · skip
    have q5 : (b1 || b2) = true := by rw [← hb3]; exact hc4
    have q6 : ((m < 1) ∨ (m > 300)) := by subst hb2; subst hb1; revert q5; first | (simp; done) | (simp; omega)
    refine c_seq ?_
    refine d_start 3 [0] (by kernel_rfl) h fun w h => ?_
    refine d_take 0 2 [0] rfl (v := errV ad 2) (by kernel_rfl) (qp_thn (qp_thn qp_body)) (yq (by kernel_rfl) (g_ldr (b := gl 2) 0 [errV ad 2] (errV ad 2) (by kernel_rfl) 0 rfl (rdEnv (c := 2) (by decide) rfl))) h (by kernel_rfl) ?_
    refine d_take 1 1 [0] rfl (v := .pointer none) (by kernel_rfl) (qp_thn (qp_thn qp_body)) (yq (by kernel_rfl) (g_pure (v := .pointer none) fun _ => by kernel_rfl)) h (by kernel_rfl) ?_
    refine d_take 2 3 [0] rfl (v := errV ad 2) (by kernel_rfl) (qp_thn (qp_thn qp_body)) (yq (by kernel_rfl) (g_pure (v := errV ad 2) fun _ => by kernel_rfl)) h (by kernel_rfl) ?_
    refine d_done (by kernel_rfl) ?_
    refine thn_n ?_
    refine c_ret ?_
    refine thn_r ?_
    refine ret_end [.pointer none, errV ad 2] [0] h (by kernel_rfl) (res_t (by kernel_rfl) (res_t (by kernel_rfl) res_n)) ?_
    exact ⟨rfl, rfl⟩
  · skip
    have q7 : (b1 || b2) = false := by rw [← hb3]; exact hc4
    have q8 : b1 = false := by revert q7; cases b1 <;> simp
    have q9 : b2 = false := by revert q7; cases b1 <;> cases b2 <;> simp
    have q10 : (decide (m < 1)) = false := by rw [← hb1]; exact q8
    have q10 := of_decide_eq_false q10
    have q11 : (decide (m > 300)) = false := by rw [← hb2]; exact q9
    have q11 := of_decide_eq_false q11
    exfalso; revert hc4; subst hb3; subst hb2; subst hb1; simp; omega
end Go.Proofs.YtgebinfbbopnlaaDoor
