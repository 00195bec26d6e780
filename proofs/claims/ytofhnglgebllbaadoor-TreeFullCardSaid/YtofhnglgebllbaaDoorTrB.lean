/- tree: contracts by what is owned (printed by walk.py). -/
import Derived.Test.YtofhnglgebllbaaDoorTabN
import Derived.Test.YtofhnglgebllbaaDoorEnvAR
import Derived.Test.YtofhnglgebllbaaDoorOp11
import Derived.Test.YtofhnglgebllbaaDoorTreeP
import Derived.Test.YtofhnglgebllbaaDoorNameS
namespace Go.Proofs.YtofhnglgebllbaaDoor
open Go.RowKit
set_option linter.unusedVariables false
set_option linter.unusedSimpArgs false
set_option linter.unnecessarySimpa false
set_option maxRecDepth 100000

theorem tabAtN_spec {B : Nat} (ad : Nat → Addr) (b : Nat) (n g : Int) (ps : List (Option Nat)) (gs : List Int) (vl vg : Value) (T : TypeId) (Sl Sg : Nat → Prop) (hl : ps.length = gs.length) (hr : ∀ x ∈ gs, 0 ≤ x ∧ x ≤ 1000000) (ha : atOf ps gs n g = none) :
    Spec Tryd.prog 165 #[.pointer (some ⟨b, 0, none⟩), .agg #[.int .i64 n, .int .i64 g]] [rTab b ps gs vl vg T Sl Sg, rEnv B ad [10]] fun u L => u = .tuple #[.pointer none, errV ad 10] ∧ L = [rTab b ps gs vl vg T Sl Sg, rEnv B ad [10]] :=
  (tabAt_spec ad b n g ps gs vl vg T Sl Sg hl hr).mono fun u L h => by
    rcases h with ⟨nb, h1, _⟩ | ⟨_, h2, h3⟩
    · rw [ha] at h1; cases h1
    · exact ⟨h2, h3⟩

set_option maxHeartbeats 1000000 in
theorem touch_spec {B : Nat} (ad : Nat → Addr) (tb : Nat) (ps : List (Option Nat)) (gs : List Int) (vl vg : Value) (T : TypeId) (Sl Sg : Nat → Prop) (l : List (Option ND)) (hl : ps.length = gs.length) (hr : ∀ x ∈ gs, 0 ≤ x ∧ x ≤ 1000000) (n g : Int) (k : Nat) (N : ND) (hk : l[k]? = some (some N)) (ha : atOf ps gs n g = some N.nb) (hc : 0 ≤ N.change ∧ N.change ≤ 1000000)  : Spec Tryd.prog 100 #[.pointer (some ⟨tb, 0, none⟩), .agg #[.int .i64 n, .int .i64 g]] [rTab tb ps gs vl vg T Sl Sg, rNds l, rEnv B ad [10]] (fun u L => u = .nilIface ∧ L = [rTab tb ps gs vl vg T Sl Sg, rNds (l.set k (some { N with change := N.change + 1 })), rEnv B ad [10]]) := by
  refine spec_of (#[.pointer (some ⟨tb, 0, none⟩), .agg #[.int .i64 n, .int .i64 g], undef, undef, undef, undef, undef, undef, undef, undef, undef, undef, undef, undef, undef, undef, undef, undef, undef, undef, undef, undef, undef, undef, undef]) Tryd.func100 rfl (by kernel_rfl) fun E w0 w h => ?_
  refine c_seq ?_
  refine c_reg ?_
  refine sq_new rfl (fun b => .pointer (some ⟨b, 0, none⟩)) [.int .i64 n, .int .i64 g] 29 (fun _ => by kernel_rfl) h ?_; intro k1 w h
  refine sq_p (.nilIface) rfl (fun _ => by kernel_rfl) ?_
  refine lnil ?_
  refine thn_n ?_
  refine c_seq ?_
  refine c_reg ?_
  refine sq_p (.pointer (some ⟨tb, 0, none⟩)) rfl (fun _ => by kernel_rfl) ?_
  refine sq_q rfl h (g_ld 0 [.int .i64 n, .int .i64 g] (.agg #[.int .i64 n, .int .i64 g]) (by kernel_rfl) 0 rfl) ?_
  refine sq_call #[.pointer (some ⟨tb, 0, none⟩), .agg #[.int .i64 n, .int .i64 g]] [1, 2] rfl (nodesAt_spec ad tb _ n g ps gs vl vg T Sl Sg hl hr ha) (fun _ => by kernel_rfl) h ?_; rintro v_ L_ w ⟨rfl, rfl⟩ h
  have h := h.pickE (M := [rNds l, rTab tb ps gs vl vg T Sl Sg, rEnv B ad [10], rCell true k1 [.int .i64 n, .int .i64 g] 29]) [3, 0, 0, 0] (by kernel_rfl)
  have h := h.ndOpen hk
  have h : Own w0 E [rCell true N.nb [.int .i64 N.kind, .int .i64 N.size, .int .i64 N.links, .int .i64 N.change, .int .i64 N.upn, .int .i64 N.upg, (ndPtr N.dq)] 273, datRes N.dq, rNdsO l k, rTab tb ps gs vl vg T Sl Sg, rEnv B ad [10], rCell true k1 [.int .i64 n, .int .i64 g] 29] w := h
  refine sq_p (.tuple #[.pointer (some ⟨N.nb, 0, none⟩), .nilIface]) rfl (fun _ => by kernel_rfl) ?_
  refine sq_p (.pointer (some ⟨N.nb, 0, none⟩)) rfl (fun _ => by kernel_rfl) ?_
  refine sq_p (.nilIface) rfl (fun _ => by kernel_rfl) ?_
  refine sq_p (.pointer (some ⟨N.nb, 0, none⟩)) rfl (fun _ => by kernel_rfl) ?_
  refine sq_p (.nilIface) rfl (fun _ => by kernel_rfl) ?_
  refine lnil ?_
  refine thn_n ?_
  refine c_seq ?_
  refine c_seq ?_
  refine c_reg ?_
  refine sq_p (.nilIface) rfl (fun _ => by kernel_rfl) ?_
  refine sq_p (.bool false) rfl (fun _ => by kernel_rfl) ?_
  refine lnil ?_
  refine thn_n ?_
  refine c_false (by kernel_rfl) ?_
  refine c_skip ?_
  refine thn_n ?_
  refine c_seq ?_
  refine c_reg ?_
  refine sq_p (.pointer (some ⟨N.nb, 0, none⟩)) rfl (fun _ => by kernel_rfl) ?_
  refine sq_p (.pointer (some ⟨N.nb, 0, none⟩)) rfl (fun _ => by kernel_rfl) ?_
  refine sq_p (.pointer (some ⟨N.nb, 0, none⟩)) rfl (fun _ => by kernel_rfl) ?_
  refine sq_p (.pointer (some ⟨N.nb, 3, none⟩)) rfl (fun _ => by kernel_rfl) ?_
  refine sq_q rfl h (g_ld 3 [.int .i64 N.change] (.int .i64 N.change) (by kernel_rfl) 0 rfl) ?_
  refine sq_q rfl h (g_eq (v := .int .i64 (IntKind.i64.wrap (N.change + 1))) (v' := .int .i64 (N.change + 1)) (g_pure fun _ => by kernel_rfl) (wr (by omega))) ?_
  refine sq_p (.pointer (some ⟨N.nb, 0, none⟩)) rfl (fun _ => by kernel_rfl) ?_
  refine sq_p (.pointer (some ⟨N.nb, 0, none⟩)) rfl (fun _ => by kernel_rfl) ?_
  refine sq_p (.pointer (some ⟨N.nb, 3, none⟩)) rfl (fun _ => by kernel_rfl) ?_
  refine sq_st rfl 3 [.int .i64 (N.change + 1)] [.int .i64 N.kind, .int .i64 N.size, .int .i64 N.links, .int .i64 (N.change + 1), .int .i64 N.upn, .int .i64 N.upg, (ndPtr N.dq)] h 0 rfl (by kernel_rfl) ?_; intro w h
  refine lnil ?_
  refine thn_n ?_
  refine c_seq ?_
  refine c_reg ?_
  refine sq_p (.nilIface) rfl (fun _ => by kernel_rfl) ?_
  refine lnil ?_
  refine thn_n ?_
  refine c_ret ?_
  have h := h.pickE (M := [rCell true N.nb [.int .i64 N.kind, .int .i64 N.size, .int .i64 N.links, .int .i64 (N.change + 1), .int .i64 N.upn, .int .i64 N.upg, (ndPtr N.dq)] 273, datRes N.dq, rNdsO l k, rTab tb ps gs vl vg T Sl Sg, rEnv B ad [10], rCell true k1 [.int .i64 n, .int .i64 g] 29]) [0, 0, 0, 0, 0, 0] (by kernel_rfl)
  have h := h.ndClose { N with change := N.change + 1 }
  refine ret_end [.nilIface] [1, 0, 0] h (by kernel_rfl) (res_t (by kernel_rfl) res_n) ?_
  exact ⟨rfl, rfl⟩
set_option maxHeartbeats 1000000 in
theorem keep_spec {B : Nat} (ad : Nat → Addr) (tb : Nat) (ps : List (Option Nat)) (gs : List Int) (vl vg : Value) (T : TypeId) (Sl Sg : Nat → Prop) (l : List (Option ND)) (hl : ps.length = gs.length) (hr : ∀ x ∈ gs, 0 ≤ x ∧ x ≤ 1000000) (n g : Int) (k : Nat) (N : ND) (hk : l[k]? = some (some N)) (ha : atOf ps gs n g = some N.nb) (a0 a1 a2 a3 a4 a5 : Int)  : Spec Tryd.prog 97 #[.pointer (some ⟨tb, 0, none⟩), .agg #[.int .i64 n, .int .i64 g], .agg #[.int .i64 a0, .int .i64 a1, .int .i64 a2, .int .i64 a3, .int .i64 a4, .int .i64 a5]] [rTab tb ps gs vl vg T Sl Sg, rNds l, rEnv B ad [10]] (fun u L => L = [rTab tb ps gs vl vg T Sl Sg, rNds (l.set k (some { N with kind := a0, size := a1, links := a2, upn := a4, upg := a5 })), rEnv B ad [10]]) := by
  refine spec_of (#[.pointer (some ⟨tb, 0, none⟩), .agg #[.int .i64 n, .int .i64 g], .agg #[.int .i64 a0, .int .i64 a1, .int .i64 a2, .int .i64 a3, .int .i64 a4, .int .i64 a5], undef, undef, undef, undef, undef, undef, undef, undef, undef, undef, undef, undef, undef, undef, undef, undef, undef, undef, undef, undef, undef, undef, undef]) Tryd.func97 rfl (by kernel_rfl) fun E w0 w h => ?_
  refine c_seq ?_
  refine c_reg ?_
  refine sq_new rfl (fun b => .pointer (some ⟨b, 0, none⟩)) [.int .i64 n, .int .i64 g] 29 (fun _ => by kernel_rfl) h ?_; intro k1 w h
  refine sq_new rfl (fun b => .pointer (some ⟨b, 0, none⟩)) [.int .i64 a0, .int .i64 a1, .int .i64 a2, .int .i64 a3, .int .i64 a4, .int .i64 a5] 180 (fun _ => by kernel_rfl) h ?_; intro k2 w h
  refine lnil ?_
  refine thn_n ?_
  refine c_seq ?_
  refine c_reg ?_
  refine sq_p (.pointer (some ⟨tb, 0, none⟩)) rfl (fun _ => by kernel_rfl) ?_
  refine sq_q rfl h (g_ld 0 [.int .i64 n, .int .i64 g] (.agg #[.int .i64 n, .int .i64 g]) (by kernel_rfl) 1 rfl) ?_
  refine sq_call #[.pointer (some ⟨tb, 0, none⟩), .agg #[.int .i64 n, .int .i64 g]] [2, 3] rfl (nodesAt_spec ad tb _ n g ps gs vl vg T Sl Sg hl hr ha) (fun _ => by kernel_rfl) h ?_; rintro v_ L_ w ⟨rfl, rfl⟩ h
  have h := h.pickE (M := [rNds l, rTab tb ps gs vl vg T Sl Sg, rEnv B ad [10], rCell true k2 [.int .i64 a0, .int .i64 a1, .int .i64 a2, .int .i64 a3, .int .i64 a4, .int .i64 a5] 180, rCell true k1 [.int .i64 n, .int .i64 g] 29]) [4, 0, 0, 0, 0] (by kernel_rfl)
  have h := h.ndOpen hk
  have h : Own w0 E [rCell true N.nb [.int .i64 N.kind, .int .i64 N.size, .int .i64 N.links, .int .i64 N.change, .int .i64 N.upn, .int .i64 N.upg, (ndPtr N.dq)] 273, datRes N.dq, rNdsO l k, rTab tb ps gs vl vg T Sl Sg, rEnv B ad [10], rCell true k2 [.int .i64 a0, .int .i64 a1, .int .i64 a2, .int .i64 a3, .int .i64 a4, .int .i64 a5] 180, rCell true k1 [.int .i64 n, .int .i64 g] 29] w := h
  refine sq_p (.tuple #[.pointer (some ⟨N.nb, 0, none⟩), .nilIface]) rfl (fun _ => by kernel_rfl) ?_
  refine sq_p (.pointer (some ⟨N.nb, 0, none⟩)) rfl (fun _ => by kernel_rfl) ?_
  refine sq_p (.nilIface) rfl (fun _ => by kernel_rfl) ?_
  refine sq_p (.pointer (some ⟨N.nb, 0, none⟩)) rfl (fun _ => by kernel_rfl) ?_
  refine sq_p (.nilIface) rfl (fun _ => by kernel_rfl) ?_
  refine lnil ?_
  refine thn_n ?_
  refine c_seq ?_
  refine c_reg ?_
  refine sq_p (.nilIface) rfl (fun _ => by kernel_rfl) ?_
  refine sq_p (.bool true) rfl (fun _ => by kernel_rfl) ?_
  refine lnil ?_
  refine thn_n ?_
  refine c_true (by kernel_rfl) ?_
  refine c_seq ?_
  refine c_reg ?_
  refine sq_p (.pointer (some ⟨N.nb, 0, none⟩)) rfl (fun _ => by kernel_rfl) ?_
  refine sq_p (.pointer (some ⟨N.nb, 0, none⟩)) rfl (fun _ => by kernel_rfl) ?_
  refine sq_p (.pointer (some ⟨N.nb, 0, none⟩)) rfl (fun _ => by kernel_rfl) ?_
  refine sq_p (.pointer (some ⟨N.nb, 3, none⟩)) rfl (fun _ => by kernel_rfl) ?_
  refine sq_q rfl h (g_ld 3 [.int .i64 N.change] (.int .i64 N.change) (by kernel_rfl) 0 rfl) ?_
  refine sq_p (.pointer (some ⟨k2, 3, none⟩)) rfl (fun _ => by kernel_rfl) ?_
  refine sq_st rfl 3 [.int .i64 N.change] [.int .i64 a0, .int .i64 a1, .int .i64 a2, .int .i64 N.change, .int .i64 a4, .int .i64 a5] h 5 rfl (by kernel_rfl) ?_; intro w h
  refine lnil ?_
  refine thn_n ?_
  refine c_reg ?_
  refine sq_p (.pointer (some ⟨N.nb, 0, none⟩)) rfl (fun _ => by kernel_rfl) ?_
  refine sq_q rfl h (g_ld 0 [.int .i64 a0, .int .i64 a1, .int .i64 a2, .int .i64 N.change, .int .i64 a4, .int .i64 a5] (.agg #[.int .i64 a0, .int .i64 a1, .int .i64 a2, .int .i64 N.change, .int .i64 a4, .int .i64 a5]) (by kernel_rfl) 5 rfl) ?_
  refine sq_p (.pointer (some ⟨N.nb, 0, none⟩)) rfl (fun _ => by kernel_rfl) ?_
  refine sq_p (.pointer (some ⟨N.nb, 0, none⟩)) rfl (fun _ => by kernel_rfl) ?_
  refine sq_st rfl 0 [.int .i64 a0, .int .i64 a1, .int .i64 a2, .int .i64 N.change, .int .i64 a4, .int .i64 a5] [.int .i64 a0, .int .i64 a1, .int .i64 a2, .int .i64 N.change, .int .i64 a4, .int .i64 a5, (ndPtr N.dq)] h 0 rfl (by kernel_rfl) ?_; intro w h
  refine lnil ?_
  have h := h.pickE (M := [rCell true N.nb [.int .i64 a0, .int .i64 a1, .int .i64 a2, .int .i64 N.change, .int .i64 a4, .int .i64 a5, (ndPtr N.dq)] 273, datRes N.dq, rNdsO l k, rTab tb ps gs vl vg T Sl Sg, rEnv B ad [10], rCell true k2 [.int .i64 a0, .int .i64 a1, .int .i64 a2, .int .i64 N.change, .int .i64 a4, .int .i64 a5] 180, rCell true k1 [.int .i64 n, .int .i64 g] 29]) [0, 0, 0, 0, 0, 0, 0] (by kernel_rfl)
  have h := h.ndClose { N with kind := a0, size := a1, links := a2, upn := a4, upg := a5 }
  refine ret_end [] [1, 0, 0] h (by kernel_rfl) (res_n) ?_
  exact rfl
set_option maxHeartbeats 1000000 in
theorem attrN_spec {B : Nat} (ad : Nat → Addr) (tb : Nat) (ps : List (Option Nat)) (gs : List Int) (vl vg : Value) (T : TypeId) (Sl Sg : Nat → Prop) (l : List (Option ND)) (hl : ps.length = gs.length) (hr : ∀ x ∈ gs, 0 ≤ x ∧ x ≤ 1000000) (n g : Int) (ha : atOf ps gs n g = none)  : Spec Tryd.prog 103 #[.pointer (some ⟨tb, 0, none⟩), .agg #[.int .i64 n, .int .i64 g]] [rTab tb ps gs vl vg T Sl Sg, rNds l, rEnv B ad [10]] (fun u L => u = .tuple #[.agg #[.int .i64 0, .int .i64 0, .int .i64 0, .int .i64 0, .int .i64 0, .int .i64 0], errV ad 10] ∧ L = [rTab tb ps gs vl vg T Sl Sg, rNds l, rEnv B ad [10]]) := by
  refine spec_of (#[.pointer (some ⟨tb, 0, none⟩), .agg #[.int .i64 n, .int .i64 g], undef, undef, undef, undef, undef, undef, undef, undef, undef, undef, undef, undef, undef, undef, undef, undef, undef, undef, undef, undef, undef, undef, undef, undef, undef, undef, undef, undef, undef, undef, undef, undef, undef]) Tryd.func103 rfl (by kernel_rfl) fun E w0 w h => ?_
  refine c_seq ?_
  refine c_reg ?_
  refine sq_new rfl (fun b => .pointer (some ⟨b, 0, none⟩)) [.int .i64 n, .int .i64 g] 29 (fun _ => by kernel_rfl) h ?_; intro k1 w h
  refine sq_new rfl (fun b => .pointer (some ⟨b, 0, none⟩)) [.int .i64 0, .int .i64 0, .int .i64 0, .int .i64 0, .int .i64 0, .int .i64 0] 180 (fun _ => by kernel_rfl) h ?_; intro k2 w h
  refine sq_p (.nilIface) rfl (fun _ => by kernel_rfl) ?_
  refine lnil ?_
  refine thn_n ?_
  refine c_seq ?_
  refine c_reg ?_
  refine sq_p (.pointer (some ⟨tb, 0, none⟩)) rfl (fun _ => by kernel_rfl) ?_
  refine sq_q rfl h (g_ld 0 [.int .i64 n, .int .i64 g] (.agg #[.int .i64 n, .int .i64 g]) (by kernel_rfl) 1 rfl) ?_
  refine sq_call #[.pointer (some ⟨tb, 0, none⟩), .agg #[.int .i64 n, .int .i64 g]] [2, 3] rfl (tabAtN_spec ad tb n g ps gs vl vg T Sl Sg hl hr ha) (fun _ => by kernel_rfl) h ?_; rintro v_ L_ w ⟨rfl, rfl⟩ h
  refine sq_p (.tuple #[.pointer none, errV ad 10]) rfl (fun _ => by kernel_rfl) ?_
  refine sq_p (.pointer none) rfl (fun _ => by kernel_rfl) ?_
  refine sq_p (errV ad 10) rfl (fun _ => by kernel_rfl) ?_
  refine sq_p (.pointer none) rfl (fun _ => by kernel_rfl) ?_
  refine sq_p (errV ad 10) rfl (fun _ => by kernel_rfl) ?_
  refine lnil ?_
  refine thn_n ?_
  refine c_seq ?_
  refine c_seq ?_
  refine c_reg ?_
  refine sq_p (errV ad 10) rfl (fun _ => by kernel_rfl) ?_
  refine sq_p (.bool true) rfl (fun _ => by kernel_rfl) ?_
  refine lnil ?_
  refine thn_n ?_
  refine c_true (by kernel_rfl) ?_
  refine c_seq ?_
  refine c_reg ?_
  refine sq_p (.agg #[.int .i64 0, .int .i64 0, .int .i64 0, .int .i64 0, .int .i64 0, .int .i64 0]) rfl (fun _ => by kernel_rfl) ?_
  refine sq_p (errV ad 10) rfl (fun _ => by kernel_rfl) ?_
  refine sq_st rfl 0 [.int .i64 0, .int .i64 0, .int .i64 0, .int .i64 0, .int .i64 0, .int .i64 0] [.int .i64 0, .int .i64 0, .int .i64 0, .int .i64 0, .int .i64 0, .int .i64 0] h 2 rfl (by kernel_rfl) ?_; intro w h
  refine sq_p (errV ad 10) rfl (fun _ => by kernel_rfl) ?_
  refine lnil ?_
  refine thn_n ?_
  refine c_ret ?_
  refine thn_r ?_
  refine ret_end [.agg #[.int .i64 0, .int .i64 0, .int .i64 0, .int .i64 0, .int .i64 0, .int .i64 0], errV ad 10] [0, 3, 0] h (by kernel_rfl) (res_c 0 [.int .i64 0, .int .i64 0, .int .i64 0, .int .i64 0, .int .i64 0, .int .i64 0] (.agg #[.int .i64 0, .int .i64 0, .int .i64 0, .int .i64 0, .int .i64 0, .int .i64 0]) 2 rfl (by kernel_rfl) (res_t (by kernel_rfl) res_n)) ?_
  exact ⟨rfl, rfl⟩
set_option maxHeartbeats 1000000 in
theorem size_spec (db : Nat) (z : Int) (mv : Value)  : Spec Tryd.prog 170 #[.pointer (some ⟨db, 0, none⟩)] [rCell false db [.int .i64 z, mv] 276] (fun u L => u = .int .i64 z ∧ L = [rCell false db [.int .i64 z, mv] 276]) := by
  refine spec_of (#[.pointer (some ⟨db, 0, none⟩), undef, undef, undef, undef, undef, undef]) Tryd.func170 rfl (by kernel_rfl) fun E w0 w h => ?_
  refine c_seq ?_
  refine c_reg ?_
  refine sq_p (.int .i64 0) rfl (fun _ => by kernel_rfl) ?_
  refine lnil ?_
  refine thn_n ?_
  refine c_seq ?_
  refine c_reg ?_
  refine sq_p (.pointer (some ⟨db, 0, none⟩)) rfl (fun _ => by kernel_rfl) ?_
  refine sq_p (.pointer (some ⟨db, 0, none⟩)) rfl (fun _ => by kernel_rfl) ?_
  refine sq_p (.pointer (some ⟨db, 0, none⟩)) rfl (fun _ => by kernel_rfl) ?_
  refine sq_q rfl h (g_ld 0 [.int .i64 z] (.int .i64 z) (by kernel_rfl) 0 rfl) ?_
  refine sq_p (.int .i64 z) rfl (fun _ => by kernel_rfl) ?_
  refine lnil ?_
  refine thn_n ?_
  refine c_ret ?_
  refine ret_end [.int .i64 z] [0] h (by kernel_rfl) (res_t (by kernel_rfl) res_n) ?_
  exact ⟨rfl, rfl⟩

theorem sizeD_spec (q : DQ) : Spec Tryd.prog 170 #[.pointer (some ⟨q.db, 0, none⟩)] [datRes (some q)] fun u L => u = .int .i64 q.size ∧ L = [datRes (some q)] := fun E w0 w ho => by
  have hf := ho.fact 0 rfl
  refine ((size_spec q.db q.size q.mv).reads (w := w) rfl ?_).mono ?_
  · intro r hr
    rw [List.mem_singleton.1 hr]
    exact (hf.1 _ (List.mem_cons_self ..)).2
  · rintro e w' ⟨u, L', ⟨rfl, _⟩, he, hc'⟩
    exact ⟨_, _, ⟨rfl, rfl⟩, he, ho.quiet hc'⟩

set_option maxHeartbeats 1000000 in
theorem attrD_spec {B : Nat} (ad : Nat → Addr) (tb : Nat) (ps : List (Option Nat)) (gs : List Int) (vl vg : Value) (T : TypeId) (Sl Sg : Nat → Prop) (l : List (Option ND)) (hl : ps.length = gs.length) (hr : ∀ x ∈ gs, 0 ≤ x ∧ x ≤ 1000000) (n g : Int) (k nb : Nat) (ki si li ch un ug : Int) (hk : l[k]? = some (some (⟨nb, ki, si, li, ch, un, ug, none⟩ : ND))) (ha : atOf ps gs n g = some nb)  : Spec Tryd.prog 103 #[.pointer (some ⟨tb, 0, none⟩), .agg #[.int .i64 n, .int .i64 g]] [rTab tb ps gs vl vg T Sl Sg, rNds l, rEnv B ad [10]] (fun u L => u = .tuple #[.agg #[.int .i64 ki, .int .i64 si, .int .i64 li, .int .i64 ch, .int .i64 un, .int .i64 ug], .nilIface] ∧ L = [rTab tb ps gs vl vg T Sl Sg, rNds l, rEnv B ad [10]]) := by
  refine spec_of (#[.pointer (some ⟨tb, 0, none⟩), .agg #[.int .i64 n, .int .i64 g], undef, undef, undef, undef, undef, undef, undef, undef, undef, undef, undef, undef, undef, undef, undef, undef, undef, undef, undef, undef, undef, undef, undef, undef, undef, undef, undef, undef, undef, undef, undef, undef, undef]) Tryd.func103 rfl (by kernel_rfl) fun E w0 w h => ?_
  refine c_seq ?_
  refine c_reg ?_
  refine sq_new rfl (fun b => .pointer (some ⟨b, 0, none⟩)) [.int .i64 n, .int .i64 g] 29 (fun _ => by kernel_rfl) h ?_; intro k1 w h
  refine sq_new rfl (fun b => .pointer (some ⟨b, 0, none⟩)) [.int .i64 0, .int .i64 0, .int .i64 0, .int .i64 0, .int .i64 0, .int .i64 0] 180 (fun _ => by kernel_rfl) h ?_; intro k2 w h
  refine sq_p (.nilIface) rfl (fun _ => by kernel_rfl) ?_
  refine lnil ?_
  refine thn_n ?_
  refine c_seq ?_
  refine c_reg ?_
  refine sq_p (.pointer (some ⟨tb, 0, none⟩)) rfl (fun _ => by kernel_rfl) ?_
  refine sq_q rfl h (g_ld 0 [.int .i64 n, .int .i64 g] (.agg #[.int .i64 n, .int .i64 g]) (by kernel_rfl) 1 rfl) ?_
  refine sq_call #[.pointer (some ⟨tb, 0, none⟩), .agg #[.int .i64 n, .int .i64 g]] [2, 3] rfl (nodesAt_spec ad tb nb n g ps gs vl vg T Sl Sg hl hr ha) (fun _ => by kernel_rfl) h ?_; rintro v_ L_ w ⟨rfl, rfl⟩ h
  have h := h.pickE (M := [rNds l, rTab tb ps gs vl vg T Sl Sg, rEnv B ad [10], rCell true k2 [.int .i64 0, .int .i64 0, .int .i64 0, .int .i64 0, .int .i64 0, .int .i64 0] 180, rCell true k1 [.int .i64 n, .int .i64 g] 29]) [4, 0, 0, 0, 0] (by kernel_rfl)
  have h := h.ndOpen hk
  have h : Own w0 E [rCell true nb [.int .i64 ki, .int .i64 si, .int .i64 li, .int .i64 ch, .int .i64 un, .int .i64 ug, .pointer none] 273, datRes none, rNdsO l k, rTab tb ps gs vl vg T Sl Sg, rEnv B ad [10], rCell true k2 [.int .i64 0, .int .i64 0, .int .i64 0, .int .i64 0, .int .i64 0, .int .i64 0] 180, rCell true k1 [.int .i64 n, .int .i64 g] 29] w := h
  refine sq_p (.tuple #[.pointer (some ⟨nb, 0, none⟩), .nilIface]) rfl (fun _ => by kernel_rfl) ?_
  refine sq_p (.pointer (some ⟨nb, 0, none⟩)) rfl (fun _ => by kernel_rfl) ?_
  refine sq_p (.nilIface) rfl (fun _ => by kernel_rfl) ?_
  refine sq_p (.pointer (some ⟨nb, 0, none⟩)) rfl (fun _ => by kernel_rfl) ?_
  refine sq_p (.nilIface) rfl (fun _ => by kernel_rfl) ?_
  refine lnil ?_
  refine thn_n ?_
  refine c_seq ?_
  refine c_seq ?_
  refine c_reg ?_
  refine sq_p (.nilIface) rfl (fun _ => by kernel_rfl) ?_
  refine sq_p (.bool false) rfl (fun _ => by kernel_rfl) ?_
  refine lnil ?_
  refine thn_n ?_
  refine c_false (by kernel_rfl) ?_
  refine c_skip ?_
  refine thn_n ?_
  refine c_seq ?_
  refine c_reg ?_
  refine sq_p (.pointer (some ⟨nb, 0, none⟩)) rfl (fun _ => by kernel_rfl) ?_
  refine sq_p (.pointer (some ⟨nb, 0, none⟩)) rfl (fun _ => by kernel_rfl) ?_
  refine sq_p (.pointer (some ⟨nb, 0, none⟩)) rfl (fun _ => by kernel_rfl) ?_
  refine sq_q rfl h (g_ld 0 [.int .i64 ki, .int .i64 si, .int .i64 li, .int .i64 ch, .int .i64 un, .int .i64 ug] (.agg #[.int .i64 ki, .int .i64 si, .int .i64 li, .int .i64 ch, .int .i64 un, .int .i64 ug]) (by kernel_rfl) 0 rfl) ?_
  refine sq_new rfl (fun b => .pointer (some ⟨b, 0, none⟩)) [.int .i64 0, .int .i64 0, .int .i64 0, .int .i64 0, .int .i64 0, .int .i64 0] 180 (fun _ => by kernel_rfl) h ?_; intro k3 w h
  refine sq_st rfl 0 [.int .i64 ki, .int .i64 si, .int .i64 li, .int .i64 ch, .int .i64 un, .int .i64 ug] [.int .i64 ki, .int .i64 si, .int .i64 li, .int .i64 ch, .int .i64 un, .int .i64 ug] h 0 rfl (by kernel_rfl) ?_; intro w h
  refine lnil ?_
  refine thn_n ?_
  refine c_seq ?_
  refine c_seq ?_
  refine c_reg ?_
  refine sq_p (.pointer (some ⟨nb, 0, none⟩)) rfl (fun _ => by kernel_rfl) ?_
  refine sq_p (.pointer (some ⟨nb, 0, none⟩)) rfl (fun _ => by kernel_rfl) ?_
  refine sq_p (.pointer (some ⟨nb, 6, none⟩)) rfl (fun _ => by kernel_rfl) ?_
  refine sq_q rfl h (g_ld 6 [.pointer none] (.pointer none) (by kernel_rfl) 1 rfl) ?_
  refine sq_p (.bool false) rfl (fun _ => by kernel_rfl) ?_
  refine lnil ?_
  refine thn_n ?_
  refine c_false (by kernel_rfl) ?_
  refine c_skip ?_
  refine thn_n ?_
  refine c_seq ?_
  refine c_reg ?_
  refine sq_q rfl h (g_ld 0 [.int .i64 ki, .int .i64 si, .int .i64 li, .int .i64 ch, .int .i64 un, .int .i64 ug] (.agg #[.int .i64 ki, .int .i64 si, .int .i64 li, .int .i64 ch, .int .i64 un, .int .i64 ug]) (by kernel_rfl) 0 rfl) ?_
  refine sq_st rfl 0 [.int .i64 ki, .int .i64 si, .int .i64 li, .int .i64 ch, .int .i64 un, .int .i64 ug] [.int .i64 ki, .int .i64 si, .int .i64 li, .int .i64 ch, .int .i64 un, .int .i64 ug] h 6 rfl (by kernel_rfl) ?_; intro w h
  refine sq_p (.nilIface) rfl (fun _ => by kernel_rfl) ?_
  refine lnil ?_
  refine thn_n ?_
  refine c_ret ?_
  have h := h.pickE (M := [rCell true nb [.int .i64 ki, .int .i64 si, .int .i64 li, .int .i64 ch, .int .i64 un, .int .i64 ug, .pointer none] 273, datRes none, rNdsO l k, rCell true k3 [.int .i64 ki, .int .i64 si, .int .i64 li, .int .i64 ch, .int .i64 un, .int .i64 ug] 180, rTab tb ps gs vl vg T Sl Sg, rEnv B ad [10], rCell true k2 [.int .i64 ki, .int .i64 si, .int .i64 li, .int .i64 ch, .int .i64 un, .int .i64 ug] 180, rCell true k1 [.int .i64 n, .int .i64 g] 29]) [1, 1, 1, 0, 0, 0, 0, 0] (by kernel_rfl)
  have h := h.ndBack (N := (⟨nb, ki, si, li, ch, un, ug, none⟩ : ND)) hk
  refine ret_end [.agg #[.int .i64 ki, .int .i64 si, .int .i64 li, .int .i64 ch, .int .i64 un, .int .i64 ug], .nilIface] [2, 0, 1] h (by kernel_rfl) (res_c 0 [.int .i64 ki, .int .i64 si, .int .i64 li, .int .i64 ch, .int .i64 un, .int .i64 ug] (.agg #[.int .i64 ki, .int .i64 si, .int .i64 li, .int .i64 ch, .int .i64 un, .int .i64 ug]) 4 rfl (by kernel_rfl) (res_t (by kernel_rfl) res_n)) ?_
  exact ⟨rfl, rfl⟩
set_option maxHeartbeats 1000000 in
theorem attrF_spec {B : Nat} (ad : Nat → Addr) (tb : Nat) (ps : List (Option Nat)) (gs : List Int) (vl vg : Value) (T : TypeId) (Sl Sg : Nat → Prop) (l : List (Option ND)) (hl : ps.length = gs.length) (hr : ∀ x ∈ gs, 0 ≤ x ∧ x ≤ 1000000) (n g : Int) (k nb : Nat) (ki si li ch un ug : Int) (q : DQ) (hk : l[k]? = some (some (⟨nb, ki, si, li, ch, un, ug, some q⟩ : ND))) (ha : atOf ps gs n g = some nb)  : Spec Tryd.prog 103 #[.pointer (some ⟨tb, 0, none⟩), .agg #[.int .i64 n, .int .i64 g]] [rTab tb ps gs vl vg T Sl Sg, rNds l, rEnv B ad [10]] (fun u L => u = .tuple #[.agg #[.int .i64 ki, .int .i64 q.size, .int .i64 li, .int .i64 ch, .int .i64 un, .int .i64 ug], .nilIface] ∧ L = [rTab tb ps gs vl vg T Sl Sg, rNds l, rEnv B ad [10]]) := by
  refine spec_of (#[.pointer (some ⟨tb, 0, none⟩), .agg #[.int .i64 n, .int .i64 g], undef, undef, undef, undef, undef, undef, undef, undef, undef, undef, undef, undef, undef, undef, undef, undef, undef, undef, undef, undef, undef, undef, undef, undef, undef, undef, undef, undef, undef, undef, undef, undef, undef]) Tryd.func103 rfl (by kernel_rfl) fun E w0 w h => ?_
  refine c_seq ?_
  refine c_reg ?_
  refine sq_new rfl (fun b => .pointer (some ⟨b, 0, none⟩)) [.int .i64 n, .int .i64 g] 29 (fun _ => by kernel_rfl) h ?_; intro k1 w h
  refine sq_new rfl (fun b => .pointer (some ⟨b, 0, none⟩)) [.int .i64 0, .int .i64 0, .int .i64 0, .int .i64 0, .int .i64 0, .int .i64 0] 180 (fun _ => by kernel_rfl) h ?_; intro k2 w h
  refine sq_p (.nilIface) rfl (fun _ => by kernel_rfl) ?_
  refine lnil ?_
  refine thn_n ?_
  refine c_seq ?_
  refine c_reg ?_
  refine sq_p (.pointer (some ⟨tb, 0, none⟩)) rfl (fun _ => by kernel_rfl) ?_
  refine sq_q rfl h (g_ld 0 [.int .i64 n, .int .i64 g] (.agg #[.int .i64 n, .int .i64 g]) (by kernel_rfl) 1 rfl) ?_
  refine sq_call #[.pointer (some ⟨tb, 0, none⟩), .agg #[.int .i64 n, .int .i64 g]] [2, 3] rfl (nodesAt_spec ad tb nb n g ps gs vl vg T Sl Sg hl hr ha) (fun _ => by kernel_rfl) h ?_; rintro v_ L_ w ⟨rfl, rfl⟩ h
  have h := h.pickE (M := [rNds l, rTab tb ps gs vl vg T Sl Sg, rEnv B ad [10], rCell true k2 [.int .i64 0, .int .i64 0, .int .i64 0, .int .i64 0, .int .i64 0, .int .i64 0] 180, rCell true k1 [.int .i64 n, .int .i64 g] 29]) [4, 0, 0, 0, 0] (by kernel_rfl)
  have h := h.ndOpen hk
  have h : Own w0 E [rCell true nb [.int .i64 ki, .int .i64 si, .int .i64 li, .int .i64 ch, .int .i64 un, .int .i64 ug, .pointer (some ⟨q.db, 0, none⟩)] 273, datRes (some q), rNdsO l k, rTab tb ps gs vl vg T Sl Sg, rEnv B ad [10], rCell true k2 [.int .i64 0, .int .i64 0, .int .i64 0, .int .i64 0, .int .i64 0, .int .i64 0] 180, rCell true k1 [.int .i64 n, .int .i64 g] 29] w := h
  refine sq_p (.tuple #[.pointer (some ⟨nb, 0, none⟩), .nilIface]) rfl (fun _ => by kernel_rfl) ?_
  refine sq_p (.pointer (some ⟨nb, 0, none⟩)) rfl (fun _ => by kernel_rfl) ?_
  refine sq_p (.nilIface) rfl (fun _ => by kernel_rfl) ?_
  refine sq_p (.pointer (some ⟨nb, 0, none⟩)) rfl (fun _ => by kernel_rfl) ?_
  refine sq_p (.nilIface) rfl (fun _ => by kernel_rfl) ?_
  refine lnil ?_
  refine thn_n ?_
  refine c_seq ?_
  refine c_seq ?_
  refine c_reg ?_
  refine sq_p (.nilIface) rfl (fun _ => by kernel_rfl) ?_
  refine sq_p (.bool false) rfl (fun _ => by kernel_rfl) ?_
  refine lnil ?_
  refine thn_n ?_
  refine c_false (by kernel_rfl) ?_
  refine c_skip ?_
  refine thn_n ?_
  refine c_seq ?_
  refine c_reg ?_
  refine sq_p (.pointer (some ⟨nb, 0, none⟩)) rfl (fun _ => by kernel_rfl) ?_
  refine sq_p (.pointer (some ⟨nb, 0, none⟩)) rfl (fun _ => by kernel_rfl) ?_
  refine sq_p (.pointer (some ⟨nb, 0, none⟩)) rfl (fun _ => by kernel_rfl) ?_
  refine sq_q rfl h (g_ld 0 [.int .i64 ki, .int .i64 si, .int .i64 li, .int .i64 ch, .int .i64 un, .int .i64 ug] (.agg #[.int .i64 ki, .int .i64 si, .int .i64 li, .int .i64 ch, .int .i64 un, .int .i64 ug]) (by kernel_rfl) 0 rfl) ?_
  refine sq_new rfl (fun b => .pointer (some ⟨b, 0, none⟩)) [.int .i64 0, .int .i64 0, .int .i64 0, .int .i64 0, .int .i64 0, .int .i64 0] 180 (fun _ => by kernel_rfl) h ?_; intro k3 w h
  refine sq_st rfl 0 [.int .i64 ki, .int .i64 si, .int .i64 li, .int .i64 ch, .int .i64 un, .int .i64 ug] [.int .i64 ki, .int .i64 si, .int .i64 li, .int .i64 ch, .int .i64 un, .int .i64 ug] h 0 rfl (by kernel_rfl) ?_; intro w h
  refine lnil ?_
  refine thn_n ?_
  refine c_seq ?_
  refine c_seq ?_
  refine c_reg ?_
  refine sq_p (.pointer (some ⟨nb, 0, none⟩)) rfl (fun _ => by kernel_rfl) ?_
  refine sq_p (.pointer (some ⟨nb, 0, none⟩)) rfl (fun _ => by kernel_rfl) ?_
  refine sq_p (.pointer (some ⟨nb, 6, none⟩)) rfl (fun _ => by kernel_rfl) ?_
  refine sq_q rfl h (g_ld 6 [.pointer (some ⟨q.db, 0, none⟩)] (.pointer (some ⟨q.db, 0, none⟩)) (by kernel_rfl) 1 rfl) ?_
  refine sq_p (.bool true) rfl (fun _ => by kernel_rfl) ?_
  refine lnil ?_
  refine thn_n ?_
  refine c_true (by kernel_rfl) ?_
  refine c_reg ?_
  refine sq_p (.pointer (some ⟨nb, 0, none⟩)) rfl (fun _ => by kernel_rfl) ?_
  refine sq_p (.pointer (some ⟨nb, 0, none⟩)) rfl (fun _ => by kernel_rfl) ?_
  refine sq_p (.pointer (some ⟨nb, 6, none⟩)) rfl (fun _ => by kernel_rfl) ?_
  refine sq_q rfl h (g_ld 6 [.pointer (some ⟨q.db, 0, none⟩)] (.pointer (some ⟨q.db, 0, none⟩)) (by kernel_rfl) 1 rfl) ?_
  refine sq_call #[.pointer (some ⟨q.db, 0, none⟩)] [2] rfl (sizeD_spec q) (fun _ => by kernel_rfl) h ?_; rintro v_ L_ w ⟨rfl, rfl⟩ h
  refine sq_p (.pointer (some ⟨k3, 1, none⟩)) rfl (fun _ => by kernel_rfl) ?_
  refine sq_st rfl 1 [.int .i64 q.size] [.int .i64 ki, .int .i64 q.size, .int .i64 li, .int .i64 ch, .int .i64 un, .int .i64 ug] h 1 rfl (by kernel_rfl) ?_; intro w h
  refine lnil ?_
  refine thn_n ?_
  refine c_seq ?_
  refine c_reg ?_
  refine sq_q rfl h (g_ld 0 [.int .i64 ki, .int .i64 q.size, .int .i64 li, .int .i64 ch, .int .i64 un, .int .i64 ug] (.agg #[.int .i64 ki, .int .i64 q.size, .int .i64 li, .int .i64 ch, .int .i64 un, .int .i64 ug]) (by kernel_rfl) 1 rfl) ?_
  refine sq_st rfl 0 [.int .i64 ki, .int .i64 q.size, .int .i64 li, .int .i64 ch, .int .i64 un, .int .i64 ug] [.int .i64 ki, .int .i64 q.size, .int .i64 li, .int .i64 ch, .int .i64 un, .int .i64 ug] h 6 rfl (by kernel_rfl) ?_; intro w h
  refine sq_p (.nilIface) rfl (fun _ => by kernel_rfl) ?_
  refine lnil ?_
  refine thn_n ?_
  refine c_ret ?_
  have h := h.pickE (M := [rCell true nb [.int .i64 ki, .int .i64 si, .int .i64 li, .int .i64 ch, .int .i64 un, .int .i64 ug, .pointer (some ⟨q.db, 0, none⟩)] 273, datRes (some q), rNdsO l k, rCell true k3 [.int .i64 ki, .int .i64 q.size, .int .i64 li, .int .i64 ch, .int .i64 un, .int .i64 ug] 180, rTab tb ps gs vl vg T Sl Sg, rEnv B ad [10], rCell true k2 [.int .i64 ki, .int .i64 q.size, .int .i64 li, .int .i64 ch, .int .i64 un, .int .i64 ug] 180, rCell true k1 [.int .i64 n, .int .i64 g] 29]) [2, 0, 1, 0, 0, 0, 0, 0] (by kernel_rfl)
  have h := h.ndBack (N := (⟨nb, ki, si, li, ch, un, ug, some q⟩ : ND)) hk
  refine ret_end [.agg #[.int .i64 ki, .int .i64 q.size, .int .i64 li, .int .i64 ch, .int .i64 un, .int .i64 ug], .nilIface] [2, 0, 1] h (by kernel_rfl) (res_c 0 [.int .i64 ki, .int .i64 q.size, .int .i64 li, .int .i64 ch, .int .i64 un, .int .i64 ug] (.agg #[.int .i64 ki, .int .i64 q.size, .int .i64 li, .int .i64 ch, .int .i64 un, .int .i64 ug]) 4 rfl (by kernel_rfl) (res_t (by kernel_rfl) res_n)) ?_
  exact ⟨rfl, rfl⟩

theorem attrY_spec {B : Nat} (ad : Nat → Addr) (tb : Nat) (ps : List (Option Nat)) (gs : List Int) (vl vg : Value) (T : TypeId) (Sl Sg : Nat → Prop) (l : List (Option ND)) (hl : ps.length = gs.length) (hr : ∀ x ∈ gs, 0 ≤ x ∧ x ≤ 1000000) (n g : Int) (k : Nat) (N : ND) (hlk : l[k]? = some (some N)) (ha : atOf ps gs n g = some N.nb) :
    Spec Tryd.prog 103 #[.pointer (some ⟨tb, 0, none⟩), .agg #[.int .i64 n, .int .i64 g]] [rTab tb ps gs vl vg T Sl Sg, rNds l, rEnv B ad [10]] fun u L => u = .tuple #[.agg #[.int .i64 N.kind, .int .i64 (ndSize N), .int .i64 N.links, .int .i64 N.change, .int .i64 N.upn, .int .i64 N.upg], .nilIface] ∧ L = [rTab tb ps gs vl vg T Sl Sg, rNds l, rEnv B ad [10]] := by
  obtain ⟨nb, ki, si, li, ch, un, ug, dq⟩ := N
  cases dq with
  | none => exact attrD_spec ad tb ps gs vl vg T Sl Sg l hl hr n g k nb ki si li ch un ug hlk ha
  | some q => exact attrF_spec ad tb ps gs vl vg T Sl Sg l hl hr n g k nb ki si li ch un ug q hlk ha

set_option maxHeartbeats 1000000 in
theorem dirY_spec {B : Nat} (ad : Nat → Addr) (b most tb dm pm : Nat) (ps : List (Option Nat)) (gs : List Int) (vl vg : Value) (T : TypeId) (Sl Sg : Nat → Prop) (l : List (Option ND)) (ds : List DN) (pn : List ((Int × Int) × Int)) (hl : ps.length = gs.length) (hr : ∀ x ∈ gs, 0 ≤ x ∧ x ≤ 1000000) (n g : Int) (k : Nat) (N : ND) (hlk : l[k]? = some (some N)) (ha : atOf ps gs n g = some N.nb) (j : Nat) (d : DN) (hj : ds[j]? = some d) (hdh : d.h = (n, g)) (hdd : (ds.map (·.h)).Nodup)  : Spec Tryd.prog 166 #[.pointer (some ⟨b, 0, none⟩), .agg #[.int .i64 n, .int .i64 g]] [rCell true b [.pointer (some ⟨tb, 0, none⟩), .int .i64 (most : Int), .int .i64 0, .int .i64 0, .map (some dm), .map (some pm)] 175, rTab tb ps gs vl vg T Sl Sg, rNds l, rMap true dm hk (ds.map dnKV), rEnv B ad [10]] (fun u L => u = .tuple #[.map (some d.mb), .nilIface] ∧ L = [rCell true b [.pointer (some ⟨tb, 0, none⟩), .int .i64 (most : Int), .int .i64 0, .int .i64 0, .map (some dm), .map (some pm)] 175, rTab tb ps gs vl vg T Sl Sg, rNds l, rMap true dm hk (ds.map dnKV), rEnv B ad [10]]) := by
  refine spec_of (#[.pointer (some ⟨b, 0, none⟩), .agg #[.int .i64 n, .int .i64 g], undef, undef, undef, undef, undef, undef, undef, undef, undef, undef, undef, undef, undef, undef, undef, undef, undef, undef, undef, undef, undef, undef, undef, undef, undef, undef, undef, undef, undef, undef, undef, undef, undef]) Tryd.func166 rfl (by kernel_rfl) fun E w0 w h => ?_
  refine c_seq ?_
  refine c_reg ?_
  refine sq_new rfl (fun b => .pointer (some ⟨b, 0, none⟩)) [.int .i64 n, .int .i64 g] 29 (fun _ => by kernel_rfl) h ?_; intro k1 w h
  refine sq_p (.map none) rfl (fun _ => by kernel_rfl) ?_
  refine sq_p (.nilIface) rfl (fun _ => by kernel_rfl) ?_
  refine lnil ?_
  refine thn_n ?_
  refine c_seq ?_
  refine c_seq ?_
  refine d_start 12 [0, 0] (by kernel_rfl) h fun w h => ?_
  refine d_take 0 528 [0, 0] rfl (v := .pointer (some ⟨b, 0, none⟩)) (by kernel_rfl) (qp_thn (qp_thn qp_body)) (yq (by kernel_rfl) (g_pure (v := .pointer (some ⟨b, 0, none⟩)) fun _ => by kernel_rfl)) h (by kernel_rfl) ?_
  refine d_take 1 529 [0, 0] rfl (v := .pointer (some ⟨b, 0, none⟩)) (by kernel_rfl) (qp_thn (qp_thn qp_body)) (yq (by kernel_rfl) (g_pure (v := .pointer (some ⟨b, 0, none⟩)) fun _ => by kernel_rfl)) h (by kernel_rfl) ?_
  refine d_take 2 531 [0, 0] rfl (v := .pointer (some ⟨b, 0, none⟩)) (by kernel_rfl) (qp_thn (qp_thn qp_body)) (yq (by kernel_rfl) (g_pure (v := .pointer (some ⟨b, 0, none⟩)) fun _ => by kernel_rfl)) h (by kernel_rfl) ?_
  refine d_take 3 535 [0, 0] rfl (v := .pointer (some ⟨tb, 0, none⟩)) (by kernel_rfl) (qp_thn (qp_thn qp_body)) (yq (by kernel_rfl) (g_ld 0 [.pointer (some ⟨tb, 0, none⟩)] (.pointer (some ⟨tb, 0, none⟩)) (by kernel_rfl) 1 rfl)) h (by kernel_rfl) ?_
  refine d_take 4 527 [0, 0] rfl (v := .agg #[.int .i64 n, .int .i64 g]) (by kernel_rfl) (qp_thn (qp_thn qp_body)) (yq (by kernel_rfl) (g_ld 0 [.int .i64 n, .int .i64 g] (.agg #[.int .i64 n, .int .i64 g]) (by kernel_rfl) 0 rfl)) h (by kernel_rfl) ?_
  refine d_ready [5, 9] (by kernel_rfl) rfl ?_
  refine ad_call #[.pointer (some ⟨tb, 0, none⟩), .agg #[.int .i64 n, .int .i64 g]] [2, 2, 3] [3, 3] rfl (by kernel_rfl) (attrY_spec ad tb ps gs vl vg T Sl Sg l hl hr n g k N hlk ha) (fun _ => by kernel_rfl) h ?_ ?_
  · skip
    rintro v_ L_ w ⟨rfl, rfl⟩ h
    refine ⟨by kernel_rfl, ?_⟩
    refine d_take 6 575 [3, 3] rfl (v := .tuple #[.agg #[.int .i64 N.kind, .int .i64 (ndSize N), .int .i64 N.links, .int .i64 N.change, .int .i64 N.upn, .int .i64 N.upg], .nilIface]) (by kernel_rfl) (qp_thn (qp_thn qp_body)) (yq (by kernel_rfl) (g_pure (v := .tuple #[.agg #[.int .i64 N.kind, .int .i64 (ndSize N), .int .i64 N.links, .int .i64 N.change, .int .i64 N.upn, .int .i64 N.upg], .nilIface]) fun _ => by kernel_rfl)) h (by kernel_rfl) ?_
    refine d_take 7 895 [3, 3] rfl (v := .agg #[.int .i64 N.kind, .int .i64 (ndSize N), .int .i64 N.links, .int .i64 N.change, .int .i64 N.upn, .int .i64 N.upg]) (by kernel_rfl) (qp_thn (qp_thn qp_body)) (yq (by kernel_rfl) (g_pure (v := .agg #[.int .i64 N.kind, .int .i64 (ndSize N), .int .i64 N.links, .int .i64 N.change, .int .i64 N.upn, .int .i64 N.upg]) fun _ => by kernel_rfl)) h (by kernel_rfl) ?_
    refine d_take 8 1791 [3, 3] rfl (v := .nilIface) (by kernel_rfl) (qp_thn (qp_thn qp_body)) (yq (by kernel_rfl) (g_pure (v := .nilIface) fun _ => by kernel_rfl)) h (by kernel_rfl) ?_
    refine d_ready [9] (by kernel_rfl) rfl ?_
    refine ad_new [4, 4] rfl (by kernel_rfl) (fun b => .pointer (some ⟨b, 0, none⟩)) [.int .i64 0, .int .i64 0, .int .i64 0, .int .i64 0, .int .i64 0, .int .i64 0] 180 (fun _ => by kernel_rfl) h ?_ ?_
    · skip
      intro k2 w h; refine ⟨by kernel_rfl, ?_⟩
      refine d_ready [10] (by kernel_rfl) rfl ?_
      refine ad_st [4, 4] rfl (by kernel_rfl) 0 [.int .i64 N.kind, .int .i64 (ndSize N), .int .i64 N.links, .int .i64 N.change, .int .i64 N.upn, .int .i64 N.upg] [.int .i64 N.kind, .int .i64 (ndSize N), .int .i64 N.links, .int .i64 N.change, .int .i64 N.upn, .int .i64 N.upg] h 0 rfl (by kernel_rfl) ?_ ?_
      · skip
        intro w h; refine ⟨by kernel_rfl, ?_⟩
        refine d_take 11 2047 [4, 4] rfl (v := .nilIface) (by kernel_rfl) (qp_thn (qp_thn qp_body)) (yq (by kernel_rfl) (g_pure (v := .nilIface) fun _ => by kernel_rfl)) h (by kernel_rfl) ?_
        refine d_done (by kernel_rfl) ?_
        refine thn_n ?_
        refine c_seq ?_
        refine c_reg ?_
        refine sq_p (.nilIface) rfl (fun _ => by kernel_rfl) ?_
        refine sq_p (.bool false) rfl (fun _ => by kernel_rfl) ?_
        refine lnil ?_
        refine thn_n ?_
        refine c_false (by kernel_rfl) ?_
        refine c_skip ?_
        refine thn_n ?_
        refine c_seq ?_
        refine d_start 11 [4, 4, 4] (by kernel_rfl) h fun w h => ?_
        refine d_take 0 16 [4, 4, 4] rfl (v := .pointer (some ⟨b, 0, none⟩)) (by kernel_rfl) (qp_thn qp_body) (yq (by kernel_rfl) (g_pure (v := .pointer (some ⟨b, 0, none⟩)) fun _ => by kernel_rfl)) h (by kernel_rfl) ?_
        refine d_take 1 17 [4, 4, 4] rfl (v := .pointer (some ⟨b, 0, none⟩)) (by kernel_rfl) (qp_thn qp_body) (yq (by kernel_rfl) (g_pure (v := .pointer (some ⟨b, 0, none⟩)) fun _ => by kernel_rfl)) h (by kernel_rfl) ?_
        refine d_take 2 19 [4, 4, 4] rfl (v := .pointer (some ⟨b, 4, none⟩)) (by kernel_rfl) (qp_thn qp_body) (yq (by kernel_rfl) (g_pure (v := .pointer (some ⟨b, 4, none⟩)) fun _ => by kernel_rfl)) h (by kernel_rfl) ?_
        refine d_take 3 23 [4, 4, 4] rfl (v := .map (some dm)) (by kernel_rfl) (qp_thn qp_body) (yq (by kernel_rfl) (g_ld 4 [.map (some dm)] (.map (some dm)) (by kernel_rfl) 1 rfl)) h (by kernel_rfl) ?_
        refine d_take 4 15 [4, 4, 4] rfl (v := .agg #[.int .i64 n, .int .i64 g]) (by kernel_rfl) (qp_thn qp_body) (yq (by kernel_rfl) (g_ld 0 [.int .i64 n, .int .i64 g] (.agg #[.int .i64 n, .int .i64 g]) (by kernel_rfl) 0 rfl)) h (by kernel_rfl) ?_
        refine d_take 5 31 [4, 4, 4] rfl (v := .tuple #[.map (some d.mb), .bool true]) (by kernel_rfl) (qp_thn qp_body) (yq (by kernel_rfl) (g_eq (v' := .tuple #[.map (some d.mb), .bool true]) (g_look (K := 29) (E := 177) (z := (.map none)) (kv := (ds.map dnKV)) (ok := true) keyHk (n, g) (by kernel_rfl) (fun _ => by kernel_rfl) 2 rfl) (by rw [show aget (ds.map dnKV) (n, g) = _ from hdh ▸ dir_get hdd hj]; rfl))) h (by kernel_rfl) ?_
        refine d_take 6 63 [4, 4, 4] rfl (v := .tuple #[.map (some d.mb), .bool true]) (by kernel_rfl) (qp_thn qp_body) (yq (by kernel_rfl) (g_pure (v := .tuple #[.map (some d.mb), .bool true]) fun _ => by kernel_rfl)) h (by kernel_rfl) ?_
        refine d_take 7 383 [4, 4, 4] rfl (v := .map (some d.mb)) (by kernel_rfl) (qp_thn qp_body) (yq (by kernel_rfl) (g_pure (v := .map (some d.mb)) fun _ => by kernel_rfl)) h (by kernel_rfl) ?_
        refine d_take 8 767 [4, 4, 4] rfl (v := .bool true) (by kernel_rfl) (qp_thn qp_body) (yq (by kernel_rfl) (g_pure (v := .bool true) fun _ => by kernel_rfl)) h (by kernel_rfl) ?_
        refine d_take 9 511 [4, 4, 4] rfl (v := .map (some d.mb)) (by kernel_rfl) (qp_thn qp_body) (yq (by kernel_rfl) (g_pure (v := .map (some d.mb)) fun _ => by kernel_rfl)) h (by kernel_rfl) ?_
        refine d_take 10 1023 [4, 4, 4] rfl (v := .bool true) (by kernel_rfl) (qp_thn qp_body) (yq (by kernel_rfl) (g_pure (v := .bool true) fun _ => by kernel_rfl)) h (by kernel_rfl) ?_
        refine d_done (by kernel_rfl) ?_
        refine thn_n ?_
        refine c_seq ?_
        refine c_seq ?_
        refine c_reg ?_
        refine sq_p (.bool true) rfl (fun _ => by kernel_rfl) ?_
        refine sq_p (.bool false) rfl (fun _ => by kernel_rfl) ?_
        refine lnil ?_
        refine thn_n ?_
        refine c_false (by kernel_rfl) ?_
        refine c_skip ?_
        refine thn_n ?_
        refine c_seq ?_
        refine c_reg ?_
        refine sq_p (.map (some d.mb)) rfl (fun _ => by kernel_rfl) ?_
        refine sq_p (.map (some d.mb)) rfl (fun _ => by kernel_rfl) ?_
        refine sq_p (.nilIface) rfl (fun _ => by kernel_rfl) ?_
        refine lnil ?_
        refine thn_n ?_
        refine c_ret ?_
        refine ret_end [.map (some d.mb), .nilIface] [5, 1, 1, 3, 1] h (by kernel_rfl) (res_t (by kernel_rfl) (res_t (by kernel_rfl) res_n)) ?_
        exact ⟨rfl, rfl⟩
      exact ad_nil
    exact ad_nil
  refine ad_new [1, 1] rfl (by kernel_rfl) (fun b => .pointer (some ⟨b, 0, none⟩)) [.int .i64 0, .int .i64 0, .int .i64 0, .int .i64 0, .int .i64 0, .int .i64 0] 180 (fun _ => by kernel_rfl) h ?_ ?_
  · skip
    intro k3 w h; refine ⟨by kernel_rfl, ?_⟩
    refine d_ready [5] (by kernel_rfl) rfl ?_
    refine ad_call #[.pointer (some ⟨tb, 0, none⟩), .agg #[.int .i64 n, .int .i64 g]] [3, 3, 4] [4, 4] rfl (by kernel_rfl) (attrY_spec ad tb ps gs vl vg T Sl Sg l hl hr n g k N hlk ha) (fun _ => by kernel_rfl) h ?_ ?_
    · skip
      rintro v_ L_ w ⟨rfl, rfl⟩ h
      refine ⟨by kernel_rfl, ?_⟩
      refine d_take 6 575 [4, 4] rfl (v := .tuple #[.agg #[.int .i64 N.kind, .int .i64 (ndSize N), .int .i64 N.links, .int .i64 N.change, .int .i64 N.upn, .int .i64 N.upg], .nilIface]) (by kernel_rfl) (qp_thn (qp_thn qp_body)) (yq (by kernel_rfl) (g_pure (v := .tuple #[.agg #[.int .i64 N.kind, .int .i64 (ndSize N), .int .i64 N.links, .int .i64 N.change, .int .i64 N.upn, .int .i64 N.upg], .nilIface]) fun _ => by kernel_rfl)) h (by kernel_rfl) ?_
      refine d_take 7 895 [4, 4] rfl (v := .agg #[.int .i64 N.kind, .int .i64 (ndSize N), .int .i64 N.links, .int .i64 N.change, .int .i64 N.upn, .int .i64 N.upg]) (by kernel_rfl) (qp_thn (qp_thn qp_body)) (yq (by kernel_rfl) (g_pure (v := .agg #[.int .i64 N.kind, .int .i64 (ndSize N), .int .i64 N.links, .int .i64 N.change, .int .i64 N.upn, .int .i64 N.upg]) fun _ => by kernel_rfl)) h (by kernel_rfl) ?_
      refine d_take 8 1791 [4, 4] rfl (v := .nilIface) (by kernel_rfl) (qp_thn (qp_thn qp_body)) (yq (by kernel_rfl) (g_pure (v := .nilIface) fun _ => by kernel_rfl)) h (by kernel_rfl) ?_
      refine d_ready [10] (by kernel_rfl) rfl ?_
      refine ad_st [4, 4] rfl (by kernel_rfl) 0 [.int .i64 N.kind, .int .i64 (ndSize N), .int .i64 N.links, .int .i64 N.change, .int .i64 N.upn, .int .i64 N.upg] [.int .i64 N.kind, .int .i64 (ndSize N), .int .i64 N.links, .int .i64 N.change, .int .i64 N.upn, .int .i64 N.upg] h 3 rfl (by kernel_rfl) ?_ ?_
      · skip
        intro w h; refine ⟨by kernel_rfl, ?_⟩
        refine d_take 11 2047 [4, 4] rfl (v := .nilIface) (by kernel_rfl) (qp_thn (qp_thn qp_body)) (yq (by kernel_rfl) (g_pure (v := .nilIface) fun _ => by kernel_rfl)) h (by kernel_rfl) ?_
        refine d_done (by kernel_rfl) ?_
        refine thn_n ?_
        refine c_seq ?_
        refine c_reg ?_
        refine sq_p (.nilIface) rfl (fun _ => by kernel_rfl) ?_
        refine sq_p (.bool false) rfl (fun _ => by kernel_rfl) ?_
        refine lnil ?_
        refine thn_n ?_
        refine c_false (by kernel_rfl) ?_
        refine c_skip ?_
        refine thn_n ?_
        refine c_seq ?_
        refine d_start 11 [4, 4, 4] (by kernel_rfl) h fun w h => ?_
        refine d_take 0 16 [4, 4, 4] rfl (v := .pointer (some ⟨b, 0, none⟩)) (by kernel_rfl) (qp_thn qp_body) (yq (by kernel_rfl) (g_pure (v := .pointer (some ⟨b, 0, none⟩)) fun _ => by kernel_rfl)) h (by kernel_rfl) ?_
        refine d_take 1 17 [4, 4, 4] rfl (v := .pointer (some ⟨b, 0, none⟩)) (by kernel_rfl) (qp_thn qp_body) (yq (by kernel_rfl) (g_pure (v := .pointer (some ⟨b, 0, none⟩)) fun _ => by kernel_rfl)) h (by kernel_rfl) ?_
        refine d_take 2 19 [4, 4, 4] rfl (v := .pointer (some ⟨b, 4, none⟩)) (by kernel_rfl) (qp_thn qp_body) (yq (by kernel_rfl) (g_pure (v := .pointer (some ⟨b, 4, none⟩)) fun _ => by kernel_rfl)) h (by kernel_rfl) ?_
        refine d_take 3 23 [4, 4, 4] rfl (v := .map (some dm)) (by kernel_rfl) (qp_thn qp_body) (yq (by kernel_rfl) (g_ld 4 [.map (some dm)] (.map (some dm)) (by kernel_rfl) 1 rfl)) h (by kernel_rfl) ?_
        refine d_take 4 15 [4, 4, 4] rfl (v := .agg #[.int .i64 n, .int .i64 g]) (by kernel_rfl) (qp_thn qp_body) (yq (by kernel_rfl) (g_ld 0 [.int .i64 n, .int .i64 g] (.agg #[.int .i64 n, .int .i64 g]) (by kernel_rfl) 0 rfl)) h (by kernel_rfl) ?_
        refine d_take 5 31 [4, 4, 4] rfl (v := .tuple #[.map (some d.mb), .bool true]) (by kernel_rfl) (qp_thn qp_body) (yq (by kernel_rfl) (g_eq (v' := .tuple #[.map (some d.mb), .bool true]) (g_look (K := 29) (E := 177) (z := (.map none)) (kv := (ds.map dnKV)) (ok := true) keyHk (n, g) (by kernel_rfl) (fun _ => by kernel_rfl) 2 rfl) (by rw [show aget (ds.map dnKV) (n, g) = _ from hdh ▸ dir_get hdd hj]; rfl))) h (by kernel_rfl) ?_
        refine d_take 6 63 [4, 4, 4] rfl (v := .tuple #[.map (some d.mb), .bool true]) (by kernel_rfl) (qp_thn qp_body) (yq (by kernel_rfl) (g_pure (v := .tuple #[.map (some d.mb), .bool true]) fun _ => by kernel_rfl)) h (by kernel_rfl) ?_
        refine d_take 7 383 [4, 4, 4] rfl (v := .map (some d.mb)) (by kernel_rfl) (qp_thn qp_body) (yq (by kernel_rfl) (g_pure (v := .map (some d.mb)) fun _ => by kernel_rfl)) h (by kernel_rfl) ?_
        refine d_take 8 767 [4, 4, 4] rfl (v := .bool true) (by kernel_rfl) (qp_thn qp_body) (yq (by kernel_rfl) (g_pure (v := .bool true) fun _ => by kernel_rfl)) h (by kernel_rfl) ?_
        refine d_take 9 511 [4, 4, 4] rfl (v := .map (some d.mb)) (by kernel_rfl) (qp_thn qp_body) (yq (by kernel_rfl) (g_pure (v := .map (some d.mb)) fun _ => by kernel_rfl)) h (by kernel_rfl) ?_
        refine d_take 10 1023 [4, 4, 4] rfl (v := .bool true) (by kernel_rfl) (qp_thn qp_body) (yq (by kernel_rfl) (g_pure (v := .bool true) fun _ => by kernel_rfl)) h (by kernel_rfl) ?_
        refine d_done (by kernel_rfl) ?_
        refine thn_n ?_
        refine c_seq ?_
        refine c_seq ?_
        refine c_reg ?_
        refine sq_p (.bool true) rfl (fun _ => by kernel_rfl) ?_
        refine sq_p (.bool false) rfl (fun _ => by kernel_rfl) ?_
        refine lnil ?_
        refine thn_n ?_
        refine c_false (by kernel_rfl) ?_
        refine c_skip ?_
        refine thn_n ?_
        refine c_seq ?_
        refine c_reg ?_
        refine sq_p (.map (some d.mb)) rfl (fun _ => by kernel_rfl) ?_
        refine sq_p (.map (some d.mb)) rfl (fun _ => by kernel_rfl) ?_
        refine sq_p (.nilIface) rfl (fun _ => by kernel_rfl) ?_
        refine lnil ?_
        refine thn_n ?_
        refine c_ret ?_
        refine ret_end [.map (some d.mb), .nilIface] [5, 0, 0, 3, 0] h (by kernel_rfl) (res_t (by kernel_rfl) (res_t (by kernel_rfl) res_n)) ?_
        exact ⟨rfl, rfl⟩
      exact ad_nil
    exact ad_nil
  exact ad_nil

theorem checkY_spec {B : Nat} (ad : Nat → Addr) (s : ByteArray) (hs : s.size ≤ 9223372036854775807) (hok : nameOk s) : Spec Tryd.prog 104 #[.string s] [rEnv B ad [4]] fun u L => u = .nilIface ∧ L = [rEnv B ad [4]] :=
  (check_two ad s hs).mono fun u L h => by
    rcases h with ⟨_, h1, h2⟩ | ⟨h0, _⟩
    · exact ⟨h1, h2⟩
    · exact absurd hok h0

set_option maxHeartbeats 1000000 in
theorem namedY_spec {B : Nat} (ad : Nat → Addr) (b most tb dm pm : Nat) (ps : List (Option Nat)) (gs : List Int) (vl vg : Value) (T : TypeId) (Sl Sg : Nat → Prop) (l : List (Option ND)) (ds : List DN) (pn : List ((Int × Int) × Int)) (hl : ps.length = gs.length) (hr : ∀ x ∈ gs, 0 ≤ x ∧ x ≤ 1000000) (n g : Int) (k : Nat) (N : ND) (hlk : l[k]? = some (some N)) (ha : atOf ps gs n g = some N.nb) (j : Nat) (d : DN) (hj : ds[j]? = some d) (hdh : d.h = (n, g)) (hdd : (ds.map (·.h)).Nodup) (s : ByteArray) (hs : s.size ≤ 9223372036854775807) (hok : nameOk s)  : Spec Tryd.prog 98 #[.pointer (some ⟨b, 0, none⟩), .agg #[.int .i64 n, .int .i64 g], .string s] [rCell true b [.pointer (some ⟨tb, 0, none⟩), .int .i64 (most : Int), .int .i64 0, .int .i64 0, .map (some dm), .map (some pm)] 175, rTab tb ps gs vl vg T Sl Sg, rNds l, rMap true dm hk (ds.map dnKV), rEnv B ad [10], rEnv B ad [4]] (fun u L => u = .tuple #[.map (some d.mb), .nilIface] ∧ L = [rCell true b [.pointer (some ⟨tb, 0, none⟩), .int .i64 (most : Int), .int .i64 0, .int .i64 0, .map (some dm), .map (some pm)] 175, rTab tb ps gs vl vg T Sl Sg, rNds l, rMap true dm hk (ds.map dnKV), rEnv B ad [10], rEnv B ad [4]]) := by
  refine spec_of (#[.pointer (some ⟨b, 0, none⟩), .agg #[.int .i64 n, .int .i64 g], .string s, undef, undef, undef, undef, undef, undef, undef, undef, undef, undef, undef, undef, undef, undef, undef, undef, undef, undef, undef]) Tryd.func98 rfl (by kernel_rfl) fun E w0 w h => ?_
  refine c_seq ?_
  refine c_reg ?_
  refine sq_new rfl (fun b => .pointer (some ⟨b, 0, none⟩)) [.int .i64 n, .int .i64 g] 29 (fun _ => by kernel_rfl) h ?_; intro k1 w h
  refine sq_p (.map none) rfl (fun _ => by kernel_rfl) ?_
  refine sq_p (.nilIface) rfl (fun _ => by kernel_rfl) ?_
  refine lnil ?_
  refine thn_n ?_
  refine c_seq ?_
  refine c_reg ?_
  refine sq_p (.pointer (some ⟨b, 0, none⟩)) rfl (fun _ => by kernel_rfl) ?_
  refine sq_q rfl h (g_ld 0 [.int .i64 n, .int .i64 g] (.agg #[.int .i64 n, .int .i64 g]) (by kernel_rfl) 0 rfl) ?_
  refine sq_call #[.pointer (some ⟨b, 0, none⟩), .agg #[.int .i64 n, .int .i64 g]] [1, 1, 1, 1, 1] rfl (dirY_spec ad b most tb dm pm ps gs vl vg T Sl Sg l ds pn hl hr n g k N hlk ha j d hj hdh hdd) (fun _ => by kernel_rfl) h ?_; rintro v_ L_ w ⟨rfl, rfl⟩ h
  refine sq_p (.tuple #[.map (some d.mb), .nilIface]) rfl (fun _ => by kernel_rfl) ?_
  refine sq_p (.map (some d.mb)) rfl (fun _ => by kernel_rfl) ?_
  refine sq_p (.nilIface) rfl (fun _ => by kernel_rfl) ?_
  refine sq_p (.map (some d.mb)) rfl (fun _ => by kernel_rfl) ?_
  refine sq_p (.nilIface) rfl (fun _ => by kernel_rfl) ?_
  refine lnil ?_
  refine thn_n ?_
  refine c_seq ?_
  refine c_seq ?_
  refine c_reg ?_
  refine sq_p (.nilIface) rfl (fun _ => by kernel_rfl) ?_
  refine sq_p (.bool false) rfl (fun _ => by kernel_rfl) ?_
  refine lnil ?_
  refine thn_n ?_
  refine c_false (by kernel_rfl) ?_
  refine c_skip ?_
  refine thn_n ?_
  refine c_seq ?_
  refine c_reg ?_
  refine sq_p (.map (some d.mb)) rfl (fun _ => by kernel_rfl) ?_
  refine sq_p (.string s) rfl (fun _ => by kernel_rfl) ?_
  refine sq_call #[.string s] [6] rfl (checkY_spec ad s hs hok) (fun _ => by kernel_rfl) h ?_; rintro v_ L_ w ⟨rfl, rfl⟩ h
  refine sq_p (.map (some d.mb)) rfl (fun _ => by kernel_rfl) ?_
  refine sq_p (.nilIface) rfl (fun _ => by kernel_rfl) ?_
  refine lnil ?_
  refine thn_n ?_
  refine c_ret ?_
  refine ret_end [.map (some d.mb), .nilIface] [1, 1, 1, 1, 1, 0] h (by kernel_rfl) (res_t (by kernel_rfl) (res_t (by kernel_rfl) res_n)) ?_
  exact ⟨rfl, rfl⟩
end Go.Proofs.YtofhnglgebllbaaDoor
