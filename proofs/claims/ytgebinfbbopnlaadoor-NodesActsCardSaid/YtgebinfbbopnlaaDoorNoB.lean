/- nodes: contracts by what is owned (printed by walk.py). -/
import Derived.Test.YtgebinfbbopnlaaDoorNoA
namespace Go.Proofs.YtgebinfbbopnlaaDoor
open Go.RowKit
set_option linter.unusedVariables false
set_option linter.unusedSimpArgs false
set_option linter.unnecessarySimpa false
set_option maxRecDepth 100000

def idC (n : Int) : List Value := [.int .i64 n]
theorem idC_len (n : Int) : (idC n).length = 1 := rfl
def shNda : Sh := .and .str (.and (.and .int (.and .int .unit)) (.and .int (.and .int .unit)))
abbrev Nda := ByteArray × (Int × Int × Unit) × Int × Int × Unit
def ndaC (x : Nda) : List Value := [.string x.1, .int .i64 x.2.1.1, .int .i64 x.2.1.2.1, .int .i64 x.2.2.1, .int .i64 x.2.2.2.1]
theorem ndaC_len (x : Nda) : (ndaC x).length = 5 := rfl
theorem coded1_spec {B : Nat} (ad : Nat → Addr) (c : Nat) (code : Int) (hc : c ≤ 15) (hcode : (c : Int) = code) : Spec Tryd.prog 7 #[errV ad c, .int .i64 code] [rEnvA B ad] fun u L => u = .bool true ∧ L = [rEnvA B ad] := fun E w0 w ho =>
  (coded1_ok ad c code w (ho.fact 0 rfl) hc hcode).mono fun e w' ⟨he, hc'⟩ => ⟨_, _, ⟨rfl, rfl⟩, he, ho.quiet hc'⟩
def Here (here : List Spot) (n g : Int) (m : Nat) (s : Spot) : Prop := here[m]? = some s ∧ s.n = n ∧ s.g = g
def NoneHere (here : List Spot) (n g : Int) : Prop := ∀ s ∈ here, ¬ (s.n = n ∧ s.g = g)
/-- What Attr tells of a spot. -/
def spSize (s : Spot) : Int := if s.kind = 1 then s.sz else s.asize
def ndSz (N : ND) : Int := match N.dq with | none => N.size | some q => q.size
theorem attrZ_spec {B : Nat} (ad : Nat → Addr) (tb : Nat) (ps : List (Option Nat)) (gs : List Int) (vl vg : Value) (T : TypeId) (Sl Sg : Nat → Prop) (l : List (Option ND)) (hl : ps.length = gs.length) (hr : ∀ x ∈ gs, 0 ≤ x ∧ x ≤ 1000000) (n g : Int) (k : Nat) (N : ND) (hlk : l[k]? = some (some N)) (ha : atOf ps gs n g = some N.nb) :
    Spec Tryd.prog 16 #[.pointer (some ⟨tb, 0, none⟩), .agg #[.int .i64 n, .int .i64 g]] [rTab tb ps gs vl vg T Sl Sg, rNds l, rEnv B ad [10]] fun u L => u = .tuple #[.agg #[.int .i64 N.kind, .int .i64 (ndSz N), .int .i64 N.links, .int .i64 N.change, .int .i64 N.upn, .int .i64 N.upg], .nilIface] ∧ L = [rTab tb ps gs vl vg T Sl Sg, rNds l, rEnv B ad [10]] := by
  obtain ⟨nb, ki, si, li, ch, un, ug, dq⟩ := N
  cases dq with
  | none => exact attrD_spec ad tb ps gs vl vg T Sl Sg l hl hr n g k nb ki si li ch un ug hlk ha
  | some q => exact attrF_spec ad tb ps gs vl vg T Sl Sg l hl hr n g k nb ki si li ch un ug q hlk ha
theorem attrR_spec {B : Nat} (ad : Nat → Addr) {most c : Nat} (tb : Nat) (ps : List (Option Nat)) (gs : List Int) (vl vg : Value) (T : TypeId) (Sl Sg : Nat → Prop) (l : List (Option ND)) (here : List Spot) (hR : NRel most c ps gs l here) (hc : c ≤ 1000) (n g : Int) :
    Spec Tryd.prog 16 #[.pointer (some ⟨tb, 0, none⟩), .agg #[.int .i64 n, .int .i64 g]] [rTab tb ps gs vl vg T Sl Sg, rNds l, rEnv B ad [10]] fun u L => (∃ m s, Here here n g m s ∧ u = .tuple #[.agg #[.int .i64 s.kind, .int .i64 (spSize s), .int .i64 s.links, .int .i64 s.change, .int .i64 s.upn, .int .i64 s.upg], .nilIface] ∧ L = [rTab tb ps gs vl vg T Sl Sg, rNds l, rEnv B ad [10]]) ∨
      (NoneHere here n g ∧ u = .tuple #[.agg #[.int .i64 0, .int .i64 0, .int .i64 0, .int .i64 0, .int .i64 0, .int .i64 0], errV ad 10] ∧ L = [rTab tb ps gs vl vg T Sl Sg, rNds l, rEnv B ad [10]]) := by
  have hl : ps.length = gs.length := by rw [hR.lp, hR.lg]
  have hr : ∀ x ∈ gs, 0 ≤ x ∧ x ≤ 1000000 := fun x hx => by have := hR.rng x hx; omega
  by_cases hh : ∃ s ∈ here, s.n = n ∧ s.g = g
  · obtain ⟨s, hs, rfl, rfl⟩ := hh
    obtain ⟨m, hm⟩ := List.getElem?_of_mem hs
    obtain ⟨k, N, h1, h2, h3, h4, _⟩ := hR.at_some hs
    rw [← h1] at h3
    have hsz : ndSz N = spSize s := by
      unfold ndSz spSize
      rw [h4.kind]
      rcases h4.k12 with e | e
      · rw [if_pos e]
        obtain ⟨q, hq, hq2⟩ := h4.file e
        rw [hq]; exact hq2
      · rw [if_neg (by omega), h4.dir e, h4.asize]
    refine (attrZ_spec ad tb ps gs vl vg T Sl Sg l hl hr s.n s.g k N h2 h3).mono ?_
    rintro u L ⟨rfl, rfl⟩
    refine .inl ⟨m, s, ⟨hm, rfl, rfl⟩, ?_, rfl⟩
    rw [hsz, h4.kind, h4.links, h4.change, h4.upn, h4.upg]
  · refine (attrN_spec ad tb ps gs vl vg T Sl Sg l hl hr n g (hR.at_none fun s hs e => hh ⟨s, hs, e⟩)).mono ?_
    rintro u L ⟨rfl, rfl⟩
    exact .inr ⟨fun s hs e => hh ⟨s, hs, e⟩, rfl, rfl⟩
theorem spot_eta (s : Spot) : s = ⟨s.n, s.g, s.kind, s.asize, s.links, s.change, s.upn, s.upg, s.sz⟩ := rfl

theorem get_ltS {α : Type} {l : List α} {k : Nat} {x : α} (h : l[k]? = some x) : k < l.length := (List.getElem?_eq_some_iff.1 h).1
set_option maxHeartbeats 1000000 in
theorem used_spec (v : Value) (here : List Spot) (n : Int) (hl : here.length ≤ 1000)  : Spec Tryd.prog 9 #[v, .int .i64 n] [rRows true v 39 9 spotC here] (fun u L => ∃ b, (b = true ↔ ∃ s ∈ here, s.n = n) ∧ u = .bool b ∧ L = [rRows true v 39 9 spotC here]) := by
  refine spec_of (#[v, .int .i64 n, undef, undef, undef, undef, undef, undef, undef, undef, undef, undef, undef, undef, undef, undef, undef, undef, undef, undef]) Tryd.func9 rfl (by kernel_rfl) fun E w0 w h => ?_
  refine c_seq ?_
  refine c_reg ?_
  refine sq_p (.bool false) rfl (fun _ => by kernel_rfl) ?_
  refine lnil ?_
  refine thn_n ?_
  refine c_seq ?_
  refine c_seq ?_
  refine c_reg ?_
  refine sq_p (.int .i64 0) rfl (fun _ => by kernel_rfl) ?_
  refine lnil ?_
  refine thn_n ?_
  refine c_block ?_
  refine c_loop (X := Nat × (Nat → Value)) (fun ⟨j0, J0⟩ => ⟨#[v, .int .i64 n, undef, undef, J0 4, .int .i64 (j0 : Int), J0 6, J0 7, J0 8, J0 9, J0 10, J0 11, J0 12, J0 13, J0 14, J0 15, J0 16, J0 17, J0 18, J0 19], []⟩)
    (fun ⟨j0, J0⟩ => [rRows true v 39 9 spotC here]) (fun ⟨j0, J0⟩ => j0 ≤ here.length ∧ ∀ i s, i < j0 → here[i]? = some s → s.n ≠ n) (fun ⟨j0, J0⟩ => here.length - j0)
    ⟨0, (fun n => (#[v, .int .i64 n, undef, undef, .bool false, .int .i64 0, undef, undef, undef, undef, undef, undef, undef, undef, undef, undef, undef, undef, undef, undef] : Array Value).getD n undef)⟩ ⟨by omega, fun i s h => by omega⟩ (by kernel_rfl) [0] (by kernel_rfl) h ?_
  rintro ⟨j0, J0⟩ w hG h
  obtain ⟨hj0, hno⟩ : j0 ≤ here.length ∧ ∀ i s, i < j0 → here[i]? = some s → s.n ≠ n := hG
  refine c_seq ?_
  refine c_seq ?_
  refine c_reg ?_
  refine sq_p (.int .i64 (j0 : Int)) rfl (fun _ => by kernel_rfl) ?_
  refine sq_p (v) rfl (fun _ => by kernel_rfl) ?_
  refine sq_q rfl h (g_len (by kernel_rfl) 0 rfl) ?_
  refine sq_p (.bool (decide ((j0 : Int) < (here.length : Int)))) rfl (fun _ => by kernel_rfl) ?_
  refine lnil ?_
  refine thn_n ?_
  refine c_cond (decide ((j0 : Int) < (here.length : Int))) (by kernel_rfl) (fun hc1 => ?_) (fun hc1 => ?_)
  · skip
    have hc1 := of_decide_eq_true hc1
    refine c_skip ?_
    refine thn_n ?_
    refine c_seq ?_
    refine c_block ?_
    refine c_seq ?_
    refine c_reg ?_
    refine sq_p (v) rfl (fun _ => by kernel_rfl) ?_
    refine sq_p (.int .i64 (j0 : Int)) rfl (fun _ => by kernel_rfl) ?_
    have hi2 : j0 < here.length := by omega
    obtain ⟨x3, hx4⟩ : ∃ x, here[j0]? = some x := ⟨_, List.getElem?_eq_getElem hi2⟩
    refine sq_q rfl h (g_idx j0 (by kernel_rfl) hi2 0 rfl) ?_
    refine sq_p (.pointer (some ⟨blkN v, offN v + j0 * 9, none⟩)) rfl (fun _ => by kernel_rfl) ?_
    refine sq_p (.pointer (some ⟨blkN v, offN v + j0 * 9, none⟩)) rfl (fun _ => by kernel_rfl) ?_
    refine sq_q rfl h (g_ldr (b := blkN v) (offN v + j0 * 9) [.int .i64 x3.n] (.int .i64 x3.n) (by kernel_rfl) 0 rfl (rdRow0 spotC_len hx4 (by kernel_rfl))) ?_
    refine sq_p (.int .i64 n) rfl (fun _ => by kernel_rfl) ?_
    refine sq_p (.bool (decide (x3.n = n))) rfl (fun _ => by kernel_rfl) ?_
    refine lnil ?_
    refine thn_n ?_
    refine c_cond (decide (x3.n = n)) (by kernel_rfl) (fun hc5 => ?_) (fun hc5 => ?_)
    · skip
      have hc5 := of_decide_eq_true hc5
      refine c_seq ?_
      refine c_reg ?_
      refine sq_p (.bool true) rfl (fun _ => by kernel_rfl) ?_
      refine lnil ?_
      refine thn_n ?_
      refine c_ret ?_
      refine blk_r (thn_r (rnd_r (blk_r (thn_r ?_))))
      refine ret_end [.bool true] [0] h (by kernel_rfl) (res_t (by kernel_rfl) res_n) ?_
      exact ⟨true, ⟨fun _ => ⟨_, List.mem_of_getElem? hx4, by omega⟩, fun _ => rfl⟩, rfl, rfl⟩
    · skip
      have hc5 := of_decide_eq_false hc5
      refine c_skip ?_
      refine blk_n (thn_n ?_)
      refine c_reg ?_
      refine sq_p (.int .i64 (j0 : Int)) rfl (fun _ => by kernel_rfl) ?_
      refine sq_q rfl h (g_eq (v := .int .i64 (IntKind.i64.wrap ((j0 : Int) + 1))) (v' := .int .i64 ((j0 + 1 : Nat) : Int)) (g_pure fun _ => by kernel_rfl) (wr (by omega))) ?_
      refine sq_p (.int .i64 ((j0 + 1 : Nat) : Int)) rfl (fun _ => by kernel_rfl) ?_
      refine lnil ?_
      refine loop_end (fun j => ⟨(j0 + 1), j⟩) (show ((j0 + 1) ≤ here.length ∧ ∀ i s, i < (j0 + 1) → here[i]? = some s → s.n ≠ n) ∧ (here.length - (j0 + 1)) < (here.length - j0) from ⟨⟨by omega, fun i s hi hs => by
  by_cases e : i = j0
  · subst e; rw [hx4] at hs; cases hs; omega
  · exact hno i s (by omega) hs⟩, by omega⟩) (by kernel_rfl) [0] (by kernel_rfl) h
  · skip
    have hc1 := of_decide_eq_false hc1
    refine c_exit ?_
    refine thn_e (rnd_e (blk_e (thn_n ?_)))
    refine c_seq ?_
    refine c_reg ?_
    refine sq_p (.bool false) rfl (fun _ => by kernel_rfl) ?_
    refine lnil ?_
    refine thn_n ?_
    refine c_ret ?_
    refine ret_end [.bool false] [0] h (by kernel_rfl) (res_t (by kernel_rfl) res_n) ?_
    exact ⟨false, ⟨fun h => (by cases h), fun ⟨s, hs, e⟩ => (by obtain ⟨i, hi⟩ := List.getElem?_of_mem hs; exact absurd e (hno i s (by have := get_ltS hi; omega) hi))⟩, rfl, rfl⟩
set_option maxHeartbeats 1000000 in
theorem fresh_spec  : Spec Tryd.prog 5 #[] [] (fun u L => u = .bool true ∧ L = []) := by
  refine spec_of (#[undef, undef, undef, undef, undef, undef, undef, undef, undef, undef, undef, undef, undef, undef, undef, undef, undef, undef, undef, undef, undef, undef, undef, undef, undef, undef, undef, undef, undef, undef, undef]) Tryd.func5 rfl (by kernel_rfl) fun E w0 w h => ?_
  refine c_seq ?_
  refine c_reg ?_
  refine sq_p (.bool false) rfl (fun _ => by kernel_rfl) ?_
  refine lnil ?_
  refine thn_n ?_
  refine c_seq ?_
  refine c_reg ?_
  refine sq_call #[.int .i64 2] [] rfl (tabNew_spec 2 (by decide) (by decide)) (fun _ => by kernel_rfl) h ?_; rintro v_ L_ w ⟨tb, vl, vg, T, Sl, Sg, rfl, rfl⟩ h
  refine sq_p (.tuple #[.pointer (some ⟨tb, 0, none⟩), .nilIface]) rfl (fun _ => by kernel_rfl) ?_
  refine sq_p (.pointer (some ⟨tb, 0, none⟩)) rfl (fun _ => by kernel_rfl) ?_
  refine sq_p (.nilIface) rfl (fun _ => by kernel_rfl) ?_
  refine sq_p (.pointer (some ⟨tb, 0, none⟩)) rfl (fun _ => by kernel_rfl) ?_
  refine sq_p (.nilIface) rfl (fun _ => by kernel_rfl) ?_
  refine lnil ?_
  refine thn_n ?_
  refine c_seq ?_
  refine c_seq ?_
  refine c_reg ?_
  refine sq_p (.nilIface) rfl (fun _ => by kernel_rfl) ?_
  refine sq_p (.bool false) rfl (fun _ => by kernel_rfl) ?_
  refine sq_p (.bool false) rfl (fun _ => by kernel_rfl) ?_
  refine sq_p (.pointer (some ⟨tb, 0, none⟩)) (by kernel_rfl) (fun _ => by kernel_rfl) ?_
  refine sq_p (.bool false) (by kernel_rfl) (fun _ => by kernel_rfl) ?_
  refine sq_p (.bool false) rfl (fun _ => by kernel_rfl) ?_
  refine lnil ?_
  refine thn_n ?_
  refine c_false (by kernel_rfl) ?_
  refine c_skip ?_
  refine thn_n ?_
  refine c_seq ?_
  refine c_reg ?_
  refine sq_p (.pointer (some ⟨tb, 0, none⟩)) rfl (fun _ => by kernel_rfl) ?_
  refine sq_call #[.pointer (some ⟨tb, 0, none⟩), .int .i64 1] [0, 0] rfl (tabAdd1_spec tb 0 0 (List.replicate 2 none) (List.replicate 2 0) vl vg T Sl Sg (List.replicate 2 none) (by decide) (by decide) rfl rfl (by decide)) (fun _ => by kernel_rfl) h ?_; rintro v_ L_ w ⟨nb, db, rfl, rfl⟩ h
  refine sq_p (.tuple #[.agg #[.int .i64 0, .int .i64 0], .nilIface]) rfl (fun _ => by kernel_rfl) ?_
  refine sq_p (.agg #[.int .i64 0, .int .i64 0]) rfl (fun _ => by kernel_rfl) ?_
  refine sq_p (.nilIface) rfl (fun _ => by kernel_rfl) ?_
  refine sq_new rfl (fun b => .pointer (some ⟨b, 0, none⟩)) [.int .i64 0, .int .i64 0] 33 (fun _ => by kernel_rfl) h ?_; intro k1 w h
  refine sq_st rfl 0 [.int .i64 0, .int .i64 0] [.int .i64 0, .int .i64 0] h 0 rfl (by kernel_rfl) ?_; intro w h
  refine sq_p (.nilIface) rfl (fun _ => by kernel_rfl) ?_
  refine lnil ?_
  refine thn_n ?_
  refine c_seq ?_
  refine c_reg ?_
  refine sq_p (.nilIface) rfl (fun _ => by kernel_rfl) ?_
  refine sq_p (.bool true) rfl (fun _ => by kernel_rfl) ?_
  refine sq_p (.bool true) rfl (fun _ => by kernel_rfl) ?_
  refine sq_q (by kernel_rfl) h (g_ld 0 [.int .i64 0, .int .i64 0] (.agg #[.int .i64 0, .int .i64 0]) (by kernel_rfl) 0 rfl) ?_
  refine sq_p (.agg #[.int .i64 0, .int .i64 0]) (by kernel_rfl) (fun _ => by kernel_rfl) ?_
  refine sq_q (by kernel_rfl) h (g_eq (v := .bool (((decide ((0 : Int) = 0)) && (decide ((0 : Int) = 0))))) (v' := .bool true) (g_eqH (by kernel_rfl)) (by rfl)) ?_
  refine sq_p (.bool true) rfl (fun _ => by kernel_rfl) ?_
  refine sq_p (.bool true) rfl (fun _ => by kernel_rfl) ?_
  refine sq_p (.pointer (some ⟨tb, 0, none⟩)) (by kernel_rfl) (fun _ => by kernel_rfl) ?_
  refine sq_call #[.pointer (some ⟨tb, 0, none⟩)] [1] (by kernel_rfl) (tabCount_spec tb ((List.replicate 2 none).set 0 (some nb)) ((List.replicate 2 0).set 0 (0 + 1)) vl vg T Sl Sg (by simp)) (fun _ => by kernel_rfl) h ?_; rintro v_ L_ w ⟨rfl, rfl⟩ h
  refine sq_p (.bool true) (by kernel_rfl) (fun _ => by kernel_rfl) ?_
  refine sq_p (.bool true) rfl (fun _ => by kernel_rfl) ?_
  refine sq_p (.bool true) rfl (fun _ => by kernel_rfl) ?_
  refine lnil ?_
  refine thn_n ?_
  refine c_ret ?_
  refine ret_end [.bool true] [] h (by kernel_rfl) (res_t (by kernel_rfl) res_n) ?_
  exact ⟨rfl, rfl⟩

theorem newAny_spec {B : Nat} (ad : Nat → Addr) (mo : Int) : Spec Tryd.prog 6 #[.int .i64 mo] [rEnv B ad [2]] fun u L => ((mo < 1 ∨ 300 < mo) ∧ u = .tuple #[.pointer none, errV ad 2] ∧ L = [rEnv B ad [2]]) ∨
    ((1 ≤ mo ∧ mo ≤ 300) ∧ ∃ tb vl vg T Sl Sg, u = .tuple #[.pointer (some ⟨tb, 0, none⟩), .nilIface] ∧ L = [rTab tb (List.replicate mo.toNat none) (List.replicate mo.toNat 0) vl vg T Sl Sg, rNds (List.replicate mo.toNat none), rEnv B ad [2]]) := by
  by_cases h : mo < 1 ∨ 300 < mo
  · exact (newBad_spec ad mo h).mono fun u L hh => .inl ⟨h, hh⟩
  · obtain ⟨m, rfl⟩ : ∃ m : Nat, mo = m := ⟨mo.toNat, by omega⟩
    refine ((tabNew_spec m (by omega) (by omega)).frame [rEnv B ad [2]]).mono ?_
    rintro u L ⟨L1, ⟨tb, vl, vg, T, Sl, Sg, rfl, rfl⟩, rfl⟩
    exact .inr ⟨by omega, tb, vl, vg, T, Sl, Sg, rfl, rfl⟩
theorem attr_same {a0 a1 a2 a3 a4 a5 b0 b1 b2 b3 b4 b5 : Int} (h0 : a0 = b0) (h1 : a1 = b1) (h2 : a2 = b2) (h3 : a3 = b3) (h4 : a4 = b4) (h5 : a5 = b5) : (!(decide (a0 = b0) && (decide (a1 = b1) && (decide (a2 = b2) && (decide (a3 = b3) && (decide (a4 = b4) && decide (a5 = b5))))))) = false := by simp [h0, h1, h2, h3, h4, h5]

end Go.Proofs.YtgebinfbbopnlaaDoor
