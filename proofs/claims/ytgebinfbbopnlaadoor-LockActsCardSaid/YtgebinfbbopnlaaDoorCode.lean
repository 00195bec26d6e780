/- plain.Code by contract: the number of an error and its place. -/
import Derived.Test.YtgebinfbbopnlaaDoorErrs
namespace Go.Proofs.YtgebinfbbopnlaaDoor
open Go.RowKit
set_option linter.unusedVariables false
set_option linter.unusedSimpArgs false

def allErrs : List Nat := [1, 2, 3, 4, 5, 6, 7, 8, 9, 10, 11, 12, 13, 14, 15]
/-- All errors, and errors' own handle. -/
structure EnvA (B : Nat) (ad : Nat → Addr) (w : World) : Prop where
  env : Env B ad allErrs w
  handle : w.cell? ⟨15, 0, none⟩ = some (.iface 153 (.agg #[.pointer (some ⟨16, 26, none⟩)])) ∧ 15 < B
theorem EnvA.keep {B : Nat} {ad : Nat → Addr} {S : Nat → Prop} {w w' : World} (h : EnvA B ad w) (c : Chg S w w') (hS : ∀ x, S x → B ≤ x) : EnvA B ad w' :=
  ⟨h.env.keep c hS, (c.cell (p := ⟨15, 0, none⟩) (Nat.lt_of_lt_of_le h.handle.2 h.env.size) (fun s => by have := hS _ s; have := h.handle.2; simp at *; omega)).trans h.handle.1, h.handle.2⟩
theorem EnvA.keepN {B : Nat} {ad : Nat → Addr} {w w' : World} (h : EnvA B ad w) (c : Chg Nil w w') : EnvA B ad w' := h.keep c (fun _ f => f.elim)
theorem EnvA.alloc {B : Nat} {ad : Nat → Addr} {w : World} (h : EnvA B ad w) (o : Obj) : EnvA B ad (w.alloc o) := h.keepN ((Chg.refl Nil w).alloc o)
theorem EnvA.sub {B : Nat} {ad : Nat → Addr} {ds : List Nat} {w : World} (h : EnvA B ad w) (hd : ∀ c ∈ ds, c ∈ allErrs) : Env B ad ds w := h.env.sub hd

theorem as_miss' (x : Value) (t : Addr) (old : Value) (w : World) (hg : w.cell? ⟨15, 0, none⟩ = some (.iface 153 (.agg #[.pointer (some ⟨16, 26, none⟩)])))
    (ht0 : w.cell? t = some old) (hf0 : w.frozen? t = false) :
    Calls Tryd.prog 48 #[.iface 187 x, .iface 117 (.pointer (some t))] w fun e w' => e = .returned (.bool false) ∧ Chg Nil w w' :=
  (as_miss x t old w hg ht0 hf0).mono fun e w' ⟨he, hw⟩ => ⟨he, by subst hw; exact ((((Chg.refl _ _).alloc _).alloc _).alloc _)⟩
theorem as_hit' (e t : Addr) (old : Value) (w : World) (hg : w.cell? ⟨15, 0, none⟩ = some (.iface 153 (.agg #[.pointer (some ⟨16, 26, none⟩)])))
    (ht0 : w.cell? t = some old) (hf0 : w.frozen? t = false) :
    Calls Tryd.prog 48 #[.iface 115 (.pointer (some e)), .iface 117 (.pointer (some t))] w fun ev w' => ev = .returned (.bool true) ∧ Chg (· = t.block) w w' ∧ w'.cell? t = some (.pointer (some e)) :=
  (as_hit e t old w hg ht0 hf0).mono fun ev w' ⟨he, hw⟩ => ⟨he, by subst hw; exact Chg.setCell (S := (· = t.block)) (p := t) ((((((Chg.refl _ _).alloc _).alloc _).alloc _).alloc _)) (.inr rfl) _, by
    subst hw
    have hl := World.block_lt_of_cell? _ _ ht0
    refine World.cell?_setCell_same _ _ _ (u := old) ?_
    rw [World.cell?_alloc_lt _ _ t (by simp; omega), World.cell?_alloc_lt _ _ t (by simp; omega), World.cell?_alloc_lt _ _ t (by simp; omega), World.cell?_alloc_lt _ _ t hl]
    exact ht0⟩

theorem code_nil (w : World) : Calls Tryd.prog 31 #[.nilIface] w fun e w' => e = .returned (.tuple #[.int .i64 0, .int .i64 (-1)]) ∧ w = w' := by
  go_enter Tryd.func31, Tryd.ntmps31
  go_wp2
  go_ret2
  exact ⟨rfl, rfl⟩

def Code1 (w : World) (sb : Nat) (ad : Nat → Addr) (c : Nat) (at_ : Int) (v i : Value) (wr : World) : Prop :=
  ∃ k : Nat, k < c ∧ v = .int .i64 at_ ∧ i = .int .i64 k ∧ Chg Nil w wr ∧ ∀ j, j < 15 → wr.cell? ⟨sb, j, none⟩ = some (.iface 187 (.pointer (some (ad (j + 1)))))

set_option maxHeartbeats 1000000 in
set_option maxRecDepth 100000 in
theorem code_err {B : Nat} (ad : Nat → Addr) (c : Nat) (w : World) (he : EnvA B ad w) (h0 : 0 < c) (h1 : c ≤ 15) :
    Calls Tryd.prog 31 #[.iface 187 (.pointer (some (ad c)))] w fun e w' => e = .returned (.tuple #[.int .i64 c, .int .i64 (-1)]) ∧ Chg Nil w w' := by
  have HE := Lib.hid he
  have hnn := fun W => run_eql_iface_nil_left (P := Tryd.prog) W 187 (.pointer (some (ad c))) Tryd.underlying26
  have hh := he.handle.1
  have hhl := Nat.lt_of_lt_of_le he.handle.2 he.env.size
  clear he
  go_enter Tryd.func31, Tryd.ntmps31
  go_wp2_with fail
  refine (as_miss' _ _ (.pointer none) _ ?_ ?_ ?_).mono ?_
  · rw [World.cell?_alloc_lt _ _ _ hhl]; exact hh
  · simp
  · simp
  rintro e w1 ⟨rfl, hc1⟩
  have hC1 : Chg Nil w w1 := ((Chg.refl _ _).alloc _).then hc1
  have hE1 := (HE.out.keepN hC1).env
  obtain ⟨q1, l1⟩ := hE1.get (c := 1) (by decide)
  obtain ⟨q2, l2⟩ := hE1.get (c := 2) (by decide)
  obtain ⟨q3, l3⟩ := hE1.get (c := 3) (by decide)
  obtain ⟨q4, l4⟩ := hE1.get (c := 4) (by decide)
  obtain ⟨q5, l5⟩ := hE1.get (c := 5) (by decide)
  obtain ⟨q6, l6⟩ := hE1.get (c := 6) (by decide)
  obtain ⟨q7, l7⟩ := hE1.get (c := 7) (by decide)
  obtain ⟨q8, l8⟩ := hE1.get (c := 8) (by decide)
  obtain ⟨q9, l9⟩ := hE1.get (c := 9) (by decide)
  obtain ⟨q10, l10⟩ := hE1.get (c := 10) (by decide)
  obtain ⟨q11, l11⟩ := hE1.get (c := 11) (by decide)
  obtain ⟨q12, l12⟩ := hE1.get (c := 12) (by decide)
  obtain ⟨q13, l13⟩ := hE1.get (c := 13) (by decide)
  obtain ⟨q14, l14⟩ := hE1.get (c := 14) (by decide)
  obtain ⟨q15, l15⟩ := hE1.get (c := 15) (by decide)
  simp only [gl] at q1 q2 q3 q4 q5 q6 q7 q8 q9 q10 q11 q12 q13 q14 q15
  clear l1 l2 l3 l4 l5 l6 l7 l8 l9 l10 l11 l12 l13 l14 l15 hE1 hh hhl
  go_wp2_with fail
  clear q1 q2 q3 q4 q5 q6 q7 q8 q9 q10 q11 q12 q13 q14 q15 hnn
  go_loopw [3, 33] (fun v i wr => Code1 w w1.heap.size ad c (-1) v i wr) (fun _ i _ => (15 - intOf i).toNat)
  case atStart =>
    refine ⟨0, h0, rfl, rfl, hC1.alloc _, fun j hj => ?_⟩
    rw [World.cell?_alloc_at _ _ _ _ rfl]
    rcases (show j = 0 ∨ j = 1 ∨ j = 2 ∨ j = 3 ∨ j = 4 ∨ j = 5 ∨ j = 6 ∨ j = 7 ∨ j = 8 ∨ j = 9 ∨ j = 10 ∨ j = 11 ∨ j = 12 ∨ j = 13 ∨ j = 14 by omega) with rfl | rfl | rfl | rfl | rfl | rfl | rfl | rfl | rfl | rfl | rfl | rfl | rfl | rfl | rfl <;> rfl
  case round =>
    rename_i wr _
    obtain ⟨k, hk, rfl, rfl, hC, hcell⟩ := hrel
    have hE := (HE.out.keepN hC).env
    have hc := hcell k (by omega)
    have hk15 : (k : Int) < 15 := by omega
    by_cases hkc : k + 1 = c
    · have hnum : ((k : Int) + 1) = (c : Int) := by omega
      have hI := is_same (ad c) wr
      rw [hkc] at hc
      have HN := Lib.hid hnum
      have HK := Lib.hid hkc
      have HC := Lib.hid hcell
      have HI := Lib.hid hI
      clear hnum hkc hcell hI
      go_wp2_with fail
      refine HI.out.mono ?_
      rintro e w2 ⟨rfl, rfl⟩
      go_wp2_with fail
      go_ret2
      exact ⟨by simp [HN.out], hC⟩
    · obtain ⟨_, r1, _⟩ := hE.row (k + 1) (by simp [allErrs]; omega)
      obtain ⟨_, r2, _⟩ := hE.row c (by simp [allErrs]; omega)
      have hI := is_other (ad c) (ad (k + 1)) wr (hE.dist c (by simp [allErrs]; omega) (k + 1) (by simp [allErrs]; omega) (fun e => hkc e.symm)) r2 r1
      have HC := Lib.hid hcell
      have HI := Lib.hid hI
      clear hcell hI r1 r2 hE
      go_wp2_with fail
      refine HI.out.mono ?_
      rintro e w2 ⟨rfl, rfl⟩
      go_wp2_with fail
      go_roundw
      case rel => exact ⟨k + 1, by omega, rfl, by go_num, hC, HC.out⟩
      case measure => simp [intOf]; omega
end Go.Proofs.YtgebinfbbopnlaaDoor
