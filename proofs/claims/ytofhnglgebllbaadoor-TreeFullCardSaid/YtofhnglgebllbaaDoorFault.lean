/- plain.Code at an api.Fault, by contract. -/
import Derived.Test.YtofhnglgebllbaaDoorCode
import Derived.Test.YtofhnglgebllbaaDoorSlice
import Derived.Deep.RegionHeld3
namespace Go.Proofs.YtofhnglgebllbaaDoor
open Go.RowKit
set_option linter.unusedVariables false
set_option linter.unusedSimpArgs false

def Code2 (w : World) (sb : Nat) (ad : Nat → Addr) (n : Nat) (at_ : Int) (v i : Value) (wr : World) : Prop :=
  ∃ k : Nat, k ≤ n ∧ v = .int .i64 at_ ∧ i = .int .i64 k ∧ Chg Nil w wr ∧ ∀ j, j < 15 → wr.cell? ⟨sb, j, none⟩ = some (.iface 430 (.pointer (some (ad (j + 1)))))

/-- The fifteen errors' variables. -/
theorem fifteen {B : Nat} {ad : Nat → Addr} {w : World} (h : Env B ad allErrs w) : ∀ c, 1 ≤ c → c ≤ 15 → w.cell? ⟨gl c, 0, none⟩ = some (.iface 430 (.pointer (some (ad c)))) ∧ gl c < w.heap.size :=
  fun c h1 h2 => h.get (by simp [allErrs]; omega)

set_option maxHeartbeats 1000000 in
set_option maxRecDepth 100000 in
theorem code_fault {B : Nat} (ad : Nat → Addr) (c pb : Nat) (n : Int) (w : World) (he : EnvA B ad w) (h0 : 0 < c) (h1 : c ≤ 15)
    (hb : w.heap[pb]? = some (.cells #[.int .i64 n, .iface 430 (.pointer (some (ad c)))] 284 (0, 0))) :
    Calls Tryd.prog 102 #[.iface 280 (.pointer (some ⟨pb, 0, none⟩))] w fun e w' => e = .returned (.tuple #[.int .i64 c, .int .i64 n]) ∧ Chg Nil w w' := by
  have HE := Lib.hid he
  have hnn := fun W => run_eql_iface_nil_left (P := Tryd.prog) W 280 (.pointer (some ⟨pb, 0, none⟩)) Tryd.underlying25
  have hh := he.handle.1
  have hhl := Nat.lt_of_lt_of_le he.handle.2 he.env.size
  have hpl := lt_of_block hb
  have HB := Lib.hid hb
  clear he hb
  go_enter Tryd.func102, Tryd.ntmps102
  go_wp2_with fail
  refine (as_hit' _ _ (.pointer none) _ ?_ ?_ ?_).mono ?_
  · rw [World.cell?_alloc_lt _ _ _ hhl]; exact hh
  · simp
  · simp
  rintro e w1 ⟨rfl, hc1, ht1⟩
  have hC1 : Chg Nil w w1 := ((Chg.refl _ _).alloc _).trans hc1 (fun x hx e => by have : x = w.heap.size := e; omega)
  have hb1 := hC1.keep HB.out (fun f => f)
  have p0 := cell_of hb1 0
  have hpl1 := lt_of_block hb1
  simp only [List.getElem?_toArray, List.getElem?_cons_zero] at p0
  have hE1 := (HE.out.keepN hC1).env
  obtain ⟨q1, l1⟩ := hE1.get (c := 1) (by decide)
  obtain ⟨q2, l2⟩ := hE1.get (c := 2) (by decide)
  obtain ⟨q3, l3⟩ := hE1.get (c := 3) (by decide)
  obtain ⟨q4, l4⟩ := hE1.get (c := 4) (by decide)
  obtain ⟨q5, l5⟩ := hE1.get (c := 5) (by decide)
  obtain ⟨q6, l6⟩ := hE1.get (c := 6) (by decide)
  obtain ⟨q7, l7⟩ := hE1.get (c := 7) (by decide)
  obtain ⟨q8, l8⟩ := hE1.get (c := 8) (by decide)
  obtain ⟨q9, l9⟩ := hE1.get (c := 9) (by decide)
  obtain ⟨q10, l10⟩ := hE1.get (c := 10) (by decide)
  obtain ⟨q11, l11⟩ := hE1.get (c := 11) (by decide)
  obtain ⟨q12, l12⟩ := hE1.get (c := 12) (by decide)
  obtain ⟨q13, l13⟩ := hE1.get (c := 13) (by decide)
  obtain ⟨q14, l14⟩ := hE1.get (c := 14) (by decide)
  obtain ⟨q15, l15⟩ := hE1.get (c := 15) (by decide)
  simp only [gl] at q1 q2 q3 q4 q5 q6 q7 q8 q9 q10 q11 q12 q13 q14 q15
  clear l1 l2 l3 l4 l5 l6 l7 l8 l9 l10 l11 l12 l13 l14 l15 hE1 hh hhl hb1
  go_wp2_with fail
  clear q1 q2 q3 q4 q5 q6 q7 q8 q9 q10 q11 q12 q13 q14 q15 hnn p0 ht1
  go_loopw [3, 33] (fun v i wr => Code1 w w1.heap.size ad c n v i wr) (fun _ i _ => (15 - intOf i).toNat)
  case atStart =>
    refine ⟨0, h0, rfl, rfl, hC1.alloc _, fun j hj => ?_⟩
    rw [World.cell?_alloc_at _ _ _ _ rfl]
    rcases (show j = 0 ∨ j = 1 ∨ j = 2 ∨ j = 3 ∨ j = 4 ∨ j = 5 ∨ j = 6 ∨ j = 7 ∨ j = 8 ∨ j = 9 ∨ j = 10 ∨ j = 11 ∨ j = 12 ∨ j = 13 ∨ j = 14 by omega) with rfl | rfl | rfl | rfl | rfl | rfl | rfl | rfl | rfl | rfl | rfl | rfl | rfl | rfl | rfl <;> rfl
  case round =>
    obtain ⟨k, hk, rfl, rfl, hC, hcell⟩ := hrel
    have hE := (HE.out.keepN hC).env
    have hc := hcell k (by omega)
    have hk15 : (k : Int) < 15 := by omega
    have hbw := hC.keep HB.out (fun f => f)
    have hx1 := cell_of hbw 1
    simp only [List.getElem?_toArray, List.getElem?_cons_zero, List.getElem?_cons_succ] at hx1
    by_cases hkc : k + 1 = c
    · have hnum : ((k : Int) + 1) = (c : Int) := by omega
      have hI := is_fault_same pb 0 (ad c) wr (by simpa using hx1)
      rw [hkc] at hc
      have HN := Lib.hid hnum
      have HK := Lib.hid hkc
      have HC := Lib.hid hcell
      have HI := Lib.hid hI
      clear hnum hkc hcell hI hbw hx1
      go_wp2_with fail
      refine HI.out.mono ?_
      rintro e w2 ⟨rfl, rfl⟩
      go_wp2_with fail
      go_ret2
      exact ⟨by simp [HN.out], hC⟩
    · obtain ⟨_, r1, _⟩ := hE.row (k + 1) (by simp [allErrs]; omega)
      obtain ⟨_, r2, _⟩ := hE.row c (by simp [allErrs]; omega)
      have hI := is_fault_other pb 0 (ad (k + 1)) (ad c) wr (by simpa using hx1) (hE.dist c (by simp [allErrs]; omega) (k + 1) (by simp [allErrs]; omega) (fun e => hkc e.symm)) r2 r1
      have HC := Lib.hid hcell
      have HI := Lib.hid hI
      clear hcell hI r1 r2 hE hbw hx1
      go_wp2_with fail
      refine HI.out.mono ?_
      rintro e w2 ⟨rfl, rfl⟩
      go_wp2_with fail
      go_roundw
      case rel => exact ⟨k + 1, by omega, rfl, by go_num, hC, HC.out⟩
      case measure => simp [intOf]; omega

end Go.Proofs.YtofhnglgebllbaaDoor
