/- names.Join by contract. -/
import Derived.Test.YtdhegblgghembaaDoorName3
import Derived.Test.YtdhegblgghembaaDoorShelf
namespace Go.Proofs.YtdhegblgghembaaDoor
open Go.RowKit Go.Lib
set_option linter.unusedVariables false
set_option linter.unusedSimpArgs false

def joinT (l : List ByteArray) : ByteArray := ⟨(Lib.join (l.map (·.data.toList)) [47]).toArray⟩
/-- A path of names. -/
def joinB (l : List ByteArray) : ByteArray := if (pathC l).1 = 0 then (⟨#[47]⟩ : ByteArray) ++ joinT l else ⟨#[]⟩
def JoinPost (ad : Nat → Addr) (l : List ByteArray) (w : World) (e : Ending) (w' : World) : Prop :=
  ∃ v, e = .returned (.tuple #[.string (joinB l), v]) ∧ NmErr ad w' v (pathC l).1 (pathC l).2 ∧ Chg Nil w w'
theorem strJoin_any {B2 : Nat} (a : Option Addr) (c : Nat) (l : List ByteArray) (w : World) (hl : TextsAt w B2 a l) (hB2 : B2 ≤ w.heap.size) (hc : l.length ≤ c) (hN : l.length ≤ 1000000) (hj : (joinT l).size ≤ 140737488355328) :
    Calls Tryd.prog 83 #[.slice a l.length c, .string ⟨#[47]⟩] w fun e w' => e = .returned (.string (joinT l)) ∧ Chg Nil w w' := by
  cases l with
  | nil =>
    refine (Go.Proofs.Tryd.strings_Join_none a c ⟨#[47]⟩ w).mono ?_
    rintro e w' ⟨rfl, hw⟩
    obtain rfl : w = w' := hw.symm
    exact ⟨rfl, Chg.refl _ _⟩
  | cons x xs =>
    obtain ⟨_, g, off, rfl, hg, _⟩ := hl 0 x rfl
    refine (Go.Proofs.Tryd.strings_Join g off c (x :: xs) ⟨#[47]⟩ w (fun j y hy => by
      obtain ⟨_, g', off', e, _, hcl⟩ := hl j y hy
      cases e
      exact hcl) (by omega) (by omega) hc (by have : (joinT (x :: xs)).size = (Lib.join ((x :: xs).map (·.data.toList)) [47]).length := by simp [joinT, ByteArray.size]
                                              rw [this] at hj; exact hj)).mono ?_
    rintro e w' ⟨rfl, hb⟩
    exact ⟨rfl, Chg.of_below hb (fun y h1 h2 => by omega)⟩
set_option maxHeartbeats 2000000 in
set_option maxRecDepth 100000 in
theorem join_any {B B2 : Nat} (ad : Nat → Addr) (a : Option Addr) (c : Nat) (l : List ByteArray) (w : World) (he : Env B ad [2, 4] w) (hl : TextsAt w B2 a l) (hB2 : B2 ≤ w.heap.size) (hc : l.length ≤ c) (hN : l.length ≤ 1000000) (hj : (joinT l).size ≤ 1000000000) :
    Calls Tryd.prog 57 #[.slice a l.length c] w (JoinPost ad l w) := by
  have HL := Lib.hid hl
  have HA := Lib.hid (all_any ad a c l w he hl hB2 hc (by omega))
  clear he hl
  go_enter Tryd.func57, Tryd.ntmps57
  go_wp2_with fail
  refine HA.out.mono ?_
  rintro e w1 ⟨v, rfl, hv, hc1⟩
  have HC1 := Lib.hid hc1
  have HV := Lib.hid hv
  have hz1 := hc1.size
  rcases hv with ⟨h1, h2, rfl⟩ | ⟨h0, h1, h2, rfl⟩ | ⟨h0, h1, pb, rfl, hb⟩
  · have HX := Lib.hid (show joinB l = (⟨#[47]⟩ : ByteArray) ++ joinT l from if_pos h1)
    have HJ := Lib.hid (strJoin_any a c l w1 (HL.out.keep hB2 hc1 (fun _ f => f.elim)) (by omega) hc hN (by omega))
    have hns : ¬ 9223372036854775807 < (⟨#[47]⟩ : ByteArray).size + (joinT l).size := by
      have : (⟨#[47]⟩ : ByteArray).size = 1 := rfl
      omega
    clear hc1 h1 h2
    go_wp2_with fail
    refine HJ.out.mono ?_
    rintro e w2 ⟨rfl, hc2⟩
    go_wp2_with fail
    go_ret2
    exact ⟨_, by rw [HX.out]; rfl, HV.out.keep hc2, HC1.out.then hc2⟩
  · have HX := Lib.hid (show joinB l = ⟨#[]⟩ from if_neg (by omega))
    clear hc1 h0 h1 h2
    go_wp2_with fail
    go_ret2
    exact ⟨_, by rw [HX.out]; rfl, HV.out, HC1.out⟩
  · have HX := Lib.hid (show joinB l = ⟨#[]⟩ from if_neg (by omega))
    clear hc1 h0 h1 hb
    go_wp2_with fail
    go_ret2
    exact ⟨_, by rw [HX.out]; rfl, HV.out, HC1.out⟩
end Go.Proofs.YtdhegblgghembaaDoor
