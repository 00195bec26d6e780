/- The reference's SameTexts by contract. -/
import Derived.Test.YtdhegblgghembaaDoorName3
import Derived.BigQuiet
import Derived.Deep.QuietTactic
namespace Go.Proofs.YtdhegblgghembaaDoor
open Go.RowKit Go.Lib
set_option linter.unusedVariables false
set_option linter.unusedSimpArgs false

def RelST (n : Nat) (w : World) (i : Value) (wr : World) : Prop := ∃ k : Nat, k ≤ n ∧ i = .int .i64 k ∧ Chg Nil w wr
set_option maxHeartbeats 2000000 in
set_option maxRecDepth 100000 in
theorem sameTexts_ok {B1 B2 : Nat} (a1 a2 : Option Addr) (c1 c2 : Nat) (l : List ByteArray) (w : World) (h1 : TextsAt w B1 a1 l) (h2 : TextsAt w B2 a2 l) (hB1 : B1 ≤ w.heap.size) (hB2 : B2 ≤ w.heap.size) (hc1 : l.length ≤ c1) (hc2 : l.length ≤ c2) (h63 : l.length ≤ 9223372036854775807) :
    Calls Tryd.prog 56 #[.slice a1 l.length c1, .slice a2 l.length c2] w fun e w' => e = .returned (.bool true) ∧ Chg Nil w w' := by
  have H1 := Lib.hid h1
  have H2 := Lib.hid h2
  clear h1 h2
  go_enter Tryd.func56, Tryd.ntmps56
  go_wp2_with fail
  go_loopw [5] (fun i wr => RelST l.length w i wr) (fun i _ => (l.length - RowKit.intOf i).toNat)
  case atStart => exact ⟨0, Nat.zero_le _, rfl, Chg.refl _ _⟩
  case round =>
    obtain ⟨k, hk, rfl, hC⟩ := hrel
    have HC := Lib.hid hC
    by_cases hlt : k < l.length
    · obtain ⟨x, hx⟩ : ∃ x, l[k]? = some x := ⟨l[k], List.getElem?_eq_getElem hlt⟩
      obtain ⟨_, g1, o1, rfl, hg1, x1⟩ := H1.out k x hx
      obtain ⟨_, g2, o2, rfl, hg2, x2⟩ := H2.out k x hx
      have hz := hC.size
      have y1 := (hC.cell (p := ⟨g1, o1 + k, none⟩) (by simp; omega) (fun f => f)).trans x1
      have y2 := (hC.cell (p := ⟨g2, o2 + k, none⟩) (by simp; omega) (fun f => f)).trans x2
      have j0 : (0 : Int) ≤ (k : Int) := by omega
      have j1 : (k : Int) < (l.length : Int) := by omega
      clear hC x1 x2 hx
      go_wp2_with fail
      go_quiet (fail)
      go_wp2_with fail
      refine ⟨⟨k + 1, by omega, by go_num, HC.out.then (Chg.drewN _ _)⟩, by simp [RowKit.intOf]; omega⟩
    · obtain rfl : k = l.length := by omega
      go_wp2_with fail
      go_ret
      exact ⟨rfl, HC.out⟩
end Go.Proofs.YtdhegblgghembaaDoor
