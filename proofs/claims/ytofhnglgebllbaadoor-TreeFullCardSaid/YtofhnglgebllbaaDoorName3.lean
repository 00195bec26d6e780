/- package names: all names of a list; law1's faulted; by contract. -/
import Derived.Test.YtofhnglgebllbaaDoorName2
import Derived.Test.YtofhnglgebllbaaDoorFault
namespace Go.Proofs.YtofhnglgebllbaaDoor
open Go.RowKit Go.Lib
set_option linter.unusedVariables false
set_option linter.unusedSimpArgs false

/-- The value v is the error of number c at a place (0: nil). -/
def NmErr (ad : Nat → Addr) (w : World) (v : Value) (c : Nat) (at_ : Int) : Prop :=
  (c = 0 ∧ at_ = -1 ∧ v = .nilIface) ∨ (0 < c ∧ c ≤ 15 ∧ at_ = -1 ∧ v = .iface 430 (.pointer (some (ad c)))) ∨
  (0 < c ∧ c ≤ 15 ∧ ∃ pb, v = .iface 280 (.pointer (some ⟨pb, 0, none⟩)) ∧ w.heap[pb]? = some (.cells #[.int .i64 at_, .iface 430 (.pointer (some (ad c)))] 284 (0, 0)))
theorem NmErr.keep {ad : Nat → Addr} {w w' : World} {v : Value} {c : Nat} {at_ : Int} (h : NmErr ad w v c at_) (hc : Chg Nil w w') : NmErr ad w' v c at_ := by
  rcases h with h | h | ⟨h1, h2, pb, h3, h4⟩
  · exact .inl h
  · exact .inr (.inl h)
  · exact .inr (.inr ⟨h1, h2, pb, h3, hc.keep h4 (fun f => f)⟩)
theorem nmErr_of {ad : Nat → Addr} {w : World} {c : Nat} (h : c ≤ 15) : NmErr ad w (errV ad c) c (-1) := by
  by_cases h0 : c = 0
  · subst h0; exact .inl ⟨rfl, rfl, rfl⟩
  · exact .inr (.inl ⟨by omega, h, rfl, errV_pos h0⟩)
theorem NmErr.le {ad : Nat → Addr} {w : World} {v : Value} {c : Nat} {at_ : Int} (h : NmErr ad w v c at_) : c ≤ 15 := by
  rcases h with h | h | h
  · omega
  · exact h.2.1
  · exact h.2.1
/-- The first text of a list that is no name. -/
def firstBad (l : List ByteArray) : Option Nat := l.findIdx? fun s => decide (¬ nameOk s)
def pathC (l : List ByteArray) : Nat × Int := match firstBad l with
  | some i => (4, i)
  | none => if 12 < l.length then (2, -1) else (0, -1)
/-- A slice of texts, as its elements are read. -/
def TextsAt (w : World) (B : Nat) (a : Option Addr) (l : List ByteArray) : Prop := ∀ (k : Nat) x, l[k]? = some x → x.size ≤ 9223372036854775807 ∧ ∃ g off, a = some ⟨g, off, none⟩ ∧ g < B ∧ w.cell? ⟨g, off + k, none⟩ = some (.string x)
theorem TextsAt.keep {w w' : World} {B : Nat} {a : Option Addr} {l : List ByteArray} {S : Nat → Prop} (h : TextsAt w B a l) (hB : B ≤ w.heap.size) (c : Chg S w w') (hS : ∀ x, S x → B ≤ x) : TextsAt w' B a l := fun k x hx => by
  obtain ⟨h0, g, off, e, hg, hc⟩ := h k x hx
  exact ⟨h0, g, off, e, hg, (c.cell (p := ⟨g, off + k, none⟩) (by simp; omega) (fun s => by have := hS _ s; simp at this; omega)).trans hc⟩
def RelAll (l : List ByteArray) (w : World) (i : Value) (wr : World) : Prop := ∃ k : Nat, k ≤ l.length ∧ i = .int .i64 k ∧ Chg Nil w wr ∧ ∀ s ∈ l.take k, nameOk s
def AllPost (ad : Nat → Addr) (l : List ByteArray) (w : World) (e : Ending) (w' : World) : Prop := ∃ v, e = .returned v ∧ NmErr ad w' v (pathC l).1 (pathC l).2 ∧ Chg Nil w w'
end Go.Proofs.YtofhnglgebllbaaDoor
