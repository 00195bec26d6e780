/- Messages in a list: the plain acts of a net. No program is in sight, no condition. -/
import Derived.Test.YtofhnglgebllbaaDoorNameS
import Derived.Test.YtofhnglgebllbaaDoorOp10
namespace Go.Proofs.YtofhnglgebllbaaDoor
open Go.RowKit
set_option linter.unusedVariables false
set_option linter.unusedSimpArgs false

/-- A message: from, to, its text. -/
abbrev Msg := ByteArray × ByteArray × ByteArray
def msgC (x : Msg) : List Value := [.string x.1, .string x.2.1, .string x.2.2]
theorem msgC_len (x : Msg) : (msgC x).length = 3 := rfl
theorem msgC_one (x : Msg) : ∀ u ∈ msgC x, u.oneCell' = true := by intro u hu; simp [msgC] at hu; rcases hu with rfl | rfl | rfl <;> rfl
def netSend (l : List Msg) (m : Msg) : List Msg × Nat := if ¬ nameOk m.1 ∨ ¬ nameOk m.2.1 then (l, 4) else if 4000 < m.2.2.size then (l, 2) else if 100 ≤ l.length then (l, 9) else (l ++ [m], 0)
section
variable {l : List Msg} {m : Msg}
theorem netSend_bad (h : ¬ nameOk m.1 ∨ ¬ nameOk m.2.1) : netSend l m = (l, 4) := if_pos h
theorem netSend_long (h1 : nameOk m.1) (h2 : nameOk m.2.1) (h : 4000 < m.2.2.size) : netSend l m = (l, 2) := by
  unfold netSend; rw [if_neg (fun hh => by rcases hh with hh | hh; exact hh h1; exact hh h2), if_pos h]
theorem netSend_full (h1 : nameOk m.1) (h2 : nameOk m.2.1) (h : ¬ 4000 < m.2.2.size) (h3 : 100 ≤ l.length) : netSend l m = (l, 9) := by
  unfold netSend; rw [if_neg (fun hh => by rcases hh with hh | hh; exact hh h1; exact hh h2), if_neg h, if_pos h3]
theorem netSend_ok (h1 : nameOk m.1) (h2 : nameOk m.2.1) (h : ¬ 4000 < m.2.2.size) (h3 : ¬ 100 ≤ l.length) : netSend l m = (l ++ [m], 0) := by
  unfold netSend; rw [if_neg (fun hh => by rcases hh with hh | hh; exact hh h1; exact hh h2), if_neg h, if_neg h3]
theorem netSend_le (l : List Msg) (m : Msg) : (netSend l m).2 ≤ 15 := by
  unfold netSend; split
  · simp
  · split
    · simp
    · split <;> simp
theorem netSend_len (h : l.length ≤ 100) : (netSend l m).1.length ≤ 100 := by
  unfold netSend; split
  · exact h
  · split
    · exact h
    · split
      · exact h
      · simp; omega
end
/-- Without message k. -/
def netDel (l : List Msg) (k : Nat) : List Msg := l.take k ++ l.drop (k + 1)
/-- Message k twice. -/
def netTw (l : List Msg) (k : Nat) (x : Msg) : List Msg := l.take (k + 1) ++ x :: l.drop (k + 1)
theorem netDel_len (l : List Msg) (k : Nat) : (netDel l k).length ≤ l.length := by unfold netDel; simp; omega
theorem netTw_len {l : List Msg} {k : Nat} {x : Msg} (h : l.length < 100) : (netTw l k x).length ≤ 100 := by unfold netTw; simp; omega
end Go.Proofs.YtofhnglgebllbaaDoor
