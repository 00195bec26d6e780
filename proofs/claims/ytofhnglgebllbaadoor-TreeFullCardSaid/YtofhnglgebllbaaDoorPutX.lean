/- The acts of the laws on texts as arguments: their shape, their words. -/
import Derived.Test.YtofhnglgebllbaaDoorShape
namespace Go.Proofs.YtofhnglgebllbaaDoor
open Go.RowKit Go.Lib
set_option linter.unusedVariables false

def shPut : Sh := .and .str (.and .int (.and .str .unit))
abbrev XPut := ByteArray × Int × ByteArray × Unit
def kwInt : ByteArray := ⟨#[105, 110, 116]⟩
def kwLong : ByteArray := ⟨#[108, 111, 110, 103]⟩
def kwBool : ByteArray := ⟨#[98, 111, 111, 108]⟩
theorem txt_ne {k : ByteArray} {l : List UInt8} (h : ¬ k = ⟨l.toArray⟩) : (k.toList == l) = false := by
  rw [beq_eq_false_iff_ne]
  intro e
  apply h
  have e2 : k.data.toList = l := by rw [← e]; exact (ByteArray.toList_eq k).symm
  obtain ⟨d⟩ := k
  simp only at e2
  subst e2
  rfl
def kwBytes : ByteArray := ⟨#[98, 121, 116, 101, 115]⟩
end Go.Proofs.YtofhnglgebllbaaDoor
