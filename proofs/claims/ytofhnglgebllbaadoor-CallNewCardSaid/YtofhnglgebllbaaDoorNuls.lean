/- strings.Repeat of a nought by the shelf's contract. -/
import Derived.Test.YtofhnglgebllbaaDoorZeros
import Derived.Test.YtofhnglgebllbaaDoorShelf
namespace Go.Proofs.YtofhnglgebllbaaDoor
open Go.RowKit
set_option linter.unusedVariables false
set_option linter.unusedSimpArgs false

theorem repeatL_nul : ∀ c : Nat, Lib.repeatL [(0 : UInt8)] c = List.replicate c 0
  | 0 => by simp [Lib.repeatL]
  | c + 1 => by
    have h := repeatL_nul c
    show [(0 : UInt8)] ++ Lib.repeatL [0] c = _
    rw [h, List.replicate_succ]; rfl
theorem nuls_any (c : Nat) (w : World) (hc : c ≤ 1000) : Calls Tryd.prog 193 #[.string ⟨#[0]⟩, .int .i64 (c : Int)] w fun e w' => e = .returned (.string (zerosB c)) ∧ Chg Nil w w' := by
  refine (Go.Proofs.Tryd.strings_Repeat ⟨#[0]⟩ c w (by omega) (by show 1 * c ≤ _; omega)).mono ?_
  rintro e w' ⟨rfl, hb⟩
  refine ⟨?_, Chg.of_below hb (fun x h1 h2 => by omega)⟩
  have : Lib.repeatL (⟨#[0]⟩ : ByteArray).data.toList c = List.replicate c 0 := repeatL_nul c
  rw [this]; rfl
end Go.Proofs.YtofhnglgebllbaaDoor
