/- strings.Trim of noughts by the shelf's contract. -/
import Derived.Test.YtofhnglgebllbaaDoorXdr8
namespace Go.Proofs.YtofhnglgebllbaaDoor
open Go.RowKit Go.Lib
set_option linter.unusedVariables false
set_option linter.unusedSimpArgs false

/-- Trim of noughts: empty just where all bytes are noughts. -/
theorem trim_any (s : ByteArray) (w : World) (hs : s.size ≤ 9223372036854775807) :
    Calls Tryd.prog 196 #[.string s, .string ⟨#[0]⟩] w fun e w' => e = .returned (.string ⟨(Lib.trimB s.data.toList 0).toArray⟩) ∧ Chg Nil w w' := by
  refine (Go.Proofs.Tryd.strings_Trim_one s 0 (by decide) w hs).mono ?_
  rintro e w' ⟨rfl, hb⟩
  refine ⟨rfl, ?_⟩
  rcases hb with rfl | rfl
  · exact Chg.refl _ _
  · exact (Chg.refl _ _).drew
theorem dropWhile_head {p : UInt8 → Bool} : ∀ (l : List UInt8) (a : UInt8) (r : List UInt8), l.dropWhile p = a :: r → p a = false
  | [], _, _, h => by cases h
  | x :: l, a, r, h => by
    rw [List.dropWhile_cons] at h
    split at h
    · exact dropWhile_head l a r h
    · rename_i hx
      cases h
      simpa using hx
theorem dropWhile_all {p : UInt8 → Bool} : ∀ (l : List UInt8), l.dropWhile p = [] → ∀ b ∈ l, p b = true
  | [], _, _, h => by cases h
  | x :: l, h, b, hb => by
    rw [List.dropWhile_cons] at h
    split at h
    · rename_i hx
      rcases List.mem_cons.1 hb with rfl | hb
      · exact hx
      · exact dropWhile_all l h b hb
    · cases h
theorem dropWhile_none {p : UInt8 → Bool} : ∀ (l : List UInt8), (∀ b ∈ l, p b = true) → l.dropWhile p = []
  | [], _ => rfl
  | x :: l, h => by
    rw [List.dropWhile_cons, if_pos (h x (by simp))]
    exact dropWhile_none l (fun b hb => h b (by simp [hb]))
theorem trim_nil (l : List UInt8) : Lib.trimB l 0 = [] ↔ ∀ b ∈ l, b = 0 := by
  unfold Lib.trimB Lib.trimLeftB Lib.trimRightB
  constructor
  · intro h b hb
    have h1 := dropWhile_all _ h
    rcases hr : l.reverse.dropWhile (fun x => x == 0) with _ | ⟨a, r⟩
    · have := dropWhile_all _ hr b (by simpa using hb)
      simpa using this
    · have h2 := dropWhile_head _ _ _ hr
      have h3 := h1 a (by rw [hr]; simp)
      rw [h2] at h3; cases h3
  · intro h
    rw [dropWhile_none l.reverse (fun b hb => by rw [h b (by simpa using hb)]; rfl)]
    rfl
end Go.Proofs.YtofhnglgebllbaaDoor
