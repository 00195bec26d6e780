/- Resources: all errors and the errors' own handle (rEnvA); an error's number told (coded) by what is owned. No condition. -/
import Derived.Test.YtgebinfbbopnlaaDoorArg
import Derived.Test.YtgebinfbbopnlaaDoorCode
namespace Go.Proofs.YtgebinfbbopnlaaDoor
open Go.RowKit
set_option linter.unusedSectionVars false
set_option linter.unusedVariables false
set_option linter.unusedSimpArgs false

def rEnvA (B : Nat) (ad : Nat → Addr) : Res :=
  ⟨false, fun b => (∃ c ∈ allErrs, b = gl c ∨ b = (ad c).block) ∨ b = 15, fun w => EnvA B ad w, fun w w' h hs hb =>
    ⟨(rEnv B ad allErrs).stab w w' h.env hs (fun b hb' => hb b (.inl hb')), by
      rw [World.cell?_of_block (w := w) (hb 15 (.inr rfl))]; exact h.handle.1, h.handle.2⟩,
   fun w b h hb => by
    rcases hb with hb | rfl
    · exact (rEnv B ad allErrs).alive w b h.env hb
    · exact Nat.lt_of_lt_of_le h.handle.2 h.env.size⟩
theorem Own.addRO {w0 w : World} {E : Ent} {L : List Res} (h : Own w0 E L w) (i : Nat) {r r' : Res} (hi : L[i]? = some r) (hw : r.wr = false) (hw' : r'.wr = false) (hf : ∀ w, r.fact w → r'.fact w) (hs : ∀ b, r'.foot b → r.foot b) : Own w0 E (r' :: L) w := by
  have hm := List.mem_of_getElem? hi
  have h1 := h.perm (erase_perm hi).symm
  have ha := (List.pairwise_cons.1 h1.apart).1
  refine ⟨h.chg, h.mono, fun s hs' => ?_, List.pairwise_cons.2 ⟨fun s hs' hc b hb hsb => ?_, h.apart⟩, fun s hs' b hb => ?_⟩
  · rcases List.mem_cons.1 hs' with rfl | hs'
    · exact hf w (h.facts r hm)
    · exact h.facts s hs'
  · rcases hc with hc | hc
    · rw [hw'] at hc; cases hc
    · rcases List.mem_cons.1 ((erase_perm hi).symm.mem_iff.1 hs') with rfl | hs2
      · rw [hw] at hc; cases hc
      · exact ha s hs2 (.inr hc) b (hs b hb) hsb
  · rcases List.mem_cons.1 hs' with rfl | hs'
    · have := h.may r hm b (hs b hb)
      rw [hw] at this
      rw [hw']; exact this
    · exact h.may s hs' b hb
/-- Some of all errors. -/
theorem Own.envSub {w0 w : World} {E : Ent} {L : List Res} {B : Nat} {ad : Nat → Addr} (h : Own w0 E L w) (cs : List Nat) (i : Nat) (hi : L[i]? = some (rEnvA B ad)) (hc : ∀ c ∈ cs, c ∈ allErrs) : Own w0 E (rEnv B ad cs :: L) w :=
  h.addRO i hi rfl rfl (fun w hw => hw.env.sub hc) (fun b ⟨c, h1, h2⟩ => .inl ⟨c, hc c h1, h2⟩)
end Go.Proofs.YtgebinfbbopnlaaDoor
