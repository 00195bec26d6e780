/- Out of a list of laid variables: a part of it. Over any program. No condition. -/
import Derived.Test.YtofhnglgebllbaaDoorBase
import Derived.LaidLaws
import Derived.LaidHandle
namespace Go.Proofs.YtofhnglgebllbaaDoor
open Go.RowKit
set_option linter.unusedVariables false

theorem laidVars_app {P : Program} {w : World} : ∀ (l m : List (String × DataW Unit)) (ps : List MemPlace), DataW.LaidVars P w (l ++ m) ps → ∃ p q, DataW.LaidVars P w l p ∧ DataW.LaidVars P w m q ∧ ps = p ++ q
  | [], m, ps, h => ⟨[], ps, rfl, h, rfl⟩
  | (n, d) :: l, m, ps, h => by
    obtain ⟨g, t, cs, fuel, p, q, h1, h2, h3, h4, h5, e⟩ := h
    obtain ⟨p', q', h6, h7, e2⟩ := laidVars_app l m q h5
    subst e2
    exact ⟨_, q', ⟨g, t, cs, fuel, p, p', h1, h2, h3, h4, h6, rfl⟩, h7, by rw [e]; simp only [List.append_assoc]⟩
theorem laidMet_tail {P : Program} {w : World} {a m : List (String × DataW Unit)} (h : laidMet P (a ++ m) w) : laidMet P m w := by
  obtain ⟨ps, hv, hnd, hr⟩ := h
  obtain ⟨p, q, _, h2, rfl⟩ := laidVars_app a m ps hv
  exact ⟨q, h2, (List.nodup_append.1 hnd).2.1, fun b off hm => hr b off (List.mem_append.2 (.inr hm))⟩
theorem laidMet_head {P : Program} {w : World} {m b : List (String × DataW Unit)} (h : laidMet P (m ++ b) w) : laidMet P m w := by
  obtain ⟨ps, hv, hnd, hr⟩ := h
  obtain ⟨p, q, h1, _, rfl⟩ := laidVars_app m b ps hv
  exact ⟨p, h1, (List.nodup_append.1 hnd).1, fun b off hm => hr b off (List.mem_append.2 (.inl hm))⟩
theorem laidMet_mid {P : Program} {w : World} {a m b : List (String × DataW Unit)} (h : laidMet P (a ++ (m ++ b)) w) : laidMet P m w := laidMet_head (laidMet_tail h)
end Go.Proofs.YtofhnglgebllbaaDoor
