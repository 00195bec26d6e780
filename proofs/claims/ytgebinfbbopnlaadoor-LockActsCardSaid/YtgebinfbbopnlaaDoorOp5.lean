/- Contracts of the elder kind over a table (RowAt: a cell that holds a slice) as contracts by what is owned. No condition. -/
import Derived.Test.YtgebinfbbopnlaaDoorOp4
import Derived.Test.YtgebinfbbopnlaaDoorEnvR
import Derived.Test.YtgebinfbbopnlaaDoorRow
namespace Go.Proofs.YtgebinfbbopnlaaDoor
open Go.RowKit
set_option linter.unusedSectionVars false
set_option linter.unusedVariables false
set_option linter.unusedSimpArgs false
section
variable {α : Type} {E k : Nat} {enc : α → List Value} {l l' : List α} {P : Program} {f : FuncId} {args : Array Value} {b : Nat} {v : Value} {T : TypeId} {M : List Res} {w0 w : World} {En : Ent}
theorem rowOf (h : Own w0 En (rCell true b [v] T :: rRows true v E k enc l :: M) w) : RowAt E k enc w b l (fun x => x = b ∨ blkOf v x) := by
  have h0 : w.heap[b]? = some (.cells #[v] T (0, 0)) := h.fact 0 rfl
  have h1 : SliceAt w v E k l.length (l.flatMap enc) (blkOf v) := h.fact 1 rfl
  have ap := h.apart
  simp only [List.pairwise_cons, List.mem_cons] at ap
  have a1 : ¬ blkOf v b := fun hb => ap.1 _ (.inl rfl) (.inl rfl) b rfl hb
  refine ⟨⟨v, T, blkOf v, h0, h1, a1, fun x hx => .inr hx⟩, .inl rfl, fun x hx => ?_⟩
  rcases hx with rfl | hx
  · exact lt_of_block h0
  · exact (rSl true v E k l.length (l.flatMap enc)).alive w x h1 hx
/-- A table turned. -/
theorem spec_row {u : Value} (h : ∀ w, (∀ r ∈ M, r.fact w) → RowAt E k enc w b l (fun x => x = b ∨ blkOf v x) → Calls P f args w fun e w' => e = .returned u ∧ RowPost E k enc (fun x => x = b ∨ blkOf v x) w b l' w') :
    Spec P f args (rCell true b [v] T :: rRows true v E k enc l :: M) fun z L => ∃ v' T', z = u ∧ L = rCell true b [v'] T' :: rRows true v' E k enc l' :: M := fun En w0 w ho => by
  refine (h w (fun r hr => ho.facts r (by simp [hr])) (rowOf ho)).mono ?_
  rintro e w' ⟨he, hc, S', ⟨⟨v', T', Ss', hb', hs', hnb', hsub'⟩, hS', hlt'⟩, hg⟩
  obtain ⟨s1, s2⟩ := hs'.own
  refine ⟨u, _, ⟨v', T', rfl, rfl⟩, he, ho.turn2 rfl rfl hc hb' s1 (fun x hx hy => hnb' ?_) (fun x hx => .inl (.inl hx)) (fun x hx => ?_)⟩
  · have : x = b := hx
    rw [← this]; exact s2 x hy
  · rcases hg x (hsub' x (s2 x hx)) with h | h
    · exact .inl h
    · exact .inr h.1
/-- A table that is only read. -/
theorem spec_rowR {u : Value} (h : ∀ w, (∀ r ∈ M, r.fact w) → RowAt E k enc w b l (fun x => x = b ∨ blkOf v x) → Calls P f args w fun e w' => e = .returned u ∧ Chg Nil w w') :
    Spec P f args (rCell true b [v] T :: rRows true v E k enc l :: M) fun z L => z = u ∧ L = rCell true b [v] T :: rRows true v E k enc l :: M := fun En w0 w ho =>
  (h w (fun r hr => ho.facts r (by simp [hr])) (rowOf ho)).mono fun e w' ⟨he, hc⟩ => ⟨u, _, ⟨rfl, rfl⟩, he, ho.quiet hc⟩
end
end Go.Proofs.YtgebinfbbopnlaaDoor
