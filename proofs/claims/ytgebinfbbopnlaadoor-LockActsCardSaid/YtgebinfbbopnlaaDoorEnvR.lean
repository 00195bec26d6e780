/- Resources: the errors of package api (rEnv). Contracts of the elder kind as contracts by what is owned. No condition. -/
import Derived.Test.YtgebinfbbopnlaaDoorOp3
import Derived.Test.YtgebinfbbopnlaaDoorEnv
namespace Go.Proofs.YtgebinfbbopnlaaDoor
open Go.RowKit
set_option linter.unusedSectionVars false
set_option linter.unusedVariables false
set_option linter.unusedSimpArgs false

/-- The errors cs, below block B. -/
def rEnv (B : Nat) (ad : Nat → Addr) (cs : List Nat) : Res :=
  ⟨false, fun b => ∃ c ∈ cs, b = gl c ∨ b = (ad c).block, fun w => Env B ad cs w, fun w w' h hs hb => by
    obtain ⟨h1, h2, h3, h4⟩ := h
    refine ⟨Nat.le_trans h1 hs, fun c hc => ⟨?_, (h2 c hc).2⟩, fun c hc => ⟨?_, ?_, (h3 c hc).2.2⟩, h4⟩
    · rw [World.cell?_of_block (w := w) (hb (gl c) ⟨c, hc, .inl rfl⟩)]; exact (h2 c hc).1
    · obtain ⟨s, e⟩ := (h3 c hc).1
      exact ⟨s, by rw [World.cell?_of_block (w := w) (hb (ad c).block ⟨c, hc, .inr rfl⟩)]; exact e⟩
    · obtain ⟨x, t, e⟩ := (h3 c hc).2.1
      exact ⟨x, t, by rw [hb (ad c).block ⟨c, hc, .inr rfl⟩]; exact e⟩,
   fun w b h hb => by
    obtain ⟨c, hc, rfl | rfl⟩ := hb
    · exact (h.get hc).2
    · exact Nat.lt_of_lt_of_le (h.row c hc).2.2 h.size⟩
theorem rdEnv {B : Nat} {ad : Nat → Addr} {cs : List Nat} {c : Nat} (hc : c ∈ cs) (h0 : Nat.beq c 0 = false) : RdAt (rEnv B ad cs) (gl c) 0 [errV ad c] := fun w h j u hj => by
  have h1 : c ≠ 0 := Nat.ne_of_beq_eq_false h0
  cases j with
  | zero =>
    simp only [List.getElem?_cons_zero, Option.some.injEq] at hj
    rw [← hj, errV_pos h1]
    exact ((h : Env B ad cs w).get hc).1
  | succ j => simp at hj

theorem errV_one (ad : Nat → Addr) (c : Nat) : OneV (errV ad c) := by unfold errV; split <;> exact ⟨rfl, rfl⟩
theorem pw_of {α : Type} {R : α → α → Prop} : ∀ {L : List α}, (∀ r ∈ L, ∀ s ∈ L, R r s) → L.Pairwise R
  | [], _ => List.Pairwise.nil
  | r :: L, h => List.pairwise_cons.2 ⟨fun s hs => h r (by simp) s (by simp [hs]), pw_of fun a ha b hb => h a (by simp [ha]) b (by simp [hb])⟩
section
variable {P : Program} {f : FuncId} {args : Array Value}
/-- A contract over what is only read, as one of the elder kind. -/
theorem Spec.reads {L : List Res} {Φ : Value → List Res → Prop} (hs : Spec P f args L Φ) {w : World} (hro : L.all (fun r => !r.wr) = true) (hf : ∀ r ∈ L, r.fact w) : Calls P f args w fun e w' => ∃ u L', Φ u L' ∧ e = .returned u ∧ Chg Nil w w' := by
  have hr : ∀ r ∈ L, r.wr = false := fun r h => by simpa using List.all_eq_true.1 hro r h
  have hp : L.Pairwise (fun r s => r.wr = true ∨ s.wr = true → ∀ b, r.foot b → ¬ s.foot b) := by
    refine pw_of fun r h1 s h2 hc => ?_
    rw [hr r h1, hr s h2] at hc
    rcases hc with e | e <;> cases e
  have ho : Own w (entOf L) L w := ⟨Chg.refl _ _, fun b ⟨r, h, hb, _⟩ => ⟨r, h, hb, fun e => by cases e⟩, hf, hp, fun r h b hb => .inl ⟨r, h, hb, fun e => e⟩⟩
  refine (hs _ w w ho).mono ?_
  rintro e w' ⟨u, L', h1, h2, h3⟩
  exact ⟨u, L', h1, h2, h3.chg.mono fun x _ ⟨r, h, _, hw⟩ => by have := hw rfl; rw [hr r h] at this; cases this⟩
/-- It makes a slice of what it reads. -/
theorem spec_fresh {wr : Bool} {v : Value} {T k n T' k' n' : Nat} {xs xs' : List Value} (h : ∀ w, SliceAt w v T k n xs (blkOf v) → Calls P f args w fun e w' => ∃ v' S', e = .returned v' ∧ SliceAt w' v' T' k' n' xs' S' ∧ Chg Nil w w' ∧ Grow Nil S' w w') :
    Spec P f args [rSl wr v T k n xs] fun u L => ∃ v', u = v' ∧ L = [rSl true v' T' k' n' xs', rSl wr v T k n xs] := fun E w0 w ho =>
  (h w (ho.fact 0 rfl)).mono fun e w' ⟨v', S', he, hs, hc, hg⟩ => by
    obtain ⟨h1, h2⟩ := hs.own
    refine ⟨v', _, ⟨v', rfl, rfl⟩, he, ho.push hc h1 fun b hb => ?_⟩
    rcases hg b (h2 b hb) with f | f
    · exact f.elim
    · exact f.1
/-- It turns a slice where it lies. -/
theorem spec_turn {X : Type} {v : Value} {T k n : Nat} {xs : List Value} {r : X → Value} {n' : X → Nat} {xs' : X → List Value} {u : X → Value} {G : X → Prop} (h : ∀ w, SliceAt w v T k n xs (blkOf v) → Calls P f args w fun e w' => ∃ x, G x ∧ e = .returned (u x) ∧ SliceAt w' (r x) T k (n' x) (xs' x) (blkOf v) ∧ Chg (blkOf v) w w') :
    Spec P f args [rSl true v T k n xs] fun z L => ∃ x, G x ∧ z = u x ∧ L = [rSl true (r x) T k (n' x) (xs' x)] := fun E w0 w ho =>
  (h w (ho.fact 0 rfl)).mono fun e w' ⟨x, hG, he, hs, hc⟩ => by
    obtain ⟨h1, h2⟩ := hs.own
    exact ⟨_, _, ⟨x, hG, rfl, rfl⟩, he, ho.upd 0 rfl rfl hc h1 fun b hb => .inl (h2 b hb)⟩
end
end Go.Proofs.YtgebinfbbopnlaaDoor
