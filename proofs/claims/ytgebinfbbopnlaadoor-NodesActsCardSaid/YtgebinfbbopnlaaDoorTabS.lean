/- Package nodes' table, by what is owned: New and Add. -/
import Derived.Test.YtgebinfbbopnlaaDoorNodes4
import Derived.Test.YtgebinfbbopnlaaDoorOp6
import Derived.Test.YtgebinfbbopnlaaDoorEnvR
namespace Go.Proofs.YtgebinfbbopnlaaDoor
open Go.RowKit
set_option linter.unusedVariables false
/-- A table of nodes: its block and its two slices' blocks. -/
def rTab (b : Nat) (ps : List (Option Nat)) (gs : List Int) (vl vg : Value) (T : TypeId) (Sl Sg : Nat → Prop) : Res :=
  ⟨true, fun x => x = b ∨ Sl x ∨ Sg x, fun w => TabAt w b ps gs vl vg T Sl Sg, fun w w' h hs hb => by
    have hsl : ∀ (E k n : Nat) (v : Value) (xs : List Value) (S : Nat → Prop), (∀ x, S x → w'.heap[x]? = w.heap[x]?) → SliceAt w v E k n xs S → SliceAt w' v E k n xs S := fun E k n v xs S hS h => by
      obtain ⟨h1, h2 | ⟨g, off, cap, cs, e, hbk, a, b, c, d, s⟩⟩ := h
      · exact ⟨h1, .inl h2⟩
      · exact ⟨h1, .inr ⟨g, off, cap, cs, e, (hS g s).trans hbk, a, b, c, d, s⟩⟩
    exact ⟨(hb b (.inl rfl)).trans h.blk, hsl _ _ _ _ _ _ (fun x hx => hb x (.inr (.inl hx))) h.l, hsl _ _ _ _ _ _ (fun x hx => hb x (.inr (.inr hx))) h.g, h.bl, h.bg, h.lg, fun x hx => Nat.lt_of_lt_of_le (h.lt1 x hx) hs, fun x hx => Nat.lt_of_lt_of_le (h.lt2 x hx) hs⟩,
   fun w x h hx => by
    rcases hx with rfl | hx | hx
    · exact lt_of_block h.blk
    · exact h.lt1 x hx
    · exact h.lt2 x hx⟩
theorem nodesNew_spec (n : Nat) (h1 : 1 ≤ n) (h2 : n ≤ 300) : Spec Tryd.prog 6 #[.int .i64 n] [] fun u L => ∃ b vl vg T Sl Sg, u = .tuple #[.pointer (some ⟨b, 0, none⟩), .nilIface] ∧ L = [rTab b (List.replicate n none) (List.replicate n 0) vl vg T Sl Sg] := fun E w0 w ho =>
  (nnew_any n w h1 h2).mono fun e w' ⟨b, vl, vg, T, Sl, Sg, he, hc, ht, hb, hl, hg⟩ => ⟨_, _, ⟨b, vl, vg, T, Sl, Sg, rfl, rfl⟩, he, ho.push hc (r := rTab b _ _ vl vg T Sl Sg) ht fun x hx => by
    rcases hx with rfl | hx | hx
    · exact hb
    · exact hl x hx
    · exact hg x hx⟩
theorem nodesAdd_spec (b k : Nat) (x : Int) (ps : List (Option Nat)) (gs : List Int) (vl vg : Value) (T : TypeId) (Sl Sg : Nat → Prop) (hl : ps.length ≤ 300) (hlg : ps.length = gs.length) (hf : free0 ps = some k) (hx : gs[k]? = some x) (hxr : 0 ≤ x ∧ x ≤ 1000000) :
    Spec Tryd.prog 8 #[.pointer (some ⟨b, 0, none⟩), .int .i64 2] [rTab b ps gs vl vg T Sl Sg] fun u L => ∃ nb, u = .tuple #[hdlV k x, .nilIface] ∧ L = [rCell true nb [.int .i64 2, .int .i64 0, .int .i64 0, .int .i64 0, .int .i64 0, .int .i64 0, .pointer none] 91, rTab b (ps.set k (some nb)) (gs.set k (x + 1)) vl vg T Sl Sg] := fun E w0 w ho => by
  have ht : TabAt w b ps gs vl vg T Sl Sg := ho.fact 0 rfl
  refine (nadd_ok b k 2 x ps gs vl vg T Sl Sg w ht (.inr rfl) hl hlg hf hx hxr).mono ?_
  rintro e w' ⟨nb, hnb, he, hc, ht', dp, hb', ⟨_, rfl⟩ | ⟨h2, _⟩⟩
  · have hfo : ∀ y, (rTab b ps gs vl vg T Sl Sg).foot y → y < w.heap.size := fun y hy => (rTab b ps gs vl vg T Sl Sg).alive w y ht hy
    refine ⟨_, _, ⟨nb, rfl, rfl⟩, he, Own.unfocus (L := [rTab b ps gs vl vg T Sl Sg]) (L' := [rCell true nb [.int .i64 2, .int .i64 0, .int .i64 0, .int .i64 0, .int .i64 0, .int .i64 0, .pointer none] 91, rTab b (ps.set k (some nb)) (gs.set k (x + 1)) vl vg T Sl Sg]) (M := []) ho ⟨hc.mono fun y _ hy => ⟨_, List.mem_singleton.2 rfl, .inr hy, fun e => e⟩, fun y ⟨q, h1, h2, _⟩ => ⟨q, h1, h2, fun e => by cases e⟩, ?_, ?_, ?_⟩⟩
    · intro q hq
      simp only [List.mem_cons, List.mem_nil_iff, or_false] at hq
      rcases hq with rfl | rfl
      · exact hb'
      · exact ht'
    · refine List.pairwise_cons.2 ⟨fun q hq _ y hy hz => ?_, List.pairwise_singleton _ _⟩
      rw [List.mem_singleton.1 hq] at hz
      have h3 : y = nb := hy
      have := hfo y hz
      omega
    · intro q hq y hy
      simp only [List.mem_cons, List.mem_nil_iff, or_false] at hq
      rcases hq with rfl | rfl
      · have h3 : y = nb := hy
        exact .inr (by omega)
      · exact .inl ⟨_, List.mem_singleton.2 rfl, hy, fun e => e⟩
  · cases h2
theorem nodesAt_spec {B : Nat} (ad : Nat → Addr) (b nb : Nat) (n g : Int) (ps : List (Option Nat)) (gs : List Int) (vl vg : Value) (T : TypeId) (Sl Sg : Nat → Prop) (hl : ps.length = gs.length) (hr : ∀ x ∈ gs, 0 ≤ x ∧ x ≤ 1000000) (ha : atOf ps gs n g = some nb) :
    Spec Tryd.prog 33 #[.pointer (some ⟨b, 0, none⟩), .agg #[.int .i64 n, .int .i64 g]] [rTab b ps gs vl vg T Sl Sg, rEnv B ad [10]] fun u L => u = .tuple #[.pointer (some ⟨nb, 0, none⟩), .nilIface] ∧ L = [rTab b ps gs vl vg T Sl Sg, rEnv B ad [10]] := fun E w0 w ho =>
  (nat_any ad b n g ps gs vl vg T Sl Sg w (ho.fact 1 rfl) (ho.fact 0 rfl) hl hr).mono fun e w' ⟨he, hc⟩ => ⟨_, _, ⟨rfl, rfl⟩, by rw [he, ha]; rfl, ho.quiet hc⟩
end Go.Proofs.YtgebinfbbopnlaaDoor
