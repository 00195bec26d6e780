/- Package nodes: the table's two slices: which numbers are used (a node's block), how often each was given. -/
import Derived.Test.YtgebinfbbopnlaaDoorMake
import Derived.Test.YtgebinfbbopnlaaDoorEnv
import Derived.Test.YtgebinfbbopnlaaDoorSteps
import Derived.Deep.QuietTactic
import Derived.BigQuiet
namespace Go.Proofs.YtgebinfbbopnlaaDoor
open Go.RowKit
set_option linter.unusedVariables false
set_option linter.unusedSimpArgs false

def ptrV (p : Option Nat) : Value := .pointer (p.map fun b => ⟨b, 0, none⟩)
def ptrC (p : Option Nat) : List Value := [ptrV p]
def intC (n : Int) : List Value := [.int .i64 n]
theorem ptrC_len (p : Option Nat) : (ptrC p).length = 1 := rfl
theorem intC_len (p : Int) : (intC p).length = 1 := rfl
/-- The table at block b, its two slices named. -/
structure TabAt (w : World) (b : Nat) (ps : List (Option Nat)) (gs : List Int) (vl vg : Value) (T : TypeId) (Sl Sg : Nat → Prop) : Prop where
  blk : w.heap[b]? = some (.cells #[vl, vg] T (0, 0))
  l : SliceAt w vl 89 1 ps.length (ps.flatMap ptrC) Sl
  g : SliceAt w vg 3 1 gs.length (gs.flatMap intC) Sg
  bl : ¬ Sl b
  bg : ¬ Sg b
  lg : ∀ x, Sl x → ¬ Sg x
  lt1 : ∀ x, Sl x → x < w.heap.size
  lt2 : ∀ x, Sg x → x < w.heap.size
section
variable {w w' : World} {b : Nat} {ps : List (Option Nat)} {gs : List Int} {vl vg : Value} {T : TypeId} {Sl Sg S : Nat → Prop}
theorem TabAt.keep {U : Nat → Prop} (h : TabAt w b ps gs vl vg T Sl Sg) (c : Chg U w w') (hb : ¬ U b) (hl : ∀ x, Sl x → ¬ U x) (hg : ∀ x, Sg x → ¬ U x) : TabAt w' b ps gs vl vg T Sl Sg :=
  ⟨c.keep h.blk hb, h.l.keep c hl, h.g.keep c hg, h.bl, h.bg, h.lg, fun x hx => Nat.lt_of_lt_of_le (h.lt1 x hx) c.size, fun x hx => Nat.lt_of_lt_of_le (h.lt2 x hx) c.size⟩
theorem TabAt.same (h : TabAt w b ps gs vl vg T Sl Sg) (c : Chg Nil w w') : TabAt w' b ps gs vl vg T Sl Sg := h.keep c (fun f => f) (fun _ _ f => f) (fun _ _ f => f)
theorem TabAt.setL {g off n cap k : Nat} {p : Option Nat} (h : TabAt w b ps gs (.slice (some ⟨g, off, none⟩) n cap) vg T Sl Sg) (hk : k < ps.length) : TabAt (w.setCell ⟨g, off + k, none⟩ (ptrV p)) b (ps.set k p) gs (.slice (some ⟨g, off, none⟩) n cap) vg T Sl Sg := by
  have hnn : n = ps.length := slice_len' h.l
  obtain ⟨g', off', cap', cs, e, hb9, _, _, _, _, hg, hgl⟩ := h.l.place (by omega)
  cases e
  have hset := SliceAt.setElem ptrC_len h.l (k := k) hk p
  have hse : w.setCells g (off + k * 1) (ptrC p) = w.setCell ⟨g, off + k, none⟩ (ptrV p) := by rw [Nat.mul_one]; rfl
  rw [hse] at hset
  have c := chg_at w g (off + k) (ptrV p)
  exact ⟨c.keep h.blk (fun e => h.bl (e ▸ hg)), by simpa using hset, h.g.keep c (fun x hx e => h.lg g hg (e ▸ hx)), h.bl, h.bg, h.lg, fun x hx => Nat.lt_of_lt_of_le (h.lt1 x hx) c.size, fun x hx => Nat.lt_of_lt_of_le (h.lt2 x hx) c.size⟩
theorem TabAt.setG {g off n cap k : Nat} {p : Int} (h : TabAt w b ps gs vl (.slice (some ⟨g, off, none⟩) n cap) T Sl Sg) (hk : k < gs.length) : TabAt (w.setCell ⟨g, off + k, none⟩ (.int .i64 p)) b ps (gs.set k p) vl (.slice (some ⟨g, off, none⟩) n cap) T Sl Sg := by
  have hnn : n = gs.length := slice_len' h.g
  obtain ⟨g', off', cap', cs, e, hb9, _, _, _, _, hg, hgl⟩ := h.g.place (by omega)
  cases e
  have hset := SliceAt.setElem intC_len h.g (k := k) hk p
  have hse : w.setCells g (off + k * 1) (intC p) = w.setCell ⟨g, off + k, none⟩ (.int .i64 p) := by rw [Nat.mul_one]; rfl
  rw [hse] at hset
  have c := chg_at w g (off + k) (.int .i64 p)
  exact ⟨c.keep h.blk (fun e => h.bg (e ▸ hg)), h.l.keep c (fun x hx e => h.lg x hx (e ▸ hg)), by simpa using hset, h.bl, h.bg, h.lg, fun x hx => Nat.lt_of_lt_of_le (h.lt1 x hx) c.size, fun x hx => Nat.lt_of_lt_of_le (h.lt2 x hx) c.size⟩
end
end Go.Proofs.YtgebinfbbopnlaaDoor
