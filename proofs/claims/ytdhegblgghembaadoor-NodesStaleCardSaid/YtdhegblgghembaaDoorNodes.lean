/- Package nodes: the table's two slices: which numbers are used (a node's block), how often each was given. -/
import Derived.Test.YtdhegblgghembaaDoorSlice
import Derived.Test.YtdhegblgghembaaDoorEnv
import Derived.Test.YtdhegblgghembaaDoorSteps
import Derived.Laws.MakeOwn
import Derived.Deep.QuietTactic
import Derived.BigQuiet
namespace Go.Proofs.YtdhegblgghembaaDoor
open Go.RowKit
set_option linter.unusedVariables false
set_option linter.unusedSimpArgs false

def ptrV (p : Option Nat) : Value := .pointer (p.map fun b => ⟨b, 0, none⟩)
def ptrC (p : Option Nat) : List Value := [ptrV p]
def intC (n : Int) : List Value := [.int .i64 n]
theorem ptrC_len (p : Option Nat) : (ptrC p).length = 1 := rfl
theorem intC_len (p : Int) : (intC p).length = 1 := rfl
theorem slice_len' {w : World} {a : Option Addr} {n cap E size m : Nat} {xs : List Value} {S : Nat → Prop} (hn : SliceAt w (.slice a n cap) E size m xs S) : n = m := by
  obtain ⟨_, ⟨e, h⟩ | ⟨g', off', cap', cs, e, _⟩⟩ := hn
  · cases e; omega
  · cases e; rfl
theorem madeCells_one (z : Value) (n : Nat) (hz : z.cells = #[z]) : madeCells z.cells n = (List.replicate n z).toArray := by
  rw [hz]
  apply Array.ext
  · simp [madeCells]
  · intro i h1 h2
    simp [madeCells, Nat.mod_one]
theorem mk_one {P : Program} {T E : TypeId} {z : Value} {bytes : Nat} (ht : P.underlying T = some (.slice E)) (hinfo : (P.info? E).map (fun i => (i.zero, i.size, i.bytes)) = some (some z, 1, bytes)) (hz : z.cells = #[z]) (w : World) (n : Nat) (hb : bytes * n ≤ 281474976710656) (hn : n ≤ 9223372036854775807) :
    (Instr.makeSlice T (.int .i64 (n : Int)) (.int .i64 (n : Int))).run P w = .ok (.slice (some ⟨w.heap.size, 0, none⟩) n n) (w.alloc (.cells (List.replicate n z).toArray E)) := by
  obtain ⟨i, hi, hz0, hz1, hz2⟩ := info_parts hinfo
  have h := run_make (P := P) w T E i z ht hi hz0 .i64 .i64 n n (by omega) (by omega) (by rw [hz2]; have := Int.ofNat_le.2 hb; simpa using this) (by omega)
  rw [h, hz1, Nat.mul_one, madeCells_one z _ hz, Int.toNat_natCast]
theorem rep_flat {α : Type} (c : α → Value) (n : Nat) (a : α) : (List.replicate n a).flatMap (fun x => [c x]) = List.replicate n (c a) := by
  induction n with
  | zero => rfl
  | succ n ih => rw [List.replicate_succ, List.flatMap_cons, ih, List.replicate_succ]; rfl
theorem sliceAt_made' {w : World} {g n E : Nat} {z : Value} (hn : n ≤ 9223372036854775807) (hb : w.heap[g]? = some (.cells (List.replicate n z).toArray E (0, 0))) : SliceAt w (.slice (some ⟨g, 0, none⟩) n n) E 1 n (List.replicate n z) (· = g) := by
  refine ⟨by simp, .inr ⟨g, 0, n, _, rfl, hb, Nat.le_refl _, by unfold maxLen; omega, by simp, fun j u hj => ?_, rfl⟩⟩
  rw [Nat.zero_add, List.getElem?_toArray]; exact hj

/-- The table at block b, its two slices named. -/
structure TabAt (w : World) (b : Nat) (ps : List (Option Nat)) (gs : List Int) (vl vg : Value) (T : TypeId) (Sl Sg : Nat → Prop) : Prop where
  blk : w.heap[b]? = some (.cells #[vl, vg] T (0, 0))
  l : SliceAt w vl 114 1 ps.length (ps.flatMap ptrC) Sl
  g : SliceAt w vg 3 1 gs.length (gs.flatMap intC) Sg
  bl : ¬ Sl b
  bg : ¬ Sg b
  lg : ∀ x, Sl x → ¬ Sg x
  lt1 : ∀ x, Sl x → x < w.heap.size
  lt2 : ∀ x, Sg x → x < w.heap.size
section
variable {w w' : World} {b : Nat} {ps : List (Option Nat)} {gs : List Int} {vl vg : Value} {T : TypeId} {Sl Sg S : Nat → Prop}
theorem TabAt.keep {U : Nat → Prop} (h : TabAt w b ps gs vl vg T Sl Sg) (c : Chg U w w') (hb : ¬ U b) (hl : ∀ x, Sl x → ¬ U x) (hg : ∀ x, Sg x → ¬ U x) : TabAt w' b ps gs vl vg T Sl Sg :=
  ⟨c.keep h.blk hb, h.l.keep c hl, h.g.keep c hg, h.bl, h.bg, h.lg, fun x hx => Nat.lt_of_lt_of_le (h.lt1 x hx) c.size, fun x hx => Nat.lt_of_lt_of_le (h.lt2 x hx) c.size⟩
theorem TabAt.same (h : TabAt w b ps gs vl vg T Sl Sg) (c : Chg Nil w w') : TabAt w' b ps gs vl vg T Sl Sg := h.keep c (fun f => f) (fun _ _ f => f) (fun _ _ f => f)
theorem chg_at (w : World) (b i : Nat) (v : Value) : Chg (· = b) w (w.setCell ⟨b, i, none⟩ v) := (Chg.refl (· = b) w).setCell (p := ⟨b, i, none⟩) (.inr rfl) v
theorem TabAt.setL {g off n cap k : Nat} {p : Option Nat} (h : TabAt w b ps gs (.slice (some ⟨g, off, none⟩) n cap) vg T Sl Sg) (hk : k < ps.length) : TabAt (w.setCell ⟨g, off + k, none⟩ (ptrV p)) b (ps.set k p) gs (.slice (some ⟨g, off, none⟩) n cap) vg T Sl Sg := by
  have hnn : n = ps.length := slice_len' h.l
  obtain ⟨g', off', cap', cs, e, hb9, _, _, _, _, hg, hgl⟩ := h.l.place (by omega)
  cases e
  have hset := SliceAt.setElem ptrC_len h.l (k := k) hk p
  have hse : w.setCells g (off + k * 1) (ptrC p) = w.setCell ⟨g, off + k, none⟩ (ptrV p) := by rw [Nat.mul_one]; rfl
  rw [hse] at hset
  have c := chg_at w g (off + k) (ptrV p)
  exact ⟨c.keep h.blk (fun e => h.bl (e ▸ hg)), by simpa using hset, h.g.keep c (fun x hx e => h.lg g hg (e ▸ hx)), h.bl, h.bg, h.lg, fun x hx => Nat.lt_of_lt_of_le (h.lt1 x hx) c.size, fun x hx => Nat.lt_of_lt_of_le (h.lt2 x hx) c.size⟩
theorem TabAt.setG {g off n cap k : Nat} {p : Int} (h : TabAt w b ps gs vl (.slice (some ⟨g, off, none⟩) n cap) T Sl Sg) (hk : k < gs.length) : TabAt (w.setCell ⟨g, off + k, none⟩ (.int .i64 p)) b ps (gs.set k p) vl (.slice (some ⟨g, off, none⟩) n cap) T Sl Sg := by
  have hnn : n = gs.length := slice_len' h.g
  obtain ⟨g', off', cap', cs, e, hb9, _, _, _, _, hg, hgl⟩ := h.g.place (by omega)
  cases e
  have hset := SliceAt.setElem intC_len h.g (k := k) hk p
  have hse : w.setCells g (off + k * 1) (intC p) = w.setCell ⟨g, off + k, none⟩ (.int .i64 p) := by rw [Nat.mul_one]; rfl
  rw [hse] at hset
  have c := chg_at w g (off + k) (.int .i64 p)
  exact ⟨c.keep h.blk (fun e => h.bg (e ▸ hg)), h.l.keep c (fun x hx e => h.lg x hx (e ▸ hg)), by simpa using hset, h.bl, h.bg, h.lg, fun x hx => Nat.lt_of_lt_of_le (h.lt1 x hx) c.size, fun x hx => Nat.lt_of_lt_of_le (h.lt2 x hx) c.size⟩
end
end Go.Proofs.YtdhegblgghembaaDoor
