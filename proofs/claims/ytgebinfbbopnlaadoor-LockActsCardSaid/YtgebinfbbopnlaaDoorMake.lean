/- make of one-cell elements, and slices made so, over any program. -/
import Derived.Test.YtgebinfbbopnlaaDoorSlice
import Derived.Laws.MakeOwn
namespace Go.Proofs.YtgebinfbbopnlaaDoor
open Go.RowKit
set_option linter.unusedVariables false
set_option linter.unusedSimpArgs false

theorem info_u8 : (Tryd.prog.info? 5).map (fun i => (i.zero, i.size, i.bytes)) = some (some (.int .u8 0), 1, 1) := by kernel_rfl
theorem slice_len' {w : World} {a : Option Addr} {n cap E size m : Nat} {xs : List Value} {S : Nat → Prop} (hn : SliceAt w (.slice a n cap) E size m xs S) : n = m := by
  obtain ⟨_, ⟨e, h⟩ | ⟨g', off', cap', cs, e, _⟩⟩ := hn
  · cases e; omega
  · cases e; rfl
theorem madeCells_one (z : Value) (n : Nat) (hz : z.cells = #[z]) : madeCells z.cells n = (List.replicate n z).toArray := by
  rw [hz]
  apply Array.ext
  · simp [madeCells]
  · intro i h1 h2
    simp [madeCells, Nat.mod_one]
theorem mk_one {P : Program} {T E : TypeId} {z : Value} {bytes : Nat} (ht : P.underlying T = some (.slice E)) (hinfo : (P.info? E).map (fun i => (i.zero, i.size, i.bytes)) = some (some z, 1, bytes)) (hz : z.cells = #[z]) (w : World) (n : Nat) (hb : bytes * n ≤ 281474976710656) (hn : n ≤ 9223372036854775807) :
    (Instr.makeSlice T (.int .i64 (n : Int)) (.int .i64 (n : Int))).run P w = .ok (.slice (some ⟨w.heap.size, 0, none⟩) n n) (w.alloc (.cells (List.replicate n z).toArray E)) := by
  obtain ⟨i, hi, hz0, hz1, hz2⟩ := info_parts hinfo
  have h := run_make (P := P) w T E i z ht hi hz0 .i64 .i64 n n (by omega) (by omega) (by rw [hz2]; have := Int.ofNat_le.2 hb; simpa using this) (by omega)
  rw [h, hz1, Nat.mul_one, madeCells_one z _ hz, Int.toNat_natCast]
theorem rep_flat {α : Type} (c : α → Value) (n : Nat) (a : α) : (List.replicate n a).flatMap (fun x => [c x]) = List.replicate n (c a) := by
  induction n with
  | zero => rfl
  | succ n ih => rw [List.replicate_succ, List.flatMap_cons, ih, List.replicate_succ]; rfl
theorem sliceAt_made' {w : World} {g n E : Nat} {z : Value} (hn : n ≤ 9223372036854775807) (hb : w.heap[g]? = some (.cells (List.replicate n z).toArray E (0, 0))) : SliceAt w (.slice (some ⟨g, 0, none⟩) n n) E 1 n (List.replicate n z) (· = g) := by
  refine ⟨by simp, .inr ⟨g, 0, n, _, rfl, hb, Nat.le_refl _, by unfold maxLen; omega, by simp, fun j u hj => ?_, rfl⟩⟩
  rw [Nat.zero_add, List.getElem?_toArray]; exact hj
theorem chg_at (w : World) (b i : Nat) (v : Value) : Chg (· = b) w (w.setCell ⟨b, i, none⟩ v) := (Chg.refl (· = b) w).setCell (p := ⟨b, i, none⟩) (.inr rfl) v
end Go.Proofs.YtgebinfbbopnlaaDoor
