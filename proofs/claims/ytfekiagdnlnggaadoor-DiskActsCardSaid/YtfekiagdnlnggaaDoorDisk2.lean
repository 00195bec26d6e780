/- disk.New, Flush by contracts. -/
import Derived.Test.YtfekiagdnlnggaaDoorDisk
namespace Go.Proofs.YtfekiagdnlnggaaDoor
open Go.RowKit
set_option linter.unusedVariables false
set_option linter.unusedSimpArgs false

def pNew (n : Nat) : PDisk := ⟨-1, List.replicate n (zerosB 64), List.replicate n (zerosB 64), []⟩
theorem new_bad {B : Nat} (ad : Nat → Addr) (n : Int) (w : World) (he : Env B ad [2] w) (hbad : n < 1 ∨ 4000 < n) :
    Calls Tryd.prog 42 #[.int .i64 n] w fun e w' => e = .returned (.tuple #[.pointer none, errV ad 2]) ∧ Chg Nil w w' := by
  obtain ⟨h2, h2l⟩ := he.get (c := 2) (by simp)
  simp only [gl] at h2 h2l
  clear he
  have hgo : n < 1 ∨ (¬ n < 1 ∧ 4000 < n) := by omega
  clear hbad
  rcases hgo with h | ⟨h, h'⟩
  all_goals
    go_enter Tryd.func42, Tryd.ntmps42
    go_wp2_with fail
    go_quiet (fail)
    go_wp2_with fail
    go_ret2
    exact ⟨rfl, Chg.drewN _ _⟩
theorem strs_len (l : List ByteArray) : (l.flatMap strC).length = l.length := by rw [flat_len strC strC_len]; simp
theorem rep_strs (n : Nat) (z : ByteArray) : (List.replicate n z).flatMap strC = List.replicate n (.string z) := by
  induction n with
  | zero => rfl
  | succ n ih => rw [List.replicate_succ, List.flatMap_cons, ih, List.replicate_succ]; rfl
theorem sliceAt_rep {w : World} {g n : Nat} {z : ByteArray} (hn : n ≤ 4000) (hb : w.heap[g]? = some (.cells (List.replicate n (.string z)).toArray 9 (0, 0))) : SliceAt w (.slice (some ⟨g, 0, none⟩) n n) 9 1 n ((List.replicate n z).flatMap strC) (· = g) := by
  refine ⟨by rw [strs_len]; simp, .inr ⟨g, 0, n, _, rfl, hb, Nat.le_refl _, by unfold maxLen; omega, by simp, fun j u hj => ?_, rfl⟩⟩
  rw [rep_strs] at hj
  rw [Nat.zero_add, List.getElem?_toArray]; exact hj
theorem new_done {w w1 w2 w3 : World} {n g : Nat} {v : Value} {S : Nat → Prop} (hn : n ≤ 4000) (h1 : Chg Nil w w1) (h2 : Chg Nil w1 w2) (hg : g = w1.heap.size) (hb : w2.heap[g]? = some (.cells (List.replicate n (.string (zerosB 64))).toArray 9 (0, 0)))
    (h3 : Chg Nil w2 w3) (hv : SliceAt w3 v 9 1 n ((List.replicate n (zerosB 64)).flatMap strC) S) (hS : ∀ x, S x → w2.heap.size ≤ x ∧ x < w3.heap.size) (T : TypeId) :
    ∃ b S', (Value.pointer (some ⟨w3.heap.size, 0, none⟩)) = .pointer (some ⟨b, 0, none⟩) ∧ Chg Nil w (w3.alloc (.cells #[.int .i64 (-1), .slice (some ⟨g, 0, none⟩) n n, v, .slice none 0 0] T)) ∧ DiskAt (w3.alloc (.cells #[.int .i64 (-1), .slice (some ⟨g, 0, none⟩) n n, v, .slice none 0 0] T)) b (pNew n) S' ∧ ∀ x, S' x → w.heap.size ≤ x := by
  have z1 := h1.size
  have z2 := h2.size
  have z3 := h3.size
  have hgl := lt_of_block hb
  have hc := (Chg.refl Nil w3).alloc (.cells #[.int .i64 (-1), .slice (some ⟨g, 0, none⟩) n n, v, .slice none 0 0] T)
  refine ⟨w3.heap.size, fun x => x = w3.heap.size ∨ x = g ∨ S x, rfl, ((h1.nil.trans h2.nil (fun x _ f => f)).trans h3.nil (fun x _ f => f)).alloc _, ⟨⟨_, _, _, T, (· = g), S, Nil, block_alloc _ _, ?_, ?_, sliceAt_nil _ _ _ _, ⟨?_, ?_, fun f => f⟩, ?_, fun x _ f => f, fun x _ f => f, ?_⟩, .inl rfl, ?_, (show (-1 : Int) ≤ -1 by omega), (show (-1 : Int) ≤ 9223372036854775807 by omega)⟩, ?_⟩
  · have := ((sliceAt_rep hn hb).keep h3 (fun _ _ f => f)).keep hc (fun _ _ f => f)
    simpa [pNew] using this
  · have := hv.keep hc (fun _ _ f => f)
    simpa [pNew] using this
  · intro e; have : w3.heap.size = g := e; omega
  · intro e; have := (hS _ e).2; omega
  · intro x e e2; have : x = g := e; have := (hS _ e2).1; omega
  · intro x h; rcases h with h | h | h
    · exact .inr (.inl h)
    · exact .inr (.inr h)
    · exact h.elim
  · intro x h; simp; rcases h with h | h | h
    · omega
    · omega
    · have := (hS _ h).2; omega
  · intro x h; rcases h with h | h | h
    · omega
    · omega
    · have := (hS _ h).1; omega
theorem new_good (n : Nat) (w : World) (h1 : 1 ≤ n) (h2 : n ≤ 4000) :
    Calls Tryd.prog 42 #[.int .i64 n] w fun e w' => ∃ b S, e = .returned (.tuple #[.pointer (some ⟨b, 0, none⟩), .nilIface]) ∧ Chg Nil w w' ∧ DiskAt w' b (pNew n) S ∧ ∀ x, S x → w.heap.size ≤ x := by
  have g1 : ¬ ((n : Int) < 1) := by omega
  have g2 : ¬ (4000 < (n : Int)) := by omega
  go_enter Tryd.func42, Tryd.ntmps42
  go_wp2_with fail
  refine (nuls_any 64 _ (by omega)).mono ?_
  rintro e w1 ⟨rfl, hc1⟩
  go_wp2_with fail
  refine (srepeat_any n w1.heap.size (zerosB 64) _ h1 h2 (by simp)).mono ?_
  rintro e w2 ⟨rfl, hc2, hb2⟩
  obtain ⟨g, hg⟩ : ∃ g, g = (w1.alloc (.cells #[.string (zerosB 64)] 9)).heap.size := ⟨_, rfl⟩
  rw [← hg] at hb2 ⊢
  have HB := Lib.hid hb2
  have HG := Lib.hid hg
  clear hb2 hg
  go_wp2_with fail
  refine (clone_str _ n _ _ w2 (sliceAt_rep h2 HB.out) (strC_ones _) (by omega)).mono ?_
  rintro e w3 ⟨v3, S3, rfl, hc3, hs3, hS3⟩
  obtain ⟨a3, c3, rfl⟩ := hs3.shape
  go_wp2_with fail
  go_ret2
  obtain ⟨b, S', e1, e2, e3, e4⟩ := new_done h2 (hc1.alloc _) hc2 HG.out HB.out hc3 hs3 hS3 173
  exact ⟨b, S', by rw [← e1]; rfl, e2, e3, e4⟩
end Go.Proofs.YtfekiagdnlnggaaDoor
