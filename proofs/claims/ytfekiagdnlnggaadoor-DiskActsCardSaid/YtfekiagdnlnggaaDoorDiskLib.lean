/- Go's library for package disk: strings.Repeat of a nought, slices.Repeat of one text, slices.Clone by contracts. -/
import Derived.Test.YtfekiagdnlnggaaDoorSlice
import Derived.Test.YtfekiagdnlnggaaDoorBytes
import Derived.Test.YtfekiagdnlnggaaDoorShelf
import Derived.Laws.CopyOwn
import Derived.Lib.SliceRun
import Derived.IntWalk
namespace Go.Proofs.YtfekiagdnlnggaaDoor
open Go.RowKit
set_option linter.unusedVariables false
set_option linter.unusedSimpArgs false

theorem repeatL_nul : ∀ c : Nat, Lib.repeatL [(0 : UInt8)] c = List.replicate c 0
  | 0 => by simp [Lib.repeatL]
  | c + 1 => by
    have h := repeatL_nul c
    show [(0 : UInt8)] ++ Lib.repeatL [0] c = _
    rw [h, List.replicate_succ]; rfl
theorem nuls_any (c : Nat) (w : World) (hc : c ≤ 1000) : Calls Tryd.prog 82 #[.string ⟨#[0]⟩, .int .i64 (c : Int)] w fun e w' => e = .returned (.string (zerosB c)) ∧ Chg Nil w w' := by
  refine (Go.Proofs.Tryd.strings_Repeat ⟨#[0]⟩ c w (by omega) (by show 1 * c ≤ _; omega)).mono ?_
  rintro e w' ⟨rfl, hb⟩
  refine ⟨?_, Chg.of_below hb (fun x h1 h2 => by omega)⟩
  have : Lib.repeatL (⟨#[0]⟩ : ByteArray).data.toList c = List.replicate c 0 := repeatL_nul c
  rw [this]; rfl

def strC (s : ByteArray) : List Value := [.string s]
theorem strC_len (s : ByteArray) : (strC s).length = 1 := rfl
theorem strC_ones (l : List ByteArray) : ∀ u ∈ l.flatMap strC, u.oneCell' = true := fun u hu => by
  obtain ⟨p, _, hp⟩ := List.mem_flatMap.1 hu
  simp [strC] at hp; subst hp; rfl
theorem info_str : (Tryd.prog.info? 9).map (fun i => (i.zero, i.size, i.bytes)) = some (some (.string ⟨#[]⟩), 1, 16) := by kernel_rfl

/-- A copy of a slice: the same elements, in new memory. -/
def ClonePost (w : World) (E size n : Nat) (xs : List Value) (e : Ending) (w' : World) : Prop :=
  ∃ v S, e = .returned v ∧ Chg Nil w w' ∧ SliceAt w' v E size n xs S ∧ ∀ x, S x → w.heap.size ≤ x ∧ x < w'.heap.size
theorem SliceAt.cellsOf {w : World} {g off n cap E size : Nat} {xs : List Value} {S : Nat → Prop} (h : SliceAt w (.slice (some ⟨g, off, none⟩) n cap) E size n xs S) : ∀ j u, xs[j]? = some u → w.cell? ((⟨g, off, none⟩ : Addr).add j) = some u := by
  intro j u hj
  obtain ⟨_, ⟨e, _⟩ | ⟨g', off', cap', cs, e, hb, _, _, _, h5, _⟩⟩ := h
  · cases e
  cases e
  rw [Addr.add_lit, cell_of hb]; exact h5 j u hj
theorem SliceAt.few {w : World} {g off n cap E size : Nat} {xs : List Value} {S : Nat → Prop} (h : SliceAt w (.slice (some ⟨g, off, none⟩) n cap) E size n xs S) : n ≤ maxLen := by
  obtain ⟨_, ⟨e, _⟩ | ⟨g', off', cap', cs, e, hb, h1, h2, _⟩⟩ := h
  · cases e
  cases e; omega
theorem clone_done {w w2 : World} {E size n : Nat} {xs : List Value} {v : Value} {S : Nat → Prop} {T : TypeId} (hs : SliceAt w2 v E size n xs S) (hc : Chg (· = w.heap.size) (w.alloc (.cells #[] T)) w2) (hg : Grow (· = w.heap.size) S (w.alloc (.cells #[] T)) w2) : ClonePost w E size n xs (.returned v) w2 := by
  have hz := hc.size
  simp at hz
  refine ⟨v, S, rfl, ((Chg.refl Nil w).alloc _).trans hc (fun x hx e => by have : x = w.heap.size := e; omega), hs, fun x hx => ?_⟩
  rcases hg x hx with h | h
  · have : x = w.heap.size := h; omega
  · simp at h; omega
theorem sliceAt_made (w : World) (T E size : Nat) : SliceAt (w.alloc (.cells #[] E)) (.slice (some ⟨w.heap.size, 0, none⟩) 0 0) E size 0 [] (· = w.heap.size) :=
  ⟨by simp, .inr ⟨w.heap.size, 0, 0, #[], rfl, block_alloc _ _, Nat.le_refl _, by unfold maxLen; omega, by simp, fun j u h => (by cases h), rfl⟩⟩

set_option maxHeartbeats 1000000 in
set_option maxRecDepth 100000 in
theorem clone_str (v : Value) (n : Nat) (xs : List Value) (S : Nat → Prop) (w : World) (hs : SliceAt w v 9 1 n xs S) (h1 : ∀ u ∈ xs, u.oneCell' = true) (hb : n * 16 ≤ 140737488355328) :
    Calls Tryd.prog 83 #[v] w (ClonePost w 9 1 n xs) := by
  have hl := hs.1
  have HS := Lib.hid hs
  obtain ⟨_, ⟨rfl, rfl⟩ | ⟨g, off, cap, cs, rfl, _⟩⟩ := hs
  · have hq := fun W => Lib.run_eql_slice_nil (P := Tryd.prog) W 51 9 none 0 0 0 0 Tryd.underlying51
    have hx : xs = [] := by simpa using hl
    subst hx
    clear hl
    go_enter Tryd.func83, Tryd.ntmps83
    go_wp2_with fail
    go_ret
    exact ⟨_, Nil, rfl, Chg.refl _ _, sliceAt_nil _ _ _ _, fun x f => f.elim⟩
  · have hq := fun W => Lib.run_eql_slice_nil (P := Tryd.prog) W 51 9 (some ⟨g, off, none⟩) n cap 0 0 Tryd.underlying51
    have HL := Lib.hid hl
    have hnm := HS.out.few
    clear hl
    go_enter Tryd.func83, Tryd.ntmps83
    go_wp2_with (at_builtin; refine wpList_appendS rfl _ _ 51 rfl Tryd.underlying51 info_str rfl (by decide) rfl (sliceAt_made w 9 9 1) rfl xs HL.out ((HS.out.keep ((Chg.refl Nil w).alloc _) (fun _ _ f => f)).cellsOf) h1 (by omega) (by omega) ?_; intro v2 w2 S2 hs2 hc2 hg2; simp only [Nat.zero_add, List.nil_append] at hs2)
    go_ret
    exact clone_done hs2 hc2 hg2

/-! ### slices.Repeat of one text -/
def repL (n k : Nat) (z : ByteArray) : List Value := List.replicate k (.string z) ++ List.replicate (n - k) (.string ⟨#[]⟩)
theorem repL_len (n k : Nat) (z : ByteArray) (hk : k ≤ n) : (repL n k z).length = n := by simp [repL]; omega
theorem repL_step (n k m : Nat) (z : ByteArray) (hm : k + m ≤ n) : splice (repL n k z) k (List.replicate m (.string z)) = repL n (k + m) z := by
  have h1 : (repL n k z).take k = List.replicate k (.string z) := by unfold repL; rw [List.take_left' (by simp)]
  have h2 : (repL n k z).drop (k + m) = List.replicate (n - (k + m)) (.string ⟨#[]⟩) := by
    unfold repL
    rw [List.drop_append, List.drop_eq_nil_of_le (by rw [List.length_replicate]; omega), List.nil_append, List.drop_replicate, List.length_replicate]
    congr 1; omega
  unfold splice
  rw [List.length_replicate, h1, h2]
  unfold repL
  rw [← List.append_assoc, List.replicate_append_replicate]
theorem mk_strs (w : World) (m : Nat) (hm : m ≤ 4000) :
    (Instr.makeSlice 51 (.int .i64 (m : Int)) (.int .i64 (m : Int))).run Tryd.prog w = .ok (.slice (some ⟨w.heap.size, 0, none⟩) m m) (w.alloc (.cells (repL m 0 ⟨#[]⟩).toArray 9)) := by
  obtain ⟨i, hi, hz0, hz1, hz2⟩ := info_parts info_str
  have h := run_make (P := Tryd.prog) w 51 9 i (.string ⟨#[]⟩) Tryd.underlying51 hi hz0 .i64 .i64 m m (by omega) (by omega) (by rw [hz2]; omega) (by omega)
  rw [h]
  have e : madeCells (Value.cells (.string ⟨#[]⟩)) ((m : Int).toNat * i.size) = (repL m 0 ⟨#[]⟩).toArray := by
    rw [hz1]
    apply Array.ext
    · simp [madeCells, repL]
    · intro i h1 h2
      simp [madeCells, Value.cells, Nat.mod_one, repL]
  rw [e]; simp
theorem size_str : (Tryd.prog.info? 9).map (·.size) = some 1 := by kernel_rfl
def RelRep (n : Nat) (z : ByteArray) (w : World) (v : Value) (wr : World) : Prop :=
  ∃ k : Nat, 1 ≤ k ∧ k ≤ n ∧ v = .int .i64 k ∧ Below w.heap.size w wr ∧ wr.heap[w.heap.size]? = some (.cells (repL n k z).toArray 9 (0, 0))

set_option maxHeartbeats 2000000 in
set_option maxRecDepth 100000 in
theorem srepeat_any (n xb : Nat) (z : ByteArray) (w : World) (h1 : 1 ≤ n) (h2 : n ≤ 4000) (hx : w.cell? ⟨xb, 0, none⟩ = some (.string z)) :
    Calls Tryd.prog 81 #[.slice (some ⟨xb, 0, none⟩) 1 1, .int .i64 n] w fun e w' =>
      e = .returned (.slice (some ⟨w.heap.size, 0, none⟩) n n) ∧ Chg Nil w w' ∧ w'.heap[w.heap.size]? = some (.cells (List.replicate n (.string z)).toArray 9 (0, 0)) := by
  have hxl := World.block_lt_of_cell? _ _ hx
  have hmk := mk_strs w n h2
  have hI1 : (0 : Int) ≤ (n : Int) := by omega
  have hI2 : (n : Int) ≤ 4000 := by omega
  go_enter Tryd.func81, Tryd.ntmps81
  go_wp2_with fail
  refine (Go.Proofs.Tryd.bits_Mul 1 n (by omega) (by omega) _).mono ?_
  rintro e w' ⟨rfl, hw⟩
  have hw2 := hw.symm
  clear hw
  subst hw2
  have e1 : 1 * n / 18446744073709551616 = 0 := by omega
  have e2 : 1 * n % 18446744073709551616 = n := by omega
  rw [e1, e2]
  clear e1 e2
  obtain ⟨g, hg⟩ : ∃ g, g = w.heap.size := ⟨_, rfl⟩
  have hba : (w.alloc (.cells (repL n 0 ⟨#[]⟩).toArray 9)).heap[g]? = some (.cells (repL n 0 ⟨#[]⟩).toArray 9 (0, 0)) := by rw [hg]; exact block_alloc _ _
  have hxa : (w.alloc (.cells (repL n 0 ⟨#[]⟩).toArray 9)).cell? ⟨xb, 0, none⟩ = some (.string z) := (((Chg.refl Nil w).alloc _).cell (p := ⟨xb, 0, none⟩) hxl (fun f => f)).trans hx
  have hz : ∀ j u, [Value.string z][j]? = some u → (w.alloc (.cells (repL n 0 ⟨#[]⟩).toArray 9)).cell? ((⟨xb, 0, none⟩ : Addr).add j) = some u := by
    intro j u hj
    rcases j with _ | j
    · simp only [List.getElem?_cons_zero, Option.some.injEq] at hj; subst hj; simpa [Addr.add] using hxa
    · simp at hj
  have HBA := Lib.hid hba
  have HHZ := Lib.hid hz
  have HGG := Lib.hid hg
  rw [← hg] at hmk
  clear hba hz hxa hg
  go_wp2_with (refine wpList_copy_splice (o := ⟨some 33, _, _, _, _, _⟩) rfl (.tmp 31) (.tmp 32) 51 51 rfl 9 Tryd.underlying51 size_str (some ⟨g, 0, none⟩) (some ⟨xb, 0, none⟩) n n 1 1 rfl rfl g 0 (repL n 0 ⟨#[]⟩) 9 HBA.out [.string z] (Nat.min_eq_left h1).symm (fun _ => ⟨rfl, _, rfl, HHZ.out⟩) (by rw [repL_len _ _ _ (by omega)]; show 0 + 1 ≤ n; omega) (by intro u hu; simp only [List.mem_singleton] at hu; subst hu; rfl) w.heap.size w ((Below.refl _ _).alloc (Nat.le_refl _) _) (by rw [HGG.out]; exact Nat.le_refl _) ?_; intro w2 HW2 hB2)
  have hE : splice (repL n 0 ⟨#[]⟩) 0 [.string z] = repL n 1 z := (show splice (repL n 0 z) 0 (List.replicate 1 (.string z)) = _ from repL_step n 0 1 z (by omega))
  have hW2 := HW2.out
  rw [hE] at hW2
  have HW := Lib.hid hW2
  have h1n : (1 : Nat) ≤ n := h1
  clear hE hW2
  go_loopw [8] (fun v wr => RelRep n z w v wr) (fun v _ => (n - intOf v).toNat)
  case atStart => exact ⟨1, Nat.le_refl _, h1n, rfl, hB2, by have := HW.out; rw [HGG.out] at this; exact this⟩
  case round =>
    clear hxl hx hB2 HW HW2 HBA HHZ
    obtain ⟨k, hk1, hk2, rfl, hBr, hbr⟩ := hrel
    rw [← HGG.out] at hbr
    have HBR := Lib.hid hbr
    clear hbr hmk
    rcases Nat.lt_or_ge k n with hlt | hge
    · obtain ⟨m, hm⟩ : ∃ m, m = Nat.min k (n - k) := ⟨_, rfl⟩
      have hm1 : m ≤ n - k := by rw [hm]; exact Nat.min_le_right _ _
      have hm2 : m ≤ k := by rw [hm]; exact Nat.min_le_left _ _
      have hm3 : 1 ≤ m := by rw [hm]; exact Nat.le_min.2 ⟨hk1, by omega⟩
      have hwr : IntKind.i64.wrap ((k : Int) + (m : Int)) = ((k + m : Nat) : Int) := by rw [IntWalk.i64_in _ (by omega)]; rfl
      have hnk : ¬ n = k := by omega
      have hlen : (List.replicate m (Value.string z)).length = Nat.min k (n - k) := by rw [List.length_replicate, hm]
      have HBD : wr.drew.heap[g]? = some (.cells (repL n k z).toArray 9 (0, 0)) := HBR.out
      have hBd : Below w.heap.size w wr.drew := hBr.drew
      have hcs : ∀ j v, (List.replicate m (Value.string z))[j]? = some v → wr.drew.cell? ((⟨g, 0, none⟩ : Addr).add j) = some v := by
        intro j v hj
        rw [List.getElem?_replicate] at hj
        split at hj
        · cases hj
          rw [Addr.add_lit, cell_of HBD, Nat.zero_add]
          simp only [List.getElem?_toArray]
          unfold repL
          rw [List.getElem?_append_left (by rw [List.length_replicate]; omega), List.getElem?_replicate, if_pos (by omega)]
        · cases hj
      have hfit : k + (List.replicate m (Value.string z)).length ≤ (repL n k z).length := by rw [List.length_replicate, repL_len _ _ _ hk2]; omega
      have HM := Lib.hid hm
      have HL := Lib.hid hlen
      have HCS := Lib.hid hcs
      have HF := Lib.hid hfit
      have HWR := Lib.hid hwr
      have HBD' := Lib.hid HBD
      clear hm hlen hcs hfit hwr HBD
      go_wp2_with fail
      go_region_law (refine step_copy_splice (by rfl) (.tmp 41) (.tmp 44) 51 51 (by rfl) 9 Tryd.underlying51 size_str (some ⟨g, k, none⟩) (some ⟨g, 0, none⟩) (n - k) (n - k) k n (by simp [Act.put, Act.eval]) (by simp [Act.put, Act.eval]) g k (repL n k z) 9 HBD'.out (List.replicate m (.string z)) HL.out (fun _ => ⟨rfl, _, rfl, HCS.out⟩) HF.out (by intro u hu; rw [List.eq_of_mem_replicate hu]; rfl) w.heap.size w hBd (by rw [HGG.out]; exact Nat.le_refl _) ?_; intro w3 HW3 hB3; rw [List.length_replicate])
      rw [HWR.out]
      go_simp
      go_roundw
      case rel =>
        refine ⟨_, _, _, _, _, _, _, _, _, _, _, _, _, _, ?_, rfl⟩
        refine ⟨k + m, by omega, by omega, rfl, hB3, ?_⟩
        have h3 := HW3.out
        rw [repL_step n k m z (by omega), HGG.out] at h3
        exact h3
      case measure => simp [intOf]; omega
    · obtain rfl : k = n := by omega
      go_wp2_with fail
      go_ret
      refine ⟨by rw [HGG.out]; rfl, Chg.of_below hBr (fun x h1 h2 => by omega), ?_⟩
      have := HBR.out
      rw [HGG.out] at this
      rw [this]; simp [repL]
end Go.Proofs.YtfekiagdnlnggaaDoor
