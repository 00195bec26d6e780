/- disk.Copy by contract. -/
import Derived.Test.YtfekiagdnlnggaaDoorDisk4
namespace Go.Proofs.YtfekiagdnlnggaaDoor
open Go.RowKit
set_option linter.unusedVariables false
set_option linter.unusedSimpArgs false

set_option maxHeartbeats 1000000 in
set_option maxRecDepth 100000 in
theorem clone_wait (v : Value) (n : Nat) (xs : List Value) (S : Nat → Prop) (w : World) (hs : SliceAt w v 175 2 n xs S) (h1 : ∀ u ∈ xs, u.oneCell' = true) (hb : n * 24 ≤ 140737488355328) :
    Calls Tryd.prog 86 #[v] w (ClonePost w 175 2 n xs) := by
  have hl := hs.1
  have HS := Lib.hid hs
  obtain ⟨_, ⟨rfl, rfl⟩ | ⟨g, off, cap, cs, rfl, _⟩⟩ := hs
  · have hq := fun W => Lib.run_eql_slice_nil (P := Tryd.prog) W 171 175 none 0 0 0 0 Tryd.underlying171
    have hx : xs = [] := by simpa using hl
    subst hx
    clear hl
    go_enter Tryd.func86, Tryd.ntmps86
    go_wp2_with fail
    go_ret
    exact ⟨_, Nil, rfl, Chg.refl _ _, sliceAt_nil _ _ _ _, fun x f => f.elim⟩
  · have hq := fun W => Lib.run_eql_slice_nil (P := Tryd.prog) W 171 175 (some ⟨g, off, none⟩) n cap 0 0 Tryd.underlying171
    have HL := Lib.hid hl
    have hnm := HS.out.few
    clear hl
    go_enter Tryd.func86, Tryd.ntmps86
    go_wp2_with (at_builtin; refine wpList_appendS rfl _ _ 171 rfl Tryd.underlying171 info_dwrite rfl (by decide) rfl (sliceAt_made w 175 175 2) rfl xs HL.out ((HS.out.keep ((Chg.refl Nil w).alloc _) (fun _ _ f => f)).cellsOf) h1 (by omega) (by omega) ?_; intro v2 w2 S2 hs2 hc2 hg2; simp only [Nat.zero_add, List.nil_append] at hs2)
    go_ret
    exact clone_done hs2 hc2 hg2



def DCopyPost (w : World) (d : PDisk) (e : Ending) (w' : World) : Prop := ∃ b S, e = .returned (.pointer (some ⟨b, 0, none⟩)) ∧ Chg Nil w w' ∧ DiskAt w' b d S ∧ ∀ x, S x → w.heap.size ≤ x
theorem dcopy_done {w w2 w3 w4 : World} {d : PDisk} {v2 v3 v4 : Value} {S2 S3 S4 : Nat → Prop} {T : TypeId} {z : Nat} (hz : w.heap.size ≤ z) (hz2 : z ≤ w2.heap.size) (c4 : Chg Nil w w4) (c23 : Chg Nil w2 w3) (c34 : Chg Nil w3 w4)
    (s2 : SliceAt w2 v2 9 1 d.kept.length (d.kept.flatMap strC) S2) (r2 : ∀ x, S2 x → z ≤ x ∧ x < w2.heap.size)
    (s3 : SliceAt w3 v3 9 1 d.now.length (d.now.flatMap strC) S3) (r3 : ∀ x, S3 x → w2.heap.size ≤ x ∧ x < w3.heap.size)
    (s4 : SliceAt w4 v4 175 2 d.waits.length (d.waits.flatMap waitC) S4) (r4 : ∀ x, S4 x → w3.heap.size ≤ x ∧ x < w4.heap.size) (hi : -1 ≤ d.left ∧ d.left ≤ 9223372036854775807) :
    DCopyPost w d (.returned (.pointer (some ⟨w4.heap.size, 0, none⟩))) (w4.alloc (.cells #[.int .i64 d.left, v2, v3, v4] T)) := by
  have z3 := c23.size
  have z4 := c34.size
  have hc := (Chg.refl Nil w4).alloc (.cells #[.int .i64 d.left, v2, v3, v4] T)
  refine ⟨w4.heap.size, fun x => x = w4.heap.size ∨ S2 x ∨ S3 x ∨ S4 x, rfl, c4.alloc _, ⟨⟨v2, v3, v4, T, S2, S3, S4, block_alloc _ _, ((s2.keep c23 (fun _ _ f => f)).keep c34 (fun _ _ f => f)).keep hc (fun _ _ f => f), (s3.keep c34 (fun _ _ f => f)).keep hc (fun _ _ f => f), s4.keep hc (fun _ _ f => f), ⟨fun h => ?_, fun h => ?_, fun h => ?_⟩, fun x h h' => ?_, fun x h h' => ?_, fun x h h' => ?_, fun x h => .inr h⟩, .inl rfl, fun x h => ?_, hi⟩, fun x h => ?_⟩
  · have := r2 _ h; omega
  · have := r3 _ h; omega
  · have := r4 _ h; omega
  · have := r2 _ h; have := r3 _ h'; omega
  · have := r2 _ h; have := r4 _ h'; omega
  · have := r3 _ h; have := r4 _ h'; omega
  · simp; rcases h with h | h | h | h
    · omega
    · have := r2 _ h; omega
    · have := r3 _ h; omega
    · have := r4 _ h; omega
  · rcases h with h | h | h | h
    · omega
    · have := r2 _ h; omega
    · have := r3 _ h; omega
    · have := r4 _ h; omega
set_option maxHeartbeats 1000000 in
set_option maxRecDepth 100000 in
theorem kcopy_any (b : Nat) (d : PDisk) (S : Nat → Prop) (w : World) (ht : DiskAt w b d S) (f1 : d.kept.length ≤ 4000) (f2 : d.now.length ≤ 4000) (f3 : d.waits.length * 24 ≤ 140737488355328) :
    Calls Tryd.prog 48 #[.pointer (some ⟨b, 0, none⟩)] w (DCopyPost w d) := by
  obtain ⟨⟨vk, vn, vw, T', Sk, Sn, Sw, hb, hk, hn, hw, _⟩, _, _, hi⟩ := ht
  obtain ⟨ak, ck, rfl⟩ := hk.shape
  obtain ⟨an, cn, rfl⟩ := hn.shape
  obtain ⟨aw, cw, rfl⟩ := hw.shape
  have hbl := lt_of_block hb
  have hcells : ∀ W, Chg Nil w W → W.cell? ⟨b, 0, none⟩ = some (.int .i64 d.left) ∧ W.cell? ⟨b, 1, none⟩ = some (.slice ak d.kept.length ck) ∧ W.cell? ⟨b, 2, none⟩ = some (.slice an d.now.length cn) ∧ W.cell? ⟨b, 3, none⟩ = some (.slice aw d.waits.length cw) := by
    intro W hc
    have h := hc.keep hb (fun f => f)
    have h0 := cell_of h 0
    have h1 := cell_of h 1
    have h2 := cell_of h 2
    have h3 := cell_of h 3
    simp at h0 h1 h2 h3
    exact ⟨h0, h1, h2, h3⟩
  have HC := Lib.hid hcells
  have HK := Lib.hid hk
  have HN := Lib.hid hn
  have HW := Lib.hid hw
  have HI := Lib.hid hi
  clear hb hk hn hw hcells hi
  go_enter Tryd.func48, Tryd.ntmps48
  go_wp2_with fail
  go_region_held3 (fun w' => w'.cell? ⟨b, 0, none⟩ = some (.int .i64 d.left) ∧ w'.cell? ⟨b, 1, none⟩ = some (.slice ak d.kept.length ck) ∧ w'.cell? ⟨b, 2, none⟩ = some (.slice an d.now.length cn) ∧ w'.cell? ⟨b, 3, none⟩ = some (.slice aw d.waits.length cw))
    ((refine HC.out _ ?_; repeat (first | exact Chg.refl _ _ | exact hc4 | exact hc3 | exact hc2 | refine Chg.drew ?_ | refine Chg.drewsN ?_ _ | refine Chg.alloc ?_ _)))
    (first
      | (go_at_call 83; refine (clone_str (.slice ak d.kept.length ck) d.kept.length _ Sk _ (HK.out.keep ((Chg.refl Nil w).drew) (fun _ _ f => f)) (strC_ones _) (by omega)).mono ?_; rintro e w2 ⟨v2, S2, rfl, hc2', hs2, hS2⟩; obtain ⟨a2, c2, rfl⟩ := hs2.shape; have hc2 := (Chg.refl Nil w).drew.then hc2')
      | (go_at_call 83; refine (clone_str (.slice an d.now.length cn) d.now.length _ Sn _ (HN.out.keep hc2 (fun _ _ f => f)) (strC_ones _) (by omega)).mono ?_; rintro e w3 ⟨v3, S3, rfl, hc3', hs3, hS3⟩; obtain ⟨a3, c3, rfl⟩ := hs3.shape; have hc3 := hc2.then hc3')
      | (go_at_call 86; refine (clone_wait (.slice aw d.waits.length cw) d.waits.length _ Sw _ (HW.out.keep hc3 (fun _ _ f => f)) (waitC_ones _) (by omega)).mono ?_; rintro e w4 ⟨v4, S4, rfl, hc4', hs4, hS4⟩; obtain ⟨a4, c4, rfl⟩ := hs4.shape; have hc4 := hc3.then hc4'))
  go_wp2_with fail
  go_ret
  exact dcopy_done (z := w.heap.size) (Nat.le_refl _) hc2.size hc4 hc3' hc4' hs2 hS2 hs3 hS3 hs4 hS4 HI.out
end Go.Proofs.YtfekiagdnlnggaaDoor
