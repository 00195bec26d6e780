/- slices.Insert of one message as a contract by what is owned. -/
import Derived.Test.YtofhnglgebllbaaDoorNetIns
import Derived.Test.YtofhnglgebllbaaDoorOp10
namespace Go.Proofs.YtofhnglgebllbaaDoor
open Go.RowKit Go.Lib
set_option linter.unusedVariables false
set_option linter.unusedSimpArgs false
theorem ins_rows {C : Array Value} {l : List Msg} {x : Msg} {i off : Nat} (hi : i ≤ l.length) (h1 : ∀ j u, j < i * 3 → (l.flatMap msgC)[j]? = some u → C[off + j]? = some u) (h2 : ∀ j u, (msgC x)[j]? = some u → C[off + i * 3 + j]? = some u)
    (h3 : ∀ j u, ((l.flatMap msgC).drop (i * 3))[j]? = some u → C[off + (i + 1) * 3 + j]? = some u) : ∀ j u, ((l.take i ++ x :: l.drop i).flatMap msgC)[j]? = some u → C[off + j]? = some u := by
  intro j u hj
  have tl : ((l.take i).flatMap msgC).length = i * 3 := by rw [flat_len msgC msgC_len, List.length_take, Nat.min_eq_left hi]
  have e1 : (l.take i).flatMap msgC = (l.flatMap msgC).take (i * 3) := by
    have : l.flatMap msgC = (l.take i).flatMap msgC ++ (l.drop i).flatMap msgC := by rw [← List.flatMap_append, List.take_append_drop]
    rw [this, ← tl, List.take_left']
    rfl
  have e2 : (l.drop i).flatMap msgC = (l.flatMap msgC).drop (i * 3) := by
    have : l.flatMap msgC = (l.take i).flatMap msgC ++ (l.drop i).flatMap msgC := by rw [← List.flatMap_append, List.take_append_drop]
    rw [this, ← tl, List.drop_left']
    rfl
  rw [List.flatMap_append, List.flatMap_cons, List.getElem?_append, tl] at hj
  by_cases c1 : j < i * 3
  · rw [if_pos c1, e1, List.getElem?_take, if_pos c1] at hj
    exact h1 j u c1 hj
  · rw [if_neg c1, List.getElem?_append, msgC_len] at hj
    by_cases c2 : j - i * 3 < 3
    · rw [if_pos c2] at hj
      have := h2 _ u hj
      rwa [show off + i * 3 + (j - i * 3) = off + j by omega] at this
    · rw [if_neg c2, e2] at hj
      have := h3 _ u hj
      rwa [show off + (i + 1) * 3 + (j - i * 3 - 3) = off + j by omega] at this
set_option maxRecDepth 100000 in
theorem insMsg_spec (v : Value) (l : List Msg) (k : Nat) (x : Msg) (kb : Nat) {z : Int} (hz : z = ((k + 1 : Nat) : Int)) (hk : k < l.length) (hl : l.length ≤ 100) :
    Spec Tryd.prog 107 #[v, .int .i64 z, .slice (some ⟨kb, 0, none⟩) 1 1] [rRows true v 52 3 msgC l, rCell true kb (msgC x) 52]
      fun u L => ∃ v', u = v' ∧ L = [rRows true v' 52 3 msgC (netTw l k x), rCell true kb (msgC x) 52] := by
  intro E w0 w ho
  subst hz
  have hS : SliceAt w v 52 3 l.length (l.flatMap msgC) (blkOf v) := ho.fact 0 rfl
  have hC : w.heap[kb]? = some (.cells (msgC x).toArray 52 (0, 0)) := ho.fact 1 rfl
  have ap := ho.apart
  simp only [List.pairwise_cons, List.mem_cons, List.mem_nil_iff, or_false] at ap
  obtain ⟨g, off, cap, cs, rfl, hb, hcap, hoff, hcell⟩ := rows_place (ho.fact 0 rfl) (by omega)
  have hne : kb ≠ g := fun e => ap.1 _ rfl (.inl rfl) g rfl e.symm
  have hc63 : cap ≤ 9223372036854775807 := by
    obtain ⟨_, ⟨e, _⟩ | ⟨g', off', cap', cs', e, _, _, h3, _⟩⟩ := hS
    · cases e
    · cases e; unfold maxLen at h3; omega
  have hfl : (l.flatMap msgC).length = l.length * 3 := flat_len msgC msgC_len l
  have hvs : ∀ j u, (msgC x)[j]? = some u → w.cell? ⟨kb, j, none⟩ = some u := fun j u hj => by rw [cell_of hC, List.getElem?_toArray]; exact hj
  have hcs : ∀ j u, (l.flatMap msgC)[j]? = some u → w.cell? ⟨g, off + j, none⟩ = some u := fun j u hj => by rw [cell_of hb]; exact hcell j u hj
  have h1c : ∀ u ∈ l.flatMap msgC, u.oneCell' = true := fun u hu => by
    obtain ⟨y, _, hy⟩ := List.mem_flatMap.1 hu
    exact msgC_one y u hy
  have hnl : (netTw l k x).length = l.length + 1 := by unfold netTw; simp; omega
  have fin : ∀ {w' : World} {v' : Value} {S' : Nat → Prop}, SliceAt w' v' 52 3 (l.length + 1) ((netTw l k x).flatMap msgC) S' → Chg (blkOf (.slice (some ⟨g, off, none⟩) l.length cap)) w w' → Grow (blkOf (.slice (some ⟨g, off, none⟩) l.length cap)) S' w w' →
      ∃ u L', (∃ v', u = v' ∧ L' = [rRows true v' 52 3 msgC (netTw l k x), rCell true kb (msgC x) 52]) ∧ (Ending.returned v') = .returned u ∧ Own w0 E L' w' := fun {w' v' S'} hs hc hg => by
    obtain ⟨s1, s2⟩ := hs.own
    refine ⟨v', _, ⟨v', rfl, rfl⟩, rfl, ho.upd 0 rfl rfl hc (r' := rRows true v' 52 3 msgC (netTw l k x)) (by show SliceAt _ _ _ _ (netTw l k x).length _ _; rw [hnl]; exact s1) fun y hy => ?_⟩
    rcases hg y (s2 y hy) with h | h
    · exact .inl h
    · exact .inr h.1
  by_cases hend : k + 1 = l.length
  · have hq := insMsg_end g off l.length cap kb (l.flatMap msgC) (msgC x) w _ (by omega) hS rfl hc63 hvs (msgC_one x)
    rw [← hend] at hq
    rw [hend] at hq
    rw [hend]
    refine hq.mono ?_
    rintro e w' ⟨v', S', rfl, h1, h2, h3⟩
    refine fin ?_ h2 h3
    have e : netTw l k x = l ++ [x] := by unfold netTw; rw [hend, List.take_length, List.drop_length]
    rw [e, List.flatMap_append]
    simpa using h1
  · by_cases hroom : l.length + 1 ≤ cap
    · refine (insMsg_shift g off l.length cap (k + 1) kb (l.flatMap msgC) (msgC x) w (by omega) hroom hc63 hne hfl rfl hcs (fun j hj => by rw [cell_of hb]; simp; omega) (fun j => free_of hb j) hvs h1c (msgC_one x) _ _ _ _
        (show w.shape? kb = some (52, (msgC x).toArray.size) by simp [World.shape?, hC]) (show w.shape? g = some (52, cs.size) by simp [World.shape?, hb]) (by omega) (fun j => free_of hC j)).mono ?_
      rintro e w' ⟨rfl, rfl⟩
      have hb0 : w.drew.heap[g]? = some (.cells cs 52 (0, 0)) := hb
      obtain ⟨c1, b1, z1, q1, r1⟩ := block_setCells ((l.flatMap msgC).drop ((k + 1) * 3)) (off + (k + 1 + 1) * 3) w.drew cs hb0
      obtain ⟨c2, b2, z2, q2, r2⟩ := block_setCells (msgC x) (off + (k + 1) * 3) _ c1 b1
      have hdl : ((l.flatMap msgC).drop ((k + 1) * 3)).length = (l.length - (k + 1)) * 3 := by rw [List.length_drop, hfl]; omega
      refine fin (S' := blkOf (.slice (some ⟨g, off, none⟩) l.length cap)) ⟨by rw [flat_len msgC msgC_len, hnl], .inr ⟨g, off, cap, c2, rfl, b2, hroom, by unfold maxLen; omega, by rw [z2, z1]; exact hoff, ?_, rfl⟩⟩ ?_ (Grow.refl _ _ _)
      · refine ins_rows (by omega) (fun j u hj hu => ?_) (fun j u hu => ?_) (fun j u hu => ?_)
        · rw [r2 _ (.inl (by omega)), r1 _ (.inl (by omega))]; exact hcell j u hu
        · have := (List.getElem?_eq_some_iff.1 hu).1
          rw [msgC_len] at this
          rw [q2 j (by rw [msgC_len]; exact this) (by rw [z1]; omega)]; exact hu
        · have := (List.getElem?_eq_some_iff.1 hu).1
          rw [hdl] at this
          rw [r2 _ (.inr (by rw [msgC_len]; omega)), q1 j (by rw [hdl]; exact this) (by omega)]; exact hu
      · exact (((Chg.refl _ w).drew).then (chg_setCells _ _ _)).then (chg_setCells _ _ _)
    · refine (insMsg_grow g off l.length cap (k + 1) kb (l.flatMap msgC) (msgC x) w (by omega) hcap (by omega) (by omega) hfl rfl hcs hvs h1c (msgC_one x)).mono ?_
      rintro e w' ⟨rfl, ROW, hR1, hR2, hR3, rfl⟩
      have hb0 : (w.alloc (.cells ROW 52)).drew.heap[w.heap.size]? = some (.cells ROW 52 (0, 0)) := block_alloc w _
      obtain ⟨c1, b1, z1, q1, r1⟩ := block_setCells (msgC x) ((k + 1) * 3) _ ROW hb0
      have b1' : (((w.alloc (.cells ROW 52)).drew.setCells w.heap.size ((k + 1) * 3) (msgC x)).drew).heap[w.heap.size]? = some (.cells c1 52 (0, 0)) := b1
      obtain ⟨c2, b2, z2, q2, r2⟩ := block_setCells ((l.flatMap msgC).drop ((k + 1) * 3)) ((k + 1 + 1) * 3) _ c1 b1'
      have hdl : ((l.flatMap msgC).drop ((k + 1) * 3)).length = (l.length - (k + 1)) * 3 := by rw [List.length_drop, hfl]; omega
      have hge := grownCap_ge w (l.length + 1) cap 52
      have hle := grownCap_le_maxLen w (l.length + 1) cap 52 (by unfold maxLen; omega)
      refine fin (S' := (· = w.heap.size)) ⟨by rw [flat_len msgC msgC_len, hnl], .inr ⟨w.heap.size, 0, _, c2, rfl, b2, hge, hle, by rw [z2, z1]; omega, ?_, rfl⟩⟩ ?_ (fun y hy => .inr ⟨Nat.le_of_eq hy.symm, by rw [size_setCells']; show y < ((w.alloc _).drew.setCells _ _ _).heap.size; rw [size_setCells']; show y < (w.alloc _).heap.size; rw [World.size_alloc, hy]; omega⟩)
      · refine ins_rows (by omega) (fun j u hj hu => ?_) (fun j u hu => ?_) (fun j u hu => ?_)
        · rw [Nat.zero_add, r2 _ (.inl (by omega)), r1 _ (.inl (by omega))]; exact hR3 j u hj hu
        · have := (List.getElem?_eq_some_iff.1 hu).1
          rw [msgC_len] at this
          rw [Nat.zero_add, r2 _ (.inl (by omega)), q1 j (by rw [msgC_len]; exact this) (by omega)]; exact hu
        · have := (List.getElem?_eq_some_iff.1 hu).1
          rw [hdl] at this
          rw [Nat.zero_add, q2 j (by rw [hdl]; exact this) (by rw [z1]; omega)]; exact hu
      · exact (((((Chg.refl Nil w).alloc _).drew).trans (chg_setCells _ _ _) (fun x hx e => absurd e (by omega))).drew.trans (chg_setCells _ _ _) (fun x hx e => absurd e (by omega))).nil
end Go.Proofs.YtofhnglgebllbaaDoor
