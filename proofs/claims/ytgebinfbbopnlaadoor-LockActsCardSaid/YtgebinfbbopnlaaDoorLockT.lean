/- A table of runs that tells what was painted: kept by each act; both lists are the same. -/
import Derived.Test.YtgebinfbbopnlaaDoorLockR
import Derived.Test.YtgebinfbbopnlaaDoorLwA
namespace Go.Proofs.YtgebinfbbopnlaaDoor
open Go.RowKit
set_option linter.unusedVariables false
set_option linter.unusedSimpArgs false

theorem pwAt {α : Type} {R : α → α → Prop} {l : List α} (h : l.Pairwise R) (hs : ∀ a b, R a b → R b a) {i k : Nat} {x y : α} (hi : l[i]? = some x) (hk : l[k]? = some y) (hne : i ≠ k) : R x y := by
  rw [List.pairwise_iff_getElem] at h
  obtain ⟨hi1, rfl⟩ := List.getElem?_eq_some_iff.1 hi
  obtain ⟨hk1, rfl⟩ := List.getElem?_eq_some_iff.1 hk
  rcases Nat.lt_or_gt_of_ne hne with c | c
  · exact h i k hi1 hk1 c
  · exact hs _ _ (h k i hk1 hi1 c)
structure Tells (T : List Run) (l : List Paint) : Prop where
  ok : ∀ p ∈ l, PntOk p
  fwd : ∀ x ∈ T, ∀ b, x.2.2.1 ≤ b → b < x.2.2.2.1 → atP l x.1 x.2.1 b = kdR x
  bwd : ∀ h o b, b < ENDL → atP l h o b ≠ 0 → ∃ x ∈ T, x.1 = h ∧ x.2.1 = o ∧ x.2.2.1 ≤ b ∧ b < x.2.2.2.1
theorem tells_nil : Tells [] [] := ⟨fun p hp => (by cases hp), fun x hx => (by cases hx), fun h o b _ hn => (hn rfl).elim⟩
theorem Tells.mem {T T' : List Run} {l : List Paint} (h : Tells T l) (hm : ∀ x, x ∈ T' ↔ x ∈ T) : Tells T' l :=
  ⟨h.ok, fun x hx => h.fwd x ((hm x).1 hx), fun g o b hb hn => by obtain ⟨x, hx, q⟩ := h.bwd g o b hb hn; exact ⟨x, (hm x).2 hx, q⟩⟩
theorem kdR_ne (x : Run) : kdR x ≠ 0 := by unfold kdR; split <;> decide
theorem kdR_part {x y : Run} (h : y.2.2.2.2 = x.2.2.2.2) : kdR y = kdR x := by unfold kdR; rw [h]
def endN (t : Int) : Int := if t = ENDL then -1 else t
theorem cov_new {h : Int × Int} {o f t w b : Int} (hr : RngR f t) (hb : b < ENDL) : covN b (h, o, f, endN t, w) = true ↔ f ≤ b ∧ b < t := by
  obtain ⟨r1, r2, r3, r4⟩ := hr
  rw [covN_iff]
  unfold endN
  show f ≤ b ∧ ((if t = 1152921504606846976 then -1 else t) < 0 ∨ b < (if t = 1152921504606846976 then -1 else t)) ↔ _
  have hb' : b < 1152921504606846976 := hb
  split <;> omega
theorem pnt_new {h : Int × Int} {o f t w : Int} (hr : RngR f t) (h0 : 0 ≤ w) (h2 : w ≤ 2) : PntOk (h, o, f, endN t, w) := by
  obtain ⟨r1, r2, r3, r4⟩ := hr
  unfold PntOk endN
  refine ⟨r1, by show f ≤ _; omega, ?_, h0, h2⟩
  show (if t = 1152921504606846976 then -1 else t) < 0 ∨ f < (if t = 1152921504606846976 then -1 else t) ∧ (if t = 1152921504606846976 then -1 else t) ≤ 2199023255552
  split <;> omega
theorem BndR.endl {x : Run} (h : BndR x) : x.2.2.2.1 ≤ ENDL := by
  obtain ⟨_, _, _, h4⟩ := h
  show _ ≤ (1152921504606846976 : Int)
  omega
theorem cutR_covers {h : Int × Int} {o f t b : Int} {x : Run} (b1 : x.2.2.1 ≤ b) (b2 : b < x.2.2.2.1) (hn : ¬ (x.1 = h ∧ x.2.1 = o ∧ f ≤ b ∧ b < t)) : ∃ y ∈ cutR h o f t x, y.1 = x.1 ∧ y.2.1 = x.2.1 ∧ y.2.2.1 ≤ b ∧ b < y.2.2.2.1 := by
  unfold cutR
  by_cases ho : outside h o f t x = true
  · rw [if_pos ho]; exact ⟨x, by simp, rfl, rfl, b1, b2⟩
  · rw [if_neg ho]
    have hh : x.1 = h ∧ x.2.1 = o ∧ f < x.2.2.2.1 ∧ x.2.2.1 < t := by
      simp [outside] at ho
      exact ⟨ho.1, ho.2.1, ho.2.2.1, ho.2.2.2⟩
    by_cases c : b < f
    · exact ⟨(x.1, x.2.1, x.2.2.1, f, x.2.2.2.2), List.mem_append_left _ (by rw [if_pos (by omega)]; exact List.mem_singleton.2 rfl), rfl, rfl, b1, c⟩
    · have : t ≤ b := by
        rcases Int.lt_or_le b t with d | d
        · exact absurd ⟨hh.1, hh.2.1, by omega, d⟩ hn
        · exact d
      exact ⟨(x.1, x.2.1, t, x.2.2.2.1, x.2.2.2.2), List.mem_append_right _ (by rw [if_pos (by omega)]; exact List.mem_singleton.2 rfl), rfl, rfl, this, b2⟩
/-- Behind a cut: the range is the owner's no more. -/
theorem Tells.cut {T : List Run} {l : List Paint} (hT : Tells T l) (hk : ∀ x ∈ T, BndR x) {h : Int × Int} {o f t : Int} (hr : RngR f t) : Tells (cutL T h o f t) (l ++ [(h, o, f, endN t, 0)]) := by
  refine ⟨fun p hp => ?_, fun y hy b b1 b2 => ?_, fun g q b hb hn => ?_⟩
  · rcases List.mem_append.1 hp with hp | hp
    · exact hT.ok p hp
    · rw [List.mem_singleton.1 hp]; exact pnt_new hr (by decide) (by decide)
  · obtain ⟨x, hx, ⟨a1, a2, a3, a4, a5, a6⟩, _, _, a9⟩ := cutL_mem hk hr.2.1 hy
    have hbe : b < ENDL := by have := (hk x hx).endl; omega
    rw [atP_snoc, if_neg, a1, a2, kdR_part a3]
    · exact hT.fwd x hx b (by omega) (by omega)
    · rw [Bool.and_eq_true, cov_new hr hbe, mineN_iff]
      rintro ⟨⟨e1, e2⟩, e3, e4⟩
      have := a9 e1.symm e2.symm
      omega
  · rw [atP_snoc] at hn
    split at hn
    · exact (hn rfl).elim
    · rename_i hc
      rw [Bool.and_eq_true, cov_new hr hb, mineN_iff] at hc
      obtain ⟨x, hx, x1, x2, x3, x4⟩ := hT.bwd g q b hb hn
      obtain ⟨y, hy, y1, y2, y3⟩ := cutR_covers (h := h) (o := o) (f := f) (t := t) x3 x4 (fun ⟨e1, e2, e3, e4⟩ => hc ⟨⟨e1.symm.trans x1, e2.symm.trans x2⟩, e3, e4⟩)
      exact ⟨y, List.mem_flatMap.2 ⟨x, hx, hy⟩, y1.trans x1, y2.trans x2, y3⟩
/-- Behind a range that is put over all. -/
theorem Tells.add {T : List Run} {l : List Paint} (hT : Tells T l) (hk : ∀ x ∈ T, BndR x) {h : Int × Int} {o f t : Int} {wb : Bool} (hr : RngR f t) : Tells (cutL T h o f t ++ [(h, o, f, t, wb)]) (l ++ [(h, o, f, endN t, if wb then 2 else 1)]) := by
  have hC := hT.cut hk (h := h) (o := o) hr
  have hte : t ≤ ENDL := by obtain ⟨r1, r2, r3, r4⟩ := hr; show t ≤ (1152921504606846976 : Int); omega
  refine ⟨fun p hp => ?_, fun y hy b b1 b2 => ?_, fun g q b hb hn => ?_⟩
  · rcases List.mem_append.1 hp with hp | hp
    · exact hT.ok p hp
    · rw [List.mem_singleton.1 hp]; exact pnt_new hr (by split <;> decide) (by split <;> decide)
  · rcases List.mem_append.1 hy with hy | hy
    · obtain ⟨x, hx, ⟨a1, a2, a3, a4, a5, a6⟩, _, _, a9⟩ := cutL_mem hk hr.2.1 hy
      have hbe : b < ENDL := by have := (hk x hx).endl; omega
      rw [atP_snoc, if_neg, a1, a2, kdR_part a3]
      · exact hT.fwd x hx b (by omega) (by omega)
      · rw [Bool.and_eq_true, cov_new hr hbe, mineN_iff]
        rintro ⟨⟨e1, e2⟩, e3, e4⟩
        have := a9 e1.symm e2.symm
        omega
    · rw [List.mem_singleton.1 hy] at b1 b2 ⊢
      have b1' : f ≤ b := b1
      have b2' : b < t := b2
      rw [atP_snoc, if_pos]
      · unfold kdR; cases wb <;> rfl
      · rw [Bool.and_eq_true, cov_new hr (by omega), mineN_iff]
        exact ⟨⟨rfl, rfl⟩, b1', b2'⟩
  · rw [atP_snoc] at hn
    by_cases hc : (mineN g q (h, o, f, endN t, if wb then 2 else 1) && covN b (h, o, f, endN t, if wb then 2 else 1)) = true
    · rw [Bool.and_eq_true, cov_new hr hb, mineN_iff] at hc
      exact ⟨(h, o, f, t, wb), List.mem_append_right _ (List.mem_singleton.2 rfl), hc.1.1, hc.1.2, hc.2.1, hc.2.2⟩
    · rw [if_neg hc] at hn
      rw [Bool.and_eq_true, cov_new hr hb, mineN_iff] at hc
      obtain ⟨x, hx, x1, x2, x3, x4⟩ := hT.bwd g q b hb hn
      obtain ⟨y, hy, y1, y2, y3⟩ := cutR_covers (h := h) (o := o) (f := f) (t := t) x3 x4 (fun ⟨e1, e2, e3, e4⟩ => hc ⟨⟨e1.symm.trans x1, e2.symm.trans x2⟩, e3, e4⟩)
      exact ⟨y, List.mem_append_left _ (List.mem_flatMap.2 ⟨x, hx, hy⟩), y1.trans x1, y2.trans x2, y3⟩
/-- Each byte of a run that was joined lies in one of the runs ahead. -/
def InSome (s : List Run) (y : Run) : Prop := ∀ b, y.2.2.1 ≤ b → b < y.2.2.2.1 → ∃ x ∈ s, x.1 = y.1 ∧ x.2.1 = y.2.1 ∧ x.2.2.2.2 = y.2.2.2.2 ∧ x.2.2.1 ≤ b ∧ b < x.2.2.2.1
theorem fold_inSome {s : List Run} : ∀ (r out : List Run), (∀ x ∈ r, x ∈ s) → (∀ y ∈ out, InSome s y) → ∀ y ∈ r.foldl joinStep out, InSome s y
  | [], out, _, ho => ho
  | x :: r, out, hr, ho => by
    refine fold_inSome r (joinStep out x) (fun y hy => hr y (by simp [hy])) ?_
    have hx : InSome s x := fun b b1 b2 => ⟨x, hr x (by simp), rfl, rfl, rfl, b1, b2⟩
    rcases List.eq_nil_or_concat out with rfl | ⟨i, y, rfl⟩
    · rw [joinStep_nil]
      intro y hy
      rw [List.mem_singleton.1 hy]; exact hx
    · rw [List.concat_eq_append] at ho ⊢
      rw [joinStep_last]
      by_cases ht : touchP y x = true
      · rw [if_pos ht]
        obtain ⟨t1, t2, t3, t4⟩ := touch_iff.1 ht
        intro u hu
        rcases List.mem_append.1 hu with hu | hu
        · exact ho u (by simp [hu])
        · rw [List.mem_singleton.1 hu]
          intro b b1 b2
          have b1' : y.2.2.1 ≤ b := b1
          have b2' : b < x.2.2.2.1 := b2
          by_cases c : b < y.2.2.2.1
          · exact ho y (by simp) b b1' c
          · exact ⟨x, hr x (by simp), t1.symm, t2.symm, t3.symm, by omega, b2'⟩
      · rw [if_neg ht]
        intro u hu
        rcases List.mem_append.1 hu with hu | hu
        · exact ho u hu
        · rw [List.mem_singleton.1 hu]; exact hx
theorem Tells.join {s : List Run} {l : List Paint} (hT : Tells s l) (hb : ∀ x ∈ s, BndR x) : Tells (joinL s) l := by
  refine ⟨hT.ok, fun y hy b b1 b2 => ?_, fun g q b hbe hn => ?_⟩
  · obtain ⟨x, hx, x1, x2, x3, x4, x5⟩ := fold_inSome (s := s) s [] (fun x hx => hx) (fun y hy => by cases hy) y hy b b1 b2
    rw [← x1, ← x2, ← kdR_part x3]
    exact hT.fwd x hx b x4 x5
  · obtain ⟨x, hx, x1, x2, x3, x4⟩ := hT.bwd g q b hbe hn
    obtain ⟨y, hy, c1, c2, c3, c4, c5⟩ := join_covers hb hx
    exact ⟨y, hy, c1.trans x1, c2.trans x2, by omega, by omega⟩
theorem drop_iff {h : Int × Int} {o : Int} {x : Run} : dropP h o x = true ↔ x.1 = h ∧ x.2.1 = o := by
  unfold dropP
  simp only [Bool.and_eq_true, decide_eq_true_eq]
  constructor
  · rintro ⟨⟨a, b⟩, c⟩; exact ⟨Prod.ext a b, c⟩
  · rintro ⟨rfl, c⟩; exact ⟨⟨rfl, rfl⟩, c⟩
theorem Tells.drop {T : List Run} {l : List Paint} (hT : Tells T l) (h : Int × Int) (o : Int) : Tells (T.filter fun x => !dropP h o x) (l.filter fun p => !mineN h o p) := by
  have other : ∀ g q b, ¬ (g = h ∧ q = o) → atP (l.filter fun p => !mineN h o p) g q b = atP l g q b := fun g q b hn => fold_filter _ (fun x hx hm => by
    cases hc : mineN h o x
    · rfl
    · obtain ⟨a1, a2⟩ := mineN_iff.1 hc; obtain ⟨c1, c2⟩ := mineN_iff.1 hm
      exact absurd ⟨c1.symm.trans a1, c2.symm.trans a2⟩ hn) 0
  refine ⟨fun p hp => hT.ok p (List.mem_filter.1 hp).1, fun x hx b b1 b2 => ?_, fun g q b hb hn => ?_⟩
  · obtain ⟨h1, h2⟩ := List.mem_filter.1 hx
    rw [other]
    · exact hT.fwd x h1 b b1 b2
    · intro e; rw [drop_iff.2 e] at h2; cases h2
  · by_cases e : g = h ∧ q = o
    · refine (hn (fold_none (fun x hx => ?_) 0)).elim
      have := (List.mem_filter.1 hx).2
      rw [e.1, e.2]
      simpa using this
    · rw [other g q b e] at hn
      obtain ⟨x, hx, x1, x2, x3⟩ := hT.bwd g q b hb hn
      refine ⟨x, List.mem_filter.2 ⟨hx, ?_⟩, x1, x2, x3⟩
      cases hc : dropP h o x
      · rfl
      · obtain ⟨a1, a2⟩ := drop_iff.1 hc
        exact absurd ⟨x1.symm.trans a1, x2.symm.trans a2⟩ e
/-- A run of the table is as long as may be. -/
theorem Tells.max {T : List Run} {l : List Paint} (hT : Tells T l) (hk : RunsOk T) {x : Run} (hx : x ∈ T) : MaxR (atP l x.1 x.2.1) x.2.2.1 x.2.2.2.1 (kdR x) := by
  have hb := hk.bnd x hx
  obtain ⟨i, hi⟩ := List.getElem?_of_mem hx
  have key : ∀ b, b < ENDL → atP l x.1 x.2.1 b = kdR x → ¬ (x.2.2.1 ≤ b ∧ b < x.2.2.2.1) → b = x.2.2.1 - 1 ∨ b = x.2.2.2.1 → False := fun b hbe e ho hor => by
    obtain ⟨y, hy, y1, y2, y3, y4⟩ := hT.bwd x.1 x.2.1 b hbe (by rw [e]; exact kdR_ne x)
    have hyk : kdR y = kdR x := by rw [← e, ← y1, ← y2]; exact (hT.fwd y hy b y3 y4).symm
    have hyw : y.2.2.2.2 = x.2.2.2.2 := by
      unfold kdR at hyk
      cases h1 : y.2.2.2.2 <;> cases h2 : x.2.2.2.2 <;> simp [h1, h2] at hyk ⊢
    obtain ⟨j, hj⟩ := List.getElem?_of_mem hy
    have hij : i ≠ j := fun q => by
      subst q; rw [hi] at hj; cases hj; exact ho ⟨y3, y4⟩
    have hm := pwAt hk.meet (fun a b h => h.symm) hi hj hij
    have ha := pwAt hk.apart (fun a b h => h.symm) hi hj hij
    have hby := (hk.bnd y hy).2.1
    have hbx := hb.2.1
    obtain ⟨q1, q2⟩ := ha y1.symm y2.symm hyw.symm
    by_cases c : x.2.2.1 < y.2.2.2.1 ∧ y.2.2.1 < x.2.2.2.1
    · exact (hm y1.symm c.1 c.2).1 y2.symm
    · rcases hor with rfl | rfl <;> omega
  refine ⟨hb.2.1, fun b b1 b2 => hT.fwd x hx b b1 b2, kdR_ne x, fun e => ?_, ?_⟩
  · exact key _ (by have := hb.1; have := hb.2.2.1; show x.2.2.1 - 1 < (1152921504606846976 : Int); omega) e (by omega) (.inl rfl)
  · rcases hb.2.2.2 with h4 | h4
    · exact .inr fun e => key _ (by show x.2.2.2.1 < (1152921504606846976 : Int); omega) e (by omega) (.inr rfl)
    · exact .inl h4
theorem toR_lkT {y : Run} (h : BndR y) : toR (lkT y) = y.2.2.2.1 := by
  obtain ⟨h1, h2, h3, h4⟩ := h
  unfold toR lkT
  dsimp only
  by_cases e : y.2.2.2.1 = 1152921504606846976
  · rw [if_pos e, if_pos rfl, e]
  · rw [if_neg e, if_neg (by omega)]; omega
theorem lkT_eq {x y : Run} (hy : BndR y) (h1 : x.1 = y.1) (h2 : x.2.1 = y.2.1) (h3 : x.2.2.1 = y.2.2.1) (h4 : toR x = y.2.2.2.1) (h5 : kdR x = kdR y) (h6 : x.2.2.2.1 ≠ 0 → toR x < ENDL) : x = lkT y := by
  obtain ⟨b1, b2, b3, b4⟩ := hy
  have hw : x.2.2.2.2 = y.2.2.2.2 := by
    unfold kdR at h5
    cases h1 : x.2.2.2.2 <;> cases h2 : y.2.2.2.2 <;> simp [h1, h2] at h5 ⊢
  have hs : x.2.2.2.1 = (lkT y).2.2.2.1 := by
    unfold lkT; dsimp only
    have h6' : x.2.2.2.1 ≠ 0 → toR x < 1152921504606846976 := h6
    unfold toR at h4 h6'
    by_cases e : x.2.2.2.1 = 0
    · rw [if_pos e] at h4
      have h4' : (1152921504606846976 : Int) = y.2.2.2.1 := h4
      rw [if_pos h4'.symm]; exact e
    · rw [if_neg e] at h4
      have := h6' e
      rw [if_neg e] at this
      rw [if_neg (by omega)]; omega
  exact Prod.ext h1 (Prod.ext h2 (Prod.ext h3 (Prod.ext hs hw)))
theorem at_some_mine {l : List Paint} {h : Int × Int} {o b : Int} (hn : atP l h o b ≠ 0) : ∃ p ∈ l, mineN h o p = true := by
  by_cases c : ∃ p ∈ l, mineN h o p = true
  · exact c
  · exact (hn (fold_none (fun x hx => by
      cases hm : mineN h o x
      · rfl
      · exact absurd ⟨x, hx, hm⟩ c) 0)).elim
theorem Tells.runs {T : List Run} {l : List Paint} (hT : Tells T l) (hk : RunsOk T) (h : Int × Int) (o : Int) (x : Run) : x ∈ runsP l h o ↔ ∃ y ∈ T, y.1 = h ∧ y.2.1 = o ∧ x = lkT y := by
  obtain ⟨r1, r2, _⟩ := runsP_ok hT.ok h o
  constructor
  · intro hx
    obtain ⟨a1, a2, a3, a4, a5⟩ := r1 x hx
    obtain ⟨y, hy, y1, y2, y3, y4⟩ := hT.bwd h o x.2.2.1 (by have := a3.1; omega) (by rw [a3.2.1 _ (Int.le_refl _) a3.1]; exact kdR_ne x)
    have hm := hT.max hk hy
    rw [y1, y2] at hm
    obtain ⟨e1, e2, e3⟩ := a3.one hm a4 (hk.bnd y hy).endl (Int.le_refl _) a3.1 y3 y4
    exact ⟨y, hy, y1, y2, lkT_eq (hk.bnd y hy) (a1.trans y1.symm) (a2.trans y2.symm) e1 e2 e3 a5⟩
  · rintro ⟨y, hy, rfl, rfl, rfl⟩
    have hm := hT.max hk hy
    obtain ⟨x, hx, x1, x2⟩ := r2 y.2.2.1 (by have := hm.1; have := (hk.bnd y hy).endl; omega) (by rw [hm.2.1 _ (Int.le_refl _) hm.1]; exact kdR_ne y)
    obtain ⟨a1, a2, a3, a4, a5⟩ := r1 x hx
    obtain ⟨e1, e2, e3⟩ := a3.one hm a4 (hk.bnd y hy).endl x1 x2 (Int.le_refl _) hm.1
    rw [← lkT_eq (hk.bnd y hy) a1 a2 e1 e2 e3 a5]
    exact hx
theorem runs_nodup {l : List Paint} (hl : ∀ p ∈ l, PntOk p) (h : Int × Int) (o : Int) : (runsP l h o).Nodup := by
  obtain ⟨r1, _, r3⟩ := runsP_ok hl h o
  refine List.Pairwise.imp_of_mem ?_ r3
  intro x y hx hy hxy e
  subst e
  have := (r1 x hx).2.2.1.1
  omega
theorem here_mem {l : List Paint} (hl : ∀ p ∈ l, PntOk p) {h : Int × Int} {x : Run} : x ∈ hereP l h ↔ x.1 = h ∧ x ∈ runsP l h x.2.1 := by
  unfold hereP
  rw [List.mem_flatMap]
  constructor
  · rintro ⟨o, _, hx⟩
    obtain ⟨a1, a2, _⟩ := (runsP_ok hl h o).1 x hx
    exact ⟨a1, by rw [a2]; exact hx⟩
  · rintro ⟨rfl, hx⟩
    refine ⟨x.2.1, ?_, hx⟩
    have a3 := ((runsP_ok hl x.1 x.2.1).1 x hx).2.2.1
    obtain ⟨p, hp, hm⟩ := at_some_mine (l := l) (h := x.1) (o := x.2.1) (b := x.2.2.1) (by rw [a3.2.1 _ (Int.le_refl _) a3.1]; exact kdR_ne x)
    exact owners_mem.2 ⟨p, hp, (mineN_iff.1 hm).1, (mineN_iff.1 hm).2⟩
theorem here_nodup {l : List Paint} (hl : ∀ p ∈ l, PntOk p) (h : Int × Int) : (hereP l h).Nodup := by
  unfold hereP List.Nodup
  rw [List.pairwise_flatMap]
  refine ⟨fun o _ => runs_nodup hl h o, ?_⟩
  refine List.Pairwise.imp ?_ (owners_sorted l h)
  intro a b hab x hx y hy e
  subst e
  have h1 := ((runsP_ok hl h a).1 x hx).2.1
  have h2 := ((runsP_ok hl h b).1 x hy).2.1
  omega
theorem all_nodup {l : List Paint} (hl : ∀ p ∈ l, PntOk p) : ((handlesP l).flatMap (hereP l)).Nodup := by
  unfold List.Nodup
  rw [List.pairwise_flatMap]
  refine ⟨fun h _ => here_nodup hl h, ?_⟩
  refine List.Pairwise.imp ?_ (handles_sorted l)
  intro a b hab x hx y hy e
  subst e
  have h1 := ((here_mem hl).1 hx).1
  have h2 := ((here_mem hl).1 hy).1
  exact ltH_irr (by rw [← h1] at hab; rw [← h2] at hab; exact hab)
theorem Tells.all {T : List Run} {l : List Paint} (hT : Tells T l) (hk : RunsOk T) (x : Run) : x ∈ (handlesP l).flatMap (hereP l) ↔ x ∈ T.map lkT := by
  rw [List.mem_flatMap, List.mem_map]
  constructor
  · rintro ⟨h, _, hx⟩
    obtain ⟨a1, a2⟩ := (here_mem hT.ok).1 hx
    obtain ⟨y, hy, _, _, e⟩ := (hT.runs hk h x.2.1 x).1 a2
    exact ⟨y, hy, e.symm⟩
  · rintro ⟨y, hy, rfl⟩
    have hx : lkT y ∈ runsP l y.1 y.2.1 := (hT.runs hk y.1 y.2.1 _).2 ⟨y, hy, rfl, rfl, rfl⟩
    refine ⟨y.1, ?_, (here_mem hT.ok).2 ⟨rfl, hx⟩⟩
    have a3 := hT.max hk hy
    obtain ⟨p, hp, hm⟩ := at_some_mine (l := l) (h := y.1) (o := y.2.1) (b := y.2.2.1) (by rw [a3.2.1 _ (Int.le_refl _) a3.1]; exact kdR_ne y)
    exact handles_mem.2 ⟨p, hp, (mineN_iff.1 hm).1⟩
theorem lkT_inj {x y : Run} (hx : BndR x) (hy : BndR y) (e : lkT x = lkT y) : x = y := by
  have e1 : x.1 = y.1 := congrArg (·.1) e
  have e2 : x.2.1 = y.2.1 := congrArg (·.2.1) e
  have e3 : x.2.2.1 = y.2.2.1 := congrArg (·.2.2.1) e
  have e4 : x.2.2.2.2 = y.2.2.2.2 := congrArg (·.2.2.2.2) e
  have e5 : x.2.2.2.1 = y.2.2.2.1 := by rw [← toR_lkT hx, ← toR_lkT hy, e]
  exact Prod.ext e1 (Prod.ext e2 (Prod.ext e3 (Prod.ext e5 e4)))
theorem runs_map_nodup {T : List Run} (hk : RunsOk T) : (T.map lkT).Nodup := by
  unfold List.Nodup
  rw [List.pairwise_map]
  refine List.Pairwise.imp_of_mem ?_ hk.meet
  intro x y hx hy hm e
  obtain rfl := lkT_inj (hk.bnd x hx) (hk.bnd y hy) e
  have := (hk.bnd x hx).2.1
  exact (hm rfl this this).1 rfl
/-- Both lists are the same. -/
theorem Tells.list {T S R : List Run} {l : List Paint} (hT : Tells T l) (hk : RunsOk T) (hp : S.Perm T) (ho : S.Pairwise (fun x y => ¬ lockCf y x < 0)) (hR : ListOk l R) : R = S.map lkT := by
  have hS := hk.perm hp
  have hTS : (S.map lkT).Perm R := by
    refine List.Perm.trans ?_ hR.perm.symm
    refine (List.perm_ext_iff_of_nodup (runs_map_nodup hS) (all_nodup hT.ok)).2 fun x => ?_
    rw [hT.all hk x, List.mem_map, List.mem_map]
    constructor
    · rintro ⟨y, hy, e⟩; exact ⟨y, hp.mem_iff.1 hy, e⟩
    · rintro ⟨y, hy, e⟩; exact ⟨y, hp.mem_iff.2 hy, e⟩
  have ho2 : (S.map lkT).Pairwise (fun x y => ¬ lockCf y x < 0) := by
    rw [List.pairwise_map]
    refine List.Pairwise.imp ?_ ho
    intro x y h
    rw [lockCf_lt] at h ⊢
    exact h
  refine (List.Perm.eq_of_pairwise (le := fun x y => ¬ lockCf y x < 0) (fun a b ha hb h1 h2 => ?_) ho2 hR.ord hTS).symm
  obtain ⟨x, hx, rfl⟩ := List.mem_map.1 ha
  obtain ⟨y, hy, rfl⟩ := List.mem_map.1 (hTS.mem_iff.2 hb)
  rw [lockCf_lt] at h1 h2
  have h1' : ¬ (y.1.1 < x.1.1 ∨ y.1.1 = x.1.1 ∧ (y.1.2 < x.1.2 ∨ y.1.2 = x.1.2 ∧ (y.2.2.1 < x.2.2.1 ∨ y.2.2.1 = x.2.2.1 ∧ y.2.1 < x.2.1))) := h1
  have h2' : ¬ (x.1.1 < y.1.1 ∨ x.1.1 = y.1.1 ∧ (x.1.2 < y.1.2 ∨ x.1.2 = y.1.2 ∧ (x.2.2.1 < y.2.2.1 ∨ x.2.2.1 = y.2.2.1 ∧ x.2.1 < y.2.1))) := h2
  have e1 : x.1 = y.1 := Prod.ext (by omega) (by omega)
  have e2 : x.2.2.1 = y.2.2.1 := by omega
  have e3 : x.2.1 = y.2.1 := by omega
  have mx := hT.max hk (hp.mem_iff.1 hx)
  have my := hT.max hk (hp.mem_iff.1 hy)
  rw [e1, e3] at mx
  obtain ⟨f1, f2, f3⟩ := mx.one my (hS.bnd x hx).endl (hS.bnd y hy).endl (Int.le_refl _) mx.1 (by omega) (by have := my.1; omega)
  have : x = y := by
    rw [← lkT_eq (x := lkT x) (hS.bnd y hy) e1 e3 e2 ((toR_lkT (hS.bnd x hx)).trans f2) f3 (fun hn => by
      rw [toR_lkT (hS.bnd x hx)]
      have h4 := (hS.bnd x hx).2.2.2
      show x.2.2.2.1 < (1152921504606846976 : Int)
      rcases h4 with h4 | h4
      · omega
      · exact (hn (by unfold lkT; dsimp only; rw [if_pos h4])).elim) |> lkT_inj (hS.bnd x hx) (hS.bnd y hy)]
  rw [this]
theorem Tells.len {T R : List Run} {l : List Paint} (hT : Tells T l) (hk : RunsOk T) (hR : ListOk l R) : R.length = T.length := by
  have h1 : (T.map lkT).Perm R := by
    refine List.Perm.trans ?_ hR.perm.symm
    exact (List.perm_ext_iff_of_nodup (runs_map_nodup hk) (all_nodup hT.ok)).2 fun x => (hT.all hk x).symm
  have := h1.length_eq
  rw [List.length_map] at this
  exact this.symm
/-- How many go with an owner. -/
theorem Tells.gone {T : List Run} {l : List Paint} (hT : Tells T l) (hk : RunsOk T) (h : Int × Int) (o : Int) : (runsP l h o).length + (T.filter fun x => !dropP h o x).length = T.length := by
  have h1 : ((T.filter fun x => dropP h o x).map lkT).Perm (runsP l h o) := by
    refine (List.perm_ext_iff_of_nodup (runs_map_nodup (hk.filter _)) (runs_nodup hT.ok h o)).2 fun x => ?_
    rw [hT.runs hk h o x, List.mem_map]
    constructor
    · rintro ⟨y, hy, e⟩
      obtain ⟨hy1, hy2⟩ := List.mem_filter.1 hy
      obtain ⟨q1, q2⟩ := drop_iff.1 hy2
      exact ⟨y, hy1, q1, q2, e.symm⟩
    · rintro ⟨y, hy, q1, q2, e⟩
      exact ⟨y, List.mem_filter.2 ⟨hy, drop_iff.2 ⟨q1, q2⟩⟩, e.symm⟩
  have h2 := h1.length_eq
  rw [List.length_map] at h2
  have h3 : ∀ (L : List Run), (L.filter fun x => dropP h o x).length + (L.filter fun x => !dropP h o x).length = L.length := by
    intro L
    induction L with
    | nil => rfl
    | cons x L ih =>
      cases hc : dropP h o x
      · simp only [List.filter_cons, hc, Bool.not_false, if_true, Bool.false_eq_true, if_false, List.length_cons]; omega
      · simp only [List.filter_cons, hc, Bool.not_true, if_true, Bool.false_eq_true, if_false, List.length_cons]; omega
  have := h3 T
  omega
/-- Does a run (at, size) of another owner keep a range from being locked? -/
def ovR (f t : Int) (x : Run) : Bool := !(decide (x.2.2.2.1 > 0) && decide (x.2.2.1 + x.2.2.2.1 ≤ f)) && !(decide (t ≥ 0) && decide (t ≤ x.2.2.1))
def heldR (h : Int × Int) (o f t : Int) (wb : Bool) (x : Run) : Bool := x.1 == h && (!(x.2.1 == o) && (ovR f t x && (wb || x.2.2.2.2)))
theorem heldR_lkT {h : Int × Int} {o f t : Int} {wb : Bool} {y : Run} (hy : BndR y) (hr : RngR f t) : heldR h o f (endN t) wb (lkT y) = heldP h o f t wb y := by
  obtain ⟨b1, b2, b3, b4⟩ := hy
  obtain ⟨r1, r2, r3, r4⟩ := hr
  have ho : ovR f (endN t) (lkT y) = (decide (y.2.2.1 < t) && decide (f < y.2.2.2.1)) := by
    rw [Bool.eq_iff_iff]
    unfold ovR lkT endN
    simp only [Bool.and_eq_true, Bool.not_eq_true', Bool.and_eq_false_iff, decide_eq_false_iff_not, decide_eq_true_eq]
    show _ ↔ _
    by_cases c1 : y.2.2.2.1 = 1152921504606846976 <;> by_cases c2 : t = 1152921504606846976 <;> simp only [c1, c2, if_true, if_false, ENDL] <;> omega
  unfold heldR heldP
  rw [ho]
  show (y.1 == h && (!(y.2.1 == o) && ((decide (y.2.2.1 < t) && decide (f < y.2.2.2.1)) && (wb || y.2.2.2.2)))) = _
  rw [Bool.or_comm wb, Bool.and_assoc]
theorem find_map {L : List Run} {h : Int × Int} {o f t : Int} {wb : Bool} (hb : ∀ y ∈ L, BndR y) (hr : RngR f t) : (L.map lkT).find? (heldR h o f (endN t) wb) = (L.find? (heldP h o f t wb)).map lkT := by
  induction L with
  | nil => rfl
  | cons y L ih =>
    have ih := ih (fun z hz => hb z (by simp [hz]))
    rw [List.map_cons, List.find?_cons, List.find?_cons, heldR_lkT (hb y (by simp)) hr]
    cases heldP h o f t wb y
    · exact ih
    · rfl
/-- What Test finds is what the reference finds. -/
theorem Tells.found {T R : List Run} {l : List Paint} (hT : Tells T l) (hk : RunsOk T) (hR : ListOk l R) {h : Int × Int} {o f t : Int} {wb : Bool} (hr : RngR f t) {x : Run} (hf : Found T h o f t wb x) : R.find? (heldR h o f (endN t) wb) = some (lkT x) := by
  obtain ⟨L, hp, ho, hf⟩ := hf
  rw [hT.list hk hp ho hR, find_map (hk.perm hp).bnd hr, hf]; rfl
theorem Tells.notfound {T R : List Run} {l : List Paint} (hT : Tells T l) (hk : RunsOk T) (hR : ListOk l R) {h : Int × Int} {o f t : Int} {wb : Bool} (hr : RngR f t) (hf : ∀ x ∈ T, heldP h o f t wb x = false) : R.find? (heldR h o f (endN t) wb) = none := by
  rw [List.find?_eq_none]
  intro x hx
  obtain ⟨y, hy, rfl⟩ := List.mem_map.1 ((hT.all hk x).1 (hR.perm.mem_iff.1 hx))
  rw [heldR_lkT (hk.bnd y hy) hr, hf y hy]
  exact Bool.false_ne_true
end Go.Proofs.YtgebinfbbopnlaaDoor
