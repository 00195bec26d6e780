/- Runs of bytes in a list: the plain acts of a table of ranges; what stays true of it. -/
import Derived.Test.YtgebinfbbopnlaaDoorSort
namespace Go.Proofs.YtgebinfbbopnlaaDoor
open Go.RowKit
set_option linter.unusedVariables false
set_option linter.unusedSimpArgs false

/-- A run: its node's handle, its owner, from, to, for writing. -/
abbrev Run := (Int × Int) × Int × Int × Int × Bool
def runC (x : Run) : List Value := [.int .i64 x.1.1, .int .i64 x.1.2, .int .i64 x.2.1, .int .i64 x.2.2.1, .int .i64 x.2.2.2.1, .bool x.2.2.2.2]
theorem runC_len (x : Run) : (runC x).length = 6 := rfl
theorem runC_one (x : Run) : ∀ u ∈ runC x, u.oneCell' = true := by intro u hu; simp [runC] at hu; rcases hu with rfl | rfl | rfl | rfl | rfl | rfl <;> rfl
/-- Within what a run's ends are. -/
def BndR (x : Run) : Prop := 0 ≤ x.2.2.1 ∧ x.2.2.1 < x.2.2.2.1 ∧ x.2.2.1 ≤ 2199023255552 ∧ (x.2.2.2.1 ≤ 2199023255552 ∨ x.2.2.2.1 = 1152921504606846976)
/-- Two runs that meet are of two owners, both for reading. -/
def MeetOk (x y : Run) : Prop := x.1 = y.1 → x.2.2.1 < y.2.2.2.1 → y.2.2.1 < x.2.2.2.1 → x.2.1 ≠ y.2.1 ∧ x.2.2.2.2 = false ∧ y.2.2.2.2 = false
theorem MeetOk.symm {x y : Run} (h : MeetOk x y) : MeetOk y x := fun e a b => by
  obtain ⟨q1, q2, q3⟩ := h e.symm b a
  exact ⟨fun q => q1 q.symm, q3, q2⟩
/-- Two runs that are alike do not touch. -/
def ApartR (x y : Run) : Prop := x.1 = y.1 → x.2.1 = y.2.1 → x.2.2.2.2 = y.2.2.2.2 → x.2.2.2.1 ≠ y.2.2.1 ∧ y.2.2.2.1 ≠ x.2.2.1
theorem ApartR.symm {x y : Run} (h : ApartR x y) : ApartR y x := fun a b c => (h a.symm b.symm c.symm).symm
structure RunsOk (l : List Run) : Prop where
  bnd : ∀ x ∈ l, BndR x
  meet : l.Pairwise MeetOk
  apart : l.Pairwise ApartR
theorem RunsOk.perm {l l' : List Run} (hk : RunsOk l) (p : l'.Perm l) : RunsOk l' :=
  ⟨fun x hx => hk.bnd x (p.mem_iff.1 hx), p.symm.pairwise hk.meet (fun h => MeetOk.symm h), p.symm.pairwise hk.apart (fun h => ApartR.symm h)⟩
theorem RunsOk.filter {l : List Run} (hk : RunsOk l) (p : Run → Bool) : RunsOk (l.filter p) :=
  ⟨fun x hx => hk.bnd x (List.mem_filter.1 hx).1, hk.meet.sublist List.filter_sublist, hk.apart.sublist List.filter_sublist⟩
theorem runsOk_nil : RunsOk [] := ⟨fun _ h => (by cases h), List.Pairwise.nil, List.Pairwise.nil⟩
/-- An owner's run of a node that a range does not meet, or another's. -/
def outside (h : Int × Int) (o f t : Int) (x : Run) : Bool := !(x.1 == h) || (!(x.2.1 == o) || (decide (x.2.2.2.1 ≤ f) || decide (t ≤ x.2.2.1)))
def cutR (h : Int × Int) (o f t : Int) (x : Run) : List Run :=
  if outside h o f t x then [x] else (if x.2.2.1 < f then [(x.1, x.2.1, x.2.2.1, f, x.2.2.2.2)] else []) ++ (if t < x.2.2.2.1 then [(x.1, x.2.1, t, x.2.2.2.1, x.2.2.2.2)] else [])
def cutL (l : List Run) (h : Int × Int) (o f t : Int) : List Run := l.flatMap (cutR h o f t)
/-- A part of a run. -/
def PartOf (y x : Run) : Prop := y.1 = x.1 ∧ y.2.1 = x.2.1 ∧ y.2.2.2.2 = x.2.2.2.2 ∧ x.2.2.1 ≤ y.2.2.1 ∧ y.2.2.1 < y.2.2.2.1 ∧ y.2.2.2.1 ≤ x.2.2.2.1
theorem cutR_mem {h : Int × Int} {o f t : Int} {x y : Run} (hx : x.2.2.1 < x.2.2.2.1) (hft : f < t) (hy : y ∈ cutR h o f t x) :
    PartOf y x ∧ (y.2.2.1 = x.2.2.1 ∨ y.2.2.1 = t ∧ x.1 = h ∧ x.2.1 = o) ∧ (y.2.2.2.1 = x.2.2.2.1 ∨ y.2.2.2.1 = f ∧ x.1 = h ∧ x.2.1 = o) ∧ (y.1 = h → y.2.1 = o → y.2.2.2.1 ≤ f ∨ t ≤ y.2.2.1) := by
  unfold cutR at hy
  by_cases ho : outside h o f t x = true
  · rw [if_pos ho, List.mem_singleton] at hy
    subst hy
    refine ⟨⟨rfl, rfl, rfl, Int.le_refl _, hx, Int.le_refl _⟩, .inl rfl, .inl rfl, fun e1 e2 => ?_⟩
    simpa [outside, e1, e2] using ho
  · rw [if_neg ho] at hy
    have hh : x.1 = h ∧ x.2.1 = o ∧ f < x.2.2.2.1 ∧ x.2.2.1 < t := by
      simp [outside] at ho
      exact ⟨ho.1, ho.2.1, ho.2.2.1, ho.2.2.2⟩
    obtain ⟨e1, e2, e3, e4⟩ := hh
    rcases List.mem_append.1 hy with hy | hy
    · split at hy
      · rw [List.mem_singleton] at hy
        subst hy
        exact ⟨⟨rfl, rfl, rfl, Int.le_refl _, by assumption, by show f ≤ x.2.2.2.1; omega⟩, .inl rfl, .inr ⟨rfl, e1, e2⟩, fun _ _ => .inl (Int.le_refl _)⟩
      · cases hy
    · split at hy
      · rw [List.mem_singleton] at hy
        subst hy
        exact ⟨⟨rfl, rfl, rfl, by show x.2.2.1 ≤ t; omega, by assumption, Int.le_refl _⟩, .inr ⟨rfl, e1, e2⟩, .inl rfl, fun _ _ => .inr (Int.le_refl _)⟩
      · cases hy
theorem cutL_mem {l : List Run} {h : Int × Int} {o f t : Int} {y : Run} (hk : ∀ x ∈ l, BndR x) (hft : f < t) (hy : y ∈ cutL l h o f t) :
    ∃ x ∈ l, PartOf y x ∧ (y.2.2.1 = x.2.2.1 ∨ y.2.2.1 = t ∧ x.1 = h ∧ x.2.1 = o) ∧ (y.2.2.2.1 = x.2.2.2.1 ∨ y.2.2.2.1 = f ∧ x.1 = h ∧ x.2.1 = o) ∧ (y.1 = h → y.2.1 = o → y.2.2.2.1 ≤ f ∨ t ≤ y.2.2.1) := by
  obtain ⟨x, hx, hy⟩ := List.mem_flatMap.1 hy
  exact ⟨x, hx, cutR_mem (hk x hx).2.1 hft hy⟩
/-- A range's two ends. -/
def RngR (f t : Int) : Prop := 0 ≤ f ∧ f < t ∧ f ≤ 1099511627776 ∧ (t ≤ 2199023255552 ∨ t = 1152921504606846976)
theorem cut_pair {h : Int × Int} {o f t : Int} {x y x' y' : Run} (hx : BndR x) (hy : BndR y) (hft : f < t) (hm : MeetOk x y) (ha : ApartR x y) (hx' : x' ∈ cutR h o f t x) (hy' : y' ∈ cutR h o f t y) : MeetOk x' y' ∧ ApartR x' y' := by
  obtain ⟨⟨a1, a2, a3, a4, a5, a6⟩, a7, a8, a9⟩ := cutR_mem hx.2.1 hft hx'
  obtain ⟨⟨b1, b2, b3, b4, b5, b6⟩, b7, b8, b9⟩ := cutR_mem hy.2.1 hft hy'
  refine ⟨fun e p q => ?_, fun e1 e2 e3 => ?_⟩
  · obtain ⟨q1, q2, q3⟩ := hm (by rw [← a1, ← b1]; exact e) (by omega) (by omega)
    exact ⟨by rw [a2, b2]; exact q1, by rw [a3]; exact q2, by rw [b3]; exact q3⟩
  · obtain ⟨q1, q2⟩ := ha (by rw [← a1, ← b1]; exact e1) (by rw [← a2, ← b2]; exact e2) (by rw [← a3, ← b3]; exact e3)
    constructor
    · intro e
      rcases a8 with r | ⟨r, r1, r2⟩
      · rcases b7 with s | ⟨s, s1, s2⟩
        · exact q1 (by omega)
        · have := a9 (by rw [a1, ← s1, ← b1, ← e1, a1]) (by rw [e2, b2, s2])
          omega
      · have := b9 (by rw [← e1, a1, r1]) (by rw [← e2, a2, r2])
        omega
    · intro e
      rcases b8 with r | ⟨r, r1, r2⟩
      · rcases a7 with s | ⟨s, s1, s2⟩
        · exact q2 (by omega)
        · have := b9 (by rw [← e1, a1, s1]) (by rw [← e2, a2, s2])
          omega
      · have := a9 (by rw [e1, b1, r1]) (by rw [e2, b2, r2])
        omega
theorem RunsOk.cut {l : List Run} (hk : RunsOk l) (h : Int × Int) (o : Int) {f t : Int} (hr : RngR f t) : RunsOk (cutL l h o f t) := by
  have hft := hr.2.1
  refine ⟨fun y hy => ?_, ?_, ?_⟩
  · obtain ⟨x, hx, ⟨_, _, _, p4, p5, p6⟩, p7, p8, _⟩ := cutL_mem hk.bnd hft hy
    obtain ⟨b1, b2, b3, b4⟩ := hk.bnd x hx
    obtain ⟨r1, r2, r3, r4⟩ := hr
    refine ⟨by omega, p5, ?_, ?_⟩
    · rcases p7 with e | ⟨e, _⟩
      · omega
      · omega
    · rcases p8 with e | ⟨e, _⟩
      · omega
      · omega
  · unfold cutL
    rw [List.pairwise_flatMap]
    refine ⟨fun x hx => ?_, ?_⟩
    · have hb := hk.bnd x hx
      unfold cutR
      split
      · exact List.pairwise_singleton _ _
      · split <;> split <;> simp
        exact fun _ a b => by have a' : x.2.2.1 < x.2.2.2.1 := a; have b' : t < f := b; omega
    · have hall : ∀ x ∈ l, BndR x := hk.bnd
      refine List.Pairwise.imp_of_mem ?_ (hk.meet.and hk.apart)
      intro x y hx hy hxy x' hx' y' hy'
      exact (cut_pair (hall x hx) (hall y hy) hft hxy.1 hxy.2 hx' hy').1
  · unfold cutL
    rw [List.pairwise_flatMap]
    refine ⟨fun x hx => ?_, ?_⟩
    · have hb := hk.bnd x hx
      unfold cutR
      split
      · exact List.pairwise_singleton _ _
      · rename_i ho
        split <;> split <;> simp
        rename_i h1 h2
        exact fun _ _ _ => ⟨by show f ≠ t; omega, by show x.2.2.2.1 ≠ x.2.2.1; have := hb.2.1; omega⟩
    · have hall : ∀ x ∈ l, BndR x := hk.bnd
      refine List.Pairwise.imp_of_mem ?_ (hk.meet.and hk.apart)
      intro x y hx hy hxy x' hx' y' hy'
      exact (cut_pair (hall x hx) (hall y hy) hft hxy.1 hxy.2 hx' hy').2

/-- Does another owner's run keep a range from being locked? -/
def heldP (h : Int × Int) (o f t : Int) (wr : Bool) (x : Run) : Bool := x.1 == h && (!(x.2.1 == o) && (decide (x.2.2.1 < t) && (decide (f < x.2.2.2.1) && (x.2.2.2.2 || wr))))
/-- Does a run touch the one ahead of it, and is it alike? -/
def touchP (y x : Run) : Bool := y.1 == x.1 && (y.2.1 == x.2.1 && (y.2.2.2.2 == x.2.2.2.2 && y.2.2.2.1 == x.2.2.1))
def joinStep (out : List Run) (x : Run) : List Run :=
  match out.getLast? with
  | none => out ++ [x]
  | some y => if touchP y x then out.dropLast ++ [(y.1, y.2.1, y.2.2.1, x.2.2.2.1, y.2.2.2.2)] else out ++ [x]
def joinL (l : List Run) : List Run := l.foldl joinStep []
theorem joinStep_nil (x : Run) : joinStep [] x = [x] := rfl
theorem joinStep_last (i : List Run) (y x : Run) : joinStep (i ++ [y]) x = if touchP y x then i ++ [(y.1, y.2.1, y.2.2.1, x.2.2.2.1, y.2.2.2.2)] else i ++ [y] ++ [x] := by
  unfold joinStep; simp
/-- In the order in which runs are joined: by node, then owner, then where they begin. -/
def joinCf (x y : Run) : Int := if Lib.compareInt x.1.1 y.1.1 ≠ 0 then Lib.compareInt x.1.1 y.1.1 else if Lib.compareInt x.1.2 y.1.2 ≠ 0 then Lib.compareInt x.1.2 y.1.2 else if Lib.compareInt x.2.1 y.2.1 ≠ 0 then Lib.compareInt x.2.1 y.2.1 else Lib.compareInt x.2.2.1 y.2.2.1
def lockCf (x y : Run) : Int := if Lib.compareInt x.1.1 y.1.1 ≠ 0 then Lib.compareInt x.1.1 y.1.1 else if Lib.compareInt x.1.2 y.1.2 ≠ 0 then Lib.compareInt x.1.2 y.1.2 else if Lib.compareInt x.2.2.1 y.2.2.1 ≠ 0 then Lib.compareInt x.2.2.1 y.2.2.1 else Lib.compareInt x.2.1 y.2.1
theorem cmp_lt (a b : Int) : Lib.compareInt a b < 0 ↔ a < b := by
  unfold Lib.compareInt
  split
  · simp; assumption
  · split <;> simp <;> omega
theorem cmp_eq (a b : Int) : Lib.compareInt a b = 0 ↔ a = b := by
  unfold Lib.compareInt
  split
  · simp; omega
  · split <;> simp <;> omega
theorem joinCf_lt (x y : Run) : joinCf x y < 0 ↔ x.1.1 < y.1.1 ∨ x.1.1 = y.1.1 ∧ (x.1.2 < y.1.2 ∨ x.1.2 = y.1.2 ∧ (x.2.1 < y.2.1 ∨ x.2.1 = y.2.1 ∧ x.2.2.1 < y.2.2.1)) := by
  have h1 := cmp_lt x.1.1 y.1.1; have h2 := cmp_eq x.1.1 y.1.1
  have h3 := cmp_lt x.1.2 y.1.2; have h4 := cmp_eq x.1.2 y.1.2
  have h5 := cmp_lt x.2.1 y.2.1; have h6 := cmp_eq x.2.1 y.2.1
  have h7 := cmp_lt x.2.2.1 y.2.2.1
  unfold joinCf
  split
  · omega
  · split
    · omega
    · split <;> omega
theorem lockCf_lt (x y : Run) : lockCf x y < 0 ↔ x.1.1 < y.1.1 ∨ x.1.1 = y.1.1 ∧ (x.1.2 < y.1.2 ∨ x.1.2 = y.1.2 ∧ (x.2.2.1 < y.2.2.1 ∨ x.2.2.1 = y.2.2.1 ∧ x.2.1 < y.2.1)) := by
  have h1 := cmp_lt x.1.1 y.1.1; have h2 := cmp_eq x.1.1 y.1.1
  have h3 := cmp_lt x.1.2 y.1.2; have h4 := cmp_eq x.1.2 y.1.2
  have h5 := cmp_lt x.2.2.1 y.2.2.1; have h6 := cmp_eq x.2.2.1 y.2.2.1
  have h7 := cmp_lt x.2.1 y.2.1
  unfold lockCf
  split
  · omega
  · split
    · omega
    · split <;> omega
theorem swo_join : Go.Sort.SWO (ltOf joinCf) where
  irrefl x := by simp only [ltOf, decide_eq_false_iff_not, joinCf_lt]; omega
  trans x y z h1 h2 := by simp only [ltOf, decide_eq_true_eq, joinCf_lt] at *; omega
  ntrans x y z h1 h2 := by simp only [ltOf, decide_eq_false_iff_not, joinCf_lt] at *; omega
theorem swo_lock : Go.Sort.SWO (ltOf lockCf) where
  irrefl x := by simp only [ltOf, decide_eq_false_iff_not, lockCf_lt]; omega
  trans x y z h1 h2 := by simp only [ltOf, decide_eq_true_eq, lockCf_lt] at *; omega
  ntrans x y z h1 h2 := by simp only [ltOf, decide_eq_false_iff_not, lockCf_lt] at *; omega

/-- Joining: out is done, r is to come. -/
structure JoinS (out r : List Run) : Prop where
  bnd : ∀ x ∈ out ++ r, BndR x
  meet : (out ++ r).Pairwise MeetOk
  ord : (out ++ r).Pairwise (fun a b => ¬ joinCf b a < 0)
  apart : out.Pairwise ApartR
theorem touch_iff {y x : Run} : touchP y x = true ↔ y.1 = x.1 ∧ y.2.1 = x.2.1 ∧ y.2.2.2.2 = x.2.2.2.2 ∧ y.2.2.2.1 = x.2.2.1 := by simp [touchP]
theorem JoinS.merge {i r : List Run} {y x : Run} (h : JoinS (i ++ [y]) (x :: r)) (ht : touchP y x = true) : JoinS (i ++ [(y.1, y.2.1, y.2.2.1, x.2.2.2.1, y.2.2.2.2)]) r := by
  obtain ⟨t1, t2, t3, t4⟩ := touch_iff.1 ht
  obtain ⟨hb, hm, ho, ha⟩ := h
  have by_ := hb y (by simp)
  have bx := hb x (by simp)
  simp only [List.pairwise_append, List.pairwise_cons, List.append_assoc, List.cons_append, List.nil_append, List.mem_cons, List.mem_append, List.mem_nil_iff, or_false, false_or] at hm ho ha
  obtain ⟨hm1, ⟨hm2, ⟨hm3, hm4⟩⟩, hm5⟩ := hm
  obtain ⟨ho1, ⟨ho2, ⟨ho3, ho4⟩⟩, ho5⟩ := ho
  obtain ⟨ha1, _, ha3⟩ := ha
  have hnew : ∀ z, BndR z → MeetOk y z → MeetOk x z → MeetOk (y.1, y.2.1, y.2.2.1, x.2.2.2.1, y.2.2.2.2) z := fun z hz h1 h2 e p q => by
    have hz1 := hz.2.1
    have p' : y.2.2.1 < z.2.2.2.1 := p
    have q' : z.2.2.1 < x.2.2.2.1 := q
    have e' : y.1 = z.1 := e
    by_cases c : z.2.2.1 < y.2.2.2.1
    · exact h1 e' p' c
    · obtain ⟨r1, r2, r3⟩ := h2 (t1.symm.trans e') (by omega) q'
      exact ⟨by show y.2.1 ≠ _; rw [t2]; exact r1, by show y.2.2.2.2 = false; rw [t3]; exact r2, r3⟩
  refine ⟨fun z hz => ?_, ?_, ?_, ?_⟩
  · simp only [List.append_assoc, List.mem_append, List.mem_cons, List.cons_append, List.nil_append, List.mem_nil_iff, or_false] at hz
    rcases hz with hz | rfl | hz
    · exact hb z (by simp [hz])
    · exact ⟨by_.1, by show y.2.2.1 < x.2.2.2.1; have := by_.2.1; have := bx.2.1; omega, by_.2.2.1, bx.2.2.2⟩
    · exact hb z (by simp [hz])
  · simp only [List.pairwise_append, List.pairwise_cons, List.append_assoc, List.cons_append, List.nil_append, List.mem_cons, List.mem_append]
    refine ⟨hm1, ⟨fun z hz => hnew z (hb z (by simp [hz])) (hm2 z (.inr hz)) (hm3 z hz), hm4⟩, fun z hz u hu => ?_⟩
    rcases hu with rfl | hu
    · exact (hnew z (hb z (by simp [hz])) (hm5 z hz y (.inl rfl)).symm (hm5 z hz x (.inr (.inl rfl))).symm).symm
    · exact hm5 z hz u (.inr (.inr hu))
  · simp only [List.pairwise_append, List.pairwise_cons, List.append_assoc, List.cons_append, List.nil_append, List.mem_cons, List.mem_append]
    refine ⟨ho1, ⟨fun z hz => ?_, ho4⟩, fun z hz u hu => ?_⟩
    · have := ho2 z (.inr hz)
      rw [joinCf_lt] at this ⊢; exact this
    · rcases hu with rfl | hu
      · have := ho5 z hz y (.inl rfl)
        rw [joinCf_lt] at this ⊢; exact this
      · exact ho5 z hz u (.inr (.inr hu))
  · rw [List.pairwise_append]
    refine ⟨ha1, List.pairwise_singleton _ _, fun z hz u hu => ?_⟩
    rw [List.mem_singleton.1 hu]
    intro e1 e2 e3
    obtain ⟨q1, q2⟩ := ha3 z hz y rfl e1 e2 e3
    refine ⟨q1, ?_⟩
    show x.2.2.2.1 ≠ z.2.2.1
    have := ho5 z hz y (.inl rfl)
    rw [joinCf_lt] at this
    have e1' : z.1 = y.1 := e1
    have e2' : z.2.1 = y.2.1 := e2
    rw [e1'] at this
    have := by_.2.1
    have := bx.2.1
    omega
theorem JoinS.push {i r : List Run} {y x : Run} (h : JoinS (i ++ [y]) (x :: r)) (ht : ¬ touchP y x = true) : JoinS (i ++ [y] ++ [x]) r := by
  obtain ⟨hb, hm, ho, ha⟩ := h
  have e0 : i ++ [y] ++ [x] ++ r = i ++ [y] ++ x :: r := by simp
  refine ⟨by rw [e0]; exact hb, by rw [e0]; exact hm, by rw [e0]; exact ho, ?_⟩
  have by_ := hb y (by simp)
  have bx := hb x (by simp)
  have ha0 := ha
  simp only [List.pairwise_append, List.pairwise_cons, List.append_assoc, List.cons_append, List.nil_append, List.mem_cons, List.mem_append, List.mem_nil_iff, or_false, false_or] at hm ho ha
  obtain ⟨hm1, ⟨hm2, ⟨hm3, hm4⟩⟩, hm5⟩ := hm
  obtain ⟨ho1, ⟨ho2, ⟨ho3, ho4⟩⟩, ho5⟩ := ho
  rw [List.pairwise_append]
  refine ⟨ha0, List.pairwise_singleton _ _, fun z hz u hu => ?_⟩
  rw [List.mem_singleton.1 hu]
  intro e1 e2 e3
  have bz := hb z (by simp only [List.append_assoc, List.mem_append] at hz ⊢; rcases hz with h | h; exact .inl h; exact .inr (.inl h))
  rcases List.mem_append.1 hz with hz | hz
  · have o1 := ho5 z hz x (.inr (.inl rfl))
    have o2 := ho5 z hz y (.inl rfl)
    have o3 := ho2 x (.inl rfl)
    rw [joinCf_lt] at o1 o2 o3
    have m1 := hm5 z hz y (.inl rfl)
    have m2 := hm2 x (.inl rfl)
    have z1 : z.1.1 = x.1.1 := by rw [e1]
    have z2 : z.1.2 = x.1.2 := by rw [e1]
    have b1 := bz.2.1; have b2 := by_.2.1; have b3 := bx.2.1
    refine ⟨fun e => ?_, fun e => by omega⟩
    have y1 : y.1.1 = x.1.1 := by omega
    have y2 : y.1.2 = x.1.2 := by omega
    have y3 : y.2.1 = x.2.1 := by omega
    have y4 : y.1 = x.1 := Prod.ext y1 y2
    by_cases c : y.2.2.1 < z.2.2.2.1
    · exact (m1 (e1.trans y4.symm) (by omega) c).1 (e2.trans y3.symm)
    · exact (m2 y4 (by omega) (by omega)).1 y3
  · obtain rfl := List.mem_singleton.1 hz
    have o3 := ho2 x (.inl rfl)
    rw [joinCf_lt] at o3
    have z1 : z.1.1 = x.1.1 := by rw [e1]
    have z2 : z.1.2 = x.1.2 := by rw [e1]
    have b1 := bz.2.1; have b3 := bx.2.1
    exact ⟨fun e => ht (touch_iff.2 ⟨e1, e2, e3, e⟩), fun e => by omega⟩
theorem JoinS.step {out r : List Run} {x : Run} (h : JoinS out (x :: r)) : JoinS (joinStep out x) r := by
  rcases List.eq_nil_or_concat out with rfl | ⟨i, y, rfl⟩
  · rw [joinStep_nil]
    exact ⟨h.bnd, h.meet, h.ord, List.pairwise_singleton _ _⟩
  · rw [List.concat_eq_append] at h ⊢
    rw [joinStep_last]
    by_cases ht : touchP y x = true
    · rw [if_pos ht]; exact h.merge ht
    · rw [if_neg ht]; exact h.push ht
theorem JoinS.all : ∀ (r out : List Run), JoinS out r → JoinS (r.foldl joinStep out) []
  | [], out, h => h
  | x :: r, out, h => JoinS.all r (joinStep out x) h.step
/-- Runs that may meet in the right way, in order: joined they are a table's. -/
theorem join_ok {s : List Run} (hb : ∀ x ∈ s, BndR x) (hm : s.Pairwise MeetOk) (ho : s.Pairwise (fun a b => ¬ joinCf b a < 0)) : RunsOk (joinL s) := by
  have := JoinS.all s [] ⟨hb, hm, ho, List.Pairwise.nil⟩
  have e : (s.foldl joinStep [] ++ ([] : List Run)) = joinL s := by rw [List.append_nil]; rfl
  have h1 := this.bnd
  have h2 := this.meet
  rw [e] at h1 h2
  exact ⟨h1, h2, this.apart⟩
/-- What is joined covers each run. -/
def Covers (y z : Run) : Prop := y.1 = z.1 ∧ y.2.1 = z.2.1 ∧ y.2.2.2.2 = z.2.2.2.2 ∧ y.2.2.1 ≤ z.2.2.1 ∧ z.2.2.2.1 ≤ y.2.2.2.1
theorem Covers.refl (z : Run) : Covers z z := ⟨rfl, rfl, rfl, Int.le_refl _, Int.le_refl _⟩
theorem step_covers {out : List Run} {x : Run} (hb : ∀ y ∈ out, y.2.2.1 < y.2.2.2.1) (hx : x.2.2.1 < x.2.2.2.1) :
    (∀ y ∈ joinStep out x, y.2.2.1 < y.2.2.2.1) ∧ (∃ y ∈ joinStep out x, Covers y x) ∧ ∀ z, (∃ y ∈ out, Covers y z) → ∃ y ∈ joinStep out x, Covers y z := by
  rcases List.eq_nil_or_concat out with rfl | ⟨i, y, rfl⟩
  · rw [joinStep_nil]
    exact ⟨fun y hy => by rw [List.mem_singleton.1 hy]; exact hx, ⟨x, by simp, Covers.refl x⟩, fun z ⟨y, hy, _⟩ => by cases hy⟩
  · rw [List.concat_eq_append] at hb ⊢
    rw [joinStep_last]
    by_cases ht : touchP y x = true
    · rw [if_pos ht]
      obtain ⟨t1, t2, t3, t4⟩ := touch_iff.1 ht
      have hby := hb y (by simp)
      refine ⟨fun u hu => ?_, ⟨_, List.mem_append_right _ (List.mem_singleton.2 rfl), t1, t2, t3, by show y.2.2.1 ≤ x.2.2.1; omega, Int.le_refl _⟩, fun z ⟨u, hu, hc⟩ => ?_⟩
      · rcases List.mem_append.1 hu with hu | hu
        · exact hb u (by simp [hu])
        · rw [List.mem_singleton.1 hu]; show y.2.2.1 < x.2.2.2.1; omega
      · rcases List.mem_append.1 hu with hu | hu
        · exact ⟨u, List.mem_append_left _ hu, hc⟩
        · obtain rfl := List.mem_singleton.1 hu
          obtain ⟨c1, c2, c3, c4, c5⟩ := hc
          exact ⟨_, List.mem_append_right _ (List.mem_singleton.2 rfl), c1, c2, c3, c4, by show z.2.2.2.1 ≤ x.2.2.2.1; omega⟩
    · rw [if_neg ht]
      refine ⟨fun u hu => ?_, ⟨x, by simp, Covers.refl x⟩, fun z ⟨u, hu, hc⟩ => ⟨u, List.mem_append_left _ hu, hc⟩⟩
      rcases List.mem_append.1 hu with hu | hu
      · exact hb u hu
      · rw [List.mem_singleton.1 hu]; exact hx
theorem fold_covers : ∀ (r out : List Run), (∀ y ∈ out, y.2.2.1 < y.2.2.2.1) → (∀ y ∈ r, y.2.2.1 < y.2.2.2.1) → ∀ z, (z ∈ r ∨ ∃ y ∈ out, Covers y z) → ∃ y ∈ r.foldl joinStep out, Covers y z
  | [], out, _, _, z, h => by
    rcases h with h | h
    · cases h
    · exact h
  | x :: r, out, hb, hr, z, h => by
    obtain ⟨q1, q2, q3⟩ := step_covers hb (hr x (by simp))
    refine fold_covers r _ q1 (fun y hy => hr y (by simp [hy])) z ?_
    rcases h with h | h
    · rcases List.mem_cons.1 h with rfl | h
      · exact .inr q2
      · exact .inl h
    · exact .inr (q3 z h)
theorem join_covers {s : List Run} (hb : ∀ x ∈ s, BndR x) {z : Run} (hz : z ∈ s) : ∃ y ∈ joinL s, Covers y z :=
  fold_covers s [] (fun _ h => by cases h) (fun y hy => (hb y hy).2.1) z (.inl hz)
/-- Where no two touch nothing is joined. -/
theorem join_same {s : List Run} (h : ∀ x ∈ s, ∀ y ∈ s, x.2.2.2.1 ≠ y.2.2.1) : joinL s = s := by
  have aux : ∀ (r out : List Run), (∀ x ∈ out ++ r, ∀ y ∈ out ++ r, x.2.2.2.1 ≠ y.2.2.1) → r.foldl joinStep out = out ++ r := by
    intro r
    induction r with
    | nil => intro out _; simp
    | cons x r ih =>
      intro out ho
      have e : joinStep out x = out ++ [x] := by
        rcases List.eq_nil_or_concat out with rfl | ⟨i, y, rfl⟩
        · rfl
        · rw [List.concat_eq_append] at ho ⊢
          rw [joinStep_last, if_neg]
          intro ht
          exact ho y (by simp) x (by simp) (touch_iff.1 ht).2.2.2
      show r.foldl joinStep (joinStep out x) = _
      rw [e, ih _ (by simpa using ho)]
      simp
  exact aux s [] (by simpa using h)
/-- What is locked: the range lies among the runs in the right way. -/
theorem add_meet {l : List Run} (hk : RunsOk l) {h : Int × Int} {o f t : Int} {wr : Bool} (hr : RngR f t) (hn : ∀ x ∈ l, heldP h o f t wr x = false) : (∀ x ∈ cutL l h o f t ++ [(h, o, f, t, wr)], BndR x) ∧ (cutL l h o f t ++ [(h, o, f, t, wr)]).Pairwise MeetOk := by
  have hc := hk.cut h o hr
  refine ⟨fun x hx => ?_, ?_⟩
  · rcases List.mem_append.1 hx with hx | hx
    · exact hc.bnd x hx
    · rw [List.mem_singleton.1 hx]
      obtain ⟨r1, r2, r3, r4⟩ := hr
      exact ⟨r1, r2, by show f ≤ _; omega, r4⟩
  · rw [List.pairwise_append]
    refine ⟨hc.meet, List.pairwise_singleton _ _, fun z hz u hu => ?_⟩
    rw [List.mem_singleton.1 hu]
    intro e p q
    have e' : z.1 = h := e
    have p' : z.2.2.1 < t := p
    have q' : f < z.2.2.2.1 := q
    obtain ⟨x, hx, ⟨a1, a2, a3, a4, a5, a6⟩, _, _, a9⟩ := cutL_mem hk.bnd hr.2.1 hz
    have hzo : z.2.1 ≠ o := fun e2 => by have := a9 e' e2; omega
    have := hn x hx
    have x1 : x.1 = h := by rw [← a1]; exact e'
    have x2 : x.2.1 ≠ o := by rw [← a2]; exact hzo
    simp [heldP, x1, x2] at this
    have := this (by omega) (by omega)
    exact ⟨hzo, by rw [a3]; exact this.1, this.2⟩
end Go.Proofs.YtgebinfbbopnlaaDoor
