/- Opens in a list: the plain acts of a table of opens; what stays true of it. -/
import Derived.Test.YtgebinfbbopnlaaDoorSort
namespace Go.Proofs.YtgebinfbbopnlaaDoor
open Go.RowKit
set_option linter.unusedVariables false
set_option linter.unusedSimpArgs false

/-- An open: its node's handle, its owner, access, deny. -/
abbrev Opn := (Int × Int) × Int × Int × Int
def opnC (x : Opn) : List Value := [.int .i64 x.1.1, .int .i64 x.1.2, .int .i64 x.2.1, .int .i64 x.2.2.1, .int .i64 x.2.2.2]
theorem opnC_len (x : Opn) : (opnC x).length = 5 := rfl
theorem opnC_one (x : Opn) : ∀ u ∈ opnC x, u.oneCell' = true := by intro u hu; simp [opnC] at hu; rcases hu with rfl | rfl | rfl | rfl | rfl <;> rfl
def mtP (a b : Int) : Bool := decide (0 < bits .and .i64 a b)
def ovP (a b : Int) : Bool := decide (0 < bits .andNot .i64 a b)
def againstP (h : Int × Int) (o a d : Int) (x : Opn) : Bool := x.1 == h && (!(x.2.1 == o) && (mtP x.2.2.2 a || mtP x.2.2.1 d))
def mineP (h : Int × Int) (o : Int) (x : Opn) : Bool := x.1 == h && x.2.1 == o
def rightP (a d : Int) : Bool := decide (1 ≤ a) && (decide (a ≤ 3) && (decide (0 ≤ d) && decide (d ≤ 3)))
/-- The first one of an owner at a node: its place. -/
theorem firstFrom_cases {α : Type} (p : α → Bool) (x : α) [Inhabited α] : ∀ (l : List α) (i : Nat), (Lib.idxByFrom (fun _ y => p y) x l i = -1 ∧ ∀ j, j < l.length → p l[j]! = false) ∨ ∃ k, k < l.length ∧ Lib.idxByFrom (fun _ y => p y) x l i = ((i + k : Nat) : Int) ∧ p l[k]! = true ∧ ∀ j, j < k → p l[j]! = false
  | [], _ => .inl ⟨rfl, fun j hj => absurd hj (Nat.not_lt_zero _)⟩
  | y :: r, i => by
    by_cases h : p y = true
    · exact .inr ⟨0, Nat.zero_lt_succ _, by simp [Lib.idxByFrom, h], by simpa using h, fun j hj => absurd hj (Nat.not_lt_zero _)⟩
    · have e : Lib.idxByFrom (fun _ y => p y) x (y :: r) i = Lib.idxByFrom (fun _ y => p y) x r (i + 1) := by simp [Lib.idxByFrom, h]
      rcases firstFrom_cases p x r (i + 1) with ⟨h1, h2⟩ | ⟨k, h1, h2, h3, h4⟩
      · refine .inl ⟨e.trans h1, fun j hj => ?_⟩
        rcases j with _ | j
        · simpa using h
        · simpa using h2 j (by simpa using hj)
      · refine .inr ⟨k + 1, by simpa using h1, by rw [e, h2]; congr 1; omega, by simpa using h3, fun j hj => ?_⟩
        rcases j with _ | j
        · simpa using h
        · simpa using h4 j (by omega)
theorem first_cases {α : Type} [Inhabited α] (p : α → Bool) (l : List α) : (firstAt p l = -1 ∧ l.findIdx? p = none ∧ l.any p = false) ∨ ∃ (i : Nat) (x : α), firstAt p l = i ∧ l.findIdx? p = some i ∧ l[i]? = some x ∧ p x = true ∧ l.any p = true ∧ ∀ j y, j < i → l[j]? = some y → p y = false := by
  rcases firstFrom_cases p default l 0 with ⟨h1, h2⟩ | ⟨i, h1, h2, h3, h4⟩
  · have hn : ∀ x ∈ l, p x = false := fun x hx => by
      obtain ⟨j, hj, rfl⟩ := List.mem_iff_getElem.1 hx
      have := h2 j hj
      rwa [getElem!_pos l j hj] at this
    refine .inl ⟨h1, List.findIdx?_eq_none_iff.2 hn, ?_⟩
    rw [Bool.eq_false_iff]
    intro h
    obtain ⟨x, hx, hp⟩ := List.any_eq_true.1 h
    rw [hn x hx] at hp; cases hp
  · have hlt : ∀ j y, j < i → l[j]? = some y → p y = false := fun j y hj hy => by
      have hjl : j < l.length := by omega
      have := h4 j hj
      rw [getElem!_pos l j hjl] at this
      rw [List.getElem?_eq_getElem hjl] at hy
      cases hy; exact this
    have hpx : p l[i] = true := by rw [getElem!_pos l i h1] at h3; exact h3
    refine .inr ⟨i, l[i], by rw [show firstAt p l = Lib.idxByFrom (fun _ y => p y) default l 0 from rfl, h2, Nat.zero_add], ?_, List.getElem?_eq_getElem h1, hpx, List.any_eq_true.2 ⟨_, List.getElem_mem h1, hpx⟩, hlt⟩
    rw [List.findIdx?_eq_some_iff_getElem]
    exact ⟨h1, hpx, fun j hj => by have := hlt j l[j] hj (List.getElem?_eq_getElem (by omega)); simp [this]⟩

def shOpen (l : List Opn) (h : Int × Int) (o a d : Int) : List Opn × Nat :=
  if rightP a d = false then (l, 2) else if l.any (againstP h o a d) then (l, 11) else
  match l.findIdx? (mineP h o) with
  | some i => (l.modify i (fun x => (x.1, x.2.1, bits .or .i64 x.2.2.1 a, bits .or .i64 x.2.2.2 d)), 0)
  | none => if 40 ≤ l.length then (l, 9) else (l ++ [(h, o, a, d)], 0)
def shDown (l : List Opn) (h : Int × Int) (o a d : Int) : List Opn × Nat :=
  match l.findIdx? (mineP h o) with
  | none => (l, 5)
  | some i => if rightP a d = false then (l, 2) else match l[i]? with
    | none => (l, 5)
    | some x => if ovP a x.2.2.1 || ovP d x.2.2.2 then (l, 3) else (l.set i (x.1, x.2.1, a, d), 0)
def shClose (l : List Opn) (h : Int × Int) (o : Int) : List Opn × Nat := (l.filter (fun x => !mineP h o x), if l.any (mineP h o) then 0 else 5)
def shDrop (l : List Opn) (o : Int) : List Opn := l.filter (fun x => !(x.2.1 == o))
def shMay (l : List Opn) (h : Int × Int) (o a : Int) : Nat :=
  if rightP a 0 = false then 2 else match l.findIdx? (mineP h o) with
  | none => 5
  | some i => match l[i]? with
    | none => 5
    | some x => if ovP a x.2.2.1 then 5 else 0
def shAnyone (l : List Opn) (h : Int × Int) (a : Int) : Nat := if rightP a 0 = false then 2 else if l.any (fun x => x.1 == h && mtP x.2.2.2 a) then 11 else 0

/-- Two opens are not against each other. -/
def AsideP (x y : Opn) : Prop := x.1 = y.1 → x.2.1 ≠ y.2.1 ∧ mtP x.2.2.1 y.2.2.2 = false ∧ mtP y.2.2.1 x.2.2.2 = false
theorem AsideP.symm {x y : Opn} (h : AsideP x y) : AsideP y x := fun e => ⟨fun q => (h e.symm).1 q.symm, (h e.symm).2.2, (h e.symm).2.1⟩
def BndP (x : Opn) : Prop := rightP x.2.2.1 x.2.2.2 = true
structure SharesOk (l : List Opn) : Prop where
  bnd : ∀ x ∈ l, BndP x
  few : l.length ≤ 40
  aside : l.Pairwise AsideP
theorem rightP_iff {a d : Int} : rightP a d = true ↔ (a = 1 ∨ a = 2 ∨ a = 3) ∧ (d = 0 ∨ d = 1 ∨ d = 2 ∨ d = 3) := by
  simp [rightP]; omega
theorem right_or {a d a' d' : Int} (h : rightP a d = true) (h' : rightP a' d' = true) : rightP (bits .or .i64 a a') (bits .or .i64 d d') = true := by
  obtain ⟨h1, h2⟩ := rightP_iff.1 h
  obtain ⟨h3, h4⟩ := rightP_iff.1 h'
  rcases h1 with rfl | rfl | rfl <;> rcases h3 with rfl | rfl | rfl <;> rcases h2 with rfl | rfl | rfl | rfl <;> rcases h4 with rfl | rfl | rfl | rfl <;> decide
theorem mt_or {a a' b : Int} (h : a = 0 ∨ a = 1 ∨ a = 2 ∨ a = 3) (h' : a' = 0 ∨ a' = 1 ∨ a' = 2 ∨ a' = 3) (hb : b = 0 ∨ b = 1 ∨ b = 2 ∨ b = 3) : mtP (bits .or .i64 a a') b = (mtP a b || mtP a' b) ∧ mtP b (bits .or .i64 a a') = (mtP b a || mtP b a') ∧ mtP a b = mtP b a := by
  rcases h with rfl | rfl | rfl | rfl <;> rcases h' with rfl | rfl | rfl | rfl <;> rcases hb with rfl | rfl | rfl | rfl <;> decide
theorem mt_less {a a' b : Int} (h : a = 0 ∨ a = 1 ∨ a = 2 ∨ a = 3) (h' : a' = 0 ∨ a' = 1 ∨ a' = 2 ∨ a' = 3) (hb : b = 0 ∨ b = 1 ∨ b = 2 ∨ b = 3) (ho : ovP a a' = false) (hm : mtP a' b = false) : mtP a b = false ∧ mtP b a = false := by
  rcases h with rfl | rfl | rfl | rfl <;> rcases h' with rfl | rfl | rfl | rfl <;> rcases hb with rfl | rfl | rfl | rfl <;> revert ho hm <;> decide
theorem bnd_acc {x : Opn} (h : BndP x) : x.2.2.1 = 0 ∨ x.2.2.1 = 1 ∨ x.2.2.1 = 2 ∨ x.2.2.1 = 3 := .inr (rightP_iff.1 h).1
theorem bnd_deny {x : Opn} (h : BndP x) : x.2.2.2 = 0 ∨ x.2.2.2 = 1 ∨ x.2.2.2 = 2 ∨ x.2.2.2 = 3 := (rightP_iff.1 h).2
/-- One element set anew: aside of all that the old one was aside of. -/
theorem aside_set {l : List Opn} {i : Nat} {x y : Opn} (hx : l[i]? = some x) (hp : l.Pairwise AsideP) (hy : ∀ z ∈ l, AsideP x z → AsideP y z) : (l.set i y).Pairwise AsideP := by
  rw [List.pairwise_iff_getElem] at hp ⊢
  have hil := (List.getElem?_eq_some_iff.1 hx).1
  have hxe : l[i] = x := (List.getElem?_eq_some_iff.1 hx).2
  intro p q hpl hql hpq
  rw [List.length_set] at hpl hql
  rw [List.getElem_set, List.getElem_set]
  by_cases e1 : i = p
  · rw [if_pos e1, if_neg (by omega)]
    subst e1
    exact hy _ (List.getElem_mem _) (by have := hp i q hil hql hpq; rwa [hxe] at this)
  · rw [if_neg e1]
    by_cases e2 : i = q
    · rw [if_pos e2]
      subst e2
      exact (hy _ (List.getElem_mem _) (by have := hp p i hpl hil hpq; rw [hxe] at this; exact this.symm)).symm
    · rw [if_neg e2]; exact hp p q hpl hql hpq
theorem find_mine {l : List Opn} {h : Int × Int} {o : Int} {i : Nat} (hf : l.findIdx? (mineP h o) = some i) : ∃ x, l[i]? = some x ∧ x.1 = h ∧ x.2.1 = o := by
  obtain ⟨hl, hp, _⟩ := List.findIdx?_eq_some_iff_getElem.1 hf
  refine ⟨l[i], List.getElem?_eq_getElem hl, ?_⟩
  simpa [mineP] using hp
theorem SharesOk.open_ {l : List Opn} (hk : SharesOk l) (h : Int × Int) (o a d : Int) : SharesOk (shOpen l h o a d).1 := by
  unfold shOpen
  by_cases hr : rightP a d = false
  · rw [if_pos hr]; exact hk
  rw [if_neg hr]
  have hr' : rightP a d = true := by simpa using hr
  by_cases hg : l.any (againstP h o a d) = true
  · rw [if_pos hg]; exact hk
  rw [if_neg hg]
  have hna : ∀ z ∈ l, againstP h o a d z = false := fun z hz => by
    rw [Bool.eq_false_iff]; intro e; exact hg (List.any_eq_true.2 ⟨z, hz, e⟩)
  have ha : a = 0 ∨ a = 1 ∨ a = 2 ∨ a = 3 := .inr (rightP_iff.1 hr').1
  have hd := (rightP_iff.1 hr').2
  have hnew : ∀ z ∈ l, z.1 = h → z.2.1 ≠ o → mtP z.2.2.2 a = false ∧ mtP z.2.2.1 d = false := fun z hz e1 e2 => by
    have := hna z hz
    simp [againstP, e1, e2] at this
    exact this
  cases hf : l.findIdx? (mineP h o) with
  | some i =>
    obtain ⟨x, hx, rfl, rfl⟩ := find_mine hf
    have hxm : x ∈ l := List.mem_of_getElem? hx
    have hbx := hk.bnd x hxm
    have hil := (List.getElem?_eq_some_iff.1 hx).1
    have hxe : l[i] = x := (List.getElem?_eq_some_iff.1 hx).2
    have hmod : l.modify i (fun x => (x.1, x.2.1, bits .or .i64 x.2.2.1 a, bits .or .i64 x.2.2.2 d)) = l.set i (x.1, x.2.1, bits .or .i64 x.2.2.1 a, bits .or .i64 x.2.2.2 d) := by
      rw [List.modify_eq_set, hx]; rfl
    simp only [hmod]
    refine ⟨fun z hz => ?_, by simpa using hk.few, aside_set hx hk.aside fun z hz hxz e => ?_⟩
    · rcases List.mem_or_eq_of_mem_set hz with hz | rfl
      · exact hk.bnd z hz
      · exact right_or hbx hr'
    · obtain ⟨q1, q2, q3⟩ := hxz e
      obtain ⟨q4, q5⟩ := hnew z hz e.symm (fun e => q1 e.symm)
      have hbz := hk.bnd z hz
      refine ⟨q1, ?_, ?_⟩
      · show mtP (bits .or .i64 x.2.2.1 a) z.2.2.2 = false
        rw [(mt_or (bnd_acc hbx) ha (bnd_deny hbz)).1, q2, (mt_or ha ha (bnd_deny hbz)).2.2, q4]; rfl
      · show mtP z.2.2.1 (bits .or .i64 x.2.2.2 d) = false
        rw [(mt_or (bnd_deny hbx) hd (bnd_acc hbz)).2.1, q3, q5]; rfl
  | none =>
    have hnm : ∀ z ∈ l, mineP h o z = false := List.findIdx?_eq_none_iff.1 hf
    show SharesOk (if 40 ≤ l.length then (l, 9) else (l ++ [(h, o, a, d)], 0)).1
    by_cases h40 : 40 ≤ l.length
    · rw [if_pos h40]; exact hk
    · rw [if_neg h40]
      refine ⟨fun z hz => ?_, by simp; omega, ?_⟩
      · rcases List.mem_append.1 hz with hz | hz
        · exact hk.bnd z hz
        · rw [List.mem_singleton.1 hz]; exact hr'
      · rw [List.pairwise_append]
        refine ⟨hk.aside, List.pairwise_singleton _ _, fun z hz y hy => ?_⟩
        rw [List.mem_singleton.1 hy]
        intro e
        have e' : z.1 = h := e
        have e2 : z.2.1 ≠ o := fun q => by have := hnm z hz; simp [mineP, e', q] at this
        obtain ⟨q4, q5⟩ := hnew z hz e' e2
        exact ⟨e2, q5, by show mtP a z.2.2.2 = false; rw [(mt_or ha ha (bnd_deny (hk.bnd z hz))).2.2]; exact q4⟩
theorem SharesOk.down {l : List Opn} (hk : SharesOk l) (h : Int × Int) (o a d : Int) : SharesOk (shDown l h o a d).1 := by
  unfold shDown
  cases hf : l.findIdx? (mineP h o) with
  | none => exact hk
  | some i =>
    obtain ⟨x, hx, rfl, rfl⟩ := find_mine hf
    by_cases hr : rightP a d = false
    · simp only [hr, if_true]; exact hk
    · have hr' : rightP a d = true := by simpa using hr
      have hxm : x ∈ l := List.mem_of_getElem? hx
      have hbx := hk.bnd x hxm
      simp only [hr', hx, if_neg (show ¬ (true = false) by simp)]
      by_cases ho : (ovP a x.2.2.1 || ovP d x.2.2.2) = true
      · rw [if_pos ho]; exact hk
      · rw [if_neg ho]
        have ho' : ovP a x.2.2.1 = false ∧ ovP d x.2.2.2 = false := by simpa using ho
        have ha : a = 0 ∨ a = 1 ∨ a = 2 ∨ a = 3 := .inr (rightP_iff.1 hr').1
        have hd := (rightP_iff.1 hr').2
        refine ⟨fun z hz => ?_, by simpa using hk.few, aside_set hx hk.aside fun z hz hxz e => ?_⟩
        · rcases List.mem_or_eq_of_mem_set hz with hz | rfl
          · exact hk.bnd z hz
          · exact hr'
        · obtain ⟨q1, q2, q3⟩ := hxz e
          have hbz := hk.bnd z hz
          refine ⟨q1, (mt_less ha (bnd_acc hbx) (bnd_deny hbz) ho'.1 q2).1, ?_⟩
          have := mt_less hd (bnd_deny hbx) (bnd_acc hbz) ho'.2 (by rw [(mt_or (bnd_deny hbx) hd (bnd_acc hbz)).2.2]; exact q3)
          exact this.2
theorem SharesOk.filter {l : List Opn} (hk : SharesOk l) (p : Opn → Bool) : SharesOk (l.filter p) :=
  ⟨fun x hx => hk.bnd x (List.mem_filter.1 hx).1, Nat.le_trans (List.length_filter_le _ _) hk.few, hk.aside.sublist List.filter_sublist⟩
theorem SharesOk.perm {l l' : List Opn} (hk : SharesOk l) (p : l'.Perm l) : SharesOk l' :=
  ⟨fun x hx => hk.bnd x (p.mem_iff.1 hx), by rw [p.length_eq]; exact hk.few, p.symm.pairwise hk.aside (fun h => AsideP.symm h)⟩
theorem ov_self {a : Int} (h : a = 0 ∨ a = 1 ∨ a = 2 ∨ a = 3) : ovP a a = false := by rcases h with rfl | rfl | rfl | rfl <;> decide
/-- What one has it may. -/
theorem SharesOk.may {l : List Opn} (hk : SharesOk l) {x : Opn} (hx : x ∈ l) : shMay l x.1 x.2.1 x.2.2.1 = 0 := by
  unfold shMay
  have hb := hk.bnd x hx
  have hr : rightP x.2.2.1 0 = true := rightP_iff.2 ⟨(rightP_iff.1 hb).1, .inl rfl⟩
  rw [if_neg (by rw [hr]; simp)]
  cases hf : l.findIdx? (mineP x.1 x.2.1) with
  | none => have := List.findIdx?_eq_none_iff.1 hf x hx; simp [mineP] at this
  | some i =>
    obtain ⟨y, hy, e1, e2⟩ := find_mine hf
    have hil := (List.getElem?_eq_some_iff.1 hy).1
    have hye : l[i] = y := (List.getElem?_eq_some_iff.1 hy).2
    obtain ⟨j, hj, hje⟩ := List.mem_iff_getElem.1 hx
    have hyx : y = x := by
      have hp := List.pairwise_iff_getElem.1 hk.aside
      rcases Nat.lt_trichotomy i j with hij | hij | hij
      · have := hp i j hil hj hij; rw [hye, hje] at this; exact absurd e2 (this e1).1
      · subst hij; rw [← hye, hje]
      · have := hp j i hj hil hij; rw [hye, hje] at this; exact absurd e2.symm (this e1.symm).1
    subst hyx
    simp only [hy, ov_self (bnd_acc hb)]; rfl
end Go.Proofs.YtgebinfbbopnlaaDoor
