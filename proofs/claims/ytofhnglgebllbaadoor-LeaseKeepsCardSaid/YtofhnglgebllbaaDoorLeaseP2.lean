/- Clients in a list: confirming, renewing, ticks. No program is in sight, no condition. -/
import Derived.Test.YtofhnglgebllbaaDoorLeaseP
namespace Go.Proofs.YtofhnglgebllbaaDoor
open Go.RowKit
set_option linter.unusedVariables false
set_option linter.unusedSimpArgs false
section
variable {l : List Ls} {last now : Int}
theorem ls_at (h : l.Pairwise (fun x y : Ls => x.1 < y.1)) {i j : Nat} {x y : Ls} (hx : l[i]? = some x) (hy : l[j]? = some y) (e : x.1 = y.1) : i = j := by
  obtain ⟨hi, rfl⟩ := List.getElem?_eq_some_iff.1 hx
  obtain ⟨hj, rfl⟩ := List.getElem?_eq_some_iff.1 hy
  have hp := List.pairwise_iff_getElem.1 h
  rcases Nat.lt_trichotomy i j with q | q | q
  · have := hp i j hi hj q; omega
  · exact q
  · have := hp j i hj hi q; omega
theorem set_map (h : l.Pairwise (fun x y : Ls => x.1 < y.1)) {j : Nat} {e : Ls} (hj : l[j]? = some e) {f : Ls → Ls} (hf : ∀ x ∈ l, x.1 ≠ e.1 → f x = x) : l.set j (f e) = l.map f := by
  apply List.ext_getElem?
  intro i
  rw [List.getElem?_set, List.getElem?_map]
  by_cases hij : j = i
  · subst hij
    obtain ⟨hlt, rfl⟩ := List.getElem?_eq_some_iff.1 hj
    simp [hlt]
  · rw [if_neg hij]
    cases hx : l[i]? with
    | none => rfl
    | some x =>
      rw [Option.map_some, hf x (List.mem_of_getElem? hx) (fun e' => hij (ls_at h hj hx e'.symm))]
theorem set_kv {j : Nat} {e e' : Ls} (hj : l[j]? = some e) (h1 : e'.1 = e.1) (h2 : e'.2.1 = e.2.1) : (l.set j e').map lsKV = l.map lsKV := by
  apply List.ext_getElem?
  intro i
  rw [List.getElem?_map, List.getElem?_map, List.getElem?_set]
  by_cases hij : j = i
  · subst hij
    obtain ⟨hlt, rfl⟩ := List.getElem?_eq_some_iff.1 hj
    simp [hlt, lsKV, h1, h2]
  · rw [if_neg hij]
theorem set_F {j : Nat} {e' : Ls} : (l.map lsF).set j e'.2 = (l.set j e').map lsF := by rw [List.map_set]; rfl
/-- Client e with another since, confirmed or not. -/
def lsSet (e : Ls) (c : Bool) (s : Int) : Ls := (e.1, e.2.1, e.2.2.1, e.2.2.2.1, e.2.2.2.2.1, c, s)
theorem LsOk.set (h : LsOk l last now) {j : Nat} {e : Ls} (hj : l[j]? = some e) {c : Bool} (hc : ∀ x ∈ l, x.1 ≠ e.1 → lsN x = lsN e → lsC x = c → False) : LsOk (l.set j (lsSet e c now)) last now := by
  have hm := List.mem_of_getElem? hj
  have e1 : l.set j (lsSet e c now) = l.map fun x => if x.1 = e.1 then lsSet e c now else x := by
    have := set_map (f := fun x => if x.1 = e.1 then lsSet e c now else x) h.sorted hj (fun x hx hn => by simp [hn])
    simpa using this
  rw [e1]
  have hid : ∀ x : Ls, (if x.1 = e.1 then lsSet e c now else x).1 = x.1 := fun x => by split <;> rename_i q; exact q.symm; rfl
  refine ⟨?_, ?_, ?_, ?_, by rw [List.length_map]; exact h.few, h.pos⟩
  · rw [List.pairwise_map]; exact h.sorted.imp (fun {a b} q => by rw [hid, hid]; exact q)
  · intro y hy
    obtain ⟨x, hx, rfl⟩ := List.mem_map.1 hy
    split
    · exact h.ids e hm
    · exact h.ids x hx
  · intro y hy
    obtain ⟨x, hx, rfl⟩ := List.mem_map.1 hy
    split
    · exact ⟨h.pos, Int.le_refl _⟩
    · exact h.since x hx
  · rw [List.pairwise_map]
    refine List.Pairwise.imp_of_mem ?_ (h.one.and h.sorted)
    intro x y hx hy hxy
    by_cases qx : x.1 = e.1 <;> by_cases qy : y.1 = e.1
    · have := hxy.2; omega
    · rw [if_pos qx, if_neg qy]; rintro ⟨a, b⟩; exact hc y hy qy a.symm b.symm
    · rw [if_neg qx, if_pos qy]; rintro ⟨a, b⟩; exact hc x hx qx a b
    · rw [if_neg qx, if_neg qy]; exact hxy.1
/-! ### Confirming -/
def confP (e x : Ls) : Bool := !(decide (lsN x = lsN e) && lsC x && !decide (x.1 = e.1))
def confL (l : List Ls) (j : Nat) (e : Ls) (now : Int) : List Ls := (l.set j (lsSet e true now)).filter (confP e)
def confG (l : List Ls) (e : Ls) : Int := match l.find? (fun x => !confP e x) with | some x => x.1 | none => 0
theorem LsOk.conf (h : LsOk l last now) {j : Nat} {e : Ls} (hj : l[j]? = some e) : LsOk (confL l j e now) last now := by
  unfold confL
  have e1 : (l.set j (lsSet e true now)).filter (confP e) = ((l.filter (confP e)).map fun x => if x.1 = e.1 then lsSet e true now else x) := by
    have := set_map (f := fun x => if x.1 = e.1 then lsSet e true now else x) h.sorted hj (fun x hx hn => by simp [hn])
    simp only [if_true] at this
    rw [this, List.filter_map]
    congr 1
    refine List.filter_congr fun x hx => ?_
    show confP e (if x.1 = e.1 then lsSet e true now else x) = confP e x
    split
    · rename_i q; simp [confP, q, lsSet]
    · rfl
  have hm := List.mem_of_getElem? hj
  have hjf : e ∈ l.filter (confP e) := List.mem_filter.2 ⟨hm, by simp [confP]⟩
  obtain ⟨j', hj'⟩ := List.getElem?_of_mem hjf
  have h2 := (h.filter (confP e)).set hj' (c := true) (fun x hx hn a b => by
    have := (List.mem_filter.1 hx).2
    have b' : lsC x = true := b
    have a' : lsN x = lsN e := a
    simp [confP, a', b', hn] at this)
  have e2 := set_map (f := fun x => if x.1 = e.1 then lsSet e true now else x) (h.filter (confP e)).sorted hj' (fun x hx hn => by simp [hn])
  simp only [if_true] at e2
  rw [e2] at h2
  rw [e1]; exact h2
theorem conf_del (h : LsOk l last now) {j : Nat} {e : Ls} {z : Int} (hj : l[j]? = some e) (hc : lsC e = false) (hz : FindIs l (lsN e) true z) :
    (l.set j (lsSet e true now)).filter (fun x => !decide (x.1 = max 0 z)) = confL l j e now ∧ max 0 z = confG l e := by
  have hm := List.mem_of_getElem? hj
  have key : ∀ x ∈ l, (!decide (x.1 = max 0 z)) = confP e x := fun x hx => by
    have hx1 := h.ids x hx
    rcases hz with ⟨y, hy, n1, c1, rfl⟩ | ⟨hn, rfl⟩
    · have hy1 := h.ids y hy
      have hye : y.1 ≠ e.1 := fun q => by rw [h.eq hy hm q, hc] at c1; cases c1
      rw [show max 0 y.1 = y.1 by omega]
      by_cases hxy : x.1 = y.1
      · obtain rfl := h.eq hx hy hxy
        simp [confP, n1, c1, hye]
      · have : ¬ (lsN x = lsN e ∧ lsC x = true) := fun hh => hxy (by rw [h.uniq hx hy (hh.1.trans n1.symm) (hh.2.trans c1.symm)])
        simp only [confP, hxy, decide_false, Bool.not_false]
        cases q : lsC x
        · simp
        · have : ¬ lsN x = lsN e := fun hh => this ⟨hh, q⟩
          simp [this]
    · have hnx := hn x hx
      rw [show max 0 (-1 : Int) = 0 by omega]
      have e0 : ¬ x.1 = 0 := by omega
      simp only [confP, e0, decide_false, Bool.not_false]
      cases q : lsC x
      · simp
      · have : ¬ lsN x = lsN e := fun hh => hnx ⟨hh, q⟩
        simp [this]
  constructor
  · unfold confL
    refine List.filter_congr fun x hx => ?_
    rcases List.mem_or_eq_of_mem_set hx with hx | rfl
    · exact key x hx
    · have := key e hm
      have e1 : confP e (lsSet e true now) = confP e e := by simp [confP, lsSet]
      rw [e1]; exact this
  · unfold confG
    rcases hz with ⟨y, hy, n1, c1, rfl⟩ | ⟨hn, rfl⟩
    · have hye : y.1 ≠ e.1 := fun q => by rw [h.eq hy hm q, hc] at c1; cases c1
      have hy1 := h.ids y hy
      cases hf : l.find? (fun x => !confP e x) with
      | none =>
        have := List.find?_eq_none.1 hf y hy
        simp [confP, n1, c1, hye] at this
      | some x =>
        have hxm := List.mem_of_find?_eq_some hf
        have hxp := List.find?_some hf
        have : lsN x = lsN e ∧ lsC x = true ∧ x.1 ≠ e.1 := by simpa [confP, and_assoc] using hxp
        rw [show x = y from h.uniq hxm hy (this.1.trans n1.symm) (this.2.1.trans c1.symm)]
        show max 0 y.1 = y.1
        omega
    · have hf : l.find? (fun x => !confP e x) = none := List.find?_eq_none.2 fun x hx => by
        have hnx := hn x hx
        cases q : lsC x
        · simp [confP, q]
        · have : ¬ lsN x = lsN e := fun hh => hnx ⟨hh, q⟩
          simp [confP, this]
      rw [hf]; rfl
theorem conf_same (h : LsOk l last now) {j : Nat} {e : Ls} (hj : l[j]? = some e) (hc : lsC e = true) : l.set j (lsSet e true now) = confL l j e now ∧ (0 : Int) = confG l e := by
  have hm := List.mem_of_getElem? hj
  have key : ∀ x ∈ l, confP e x = true := fun x hx => by
    by_cases hxe : x.1 = e.1
    · simp [confP, hxe]
    · have : ¬ (lsN x = lsN e ∧ lsC x = true) := fun hh => hxe (by rw [h.uniq hx hm hh.1 (hh.2.trans hc.symm)])
      cases q : lsC x
      · simp [confP, q]
      · have : ¬ lsN x = lsN e := fun hh => this ⟨hh, q⟩
        simp [confP, this]
  constructor
  · unfold confL
    symm
    rw [List.filter_eq_self]
    intro x hx
    rcases List.mem_or_eq_of_mem_set hx with hx | rfl
    · exact key x hx
    · simp [confP, lsSet]
  · unfold confG
    have hf : l.find? (fun x => !confP e x) = none := List.find?_eq_none.2 fun x hx => by simp [key x hx]
    rw [hf]
/-! ### Ticks -/
def expP (now : Int) (e : Ls) : Bool := lsC e && decide (60 ≤ now - lsS e)
def tickL (l : List Ls) (now : Int) : List Ls := l.filter fun e => !expP now e
def tickG (l : List Ls) (now : Int) : List Int := (l.filter (expP now)).map fun e => e.1
def lsIds (l : List Ls) : List Int := (l.filter fun e => lsC e).map fun e => e.1
/-- Behind i of the confirmed ones. -/
structure TickAt (l : List Ls) (now : Int) (i : Nat) (cur : List Ls) (gone : List Int) : Prop where
  cur : cur = l.filter fun x => !(expP now x && decide (x.1 ∈ ((l.filter fun e => lsC e).take i).map fun e => e.1))
  gone : gone = (((l.filter fun e => lsC e).take i).filter (expP now)).map fun e => e.1
theorem TickAt.start (l : List Ls) (now : Int) : TickAt l now 0 l [] := ⟨(List.filter_eq_self.2 fun x _ => by simp).symm, by simp⟩
theorem TickAt.here (hd : l.Pairwise (fun x y : Ls => x.1 < y.1)) {i : Nat} {cur : List Ls} {gone : List Int} {x : Ls} (h : TickAt l now i cur gone) (hx : (l.filter fun e => lsC e)[i]? = some x) : x ∈ cur ∧ x ∈ l ∧ lsC x = true := by
  have hm := List.mem_of_getElem? hx
  obtain ⟨h1, h2⟩ := List.mem_filter.1 hm
  refine ⟨?_, h1, by simpa using h2⟩
  rw [h.cur]
  refine List.mem_filter.2 ⟨h1, ?_⟩
  have : ¬ x.1 ∈ ((l.filter fun e => lsC e).take i).map fun e => e.1 := fun hc => by
    obtain ⟨y, hy, e⟩ := List.mem_map.1 hc
    obtain ⟨j, hj, rfl⟩ := List.mem_iff_getElem.1 hy
    rw [List.length_take] at hj
    rw [List.getElem_take] at e
    have := ls_at (hd.sublist List.filter_sublist) (List.getElem?_eq_getElem (by omega)) hx e
    omega
  simp only [this, decide_false, Bool.and_false, Bool.not_false]
theorem TickAt.more (hd : l.Pairwise (fun x y : Ls => x.1 < y.1)) {i : Nat} {cur : List Ls} {gone : List Int} {x : Ls} (h : TickAt l now i cur gone) (hx : (l.filter fun e => lsC e)[i]? = some x) (he : expP now x = true) :
    TickAt l now (i + 1) (cur.filter fun e => !decide (e.1 = x.1)) (gone ++ [x.1]) := by
  have hxl := (h.here hd hx).2.1
  have ht : (l.filter fun e => lsC e).take (i + 1) = (l.filter fun e => lsC e).take i ++ [x] := by rw [List.take_add_one, hx]; rfl
  refine ⟨?_, ?_⟩
  · rw [h.cur, List.filter_filter, ht]
    refine List.filter_congr fun y hy => ?_
    rw [List.map_append, List.map_cons, List.map_nil]
    by_cases q : y.1 = x.1
    · obtain rfl := ls_eq hd hy hxl q
      simp only [he, List.mem_append, List.mem_singleton, or_true, decide_true, Bool.and_true, Bool.not_true, Bool.false_and]
    · have e2 : (y.1 ∈ (List.map (fun e => e.1) (List.take i (List.filter (fun e => lsC e) l)) ++ [x.1])) ↔ y.1 ∈ List.map (fun e => e.1) (List.take i (List.filter (fun e => lsC e) l)) := by
        rw [List.mem_append, List.mem_singleton]; exact ⟨fun z => z.resolve_right q, .inl⟩
      simp only [q, decide_false, Bool.not_false, Bool.true_and, e2]
  · rw [h.gone, ht, List.filter_append, List.map_append]; simp [he]
theorem TickAt.less (hd : l.Pairwise (fun x y : Ls => x.1 < y.1)) {i : Nat} {cur : List Ls} {gone : List Int} {x : Ls} (h : TickAt l now i cur gone) (hx : (l.filter fun e => lsC e)[i]? = some x) (he : expP now x = false) : TickAt l now (i + 1) cur gone := by
  have hxl := (h.here hd hx).2.1
  have ht : (l.filter fun e => lsC e).take (i + 1) = (l.filter fun e => lsC e).take i ++ [x] := by rw [List.take_add_one, hx]; rfl
  refine ⟨?_, ?_⟩
  · rw [h.cur, ht]
    refine List.filter_congr fun y hy => ?_
    rw [List.map_append, List.map_cons, List.map_nil]
    by_cases q : y.1 = x.1
    · obtain rfl := ls_eq hd hy hxl q
      simp only [he, Bool.false_and]
    · have e2 : (y.1 ∈ (List.map (fun e => e.1) (List.take i (List.filter (fun e => lsC e) l)) ++ [x.1])) ↔ y.1 ∈ List.map (fun e => e.1) (List.take i (List.filter (fun e => lsC e) l)) := by
        rw [List.mem_append, List.mem_singleton]; exact ⟨fun z => z.resolve_right q, .inl⟩
      simp only [e2]
  · rw [h.gone, ht, List.filter_append, List.map_append]; simp [he]
theorem TickAt.done {i : Nat} {cur : List Ls} {gone : List Int} (h : TickAt l now i cur gone) (hi : (l.filter fun e => lsC e).length ≤ i) : cur = tickL l now ∧ gone = tickG l now := by
  have ht : (l.filter fun e => lsC e).take i = l.filter fun e => lsC e := List.take_of_length_le hi
  refine ⟨?_, ?_⟩
  · rw [h.cur, ht]
    refine List.filter_congr fun y hy => ?_
    cases hc : lsC y
    · simp [expP, hc]
    · have : y.1 ∈ (l.filter fun e => lsC e).map fun e => e.1 := List.mem_map.2 ⟨y, List.mem_filter.2 ⟨hy, by simpa using hc⟩, rfl⟩
      simp only [this, decide_true, Bool.and_true]
  · rw [h.gone, ht, List.filter_filter]
    unfold tickG
    congr 1
    refine List.filter_congr fun y hy => ?_
    cases hc : lsC y <;> simp [expP, hc]
end
end Go.Proofs.YtofhnglgebllbaaDoor
