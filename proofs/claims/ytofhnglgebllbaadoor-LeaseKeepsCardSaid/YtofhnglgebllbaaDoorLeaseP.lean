/- Clients in a list: the plain acts of a table of leases; what stays true of it. No program is in sight, no condition. -/
import Derived.Test.YtofhnglgebllbaaDoorNameS
import Derived.Test.YtofhnglgebllbaaDoorOp8
namespace Go.Proofs.YtofhnglgebllbaaDoor
open Go.RowKit
set_option linter.unusedVariables false
set_option linter.unusedSimpArgs false

/-- A client: name, boot, key, confirmed, since. With its number, and the block in which it lies. -/
abbrev Cli := ByteArray × Int × Int × Bool × Int
abbrev Ls := Int × Nat × Cli
def cliC (x : Cli) : List Value := [.string x.1, .int .i64 x.2.1, .int .i64 x.2.2.1, .bool x.2.2.2.1, .int .i64 x.2.2.2.2]
def lsKV (e : Ls) : Int × Value := (e.1, .pointer (some ⟨e.2.1, 0, none⟩))
def lsF (e : Ls) : Nat × Cli := e.2
abbrev lsN (e : Ls) : ByteArray := e.2.2.1
abbrev lsC (e : Ls) : Bool := e.2.2.2.2.2.1
abbrev lsS (e : Ls) : Int := e.2.2.2.2.2.2
structure LsOk (l : List Ls) (last now : Int) : Prop where
  sorted : l.Pairwise (fun x y => x.1 < y.1)
  ids : ∀ e ∈ l, 1 ≤ e.1 ∧ e.1 ≤ last ∧ e.2.2.2.2.1 = e.1
  since : ∀ e ∈ l, 0 ≤ lsS e ∧ lsS e ≤ now
  one : l.Pairwise (fun x y => ¬ (lsN x = lsN y ∧ lsC x = lsC y))
  few : (l.length : Int) ≤ last
  pos : 0 ≤ now
theorem lsOk_nil : LsOk [] 0 0 := ⟨List.Pairwise.nil, fun _ h => (by cases h), fun _ h => (by cases h), List.Pairwise.nil, by simp, by omega⟩
theorem pw_two {α : Type} {R : α → α → Prop} {l : List α} (h : l.Pairwise R) {x y : α} (hx : x ∈ l) (hy : y ∈ l) : x = y ∨ R x y ∨ R y x := by
  induction h with
  | nil => cases hx
  | cons hz _ ih =>
    rcases List.mem_cons.1 hx with rfl | hx' <;> rcases List.mem_cons.1 hy with rfl | hy'
    · exact .inl rfl
    · exact .inr (.inl (hz _ hy'))
    · exact .inr (.inr (hz _ hx'))
    · exact ih hx' hy'
section
variable {l : List Ls} {last now : Int}
theorem ls_eq (h : l.Pairwise (fun x y : Ls => x.1 < y.1)) {x y : Ls} (hx : x ∈ l) (hy : y ∈ l) (e : x.1 = y.1) : x = y := by
  rcases pw_two h hx hy with r | r | r
  · exact r
  · omega
  · omega
theorem LsOk.eq (h : LsOk l last now) {x y : Ls} (hx : x ∈ l) (hy : y ∈ l) (e : x.1 = y.1) : x = y := ls_eq h.sorted hx hy e
theorem LsOk.uniq (h : LsOk l last now) {x y : Ls} (hx : x ∈ l) (hy : y ∈ l) (e : lsN x = lsN y) (c : lsC x = lsC y) : x = y := by
  rcases pw_two h.one hx hy with r | r | r
  · exact r
  · exact absurd ⟨e, c⟩ r
  · exact absurd ⟨e.symm, c.symm⟩ r
theorem aget_none_ls {i : Int} : ∀ {l : List Ls}, (∀ e ∈ l, e.1 ≠ i) → aget (l.map lsKV) i = none
  | [], _ => rfl
  | x :: l, h => by
    show (if i = x.1 then _ else aget (l.map lsKV) i) = none
    rw [if_neg (fun e => h x (by simp) e.symm)]
    exact aget_none_ls fun e he => h e (by simp [he])
theorem aget_some_ls : ∀ {l : List Ls}, l.Pairwise (fun x y => x.1 < y.1) → ∀ {e : Ls}, e ∈ l → aget (l.map lsKV) e.1 = some (.pointer (some ⟨e.2.1, 0, none⟩))
  | [], _, _, h => by cases h
  | x :: l, hd, e, h => by
    show (if e.1 = x.1 then _ else aget (l.map lsKV) e.1) = _
    rcases List.mem_cons.1 h with rfl | h'
    · rw [if_pos rfl]; rfl
    · have := (List.pairwise_cons.1 hd).1 e h'
      rw [if_neg (by omega)]
      exact aget_some_ls (List.pairwise_cons.1 hd).2 h'
theorem adel_ls (i : Int) : ∀ {l : List Ls}, l.Pairwise (fun x y => x.1 < y.1) → adel (l.map lsKV) i = (l.filter fun e => !decide (e.1 = i)).map lsKV
  | [], _ => rfl
  | x :: l, hd => by
    show (if i = x.1 then l.map lsKV else lsKV x :: adel (l.map lsKV) i) = _
    by_cases h : x.1 = i
    · rw [if_pos h.symm, List.filter_cons_of_neg (by simp [h])]
      congr 1
      symm
      rw [List.filter_eq_self]
      intro a ha
      have := (List.pairwise_cons.1 hd).1 a ha
      simp; omega
    · rw [if_neg (fun e => h e.symm), List.filter_cons_of_pos (by simp [h]), List.map_cons, adel_ls i (List.pairwise_cons.1 hd).2]
theorem aput_ls {i : Int} {b : Nat} {c : Cli} : ∀ {l : List Ls}, (∀ e ∈ l, e.1 ≠ i) → aput (l.map lsKV) i (.pointer (some ⟨b, 0, none⟩)) = (l ++ [(i, b, c)]).map lsKV
  | [], _ => rfl
  | x :: l, h => by
    show (if i = x.1 then _ else lsKV x :: aput (l.map lsKV) i _) = _
    rw [if_neg (fun e => h x (by simp) e.symm), aput_ls (c := c) (fun e he => h e (by simp [he]))]
    rfl
theorem LsOk.filter (h : LsOk l last now) (p : Ls → Bool) : LsOk (l.filter p) last now :=
  ⟨h.sorted.sublist List.filter_sublist, fun e he => h.ids e (List.mem_filter.1 he).1, fun e he => h.since e (List.mem_filter.1 he).1, h.one.sublist List.filter_sublist,
    by have := List.length_filter_le p l; have := h.few; omega, h.pos⟩
theorem LsOk.later (h : LsOk l last now) {n : Int} (hn : 0 ≤ n) : LsOk l last (now + n) :=
  ⟨h.sorted, h.ids, fun e he => by have := h.since e he; omega, h.one, h.few, by have := h.pos; omega⟩
/-! ### A client registers -/
def regP (nm : ByteArray) (e : Ls) : Bool := !(decide (lsN e = nm) && !lsC e)
def regE (nm : ByteArray) (boot last : Int) (b : Nat) : Ls := (last + 1, b, nm, boot, last + 1, false, 0)
def regL (l : List Ls) (nm : ByteArray) (boot last : Int) (b : Nat) : List Ls := l.filter (regP nm) ++ [regE nm boot last b]
theorem LsOk.reg (h : LsOk l last now) (nm : ByteArray) (boot : Int) (b : Nat) : LsOk (regL l nm boot last b) (last + 1) now := by
  have h0 : 0 ≤ last := by have := h.few; omega
  refine ⟨?_, ?_, ?_, ?_, ?_, h.pos⟩
  · refine List.pairwise_append.2 ⟨h.sorted.sublist List.filter_sublist, List.pairwise_singleton _ _, fun x hx y hy => ?_⟩
    rw [List.mem_singleton.1 hy]
    have := h.ids x (List.mem_filter.1 hx).1
    show x.1 < last + 1
    omega
  · intro e he
    rcases List.mem_append.1 he with he | he
    · have := h.ids e (List.mem_filter.1 he).1
      exact ⟨this.1, by omega, this.2.2⟩
    · rw [List.mem_singleton.1 he]; exact ⟨by show 1 ≤ last + 1; omega, Int.le_refl _, rfl⟩
  · intro e he
    rcases List.mem_append.1 he with he | he
    · exact h.since e (List.mem_filter.1 he).1
    · rw [List.mem_singleton.1 he]; exact ⟨Int.le_refl _, h.pos⟩
  · refine List.pairwise_append.2 ⟨h.one.sublist List.filter_sublist, List.pairwise_singleton _ _, fun x hx y hy => ?_⟩
    rw [List.mem_singleton.1 hy]
    have := (List.mem_filter.1 hx).2
    rintro ⟨e1, e2⟩
    have e1' : lsN x = nm := e1
    have e2' : lsC x = false := e2
    simp [regP, e1', e2'] at this
  · have := List.length_filter_le (regP nm) l
    have := h.few
    unfold regL
    rw [List.length_append, List.length_singleton]
    omega
/-- What find tells: the number of the one that is so, or -1. -/
def FindIs (l : List Ls) (nm : ByteArray) (c : Bool) (z : Int) : Prop := (∃ e ∈ l, lsN e = nm ∧ lsC e = c ∧ z = e.1) ∨ ((∀ e ∈ l, ¬ (lsN e = nm ∧ lsC e = c)) ∧ z = -1)
theorem reg_del (h : LsOk l last now) {nm : ByteArray} {z : Int} (hf : FindIs l nm false z) : (l.filter fun e => !decide (e.1 = z)) = l.filter (regP nm) := by
  refine List.filter_congr fun x hx => ?_
  unfold regP
  rcases hf with ⟨e, he, h1, h2, rfl⟩ | ⟨hn, rfl⟩
  · by_cases hxe : x.1 = e.1
    · obtain rfl := h.eq hx he hxe
      simp [h1, h2]
    · have : ¬ (lsN x = nm ∧ lsC x = false) := fun hh => hxe (by rw [h.uniq hx he (hh.1.trans h1.symm) (hh.2.trans h2.symm)])
      cases hc : lsC x
      · have : ¬ lsN x = nm := fun hh => this ⟨hh, hc⟩
        simp [hxe, this]
      · simp [hxe]
  · have := h.ids x hx
    have hn' := hn x hx
    have e1 : ¬ x.1 = -1 := by omega
    cases hc : lsC x
    · have : ¬ lsN x = nm := fun hh => hn' ⟨hh, hc⟩
      simp [e1, this]
    · simp [e1]
/-- The names that are known, each once. -/
def Names (l : List Ls) (ks : List ByteArray) : Prop := ks.Nodup ∧ ∀ s, s ∈ ks ↔ ∃ e ∈ l, lsN e = s
theorem Names.len {ks ks' : List ByteArray} (h : Names l ks) (h' : Names l ks') : ks.length = ks'.length := by
  refine ((List.perm_ext_iff_of_nodup h.1 h'.1).2 fun s => ?_).length_eq
  rw [h.2, h'.2]
theorem none_both {nm : ByteArray} {z1 z2 : Int} (h : LsOk l last now) (h1 : FindIs l nm false z1) (h2 : FindIs l nm true z2) : (z1 < 0 ∧ z2 < 0) ↔ ¬ ∃ e ∈ l, lsN e = nm := by
  constructor
  · rintro ⟨a, b⟩ ⟨e, he, hn⟩
    cases hc : lsC e
    · rcases h1 with ⟨x, hx, _, _, rfl⟩ | ⟨q, _⟩
      · have := h.ids x hx; omega
      · exact q e he ⟨hn, hc⟩
    · rcases h2 with ⟨x, hx, _, _, rfl⟩ | ⟨q, _⟩
      · have := h.ids x hx; omega
      · exact q e he ⟨hn, hc⟩
  · intro hn
    constructor
    · rcases h1 with ⟨x, hx, q, _⟩ | ⟨_, rfl⟩
      · exact absurd ⟨x, hx, q⟩ hn
      · omega
    · rcases h2 with ⟨x, hx, q, _⟩ | ⟨_, rfl⟩
      · exact absurd ⟨x, hx, q⟩ hn
      · omega
end
end Go.Proofs.YtofhnglgebllbaaDoor
