/- General words of these proofs, over any program: what a step of a call may turn (Chg), maps told by their entries in the order of their laying (MapA), and the run laws on them. No condition. -/
import Derived.Test.YtgebinfbbopnlaaDoorProg
import Derived.WalkKit
import Derived.WalkSpells
import Derived.WalkLawsBesides
import Derived.BigQuiet
import Derived.Deep.QuietTactic
import Derived.Deep.RegionWith
import Derived.MapKept
import Derived.Lib.Hide
import Derived.Handy
import Derived.Maps.OwnSet
namespace Go.Proofs.YtgebinfbbopnlaaDoor
open Go.RowKit Go.MapKept
set_option linter.unusedSectionVars false
set_option linter.unusedSimpArgs false
set_option linter.unusedVariables false

/-- What turns between two worlds: new blocks, and blocks in S. -/
structure Chg (S : Nat → Prop) (w w' : World) : Prop where
  os : w'.os = w.os
  tape : w'.tape = w.tape
  output : w'.output = w.output
  size : w.heap.size ≤ w'.heap.size
  block : ∀ k, k < w.heap.size → ¬ S k → w'.heap[k]? = w.heap[k]?

abbrev Nil : Nat → Prop := fun _ => False

theorem Chg.refl (S : Nat → Prop) (w : World) : Chg S w w := ⟨rfl, rfl, rfl, Nat.le_refl _, fun _ _ _ => rfl⟩
theorem Chg.trans {S T : Nat → Prop} {a b c : World} (h : Chg S a b) (k : Chg T b c) (hT : ∀ x, x < a.heap.size → T x → S x) : Chg S a c :=
  ⟨k.os.trans h.os, k.tape.trans h.tape, k.output.trans h.output, Nat.le_trans h.size k.size, fun i hi hs => (k.block i (Nat.lt_of_lt_of_le hi h.size) (fun t => hs (hT i hi t))).trans (h.block i hi hs)⟩
theorem Chg.then {S : Nat → Prop} {a b c : World} (h : Chg S a b) (k : Chg S b c) : Chg S a c := h.trans k (fun _ _ t => t)
theorem Chg.mono {S T : Nat → Prop} {a b : World} (h : Chg S a b) (hT : ∀ x, x < a.heap.size → S x → T x) : Chg T a b :=
  ⟨h.os, h.tape, h.output, h.size, fun i hi hs => h.block i hi (fun t => hs (hT i hi t))⟩
theorem Chg.nil {S : Nat → Prop} {a b : World} (h : Chg Nil a b) : Chg S a b := h.mono (fun _ _ f => f.elim)
theorem Chg.drewN {S : Nat → Prop} (w : World) (n : Nat) : Chg S w (w.drewN n) := ⟨rfl, rfl, rfl, Nat.le_refl _, fun _ _ _ => rfl⟩
theorem Chg.drew {S : Nat → Prop} {a w : World} (h : Chg S a w) : Chg S a w.drew := ⟨h.os, h.tape, h.output, h.size, h.block⟩
theorem Chg.drewsN {S : Nat → Prop} {a w : World} (h : Chg S a w) (n : Nat) : Chg S a (w.drewN n) := ⟨h.os, h.tape, h.output, h.size, h.block⟩
theorem Chg.alloc {S : Nat → Prop} {a w : World} (h : Chg S a w) (o : Obj) : Chg S a (w.alloc o) :=
  h.then ⟨rfl, rfl, rfl, by simp, fun k hk _ => Below.heap_alloc _ _ _ (by omega)⟩
theorem Chg.setCell {S : Nat → Prop} {a w : World} (h : Chg S a w) {p : Addr} (hp : a.heap.size ≤ p.block ∨ S p.block) (u : Value) : Chg S a (w.setCell p u) :=
  ⟨h.os, h.tape, h.output, by simpa [World.setCell] using h.size, fun k hk hs => by
    rw [Below.heap_setCell _ _ _ _ (fun e => by subst e; rcases hp with hp | hp; exact absurd hk (by omega); exact hs hp)]
    exact h.block k hk hs⟩
theorem Chg.below {S : Nat → Prop} {B : Nat} {w w' : World} (h : Chg S w w') (hB : B ≤ w.heap.size) (hS : ∀ x, x < w.heap.size → S x → B ≤ x) : Below B w w' :=
  ⟨h.os, h.tape, h.output, h.size, fun k hk => h.block k (by omega) (fun s => by have := hS k (by omega) s; omega)⟩
theorem Chg.of_below {S : Nat → Prop} {B : Nat} {w w' : World} (h : Below B w w') (hS : ∀ x, B ≤ x → x < w.heap.size → S x) : Chg S w w' :=
  ⟨h.os, h.tape, h.output, h.size, fun k hk hs => h.block k (by by_cases c : k < B; exact c; exact absurd (hS k (by omega) hk) hs)⟩
theorem Chg.cell {S : Nat → Prop} {w w' : World} (h : Chg S w w') {p : Addr} (hp : p.block < w.heap.size) (hs : ¬ S p.block) : w'.cell? p = w.cell? p :=
  World.cell?_of_block (w := w) (h.block p.block hp hs)
theorem Chg.frozen {S : Nat → Prop} {w w' : World} (h : Chg S w w') {p : Addr} (hp : p.block < w.heap.size) (hs : ¬ S p.block) : w'.frozen? p = w.frozen? p :=
  World.frozen?_of_block (w := w) (h.block p.block hp hs)
/-- A known block stays known. -/
theorem Chg.keep {S : Nat → Prop} {w w' : World} (h : Chg S w w') {b : Nat} {o : Obj} (hb : w.heap[b]? = some o) (hs : ¬ S b) : w'.heap[b]? = some o :=
  (h.block b (lt_of_block hb) hs).trans hb

/-! ### Whole blocks -/
theorem cell_of {w : World} {b : Nat} {c : Array Value} {t : TypeId} {f : Nat × Nat} (h : w.heap[b]? = some (.cells c t f)) (i : Nat) : w.cell? ⟨b, i, none⟩ = c[i]? := by simp [World.cell?, h]
theorem free_of {w : World} {b : Nat} {c : Array Value} {t : TypeId} (h : w.heap[b]? = some (.cells c t (0, 0))) (i : Nat) : w.frozen? ⟨b, i, none⟩ = false := by simp [World.frozen?, h]
theorem block_setCell {w : World} {b : Nat} {c : Array Value} {t : TypeId} {f : Nat × Nat} (h : w.heap[b]? = some (.cells c t f)) (i : Nat) (v : Value) :
    (w.setCell ⟨b, i, none⟩ v).heap[b]? = some (.cells (c.setIfInBounds i v) t f) := by
  simp [World.setCell, Array.getElem?_modify, h]
theorem block_alloc (w : World) (o : Obj) : (w.alloc o).heap[w.heap.size]? = some o := by
  show (w.heap.push o)[w.heap.size]? = _
  simp
theorem block_alloc_old {w : World} {b : Nat} {x : Obj} (h : w.heap[b]? = some x) (o : Obj) : (w.alloc o).heap[b]? = some x := by
  rw [Below.heap_alloc _ _ _ (lt_of_block h)]; exact h

/-! ### Maps by their entries -/
section
variable {α β : Type} [DecidableEq α]

def aget (kv : List (α × β)) (k : α) : Option β := match kv with
  | [] => none
  | p :: r => if k = p.1 then some p.2 else aget r k
def aput (kv : List (α × β)) (k : α) (v : β) : List (α × β) := match kv with
  | [] => [(k, v)]
  | p :: r => if k = p.1 then (p.1, v) :: r else p :: aput r k v
def adel (kv : List (α × β)) (k : α) : List (α × β) := match kv with
  | [] => []
  | p :: r => if k = p.1 then r else p :: adel r k
def findA (kv : List (α × β)) (k : α) (i : Nat) : Option (Nat × β) := match kv with
  | [] => none
  | p :: r => if k = p.1 then some (i, p.2) else findA r k (i + 1)

theorem findA_none {k : α} : ∀ {kv : List (α × β)} {i : Nat}, findA kv k i = none → aget kv k = none ∧ (∀ v, aput kv k v = kv ++ [(k, v)]) ∧ adel kv k = kv ∧ ∀ p ∈ kv, p.1 ≠ k
  | [], _, _ => ⟨rfl, fun _ => rfl, rfl, fun _ h => by cases h⟩
  | p :: r, i, h => by
    unfold findA at h
    by_cases c : k = p.1
    · rw [if_pos c] at h; cases h
    · rw [if_neg c] at h
      obtain ⟨h1, h2, h3, h4⟩ := findA_none h
      refine ⟨by simp [aget, c, h1], fun v => by simp [aput, c, h2], by simp [adel, c, h3], fun q hq => ?_⟩
      rcases List.mem_cons.1 hq with rfl | hq
      · exact fun e => c e.symm
      · exact h4 q hq
theorem findA_some {k : α} : ∀ {kv : List (α × β)} {i j : Nat} {v : β}, findA kv k i = some (j, v) → ∃ n, j = i + n ∧ kv[n]? = some (k, v) ∧ aget kv k = some v ∧ (∀ v', aput kv k v' = kv.set n (k, v')) ∧ adel kv k = kv.eraseIdx n
  | [], _, _, _, h => by cases h
  | p :: r, i, j, v, h => by
    unfold findA at h
    by_cases c : k = p.1
    · rw [if_pos c] at h
      cases h
      exact ⟨0, rfl, by simp [c], by simp [aget, c], fun v' => by simp [aput, c], by simp [adel, c]⟩
    · rw [if_neg c] at h
      obtain ⟨n, e, h1, h2, h3, h4⟩ := findA_some h
      exact ⟨n + 1, by omega, by simpa using h1, by simp [aget, c, h2], fun v' => by simp [aput, c, h3], by simp [adel, c, h4]⟩

/-- HOW KEYS OF A TYPE ARE FOUND: f says which value a key is. -/
structure KeyFn (P : Program) (K : TypeId) (f : α → Value) : Prop where
  chk : ∀ em a w, (Instr.checkKey em 10000 K (f a)).run P w = .ok () w
  find : ∀ (a : α) (l : List MapEntry) (kv : List (α × Value)) (w : World), l.map (fun e => (e.key, e.val)) = kv.map (fun p => (f p.1, p.2)) →
    (Instr.findKey K (f a) l).run P w = .ok (findA kv a 0) w
  keep : ∀ a w, (Instr.keyThatStays (f a) (f a)).run P w = .ok (f a) w
  inj : ∀ a b, f a = f b → a = b

/-- Block r is a map with just these entries, in the order of their laying. -/
def MapA (w : World) (r : Nat) (f : α → Value) (kv : List (α × Value)) : Prop :=
  ∃ es clock, w.heap[r]? = some (.map es clock) ∧ es.toList.map (fun e => (e.key, e.val)) = kv.map (fun p => (f p.1, p.2)) ∧ Stamped es clock
/-- A map's value: nil, or a block. -/
def MapV (w : World) (mv : Value) (f : α → Value) (kv : List (α × Value)) : Prop :=
  (mv = .map none ∧ kv = []) ∨ ∃ r, mv = .map (some r) ∧ MapA w r f kv

theorem MapA.keep {S : Nat → Prop} {w w' : World} {r : Nat} {f : α → Value} {kv : List (α × Value)} (h : MapA w r f kv) (c : Chg S w w') (hs : ¬ S r) : MapA w' r f kv := by
  obtain ⟨es, clock, hb, r⟩ := h
  exact ⟨es, clock, c.keep hb hs, r⟩
theorem MapA.lt {w : World} {r : Nat} {f : α → Value} {kv : List (α × Value)} (h : MapA w r f kv) : r < w.heap.size := by
  obtain ⟨es, clock, hb, _⟩ := h
  exact lt_of_block hb

variable {P : Program} {K E : TypeId} {f : α → Value} {kv : List (α × Value)} {w : World}

theorem MapA.run_lookup {r : Nat} {T : TypeId} {z : Value} (F : KeyFn P K f) (ht : P.underlying T = some (.map K E)) (hz : (zeroValue E).run P w = .ok z w) (h : MapA w r f kv) (a : α) (ok : Bool) :
    (Instr.lookup T (.map (some r)) (f a) ok).run P w = .ok (if ok then .tuple #[(aget kv a).getD z, .bool (aget kv a).isSome] else (aget kv a).getD z) w := by
  obtain ⟨es, clock, hb, he, _⟩ := h
  have hfd := F.find a es.toList kv w he
  simp only [Instr.lookup, Sem.run_bind, run_underlying ht, Result.andThen_ok, MapKept.run_getObj_map hb, F.chk, Sem.run_pure]
  rw [hfd]
  cases hf : findA kv a 0 with
  | none =>
    simp [(findA_none hf).1, hz, Result.andThen_ok]
  | some p =>
    obtain ⟨j, v⟩ := p
    obtain ⟨n, _, _, h3, _⟩ := findA_some hf
    simp [h3, Result.andThen_ok]
theorem run_lookup_nilmap {T : TypeId} {z : Value} (F : KeyFn P K f) (ht : P.underlying T = some (.map K E)) (hz : (zeroValue E).run P w = .ok z w) (a : α) (ok : Bool) :
    (Instr.lookup T (.map none) (f a) ok).run P w = .ok (if ok then .tuple #[z, .bool false] else z) w := by
  simp only [Instr.lookup, Sem.run_bind, run_underlying ht, Result.andThen_ok, F.chk, F.find a [] [] w rfl, findA, Sem.run_pure]
  simp [hz, Result.andThen_ok]
theorem MapV.run_lookup {mv : Value} {T : TypeId} {z : Value} (F : KeyFn P K f) (ht : P.underlying T = some (.map K E)) (hz : (zeroValue E).run P w = .ok z w) (h : MapV w mv f kv) (a : α) (ok : Bool) :
    (Instr.lookup T mv (f a) ok).run P w = .ok (if ok then .tuple #[(aget kv a).getD z, .bool (aget kv a).isSome] else (aget kv a).getD z) w := by
  rcases h with ⟨rfl, rfl⟩ | ⟨r, rfl, h⟩
  · rw [run_lookup_nilmap F ht hz a ok]; rfl
  · exact h.run_lookup F ht hz a ok

theorem keys_of {es : Array MapEntry} (he : es.toList.map (fun e => (e.key, e.val)) = kv.map (fun p => (f p.1, p.2))) : es.toList.map (·.key) = kv.map (fun p => f p.1) := by
  have := congrArg (List.map Prod.fst) he
  simpa [List.map_map, Function.comp_def] using this

theorem MapA.nodup {r : Nat} (h : MapA w r f kv) : (kv.map (·.1)).Nodup := by
  obtain ⟨es, clock, hb, he, hs⟩ := h
  have h3 := hs.2.2
  rw [keys_of he] at h3
  simp only [List.Nodup, List.pairwise_map] at h3 ⊢
  exact h3.imp fun hne e => hne (congrArg f e)

theorem MapA.run_update {r : Nat} {T : TypeId} (F : KeyFn P K f) (ht : P.underlying T = some (.map K E)) (h : MapA w r f kv) (a : α) (v : Value) :
    ∃ w', (Instr.mapUpdate T (.map (some r)) (f a) v).run P w = .ok () w' ∧ MapA w' r f (aput kv a v) ∧ Chg (· = r) w w' ∧ w'.heap.size = w.heap.size := by
  obtain ⟨es, clock, hb, he, hs⟩ := h
  have hch : ∀ o : Obj, Chg (· = r) w { w with heap := w.heap.setIfInBounds r o } := fun o =>
    ⟨rfl, rfl, rfl, by simp, fun k _ hk => (heap_set (o' := o) hb).2 k hk⟩
  cases hf : findA kv a 0 with
  | none =>
    obtain ⟨_, h2, _, h4⟩ := findA_none hf
    have hr : (Instr.mapUpdate T (.map (some r)) (f a) v).run P w = .ok () { w with heap := w.heap.setIfInBounds r (.map (es.push { key := f a, val := v, born := clock }) (clock + 1)) } := by
      simp only [Instr.mapUpdate, Sem.run_bind, run_underlying ht, Result.andThen_ok, MapKept.run_getObj_map hb, F.chk, F.find a es.toList kv w he, hf]
      exact MapKept.run_setObj_map _ hb
    refine ⟨_, hr, ⟨_, _, (heap_set hb).1, ?_, stamped_push hs ?_⟩, hch _, by simp⟩
    · rw [h2]; simp [he]
    · intro x hx e
      have : x.key ∈ es.toList.map (·.key) := List.mem_map.2 ⟨x, hx, rfl⟩
      rw [keys_of he] at this
      obtain ⟨p, hp, e2⟩ := List.mem_map.1 this
      exact h4 p hp (F.inj _ _ (e2.trans e))
  | some p =>
    obtain ⟨j, u⟩ := p
    obtain ⟨n, e0, h1, h2, h3, _⟩ := findA_some hf
    have e0' : j = n := by omega
    subst e0'
    have hkey : es[j]?.map (·.key) = some (f a) := by
      have := congrArg (fun l => l[j]?) (keys_of he)
      simpa [h1] using this
    obtain ⟨en, hen, henk⟩ : ∃ en, es[j]? = some en ∧ en.key = f a := by
      cases hq : es[j]? with
      | none => rw [hq] at hkey; cases hkey
      | some en => rw [hq] at hkey; exact ⟨en, rfl, by simpa using hkey⟩
    have hr : (Instr.mapUpdate T (.map (some r)) (f a) v).run P w = .ok () { w with heap := w.heap.setIfInBounds r (.map (es.modify j fun e => { e with key := f a, val := v }) clock) } := by
      simp only [Instr.mapUpdate, Sem.run_bind, run_underlying ht, Result.andThen_ok, MapKept.run_getObj_map hb, F.chk, F.find a es.toList kv w he, hf]
      simp only [hen, Option.map_some, Option.getD_some, henk, F.keep]
      exact MapKept.run_setObj_map _ hb
    refine ⟨_, hr, ⟨_, _, (heap_set hb).1, ?_, ?_⟩, hch _, by simp⟩
    · rw [h3]
      apply List.ext_getElem?
      intro i
      have hi := congrArg (fun l => l[i]?) he
      simp only [List.getElem?_map, Array.getElem?_toList, Array.getElem?_modify, List.getElem?_set] at hi ⊢
      by_cases c : j = i
      · subst c
        have hjl : j < kv.length := (List.getElem?_eq_some_iff.1 h1).1
        simp [hen, hjl]
      · simpa [c] using hi
    · refine stamped_modify hs j _ (fun e _ => rfl) (fun e _ he' => ?_)
      have : e = en := by rw [hen] at he'; exact (Option.some.inj he').symm
      subst this
      exact henk.symm
theorem map_erase {γ δ : Type} (g : γ → δ) : ∀ (l : List γ) (i : Nat), (l.eraseIdx i).map g = (l.map g).eraseIdx i
  | [], _ => by simp
  | _ :: _, 0 => rfl
  | x :: l, i + 1 => by simp [map_erase g l i]
theorem MapA.run_delete {r : Nat} {T Kt ty : TypeId} (F : KeyFn P K f) (ht : P.underlying T = some (.map K E)) (h : MapA w r f kv) (a : α) :
    ∃ w', (Builtin.delete_ #[T, Kt] ty #[.map (some r), f a]).run P w = .ok (.tuple #[]) w' ∧ MapA w' r f (adel kv a) ∧ Chg (· = r) w w' ∧ w'.heap.size = w.heap.size := by
  obtain ⟨es, clock, hb, he, hs⟩ := h
  have hch : ∀ o : Obj, Chg (· = r) w { w with heap := w.heap.setIfInBounds r o } := fun o =>
    ⟨rfl, rfl, rfl, by simp, fun k _ hk => (heap_set (o' := o) hb).2 k hk⟩
  have hfd := F.find a es.toList kv w he
  cases hf : findA kv a 0 with
  | none =>
    obtain ⟨_, _, h3, _⟩ := findA_none hf
    have hr : (Builtin.delete_ #[T, Kt] ty #[.map (some r), f a]).run P w = .ok (.tuple #[]) { w with heap := w.heap.setIfInBounds r (.map es clock) } := by
      simp only [Builtin.delete_, List.getElem?_toArray, List.getElem?_cons_zero, List.getElem?_cons_succ, Sem.run_bind, run_underlying ht, Result.andThen_ok, MapKept.run_getObj_map hb, F.chk, Sem.run_pure]
      rw [hfd, hf]
      simp only [Result.andThen_ok, Sem.run_bind]
      rw [MapKept.run_setObj_map _ hb]
      rfl
    exact ⟨_, hr, ⟨_, _, (heap_set hb).1, by rw [h3]; exact he, hs⟩, hch _, by simp⟩
  | some p =>
    obtain ⟨j, u⟩ := p
    obtain ⟨n, e0, h1, h2, _, h3⟩ := findA_some hf
    have e0' : j = n := by omega
    subst e0'
    have hr : (Builtin.delete_ #[T, Kt] ty #[.map (some r), f a]).run P w = .ok (.tuple #[]) { w with heap := w.heap.setIfInBounds r (.map (es.eraseIdxIfInBounds j) clock) } := by
      simp only [Builtin.delete_, List.getElem?_toArray, List.getElem?_cons_zero, List.getElem?_cons_succ, Sem.run_bind, run_underlying ht, Result.andThen_ok, MapKept.run_getObj_map hb, F.chk, Sem.run_pure]
      rw [hfd, hf]
      simp only [Result.andThen_ok, Sem.run_bind]
      rw [MapKept.run_setObj_map _ hb]
      rfl
    refine ⟨_, hr, ⟨_, _, (heap_set hb).1, ?_, stamped_erase hs j⟩, hch _, by simp⟩
    rw [h3]
    have hl : es.size = kv.length := by simpa using congrArg List.length he
    have hj : j < es.size := by rw [hl]; exact (List.getElem?_eq_some_iff.1 h1).1
    simp only [Array.eraseIdxIfInBounds, hj, dite_true, Array.toList_eraseIdx]
    rw [map_erase, map_erase, he]
theorem MapV.run_len {mv : Value} {T ty : TypeId} (ht : P.underlying T = some (.map K E)) (h : MapV w mv f kv) : (Builtin.len_ #[T] ty #[mv]).run P w = .ok (.int .i64 kv.length) w := by
  rcases h with ⟨rfl, rfl⟩ | ⟨r, rfl, es, clock, hb, he, _⟩
  · simp only [Builtin.len_, List.getElem?_toArray, List.getElem?_cons_zero, Sem.run_bind, run_underlying ht, Result.andThen_ok, Sem.run_pure]; rfl
  · have hl : es.size = kv.length := by simpa using congrArg List.length he
    simp only [Builtin.len_, List.getElem?_toArray, List.getElem?_cons_zero, Sem.run_bind, run_underlying ht, Result.andThen_ok, MapKept.run_getObj_map hb, Sem.run_pure]
    rw [hl]; rfl

theorem mapA_made (w : World) (f : α → Value) : MapA (w.alloc (.map #[] 0)) w.heap.size f [] := ⟨#[], 0, block_alloc _ _, rfl, stamped_empty 0⟩

/-! ### At the operations -/
variable {ops : Array Oper} {rest : List Oper} {o : Oper} {a : Act} {Q : Exit → Act → World → Prop}
theorem wpList_lookupA (hg : o.guard = none) (m x : Operand) (T : TypeId) (ok : Bool) (hop : o.op = Op.lookup T m x ok) (K E : TypeId) (ht : P.underlying T = some (.map K E)) (F : KeyFn P K f) (z : Value) (hz : (zeroValue E).run P w = .ok z w)
    (hM : MapV w (a.eval m) f kv) (k : α) (hx : a.eval x = f k)
    (hK : wpList P ops Q rest (a.put o.dst (if ok then .tuple #[(aget kv k).getD z, .bool (aget kv k).isSome] else (aget kv k).getD z)) w) : wpList P ops Q (o :: rest) a w := by
  refine wpList_plain hg fun K' hK' => ?_
  unfold Oper.wp
  simp [execOp, hop, hx, hM.run_lookup F ht hz k ok, Result.andThen]
  exact hK' _ _ hK
theorem wpList_mapUpdateA (hg : o.guard = none) (m x v : Operand) (T : TypeId) (hop : o.op = Op.mapUpdate T m x v) (K E : TypeId) (ht : P.underlying T = some (.map K E)) (F : KeyFn P K f)
    (r : Nat) (hm : a.eval m = .map (some r)) (hM : MapA w r f kv) (k : α) (hx : a.eval x = f k) (val : Value) (hv : a.eval v = val)
    (hK : ∀ w', MapA w' r f (aput kv k val) → Chg (· = r) w w' → w'.heap.size = w.heap.size → wpList P ops Q rest (a.put o.dst undef) w') : wpList P ops Q (o :: rest) a w := by
  refine wpList_plain hg fun K' hK' => ?_
  obtain ⟨w', hr, h1, h2, h3⟩ := hM.run_update F ht k val
  unfold Oper.wp
  simp [execOp, hop, hx, hm, hv, hr, Result.andThen]
  exact hK' _ _ (hK w' h1 h2 h3)
end

section
variable {α : Type} [DecidableEq α] {P : Program} {K E : TypeId} {f : α → Value} {kv : List (α × Value)} {w : World} {ops : Array Oper} {rest : List Oper} {o : Oper} {a : Act} {Q : Exit → Act → World → Prop}
theorem wpList_deleteA (hg : o.guard = none) (m x : Operand) (T Kt : TypeId) (hop : o.op = Op.call { callee := .builtin .delete, args := #[m, x], argTypes := #[T, Kt] }) (K E : TypeId) (ht : P.underlying T = some (.map K E)) (F : KeyFn P K f)
    (r : Nat) (hm : a.eval m = .map (some r)) (hM : MapA w r f kv) (k : α) (hx : a.eval x = f k)
    (hK : ∀ w', MapA w' r f (adel kv k) → Chg (· = r) w w' → w'.heap.size = w.heap.size → wpList P ops Q rest (a.put o.dst (.tuple #[])) w') : wpList P ops Q (o :: rest) a w := by
  refine wpList_plain hg fun K' hK' => ?_
  obtain ⟨w', hr, h1, h2, h3⟩ := hM.run_delete (Kt := Kt) (ty := o.type) F ht k
  unfold Oper.wp
  simp [execOp, hop, resolve, invoke, builtin, hm, hx, hr, Result.andThen]
  exact hK' _ _ (hK w' h1 h2 h3)
end

/-! ### Keys -/
theorem findNow_keys {α : Type} [DecidableEq α] {f : α → Value} {d : TypeDesc} (hs : ∀ a b, Instr.sameNow d (f a) (f b) = some (decide (a = b))) (k : α) :
    ∀ (l : List MapEntry) (kv : List (α × Value)) (i : Nat), l.map (fun e => (e.key, e.val)) = kv.map (fun p => (f p.1, p.2)) → Instr.findNow d (f k) l i = some (findA kv k i)
  | [], [], _, _ => rfl
  | [], _ :: _, _, h => by cases h
  | _ :: _, [], _, h => by cases h
  | e :: l, p :: kv, i, h => by
    simp only [List.map_cons, List.cons.injEq, Prod.mk.injEq] at h
    obtain ⟨⟨h1, h2⟩, h3⟩ := h
    unfold Instr.findNow findA
    rw [h1, hs]
    by_cases c : k = p.1
    · simp [c, h2]
    · simp [c, findNow_keys hs k l kv (i + 1) h3]

theorem keyFn_now {α : Type} [DecidableEq α] {P : Program} {K : TypeId} {f : α → Value} {d : TypeDesc} (hd : P.underlying K = some d) (hk : ∀ a, IsKey d (f a)) (hs : ∀ a b, Instr.sameNow d (f a) (f b) = some (decide (a = b)))
    (inj : ∀ a b, f a = f b → a = b) : KeyFn P K f where
  chk := fun em a w => run_checkKey hd (hk a) em 9999
  find := fun a l kv w h => run_findKey hd (findNow_keys hs a l kv 0 h)
  keep := fun a w => run_keyThatStays (hk a)
  inj := inj

def ik (n : Int) : Value := .int .i64 n
theorem keyInt {P : Program} {K : TypeId} (hd : P.underlying K = some (.int .i64)) : KeyFn P K ik :=
  keyFn_now hd (fun _ => rfl) (fun a b => by simp only [Instr.sameNow, ik, if_true]; congr 1) (fun a b h => by cases h; rfl)
def sk (s : ByteArray) : Value := .string s
theorem keyStr {P : Program} {K : TypeId} (hd : P.underlying K = some .string) : KeyFn P K sk :=
  keyFn_now hd (fun _ => trivial) (fun a b => by
    simp only [Instr.sameNow, sk]
    congr 1
    rw [Bool.eq_iff_iff, bytes_beq]; simp) (fun a b h => by cases h; rfl)
end Go.Proofs.YtgebinfbbopnlaaDoor
