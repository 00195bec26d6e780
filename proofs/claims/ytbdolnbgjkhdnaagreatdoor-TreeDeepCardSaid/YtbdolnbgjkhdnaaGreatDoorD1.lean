/- Lemmas: part 1. -/
import Derived.Test.YtbdolnbgjkhdnaaGreatDoorProg
import Derived.WalkKit
import Derived.WalkSpells
import Derived.WalkLawsBesides
import Derived.BigQuiet
import Derived.Deep.QuietTactic
import Derived.Deep.RegionWith
import Derived.MapKept
import Derived.Lib.Hide
import Derived.Handy
import Derived.Maps.OwnSet
import Derived.ArgAppend
import Derived.OrdersHeld
import Derived.IntWalk
import Derived.LaidLaws
import Derived.LaidHandle
import Derived.FnData
import Derived.ProofKit
import Derived.Deep.Slices
import Derived.Lib.SmallJoins
import Derived.SizedLaws
import Derived.Laws.MakeOwn
import Derived.Deep.RegionHeld3
import Derived.StillTailTactics
import Derived.Lib.AppendStr
import Derived.LoopN
import Derived.Shelf.Strings.Builder1
import Derived.Shelf.Small.Bits
import Derived.Shelf.Small.Strs
import Derived.Shelf.Strings.BuilderF
import Derived.Shelf.Strconv.Atoi
import Derived.Shelf.Strconv.Itoa0
import Derived.Shelf.Strconv.Itoa1
import Derived.Shelf.LaysM
import Derived.Shelf.Strconv.Itoa2
import Derived.Shelf.Strconv.Itoa3
import Derived.Shelf.Strconv.AtoiErrFast
import Derived.Shelf.Strconv.ParseIntEmpty
import Derived.Shelf.Strconv.AtoiFail
import Derived.Shelf.Strconv.Clone
import Derived.Shelf.Strconv.SyntaxError
import Derived.Shelf.LaysC
import Derived.Shelf.Strconv.ToError
import Derived.Shelf.Strconv.Lower
import Derived.Shelf.Strconv.ParseUint10
import Derived.Shelf.Strconv.ParseUint10Empty
import Derived.Shelf.Strconv.ParseUint10Any
import Derived.Shelf.Strconv.ParseInt10
import Derived.Shelf.Strconv.AtoiLong
import Derived.Shelf.Strconv.AtoiInnerAll
import Derived.Shelf.Strconv.RangeError
import Derived.Shelf.Strconv.ToErrorRange
import Derived.Shelf.Strconv.AtoiAll
import Derived.Shelf.Strings.Search1
import Derived.Shelf.Strings.BuilderCap
import Derived.Ground.Names2Prog
import Derived.Shelf.Slices.Clone
import Derived.Shelf.Slices.SearchI
import Derived.BigRegion
import Derived.Lib.ItoaNum
import Derived.Lib.AtoiAllCases
import Derived.Lib.TrimByte
import Derived.Lib.Bytealg
set_option linter.all false
set_option maxRecDepth 100000
set_option maxHeartbeats 20000000
namespace Go.Proofs.YtbdolnbgjkhdnaaGreatDoor
open Go.RowKit
section
/- General words of these proofs, over any program: what a step of a call may turn (Chg), maps told by their entries in the order of their laying (MapA), and the run laws on them. No condition. -/
open Go.RowKit Go.MapKept

/-- What turns between two worlds: new blocks, and blocks in S. -/
structure Chg (S : Nat → Prop) (w w' : World) : Prop where
  os : w'.os = w.os
  tape : w'.tape = w.tape
  output : w'.output = w.output
  size : w.heap.size ≤ w'.heap.size
  block : ∀ k, k < w.heap.size → ¬ S k → w'.heap[k]? = w.heap[k]?

abbrev Nil : Nat → Prop := fun _ => False

theorem Chg.refl (S : Nat → Prop) (w : World) : Chg S w w := ⟨rfl, rfl, rfl, Nat.le_refl _, fun _ _ _ => rfl⟩
theorem Chg.trans {S T : Nat → Prop} {a b c : World} (h : Chg S a b) (k : Chg T b c) (hT : ∀ x, x < a.heap.size → T x → S x) : Chg S a c :=
  ⟨k.os.trans h.os, k.tape.trans h.tape, k.output.trans h.output, Nat.le_trans h.size k.size, fun i hi hs => (k.block i (Nat.lt_of_lt_of_le hi h.size) (fun t => hs (hT i hi t))).trans (h.block i hi hs)⟩
theorem Chg.then {S : Nat → Prop} {a b c : World} (h : Chg S a b) (k : Chg S b c) : Chg S a c := h.trans k (fun _ _ t => t)
theorem Chg.mono {S T : Nat → Prop} {a b : World} (h : Chg S a b) (hT : ∀ x, x < a.heap.size → S x → T x) : Chg T a b :=
  ⟨h.os, h.tape, h.output, h.size, fun i hi hs => h.block i hi (fun t => hs (hT i hi t))⟩
theorem Chg.nil {S : Nat → Prop} {a b : World} (h : Chg Nil a b) : Chg S a b := h.mono (fun _ _ f => f.elim)
theorem Chg.drewN {S : Nat → Prop} (w : World) (n : Nat) : Chg S w (w.drewN n) := ⟨rfl, rfl, rfl, Nat.le_refl _, fun _ _ _ => rfl⟩
theorem Chg.drew {S : Nat → Prop} {a w : World} (h : Chg S a w) : Chg S a w.drew := ⟨h.os, h.tape, h.output, h.size, h.block⟩
theorem Chg.drewsN {S : Nat → Prop} {a w : World} (h : Chg S a w) (n : Nat) : Chg S a (w.drewN n) := ⟨h.os, h.tape, h.output, h.size, h.block⟩
theorem Chg.alloc {S : Nat → Prop} {a w : World} (h : Chg S a w) (o : Obj) : Chg S a (w.alloc o) :=
  h.then ⟨rfl, rfl, rfl, by simp, fun k hk _ => Below.heap_alloc _ _ _ (by omega)⟩
theorem Chg.setCell {S : Nat → Prop} {a w : World} (h : Chg S a w) {p : Addr} (hp : a.heap.size ≤ p.block ∨ S p.block) (u : Value) : Chg S a (w.setCell p u) :=
  ⟨h.os, h.tape, h.output, by simpa [World.setCell] using h.size, fun k hk hs => by
    rw [Below.heap_setCell _ _ _ _ (fun e => by subst e; rcases hp with hp | hp; exact absurd hk (by omega); exact hs hp)]
    exact h.block k hk hs⟩
theorem Chg.below {S : Nat → Prop} {B : Nat} {w w' : World} (h : Chg S w w') (hB : B ≤ w.heap.size) (hS : ∀ x, x < w.heap.size → S x → B ≤ x) : Below B w w' :=
  ⟨h.os, h.tape, h.output, h.size, fun k hk => h.block k (by omega) (fun s => by have := hS k (by omega) s; omega)⟩
theorem Chg.of_below {S : Nat → Prop} {B : Nat} {w w' : World} (h : Below B w w') (hS : ∀ x, B ≤ x → x < w.heap.size → S x) : Chg S w w' :=
  ⟨h.os, h.tape, h.output, h.size, fun k hk hs => h.block k (by by_cases c : k < B; exact c; exact absurd (hS k (by omega) hk) hs)⟩
theorem Chg.cell {S : Nat → Prop} {w w' : World} (h : Chg S w w') {p : Addr} (hp : p.block < w.heap.size) (hs : ¬ S p.block) : w'.cell? p = w.cell? p :=
  World.cell?_of_block (w := w) (h.block p.block hp hs)
theorem Chg.frozen {S : Nat → Prop} {w w' : World} (h : Chg S w w') {p : Addr} (hp : p.block < w.heap.size) (hs : ¬ S p.block) : w'.frozen? p = w.frozen? p :=
  World.frozen?_of_block (w := w) (h.block p.block hp hs)
/-- A known block stays known. -/
theorem Chg.keep {S : Nat → Prop} {w w' : World} (h : Chg S w w') {b : Nat} {o : Obj} (hb : w.heap[b]? = some o) (hs : ¬ S b) : w'.heap[b]? = some o :=
  (h.block b (lt_of_block hb) hs).trans hb

/-! ### Whole blocks -/
theorem cell_of {w : World} {b : Nat} {c : Array Value} {t : TypeId} {f : Nat × Nat} (h : w.heap[b]? = some (.cells c t f)) (i : Nat) : w.cell? ⟨b, i, none⟩ = c[i]? := by simp [World.cell?, h]
theorem free_of {w : World} {b : Nat} {c : Array Value} {t : TypeId} (h : w.heap[b]? = some (.cells c t (0, 0))) (i : Nat) : w.frozen? ⟨b, i, none⟩ = false := by simp [World.frozen?, h]
theorem block_setCell {w : World} {b : Nat} {c : Array Value} {t : TypeId} {f : Nat × Nat} (h : w.heap[b]? = some (.cells c t f)) (i : Nat) (v : Value) :
    (w.setCell ⟨b, i, none⟩ v).heap[b]? = some (.cells (c.setIfInBounds i v) t f) := by
  simp [World.setCell, Array.getElem?_modify, h]
theorem block_alloc (w : World) (o : Obj) : (w.alloc o).heap[w.heap.size]? = some o := by
  show (w.heap.push o)[w.heap.size]? = _
  simp
theorem block_alloc_old {w : World} {b : Nat} {x : Obj} (h : w.heap[b]? = some x) (o : Obj) : (w.alloc o).heap[b]? = some x := by
  rw [Below.heap_alloc _ _ _ (lt_of_block h)]; exact h

/-! ### Maps by their entries -/
section
variable {α β : Type} [DecidableEq α]

def aget (kv : List (α × β)) (k : α) : Option β := match kv with
  | [] => none
  | p :: r => if k = p.1 then some p.2 else aget r k
def aput (kv : List (α × β)) (k : α) (v : β) : List (α × β) := match kv with
  | [] => [(k, v)]
  | p :: r => if k = p.1 then (p.1, v) :: r else p :: aput r k v
def adel (kv : List (α × β)) (k : α) : List (α × β) := match kv with
  | [] => []
  | p :: r => if k = p.1 then r else p :: adel r k
def findA (kv : List (α × β)) (k : α) (i : Nat) : Option (Nat × β) := match kv with
  | [] => none
  | p :: r => if k = p.1 then some (i, p.2) else findA r k (i + 1)

theorem findA_none {k : α} : ∀ {kv : List (α × β)} {i : Nat}, findA kv k i = none → aget kv k = none ∧ (∀ v, aput kv k v = kv ++ [(k, v)]) ∧ adel kv k = kv ∧ ∀ p ∈ kv, p.1 ≠ k
  | [], _, _ => ⟨rfl, fun _ => rfl, rfl, fun _ h => by cases h⟩
  | p :: r, i, h => by
    unfold findA at h
    by_cases c : k = p.1
    · rw [if_pos c] at h; cases h
    · rw [if_neg c] at h
      obtain ⟨h1, h2, h3, h4⟩ := findA_none h
      refine ⟨by simp [aget, c, h1], fun v => by simp [aput, c, h2], by simp [adel, c, h3], fun q hq => ?_⟩
      rcases List.mem_cons.1 hq with rfl | hq
      · exact fun e => c e.symm
      · exact h4 q hq
theorem findA_some {k : α} : ∀ {kv : List (α × β)} {i j : Nat} {v : β}, findA kv k i = some (j, v) → ∃ n, j = i + n ∧ kv[n]? = some (k, v) ∧ aget kv k = some v ∧ (∀ v', aput kv k v' = kv.set n (k, v')) ∧ adel kv k = kv.eraseIdx n
  | [], _, _, _, h => by cases h
  | p :: r, i, j, v, h => by
    unfold findA at h
    by_cases c : k = p.1
    · rw [if_pos c] at h
      cases h
      exact ⟨0, rfl, by simp [c], by simp [aget, c], fun v' => by simp [aput, c], by simp [adel, c]⟩
    · rw [if_neg c] at h
      obtain ⟨n, e, h1, h2, h3, h4⟩ := findA_some h
      exact ⟨n + 1, by omega, by simpa using h1, by simp [aget, c, h2], fun v' => by simp [aput, c, h3], by simp [adel, c, h4]⟩

/-- HOW KEYS OF A TYPE ARE FOUND: f says which value a key is. -/
structure KeyFn (P : Program) (K : TypeId) (f : α → Value) : Prop where
  chk : ∀ em a w, (Instr.checkKey em 10000 K (f a)).run P w = .ok () w
  find : ∀ (a : α) (l : List MapEntry) (kv : List (α × Value)) (w : World), l.map (fun e => (e.key, e.val)) = kv.map (fun p => (f p.1, p.2)) →
    (Instr.findKey K (f a) l).run P w = .ok (findA kv a 0) w
  keep : ∀ a w, (Instr.keyThatStays (f a) (f a)).run P w = .ok (f a) w
  inj : ∀ a b, f a = f b → a = b

/-- Block r is a map with just these entries, in the order of their laying. -/
def MapA (w : World) (r : Nat) (f : α → Value) (kv : List (α × Value)) : Prop :=
  ∃ es clock, w.heap[r]? = some (.map es clock) ∧ es.toList.map (fun e => (e.key, e.val)) = kv.map (fun p => (f p.1, p.2)) ∧ Stamped es clock
/-- A map's value: nil, or a block. -/
def MapV (w : World) (mv : Value) (f : α → Value) (kv : List (α × Value)) : Prop :=
  (mv = .map none ∧ kv = []) ∨ ∃ r, mv = .map (some r) ∧ MapA w r f kv

theorem MapA.keep {S : Nat → Prop} {w w' : World} {r : Nat} {f : α → Value} {kv : List (α × Value)} (h : MapA w r f kv) (c : Chg S w w') (hs : ¬ S r) : MapA w' r f kv := by
  obtain ⟨es, clock, hb, r⟩ := h
  exact ⟨es, clock, c.keep hb hs, r⟩
theorem MapA.lt {w : World} {r : Nat} {f : α → Value} {kv : List (α × Value)} (h : MapA w r f kv) : r < w.heap.size := by
  obtain ⟨es, clock, hb, _⟩ := h
  exact lt_of_block hb

variable {P : Program} {K E : TypeId} {f : α → Value} {kv : List (α × Value)} {w : World}

theorem MapA.run_lookup {r : Nat} {T : TypeId} {z : Value} (F : KeyFn P K f) (ht : P.underlying T = some (.map K E)) (hz : (zeroValue E).run P w = .ok z w) (h : MapA w r f kv) (a : α) (ok : Bool) :
    (Instr.lookup T (.map (some r)) (f a) ok).run P w = .ok (if ok then .tuple #[(aget kv a).getD z, .bool (aget kv a).isSome] else (aget kv a).getD z) w := by
  obtain ⟨es, clock, hb, he, _⟩ := h
  have hfd := F.find a es.toList kv w he
  simp only [Instr.lookup, Sem.run_bind, run_underlying ht, Result.andThen_ok, MapKept.run_getObj_map hb, F.chk, Sem.run_pure]
  rw [hfd]
  cases hf : findA kv a 0 with
  | none =>
    simp [(findA_none hf).1, hz, Result.andThen_ok]
  | some p =>
    obtain ⟨j, v⟩ := p
    obtain ⟨n, _, _, h3, _⟩ := findA_some hf
    simp [h3, Result.andThen_ok]
theorem run_lookup_nilmap {T : TypeId} {z : Value} (F : KeyFn P K f) (ht : P.underlying T = some (.map K E)) (hz : (zeroValue E).run P w = .ok z w) (a : α) (ok : Bool) :
    (Instr.lookup T (.map none) (f a) ok).run P w = .ok (if ok then .tuple #[z, .bool false] else z) w := by
  simp only [Instr.lookup, Sem.run_bind, run_underlying ht, Result.andThen_ok, F.chk, F.find a [] [] w rfl, findA, Sem.run_pure]
  simp [hz, Result.andThen_ok]
theorem MapV.run_lookup {mv : Value} {T : TypeId} {z : Value} (F : KeyFn P K f) (ht : P.underlying T = some (.map K E)) (hz : (zeroValue E).run P w = .ok z w) (h : MapV w mv f kv) (a : α) (ok : Bool) :
    (Instr.lookup T mv (f a) ok).run P w = .ok (if ok then .tuple #[(aget kv a).getD z, .bool (aget kv a).isSome] else (aget kv a).getD z) w := by
  rcases h with ⟨rfl, rfl⟩ | ⟨r, rfl, h⟩
  · rw [run_lookup_nilmap F ht hz a ok]; rfl
  · exact h.run_lookup F ht hz a ok

theorem keys_of {es : Array MapEntry} (he : es.toList.map (fun e => (e.key, e.val)) = kv.map (fun p => (f p.1, p.2))) : es.toList.map (·.key) = kv.map (fun p => f p.1) := by
  have := congrArg (List.map Prod.fst) he
  simpa [List.map_map, Function.comp_def] using this

theorem MapA.nodup {r : Nat} (h : MapA w r f kv) : (kv.map (·.1)).Nodup := by
  obtain ⟨es, clock, hb, he, hs⟩ := h
  have h3 := hs.2.2
  rw [keys_of he] at h3
  simp only [List.Nodup, List.pairwise_map] at h3 ⊢
  exact h3.imp fun hne e => hne (congrArg f e)

theorem MapA.run_update {r : Nat} {T : TypeId} (F : KeyFn P K f) (ht : P.underlying T = some (.map K E)) (h : MapA w r f kv) (a : α) (v : Value) :
    ∃ w', (Instr.mapUpdate T (.map (some r)) (f a) v).run P w = .ok () w' ∧ MapA w' r f (aput kv a v) ∧ Chg (· = r) w w' ∧ w'.heap.size = w.heap.size := by
  obtain ⟨es, clock, hb, he, hs⟩ := h
  have hch : ∀ o : Obj, Chg (· = r) w { w with heap := w.heap.setIfInBounds r o } := fun o =>
    ⟨rfl, rfl, rfl, by simp, fun k _ hk => (heap_set (o' := o) hb).2 k hk⟩
  cases hf : findA kv a 0 with
  | none =>
    obtain ⟨_, h2, _, h4⟩ := findA_none hf
    have hr : (Instr.mapUpdate T (.map (some r)) (f a) v).run P w = .ok () { w with heap := w.heap.setIfInBounds r (.map (es.push { key := f a, val := v, born := clock }) (clock + 1)) } := by
      simp only [Instr.mapUpdate, Sem.run_bind, run_underlying ht, Result.andThen_ok, MapKept.run_getObj_map hb, F.chk, F.find a es.toList kv w he, hf]
      exact MapKept.run_setObj_map _ hb
    refine ⟨_, hr, ⟨_, _, (heap_set hb).1, ?_, stamped_push hs ?_⟩, hch _, by simp⟩
    · rw [h2]; simp [he]
    · intro x hx e
      have : x.key ∈ es.toList.map (·.key) := List.mem_map.2 ⟨x, hx, rfl⟩
      rw [keys_of he] at this
      obtain ⟨p, hp, e2⟩ := List.mem_map.1 this
      exact h4 p hp (F.inj _ _ (e2.trans e))
  | some p =>
    obtain ⟨j, u⟩ := p
    obtain ⟨n, e0, h1, h2, h3, _⟩ := findA_some hf
    have e0' : j = n := by omega
    subst e0'
    have hkey : es[j]?.map (·.key) = some (f a) := by
      have := congrArg (fun l => l[j]?) (keys_of he)
      simpa [h1] using this
    obtain ⟨en, hen, henk⟩ : ∃ en, es[j]? = some en ∧ en.key = f a := by
      cases hq : es[j]? with
      | none => rw [hq] at hkey; cases hkey
      | some en => rw [hq] at hkey; exact ⟨en, rfl, by simpa using hkey⟩
    have hr : (Instr.mapUpdate T (.map (some r)) (f a) v).run P w = .ok () { w with heap := w.heap.setIfInBounds r (.map (es.modify j fun e => { e with key := f a, val := v }) clock) } := by
      simp only [Instr.mapUpdate, Sem.run_bind, run_underlying ht, Result.andThen_ok, MapKept.run_getObj_map hb, F.chk, F.find a es.toList kv w he, hf]
      simp only [hen, Option.map_some, Option.getD_some, henk, F.keep]
      exact MapKept.run_setObj_map _ hb
    refine ⟨_, hr, ⟨_, _, (heap_set hb).1, ?_, ?_⟩, hch _, by simp⟩
    · rw [h3]
      apply List.ext_getElem?
      intro i
      have hi := congrArg (fun l => l[i]?) he
      simp only [List.getElem?_map, Array.getElem?_toList, Array.getElem?_modify, List.getElem?_set] at hi ⊢
      by_cases c : j = i
      · subst c
        have hjl : j < kv.length := (List.getElem?_eq_some_iff.1 h1).1
        simp [hen, hjl]
      · simpa [c] using hi
    · refine stamped_modify hs j _ (fun e _ => rfl) (fun e _ he' => ?_)
      have : e = en := by rw [hen] at he'; exact (Option.some.inj he').symm
      subst this
      exact henk.symm
theorem map_erase {γ δ : Type} (g : γ → δ) : ∀ (l : List γ) (i : Nat), (l.eraseIdx i).map g = (l.map g).eraseIdx i
  | [], _ => by simp
  | _ :: _, 0 => rfl
  | x :: l, i + 1 => by simp [map_erase g l i]
theorem MapA.run_delete {r : Nat} {T Kt ty : TypeId} (F : KeyFn P K f) (ht : P.underlying T = some (.map K E)) (h : MapA w r f kv) (a : α) :
    ∃ w', (Builtin.delete_ #[T, Kt] ty #[.map (some r), f a]).run P w = .ok (.tuple #[]) w' ∧ MapA w' r f (adel kv a) ∧ Chg (· = r) w w' ∧ w'.heap.size = w.heap.size := by
  obtain ⟨es, clock, hb, he, hs⟩ := h
  have hch : ∀ o : Obj, Chg (· = r) w { w with heap := w.heap.setIfInBounds r o } := fun o =>
    ⟨rfl, rfl, rfl, by simp, fun k _ hk => (heap_set (o' := o) hb).2 k hk⟩
  have hfd := F.find a es.toList kv w he
  cases hf : findA kv a 0 with
  | none =>
    obtain ⟨_, _, h3, _⟩ := findA_none hf
    have hr : (Builtin.delete_ #[T, Kt] ty #[.map (some r), f a]).run P w = .ok (.tuple #[]) { w with heap := w.heap.setIfInBounds r (.map es clock) } := by
      simp only [Builtin.delete_, List.getElem?_toArray, List.getElem?_cons_zero, List.getElem?_cons_succ, Sem.run_bind, run_underlying ht, Result.andThen_ok, MapKept.run_getObj_map hb, F.chk, Sem.run_pure]
      rw [hfd, hf]
      simp only [Result.andThen_ok, Sem.run_bind]
      rw [MapKept.run_setObj_map _ hb]
      rfl
    exact ⟨_, hr, ⟨_, _, (heap_set hb).1, by rw [h3]; exact he, hs⟩, hch _, by simp⟩
  | some p =>
    obtain ⟨j, u⟩ := p
    obtain ⟨n, e0, h1, h2, _, h3⟩ := findA_some hf
    have e0' : j = n := by omega
    subst e0'
    have hr : (Builtin.delete_ #[T, Kt] ty #[.map (some r), f a]).run P w = .ok (.tuple #[]) { w with heap := w.heap.setIfInBounds r (.map (es.eraseIdxIfInBounds j) clock) } := by
      simp only [Builtin.delete_, List.getElem?_toArray, List.getElem?_cons_zero, List.getElem?_cons_succ, Sem.run_bind, run_underlying ht, Result.andThen_ok, MapKept.run_getObj_map hb, F.chk, Sem.run_pure]
      rw [hfd, hf]
      simp only [Result.andThen_ok, Sem.run_bind]
      rw [MapKept.run_setObj_map _ hb]
      rfl
    refine ⟨_, hr, ⟨_, _, (heap_set hb).1, ?_, stamped_erase hs j⟩, hch _, by simp⟩
    rw [h3]
    have hl : es.size = kv.length := by simpa using congrArg List.length he
    have hj : j < es.size := by rw [hl]; exact (List.getElem?_eq_some_iff.1 h1).1
    simp only [Array.eraseIdxIfInBounds, hj, dite_true, Array.toList_eraseIdx]
    rw [map_erase, map_erase, he]
theorem MapV.run_len {mv : Value} {T ty : TypeId} (ht : P.underlying T = some (.map K E)) (h : MapV w mv f kv) : (Builtin.len_ #[T] ty #[mv]).run P w = .ok (.int .i64 kv.length) w := by
  rcases h with ⟨rfl, rfl⟩ | ⟨r, rfl, es, clock, hb, he, _⟩
  · simp only [Builtin.len_, List.getElem?_toArray, List.getElem?_cons_zero, Sem.run_bind, run_underlying ht, Result.andThen_ok, Sem.run_pure]; rfl
  · have hl : es.size = kv.length := by simpa using congrArg List.length he
    simp only [Builtin.len_, List.getElem?_toArray, List.getElem?_cons_zero, Sem.run_bind, run_underlying ht, Result.andThen_ok, MapKept.run_getObj_map hb, Sem.run_pure]
    rw [hl]; rfl

theorem mapA_made (w : World) (f : α → Value) : MapA (w.alloc (.map #[] 0)) w.heap.size f [] := ⟨#[], 0, block_alloc _ _, rfl, stamped_empty 0⟩

/-! ### At the operations -/
variable {ops : Array Oper} {rest : List Oper} {o : Oper} {a : Act} {Q : Exit → Act → World → Prop}
theorem wpList_lookupA (hg : o.guard = none) (m x : Operand) (T : TypeId) (ok : Bool) (hop : o.op = Op.lookup T m x ok) (K E : TypeId) (ht : P.underlying T = some (.map K E)) (F : KeyFn P K f) (z : Value) (hz : (zeroValue E).run P w = .ok z w)
    (hM : MapV w (a.eval m) f kv) (k : α) (hx : a.eval x = f k)
    (hK : wpList P ops Q rest (a.put o.dst (if ok then .tuple #[(aget kv k).getD z, .bool (aget kv k).isSome] else (aget kv k).getD z)) w) : wpList P ops Q (o :: rest) a w := by
  refine wpList_plain hg fun K' hK' => ?_
  unfold Oper.wp
  simp [execOp, hop, hx, hM.run_lookup F ht hz k ok, Result.andThen]
  exact hK' _ _ hK
theorem wpList_mapUpdateA (hg : o.guard = none) (m x v : Operand) (T : TypeId) (hop : o.op = Op.mapUpdate T m x v) (K E : TypeId) (ht : P.underlying T = some (.map K E)) (F : KeyFn P K f)
    (r : Nat) (hm : a.eval m = .map (some r)) (hM : MapA w r f kv) (k : α) (hx : a.eval x = f k) (val : Value) (hv : a.eval v = val)
    (hK : ∀ w', MapA w' r f (aput kv k val) → Chg (· = r) w w' → w'.heap.size = w.heap.size → wpList P ops Q rest (a.put o.dst undef) w') : wpList P ops Q (o :: rest) a w := by
  refine wpList_plain hg fun K' hK' => ?_
  obtain ⟨w', hr, h1, h2, h3⟩ := hM.run_update F ht k val
  unfold Oper.wp
  simp [execOp, hop, hx, hm, hv, hr, Result.andThen]
  exact hK' _ _ (hK w' h1 h2 h3)
end

section
variable {α : Type} [DecidableEq α] {P : Program} {K E : TypeId} {f : α → Value} {kv : List (α × Value)} {w : World} {ops : Array Oper} {rest : List Oper} {o : Oper} {a : Act} {Q : Exit → Act → World → Prop}
theorem wpList_deleteA (hg : o.guard = none) (m x : Operand) (T Kt : TypeId) (hop : o.op = Op.call { callee := .builtin .delete, args := #[m, x], argTypes := #[T, Kt] }) (K E : TypeId) (ht : P.underlying T = some (.map K E)) (F : KeyFn P K f)
    (r : Nat) (hm : a.eval m = .map (some r)) (hM : MapA w r f kv) (k : α) (hx : a.eval x = f k)
    (hK : ∀ w', MapA w' r f (adel kv k) → Chg (· = r) w w' → w'.heap.size = w.heap.size → wpList P ops Q rest (a.put o.dst (.tuple #[])) w') : wpList P ops Q (o :: rest) a w := by
  refine wpList_plain hg fun K' hK' => ?_
  obtain ⟨w', hr, h1, h2, h3⟩ := hM.run_delete (Kt := Kt) (ty := o.type) F ht k
  unfold Oper.wp
  simp [execOp, hop, resolve, invoke, builtin, hm, hx, hr, Result.andThen]
  exact hK' _ _ (hK w' h1 h2 h3)
end

/-! ### Keys -/
theorem findNow_keys {α : Type} [DecidableEq α] {f : α → Value} {d : TypeDesc} (hs : ∀ a b, Instr.sameNow d (f a) (f b) = some (decide (a = b))) (k : α) :
    ∀ (l : List MapEntry) (kv : List (α × Value)) (i : Nat), l.map (fun e => (e.key, e.val)) = kv.map (fun p => (f p.1, p.2)) → Instr.findNow d (f k) l i = some (findA kv k i)
  | [], [], _, _ => rfl
  | [], _ :: _, _, h => by cases h
  | _ :: _, [], _, h => by cases h
  | e :: l, p :: kv, i, h => by
    simp only [List.map_cons, List.cons.injEq, Prod.mk.injEq] at h
    obtain ⟨⟨h1, h2⟩, h3⟩ := h
    unfold Instr.findNow findA
    rw [h1, hs]
    by_cases c : k = p.1
    · simp [c, h2]
    · simp [c, findNow_keys hs k l kv (i + 1) h3]

theorem keyFn_now {α : Type} [DecidableEq α] {P : Program} {K : TypeId} {f : α → Value} {d : TypeDesc} (hd : P.underlying K = some d) (hk : ∀ a, IsKey d (f a)) (hs : ∀ a b, Instr.sameNow d (f a) (f b) = some (decide (a = b)))
    (inj : ∀ a b, f a = f b → a = b) : KeyFn P K f where
  chk := fun em a w => run_checkKey hd (hk a) em 9999
  find := fun a l kv w h => run_findKey hd (findNow_keys hs a l kv 0 h)
  keep := fun a w => run_keyThatStays (hk a)
  inj := inj

def ik (n : Int) : Value := .int .i64 n
theorem keyInt {P : Program} {K : TypeId} (hd : P.underlying K = some (.int .i64)) : KeyFn P K ik :=
  keyFn_now hd (fun _ => rfl) (fun a b => by simp only [Instr.sameNow, ik, if_true]; congr 1) (fun a b h => by cases h; rfl)
def sk (s : ByteArray) : Value := .string s
theorem keyStr {P : Program} {K : TypeId} (hd : P.underlying K = some .string) : KeyFn P K sk :=
  keyFn_now hd (fun _ => trivial) (fun a b => by
    simp only [Instr.sameNow, sk]
    congr 1
    rw [Bool.eq_iff_iff, bytes_beq]; simp) (fun a b h => by cases h; rfl)

end
/- Slices told by their elements (SliceAt), over any program: append, reads. -/

/-- Blocks S' are S's, or new. -/
def Grow (S S' : Nat → Prop) (w w' : World) : Prop := ∀ x, S' x → S x ∨ (w.heap.size ≤ x ∧ x < w'.heap.size)
theorem Grow.refl (S : Nat → Prop) (w w' : World) : Grow S S w w' := fun x h => .inl h
theorem Grow.ge {S S' : Nat → Prop} {w w' : World} {B : Nat} (h : Grow S S' w w') (hS : ∀ x, S x → B ≤ x) (hB : B ≤ w.heap.size) : ∀ x, S' x → B ≤ x := fun x hx => by
  rcases h x hx with h | h
  · exact hS x h
  · omega

/-- The value v is a slice whose cells (n elements of E, size cells each) are xs; its block is in S. -/
def SliceAt (w : World) (v : Value) (E size n : Nat) (xs : List Value) (S : Nat → Prop) : Prop :=
  xs.length = n * size ∧ ((v = .slice none 0 0 ∧ n = 0) ∨
    ∃ g off cap cs, v = .slice (some ⟨g, off, none⟩) n cap ∧ w.heap[g]? = some (.cells cs E (0, 0)) ∧ n ≤ cap ∧ cap ≤ maxLen ∧ off + cap * size ≤ cs.size ∧ (∀ j u, xs[j]? = some u → cs[off + j]? = some u) ∧ S g)

theorem SliceAt.keep {w w' : World} {v : Value} {E size n : Nat} {xs : List Value} {S T : Nat → Prop} (h : SliceAt w v E size n xs S) (c : Chg T w w') (hd : ∀ x, S x → ¬ T x) : SliceAt w' v E size n xs S := by
  obtain ⟨h1, h2 | ⟨g, off, cap, cs, e, hb, r⟩⟩ := h
  · exact ⟨h1, .inl h2⟩
  · exact ⟨h1, .inr ⟨g, off, cap, cs, e, c.keep hb (hd g r.2.2.2.2), r⟩⟩
theorem SliceAt.mono {w : World} {v : Value} {E size n : Nat} {xs : List Value} {S T : Nat → Prop} (h : SliceAt w v E size n xs S) (hd : ∀ x, S x → T x) : SliceAt w v E size n xs T := by
  obtain ⟨h1, h2 | ⟨g, off, cap, cs, e, hb, a, b, c, d, s⟩⟩ := h
  · exact ⟨h1, .inl h2⟩
  · exact ⟨h1, .inr ⟨g, off, cap, cs, e, hb, a, b, c, d, hd g s⟩⟩
theorem sliceAt_nil (w : World) (E size : Nat) (S : Nat → Prop) : SliceAt w (.slice none 0 0) E size 0 [] S := ⟨by simp, .inl ⟨rfl, rfl⟩⟩
theorem SliceAt.shape {w : World} {v : Value} {E size n : Nat} {xs : List Value} {S : Nat → Prop} (h : SliceAt w v E size n xs S) : ∃ a cap, v = .slice a n cap := by
  obtain ⟨_, ⟨rfl, rfl⟩ | ⟨g, off, cap, cs, e, _⟩⟩ := h
  · exact ⟨none, 0, rfl⟩
  · exact ⟨_, cap, e⟩
/-- A slice that has elements: where it lies. -/
theorem SliceAt.place {w : World} {v : Value} {E size n : Nat} {xs : List Value} {S : Nat → Prop} (h : SliceAt w v E size n xs S) (hn : 0 < n) :
    ∃ g off cap cs, v = .slice (some ⟨g, off, none⟩) n cap ∧ w.heap[g]? = some (.cells cs E (0, 0)) ∧ n ≤ cap ∧ cap ≤ maxLen ∧ off + cap * size ≤ cs.size ∧ (∀ j u, xs[j]? = some u → w.cell? ⟨g, off + j, none⟩ = some u) ∧ S g ∧ g < w.heap.size := by
  obtain ⟨_, ⟨_, rfl⟩ | ⟨g, off, cap, cs, e, hb, h1, h2, h3, h4, h5⟩⟩ := h
  · omega
  · exact ⟨g, off, cap, cs, e, hb, h1, h2, h3, fun j u hj => by rw [cell_of hb]; exact h4 j u hj, h5, lt_of_block hb⟩
theorem SliceAt.of_owns {w : World} {base E size : Nat} {v : Value} {n : Nat} {xs : List Value} {S : Nat → Prop} (h : w.ownsRow base E size v n xs) (hS : ∀ x, base ≤ x → x < w.heap.size → S x) : SliceAt w v E size n xs S := by
  obtain ⟨h1, ⟨a, b⟩ | ⟨g, cap, cur, e, hg, hb, h2, h3, h4, h5⟩⟩ := h
  · exact ⟨h1, .inl ⟨a, b⟩⟩
  · refine ⟨h1, .inr ⟨g, 0, cap, cur, e, hb, h2, h3, by omega, fun j u hj => ?_, hS g hg (lt_of_block hb)⟩⟩
    rw [← h5, List.getElem?_take] at hj
    split at hj
    · simpa using hj
    · cases hj

theorem block_setCells {T : TypeId} {fz : Nat × Nat} {b : Nat} : ∀ (vs : List Value) (o : Nat) (w : World) (cs : Array Value), w.heap[b]? = some (.cells cs T fz) →
    ∃ cs', (w.setCells b o vs).heap[b]? = some (.cells cs' T fz) ∧ cs'.size = cs.size ∧ (∀ j, j < vs.length → o + j < cs.size → cs'[o + j]? = vs[j]?) ∧ (∀ i, i < o ∨ o + vs.length ≤ i → cs'[i]? = cs[i]?)
  | [], o, w, cs, h => ⟨cs, h, rfl, fun j hj => by simp at hj, fun _ _ => rfl⟩
  | v :: vs, o, w, cs, h => by
    obtain ⟨cs', h1, h2, h3, h4⟩ := block_setCells vs (o + 1) _ _ (block_setCell h o v)
    refine ⟨cs', h1, by simpa using h2, fun j hj hl => ?_, fun i hi => ?_⟩
    · cases j with
      | zero => rw [h4 (o + 0) (.inl (by omega))]; simp at hl ⊢; simp [hl]
      | succ j =>
        have := h3 j (by simpa using hj) (by simp; omega)
        rw [show o + (j + 1) = o + 1 + j by omega, this]; simp
    · rw [h4 i (by simp at hi; omega)]
      simp at hi
      rw [Array.getElem?_setIfInBounds_ne (by omega)]
theorem chg_setCells {b : Nat} : ∀ (vs : List Value) (o : Nat) (w : World), Chg (· = b) w (w.setCells b o vs)
  | [], _, w => Chg.refl _ w
  | v :: vs, o, w => Chg.then (S := (· = b)) ((Chg.refl (· = b) w).setCell (p := ⟨b, o, none⟩) (.inr rfl) v) (chg_setCells vs (o + 1) (w.setCell ⟨b, o, none⟩ v))
theorem size_setCells' {b : Nat} : ∀ (vs : List Value) (o : Nat) (w : World), (w.setCells b o vs).heap.size = w.heap.size
  | [], _, _ => rfl
  | v :: vs, o, w => by
    show ((w.setCell _ v).setCells b (o + 1) vs).heap.size = _
    rw [size_setCells' vs]; simp

section
variable {P : Program} {w : World}
/-- append of m elements that lie at a. -/
theorem run_appendS {T ty E : TypeId} {z : Value} {size bytes : Nat} (ht : P.underlying T = some (.slice E)) (hinfo : (P.info? E).map (fun i => (i.zero, i.size, i.bytes)) = some (some z, size, bytes)) (hzs : z.cells.size = size) (hsz : 0 < size)
    {v : Value} {n : Nat} {xs : List Value} {S : Nat → Prop} (h : SliceAt w v E size n xs S) {a : Addr} {m c : Nat} {news : List Value} (hl : news.length = m * size) (hnews : ∀ j u, news[j]? = some u → w.cell? (a.add j) = some u) (h1 : ∀ u ∈ news, u.oneCell' = true)
    (h63 : n + m ≤ maxLen) (hb : (n + m) * bytes ≤ 140737488355328) :
    ∃ v' w' S', (Builtin.append_ #[T, T] ty #[v, .slice (some a) m c]).run P w = .ok v' w' ∧ SliceAt w' v' E size (n + m) (xs ++ news) S' ∧ Chg S w w' ∧ Grow S S' w w' := by
  obtain ⟨i, hi, hz0, hz1, hz2⟩ := info_parts hinfo
  obtain ⟨hlen, hcase⟩ := h
  have hgrown : ∀ {v' : Value} {w' : World}, w'.ownsRow w.heap.size E size v' (n + m) (xs ++ news) → w.grownBy w' none → ∃ S', SliceAt w' v' E size (n + m) (xs ++ news) S' ∧ Chg S w w' ∧ Grow S S' w w' := fun ho hg =>
    ⟨fun x => w.heap.size ≤ x ∧ x < _, SliceAt.of_owns ho (fun x h1 h2 => ⟨h1, h2⟩), ⟨hg.os, hg.tape, hg.output, hg.size, fun k hk _ => hg.block k hk (by simp)⟩, fun x hx => .inr hx⟩
  rcases hcase with ⟨rfl, rfl⟩ | ⟨g, off, cap, cs, rfl, hbk, hnc, hcm, hoff, hcells, hS⟩
  · have hx0 : xs = [] := by simpa using hlen
    subst hx0
    obtain ⟨v', w', r, ho, hg, _⟩ := run_append_own (w := w) (P := P) w.heap.size T ty E i z size bytes ht hi hz0 hz1 hz2 hzs hsz (.slice none 0 0) 0 [] (World.ownsRow_nil _ _ _ _) a m c news hl hnews h1 h63 hb (Nat.le_refl _)
    obtain ⟨S', h2, h3, h4⟩ := hgrown ho hg
    exact ⟨v', w', S', r, h2, h3, h4⟩
  · by_cases hroom : n + m ≤ cap
    · have hlt : ∀ j, j < news.length → off + n * size + j < cs.size := fun j hj => by
        have : (n + m) * size ≤ cap * size := Nat.mul_le_mul_right _ hroom
        rw [Nat.add_mul] at this
        omega
      have hr := run_append_room_cells (w := w) (P := P) T ty E i ht hi g off n cap a m c news (by rw [hz1]; exact hl) hnews h1 hroom
        (fun j hj => by rw [hz1, cell_of hbk]; simp [hlt j hj]) (fun j hj => free_of hbk _)
      rw [hz1] at hr
      obtain ⟨cs', e1, e2, e3, e4⟩ := block_setCells news (off + n * size) w cs hbk
      refine ⟨_, _, S, hr, ⟨by rw [List.length_append, hlen, hl, Nat.add_mul], .inr ⟨g, off, cap, cs', rfl, e1, hroom, hcm, by rw [e2]; exact hoff, fun j u hj => ?_, hS⟩⟩, (chg_setCells _ _ _).mono (fun x _ e => by subst e; exact hS), Grow.refl _ _ _⟩
      rcases Nat.lt_or_ge j xs.length with hj' | hj'
      · rw [List.getElem?_append_left hj'] at hj
        rw [e4 _ (.inl (by omega))]
        exact hcells j u hj
      · rw [List.getElem?_append_right hj'] at hj
        have hjl := (List.getElem?_eq_some_iff.1 hj).1
        have hk : off + j = off + n * size + (j - xs.length) := by omega
        rw [hk, e3 _ hjl (hlt _ hjl)]
        exact hj
    · obtain ⟨v', w', r, ho, hg⟩ := run_append_arg_grows (w := w) (P := P) T ty E i z size bytes ht hi hz0 hz1 hz2 hzs hsz ⟨g, off, none⟩ n cap xs hlen (fun j u hj => by
        have := hcells j u hj
        rw [Addr.add_lit, cell_of hbk]; exact this) a m c news hl hnews (by omega) h63 hb
      obtain ⟨S', h2, h3, h4⟩ := hgrown ho hg
      exact ⟨v', w', S', r, h2, h3, h4⟩

variable {ops : Array Oper} {rest : List Oper} {o : Oper} {a : Act} {Q : Exit → Act → World → Prop}
theorem wpList_appendS (hg : o.guard = none) (s x : Operand) (T : TypeId) (hop : o.op = .call { callee := .builtin .append, args := #[s, x], argTypes := #[T, T] })
    {E : TypeId} {z : Value} {size bytes : Nat} (ht : P.underlying T = some (.slice E)) (hinfo : (P.info? E).map (fun i => (i.zero, i.size, i.bytes)) = some (some z, size, bytes)) (hzs : z.cells.size = size) (hsz : 0 < size)
    {v : Value} (hv : a.eval s = v) {n : Nat} {xs : List Value} {S : Nat → Prop} (h : SliceAt w v E size n xs S) {ad : Addr} {m c : Nat} (hx : a.eval x = .slice (some ad) m c) (news : List Value) (hl : news.length = m * size) (hnews : ∀ j u, news[j]? = some u → w.cell? (ad.add j) = some u) (h1 : ∀ u ∈ news, u.oneCell' = true)
    (h63 : n + m ≤ maxLen) (hb : (n + m) * bytes ≤ 140737488355328)
    (hK : ∀ v' w' S', SliceAt w' v' E size (n + m) (xs ++ news) S' → Chg S w w' → Grow S S' w w' → wpList P ops Q rest (a.put o.dst v') w') : wpList P ops Q (o :: rest) a w := by
  refine wpList_plain hg fun K' hK' => ?_
  obtain ⟨v', w', S', r, h2, h3, h4⟩ := run_appendS (ty := o.type) (c := c) ht hinfo hzs hsz h hl hnews h1 h63 hb
  unfold Oper.wp
  simp [execOp, hop, resolve, invoke, builtin, hv, hx, r, Result.andThen]
  exact hK' _ _ (hK v' w' S' h2 h3 h4)
end

/-! ### Elements of several cells -/
theorem flat_len {α : Type} {size : Nat} (enc : α → List Value) (he : ∀ a, (enc a).length = size) : ∀ l : List α, (l.flatMap enc).length = l.length * size
  | [] => by simp
  | a :: l => by simp [he, flat_len enc he l, Nat.add_mul]; omega
theorem flat_get {α : Type} {size : Nat} (enc : α → List Value) (he : ∀ a, (enc a).length = size) : ∀ (l : List α) (i j : Nat) (a : α), l[i]? = some a → j < size → (l.flatMap enc)[i * size + j]? = (enc a)[j]?
  | [], _, _, _, h, _ => by cases h
  | b :: l, 0, j, a, h, hj => by
    simp only [List.getElem?_cons_zero, Option.some.injEq] at h
    subst h
    simp only [List.flatMap_cons, Nat.zero_mul, Nat.zero_add]
    rw [List.getElem?_append_left (by rw [he]; exact hj)]
  | b :: l, i + 1, j, a, h, hj => by
    simp only [List.flatMap_cons]
    rw [List.getElem?_append_right (by rw [he, Nat.add_mul]; omega), he, show (i + 1) * size + j - size = i * size + j by rw [Nat.add_mul]; omega]
    exact flat_get enc he l i j a (by simpa using h) hj

theorem cell_new_list (w : World) (l : List Value) (E : TypeId) (j : Nat) (u : Value) (h : l[j]? = some u) : (w.alloc (.cells l.toArray E)).cell? ((⟨w.heap.size, 0, none⟩ : Addr).add j) = some u := by
  rw [Addr.add_lit, cell_of (block_alloc w (.cells l.toArray E))]
  simpa using h

/-- One element stored anew. -/
theorem SliceAt.setElem {α : Type} {enc : α → List Value} {w : World} {g off n cap E size : Nat} {l : List α} {S : Nat → Prop} (he : ∀ a, (enc a).length = size)
    (h : SliceAt w (.slice (some ⟨g, off, none⟩) n cap) E size n (l.flatMap enc) S) {k : Nat} (hk : k < l.length) (x : α) :
    SliceAt (w.setCells g (off + k * size) (enc x)) (.slice (some ⟨g, off, none⟩) n cap) E size n ((l.set k x).flatMap enc) S := by
  obtain ⟨h1, ⟨e, _⟩ | ⟨g', off', cap', cs, e, hb, h2, h3, h4, h5, h6⟩⟩ := h
  · cases e
  cases e
  obtain ⟨cs', e1, e2, e3, e4⟩ := block_setCells (enc x) (off + k * size) w cs hb
  have hn : l.length * size = n * size := by rw [← flat_len enc he l]; exact h1
  have hks : (k + 1) * size ≤ n * size := by rw [← hn]; exact Nat.mul_le_mul_right _ hk
  have hnc : n * size ≤ cap * size := Nat.mul_le_mul_right _ h2
  rw [Nat.add_mul] at hks
  refine ⟨by rw [flat_len enc he]; simpa using hn, .inr ⟨g, off, cap, cs', rfl, e1, h2, h3, by rw [e2]; exact h4, fun j u hj => ?_, h6⟩⟩
  have hjl := (List.getElem?_eq_some_iff.1 hj).1
  rw [flat_len enc he, List.length_set] at hjl
  by_cases hin : k * size ≤ j ∧ j < k * size + size
  · obtain ⟨r, rfl⟩ : ∃ r, j = k * size + r := ⟨j - k * size, by omega⟩
    rw [flat_get enc he (l.set k x) k r x (by simp [hk]) (by omega)] at hj
    rw [show off + (k * size + r) = off + k * size + r by omega, e3 r (by rw [he]; omega) (by omega)]
    exact hj
  · rw [e4 _ (by rw [he]; omega)]
    refine h5 j u ?_
    have hs0 : 0 < size := by rcases Nat.eq_zero_or_pos size with h | h; (subst h; simp at hjl); exact h
    obtain ⟨i, r, rfl, hr⟩ : ∃ i r, j = i * size + r ∧ r < size := ⟨j / size, j % size, by rw [Nat.mul_comm]; exact (Nat.div_add_mod j size).symm, Nat.mod_lt _ hs0⟩
    have hi : i < l.length := by
      rcases Nat.lt_or_ge i l.length with h | h
      · exact h
      · have := Nat.mul_le_mul_right size h; omega
    have hik : i ≠ k := fun e => by subst e; omega
    obtain ⟨y, hy⟩ : ∃ y, l[i]? = some y := ⟨l[i], List.getElem?_eq_getElem hi⟩
    rw [flat_get enc he (l.set k x) i r y (by rw [List.getElem?_set_ne (fun e => hik e.symm)]; exact hy) hr] at hj
    rw [flat_get enc he l i r y hy hr]; exact hj
theorem SliceAt.elem {α : Type} {enc : α → List Value} {w : World} {g off n cap E size : Nat} {l : List α} {S : Nat → Prop} (he : ∀ a, (enc a).length = size)
    (h : SliceAt w (.slice (some ⟨g, off, none⟩) n cap) E size n (l.flatMap enc) S) {k : Nat} {x : α} (hk : l[k]? = some x) (r : Nat) (u : Value) (hu : (enc x)[r]? = some u) : w.cell? ⟨g, off + k * size + r, none⟩ = some u ∧ w.frozen? ⟨g, off + k * size + r, none⟩ = false ∧ g < w.heap.size := by
  obtain ⟨h1, ⟨e, _⟩ | ⟨g', off', cap', cs, e, hb, h2, h3, h4, h5, h6⟩⟩ := h
  · cases e
  cases e
  refine ⟨?_, free_of hb _, lt_of_block hb⟩
  rw [cell_of hb, Nat.add_assoc]
  have hr : r < size := by rw [← he x]; exact (List.getElem?_eq_some_iff.1 hu).1
  exact h5 _ u (by rw [flat_get enc he l k r x hk hr]; exact hu)
theorem SliceAt.len {α : Type} {enc : α → List Value} {w : World} {v : Value} {n E size : Nat} {l : List α} {S : Nat → Prop} (he : ∀ a, (enc a).length = size) (hs : 0 < size) (h : SliceAt w v E size n (l.flatMap enc) S) : n = l.length := by
  have := h.1
  rw [flat_len enc he] at this
  exact (Nat.mul_right_cancel hs this).symm
theorem SliceAt.le {w : World} {v : Value} {n E size : Nat} {xs : List Value} {S : Nat → Prop} (h : SliceAt w v E size n xs S) : n ≤ 9223372036854775807 := by
  rcases Nat.eq_zero_or_pos n with h0 | h0
  · omega
  · obtain ⟨_, _, _, _, _, _, h1, h2, _⟩ := h.place h0
    unfold maxLen at h2; omega

/- What a call owns: a list of resources (each with the blocks it lies in), kept over steps that turn other blocks; contracts that say what is handed in and what is handed back (Spec); the operations' laws by it. Over any program, no condition. -/

/-- A resource: may it be written? the blocks it lies in; what is so. -/
structure Res where
  wr : Bool
  foot : Nat → Prop
  fact : World → Prop
  stab : ∀ (w w' : World), fact w → w.heap.size ≤ w'.heap.size → (∀ b, foot b → w'.heap[b]? = w.heap[b]?) → fact w'
  alive : ∀ (w : World) (b : Nat), fact w → foot b → b < w.heap.size

abbrev Ent := Bool → Nat → Prop

/-- Since w0 only what E allows has turned; in w the resources L are so, apart from each other where one is written. -/
structure Own (w0 : World) (E : Ent) (L : List Res) (w : World) : Prop where
  chg : Chg (E true) w0 w
  mono : ∀ b, E true b → E false b
  facts : ∀ r ∈ L, r.fact w
  apart : L.Pairwise (fun r s => r.wr = true ∨ s.wr = true → ∀ b, r.foot b → ¬ s.foot b)
  may : ∀ r ∈ L, ∀ b, r.foot b → E r.wr b ∨ w0.heap.size ≤ b

theorem Own.perm {w0 w : World} {E : Ent} {L L' : List Res} (h : Own w0 E L w) (p : L.Perm L') : Own w0 E L' w :=
  ⟨h.chg, h.mono, fun r hr => h.facts r (p.mem_iff.2 hr), p.pairwise h.apart (fun {r s} hrs c b hb hs => hrs (c.symm) b hs hb), fun r hr => h.may r (p.mem_iff.2 hr)⟩
theorem Own.left {w0 w : World} {E : Ent} {L M : List Res} (h : Own w0 E (L ++ M) w) : Own w0 E L w :=
  ⟨h.chg, h.mono, fun r hr => h.facts r (List.mem_append_left _ hr), (List.pairwise_append.1 h.apart).1, fun r hr => h.may r (List.mem_append_left _ hr)⟩
/-- What a list of resources lies in. -/
def entOf (L : List Res) : Ent := fun t b => ∃ r ∈ L, r.foot b ∧ (t = true → r.wr = true)
theorem Own.focus {w0 w : World} {E : Ent} {L M : List Res} (h : Own w0 E (L ++ M) w) : Own w (entOf L) L w :=
  ⟨Chg.refl _ _, fun b ⟨r, hr, hb, _⟩ => ⟨r, hr, hb, fun e => by cases e⟩, h.left.facts, h.left.apart, fun r hr b hb => .inl ⟨r, hr, hb, fun e => e⟩⟩
theorem Own.unfocus {w0 w w' : World} {E : Ent} {L L' M : List Res} (h : Own w0 E (L ++ M) w) (k : Own w (entOf L) L' w') : Own w0 E (L' ++ M) w' := by
  obtain ⟨h1, h2, h3, h4, h5⟩ := h
  obtain ⟨k1, k2, k3, k4, k5⟩ := k
  obtain ⟨_, hM, hLM⟩ := List.pairwise_append.1 h4
  have hsz := h1.size
  refine ⟨h1.trans k1 ?_, h2, ?_, ?_, ?_⟩
  · rintro x hx ⟨r, hr, hb, hw⟩
    rcases h5 r (List.mem_append_left _ hr) x hb with h | h
    · rw [hw rfl] at h; exact h
    · omega
  · intro r hr
    rcases List.mem_append.1 hr with hr | hr
    · exact k3 r hr
    · have hf := h3 r (List.mem_append_right _ hr)
      refine r.stab w w' hf k1.size (fun b hb => k1.block b (r.alive w b hf hb) ?_)
      rintro ⟨s, hs, hsb, hw⟩
      exact hLM s hs r hr (.inl (hw rfl)) b hsb hb
  · refine List.pairwise_append.2 ⟨k4, hM, fun r hr s hs hc b hb hsb => ?_⟩
    rcases k5 r hr b hb with ⟨q, hq, hqb, hqw⟩ | hge
    · rcases hc with hc | hc
      · exact hLM q hq s hs (.inl (hqw hc)) b hqb hsb
      · exact hLM q hq s hs (.inr hc) b hqb hsb
    · have := s.alive w b (h3 s (List.mem_append_right _ hs)) hsb
      omega
  · intro r hr b hb
    rcases List.mem_append.1 hr with hr | hr
    · rcases k5 r hr b hb with ⟨q, hq, hqb, hqw⟩ | hge
      · rcases h5 q (List.mem_append_left _ hq) b hqb with h | h
        · refine .inl ?_
          cases e : r.wr
          · cases e2 : q.wr
            · rw [e2] at h; exact h
            · rw [e2] at h; exact h2 b h
          · rw [hqw e] at h; exact h
        · exact .inr h
      · exact .inr (by omega)
    · exact h5 r (List.mem_append_right _ hr) b hb

/-- The resources at these places, each counted behind the taking out of the ones before it; and the rest. -/
def pk : List Nat → List Res → List Res
  | [], _ => []
  | i :: is, L => match L[i]? with | some r => r :: pk is (L.eraseIdx i) | none => pk is L
def rs : List Nat → List Res → List Res
  | [], L => L
  | i :: is, L => rs is (L.eraseIdx i)
theorem erase_perm {α : Type} : ∀ {L : List α} {i : Nat} {r : α}, L[i]? = some r → (r :: L.eraseIdx i).Perm L
  | [], _, _, h => by simp at h
  | x :: L, 0, r, h => by simp at h; subst h; exact List.Perm.refl _
  | x :: L, i + 1, r, h => (List.Perm.swap x r _).trans ((erase_perm (by simpa using h)).cons x)
theorem pk_perm : ∀ (is : List Nat) (L : List Res), L.Perm (pk is L ++ rs is L)
  | [], L => by simp [pk, rs]
  | i :: is, L => by
    unfold pk rs
    cases hi : L[i]? with
    | none =>
      have hl : L.length ≤ i := by simpa using hi
      rw [List.eraseIdx_of_length_le hl]
      exact pk_perm is L
    | some r =>
      exact (erase_perm hi).symm.trans ((pk_perm is (L.eraseIdx i)).cons r)
theorem Own.pick {w0 w : World} {E : Ent} {L : List Res} (h : Own w0 E L w) (is : List Nat) : Own w0 E (pk is L) w := (h.perm (pk_perm is L)).left
theorem Own.pick1 {w0 w : World} {E : Ent} {r : Res} {L : List Res} (h : Own w0 E (r :: L) w) : Own w0 E L w :=
  ⟨h.chg, h.mono, fun r hr => h.facts r (List.mem_cons_of_mem _ hr), (List.pairwise_cons.1 h.apart).2, fun r hr => h.may r (List.mem_cons_of_mem _ hr)⟩
theorem Own.fact {w0 w : World} {E : Ent} {L : List Res} (h : Own w0 E L w) (i : Nat) {r : Res} (hi : L[i]? = some r) : r.fact w := h.facts r (List.mem_of_getElem? hi)
theorem Own.quiet {w0 w w' : World} {E : Ent} {L : List Res} (h : Own w0 E L w) (c : Chg Nil w w') : Own w0 E L w' :=
  ⟨h.chg.then c.nil, h.mono, fun r hr => r.stab w w' (h.facts r hr) c.size (fun b hb => c.block b (r.alive w b (h.facts r hr) hb) (fun f => f)), h.apart, h.may⟩
theorem Own.drew {w0 w : World} {E : Ent} {L : List Res} (h : Own w0 E L w) : Own w0 E L w.drew := h.quiet ((Chg.refl Nil w).drew)
theorem Own.push {w0 w w' : World} {E : Ent} {L : List Res} (h : Own w0 E L w) (c : Chg Nil w w') {r : Res} (hf : r.fact w') (hn : ∀ b, r.foot b → w.heap.size ≤ b) : Own w0 E (r :: L) w' := by
  have hq := h.quiet c
  have hsz := h.chg.size
  refine ⟨hq.chg, hq.mono, fun s hs => ?_, List.pairwise_cons.2 ⟨fun s hs _ b hb hsb => ?_, hq.apart⟩, fun s hs b hb => ?_⟩
  · rcases List.mem_cons.1 hs with rfl | hs
    · exact hf
    · exact hq.facts s hs
  · have := s.alive w b (h.facts s hs) hsb
    have := hn b hb
    omega
  · rcases List.mem_cons.1 hs with rfl | hs
    · exact .inr (by have := hn b hb; omega)
    · exact h.may s hs b hb
/-- One resource turns, and its blocks alone. -/
theorem Own.upd {w0 w w' : World} {E : Ent} {L : List Res} (h : Own w0 E L w) (i : Nat) {r r' : Res} (hi : L[i]? = some r) (hw : r.wr = true) (c : Chg r.foot w w') (hf : r'.fact w') (hg : ∀ b, r'.foot b → r.foot b ∨ w.heap.size ≤ b) : Own w0 E (L.set i r') w' := by
  have hl : i < L.length := (List.getElem?_eq_some_iff.1 hi).1
  have p1 := erase_perm hi
  have p2 := erase_perm (L := L.set i r') (i := i) (r := r') (by rw [List.getElem?_set_self hl])
  rw [List.eraseIdx_set_eq] at p2
  have h1 : Own w0 E ([r] ++ L.eraseIdx i) w := h.perm p1.symm
  have h2 : Own w (entOf [r]) [r'] w' := by
    refine ⟨c.mono (fun x _ hx => ⟨r, List.mem_singleton.2 rfl, hx, fun _ => hw⟩), fun b ⟨s, hs, hb, _⟩ => ⟨s, hs, hb, fun e => by cases e⟩, fun s hs => by rw [List.mem_singleton.1 hs]; exact hf, List.pairwise_singleton _ _, fun s hs b hb => ?_⟩
    rw [List.mem_singleton.1 hs] at hb ⊢
    rcases hg b hb with hb | hb
    · exact .inl ⟨r, List.mem_singleton.2 rfl, hb, fun _ => hw⟩
    · exact .inr hb
  exact (h1.unfocus h2).perm p2

/-- A contract: with these resources the call returns v and leaves the resources L', as Φ says. -/
def Spec (P : Program) (f : FuncId) (args : Array Value) (L : List Res) (Φ : Value → List Res → Prop) : Prop :=
  ∀ (E : Ent) (w0 w : World), Own w0 E L w → Calls P f args w fun e w' => ∃ v L', Φ v L' ∧ e = .returned v ∧ Own w0 E L' w'
theorem Spec.mono {P : Program} {f : FuncId} {args : Array Value} {L : List Res} {Φ Ψ : Value → List Res → Prop} (h : Spec P f args L Φ) (hm : ∀ v L', Φ v L' → Ψ v L') : Spec P f args L Ψ :=
  fun E w0 w ho => (h E w0 w ho).mono fun e w' ⟨v, L', h1, h2, h3⟩ => ⟨v, L', hm v L' h1, h2, h3⟩

/-! ### Resources -/
/-- A block of cells. -/
def rCell (wr : Bool) (b : Nat) (cs : List Value) (T : TypeId) : Res :=
  ⟨wr, (· = b), fun w => w.heap[b]? = some (.cells cs.toArray T (0, 0)), fun w w' h _ hb => (hb b rfl).trans h, fun w x h e => by rw [e]; exact lt_of_block h⟩
/-- A map told by its entries. -/
def blkOf : Value → Nat → Prop
  | .slice (some a) _ _ => (· = a.block)
  | .map (some r) => (· = r)
  | _ => fun _ => False
/-- A slice whose n elements of E (k cells each) have the cells xs. -/
def rSl (wr : Bool) (v : Value) (E k n : Nat) (xs : List Value) : Res :=
  ⟨wr, blkOf v, fun w => SliceAt w v E k n xs (blkOf v), fun w w' h hs hb => by
    obtain ⟨h1, h2 | ⟨g, off, cap, cs, e, hbk, a, b, c, d, s⟩⟩ := h
    · exact ⟨h1, .inl h2⟩
    · exact ⟨h1, .inr ⟨g, off, cap, cs, e, (hb g s).trans hbk, a, b, c, d, s⟩⟩,
   fun w x h hx => by
    obtain ⟨h1, ⟨rfl, _⟩ | ⟨g, off, cap, cs, rfl, hbk, _⟩⟩ := h
    · exact hx.elim
    · have : x = g := hx
      rw [this]; exact lt_of_block hbk⟩
theorem rSl_nil (wr : Bool) (E k : Nat) (w : World) : (rSl wr (.slice none 0 0) E k 0 []).fact w := sliceAt_nil _ _ _ _

/-- What lies at b, off on: the cells vs. -/
def RdAt (r : Res) (b off : Nat) (vs : List Value) : Prop := ∀ w, r.fact w → ∀ j u, vs[j]? = some u → w.cell? ⟨b, off + j, none⟩ = some u
theorem rdCell {wr : Bool} {b : Nat} {cs : List Value} {T : TypeId} (off : Nat) {vs : List Value} (h : (cs.drop off).take vs.length = vs) : RdAt (rCell wr b cs T) b off vs := fun w hf j u hj => by
  have hq : w.cell? ⟨b, off + j, none⟩ = cs[off + j]? := by rw [cell_of hf, List.getElem?_toArray]
  rw [hq]
  have hl := (List.getElem?_eq_some_iff.1 hj).1
  have h2 := congrArg (fun l => l[j]?) h
  simp only [List.getElem?_take, List.getElem?_drop, if_pos hl] at h2
  rw [h2]; exact hj
/-- The cells vs may be stored at b, off on: then it is r'. -/
def WrAt (r : Res) (b off : Nat) (vs : List Value) (r' : Res) : Prop := r.wr = true ∧ ∀ w, r.fact w → (∀ j, j < vs.length → (w.cell? ⟨b, off + j, none⟩).isSome = true ∧ w.frozen? ⟨b, off + j, none⟩ = false) ∧ r'.fact (w.setCells b off vs) ∧ r.foot b ∧ ∀ x, r'.foot x → r.foot x
theorem setCells_lit {b : Nat} {T : TypeId} : ∀ (vs : List Value) (off : Nat) (w : World) (cs : List Value), w.heap[b]? = some (.cells cs.toArray T (0, 0)) → off + vs.length ≤ cs.length →
    (w.setCells b off vs).heap[b]? = some (.cells (cs.take off ++ (vs ++ cs.drop (off + vs.length))).toArray T (0, 0))
  | [], off, w, cs, h, _ => by
    show w.heap[b]? = _
    rw [h]
    simp
  | v :: vs, off, w, cs, h, hl => by
    have h1 := block_setCell h off v
    rw [List.setIfInBounds_toArray] at h1
    have h2 := setCells_lit vs (off + 1) _ _ h1 (by simp at hl ⊢; omega)
    show ((w.setCell ⟨b, off, none⟩ v).setCells b (off + 1) vs).heap[b]? = _
    rw [h2]
    simp at hl
    have ho : off < cs.length := by omega
    congr 3
    apply List.ext_getElem?
    intro i
    have e1 : (List.take (off + 1) (cs.set off v)).length = off + 1 := by simp; omega
    have e2 : (List.take off cs).length = off := by simp; omega
    simp only [List.length_cons]
    rw [List.getElem?_append (l₁ := List.take (off + 1) (cs.set off v)), e1, List.getElem?_append (l₁ := List.take off cs), e2]
    by_cases h1 : i < off
    · rw [if_pos (by omega), if_pos h1, List.getElem?_take, List.getElem?_take, if_pos (by omega), if_pos h1, List.getElem?_set_ne (by omega)]
    · by_cases h2 : i = off
      · subst h2
        rw [if_pos (by omega), if_neg (by omega), List.getElem?_take, if_pos (by omega), List.getElem?_set_self ho]
        simp
      · rw [if_neg (by omega), if_neg h1]
        obtain ⟨d, rfl⟩ : ∃ d, i = off + 1 + d := ⟨i - off - 1, by omega⟩
        rw [show off + 1 + d - (off + 1) = d by omega, show off + 1 + d - off = d + 1 by omega, List.cons_append, List.getElem?_cons_succ, List.getElem?_append, List.getElem?_append]
        split
        · rfl
        · rw [List.getElem?_drop, List.getElem?_drop, List.getElem?_set_ne (by omega)]
          congr 1; omega
theorem wrCell {b : Nat} {cs : List Value} {T : TypeId} (off : Nat) (vs : List Value) {cs' : List Value} (hl : off + vs.length ≤ cs.length) (h : cs.take off ++ (vs ++ cs.drop (off + vs.length)) = cs') : WrAt (rCell true b cs T) b off vs (rCell true b cs' T) :=
  ⟨rfl, fun w hf => ⟨fun j hj => ⟨by rw [cell_of hf]; simp; omega, free_of hf _⟩, by rw [← h]; exact setCells_lit vs off w cs hf hl, rfl, fun x e => e⟩⟩

/- The operations' laws by what is owned (Own), in the text's order and in whatever order a region draws. Over any program, no condition. -/

section
variable {P : Program} {a : Act} {w w0 : World} {E : Ent} {L : List Res} {K : Act → World → Prop} {Q : Exit → Act → World → Prop}

/-! ### One operation -/
/-- It yields v in whatever world. -/
theorem op_pure {o : Oper} {v : Value} (hv : ∀ w, (execOp a.eval o).run P w = .ok (.value v) w) (hK : K (a.put o.dst v) w) : o.wp P a w K Q := by
  unfold Oper.wp; rw [hv]; exact hK
/-- It makes a block. -/
theorem op_new {o : Oper} (mk : Nat → Value) (cs : List Value) (T : TypeId) (hrun : ∀ w, (execOp a.eval o).run P w = .ok (.value (mk w.heap.size)) (w.alloc (.cells cs.toArray T)))
    (h : Own w0 E L w) (hK : ∀ b w', Own w0 E (rCell true b cs T :: L) w' → K (a.put o.dst (mk b)) w') : o.wp P a w K Q := by
  unfold Oper.wp; rw [hrun]
  exact hK _ _ (h.push ((Chg.refl Nil w).alloc _) (block_alloc w _) (fun b hb => by have : b = w.heap.size := hb; omega))
def ldv (P : Program) (T : TypeId) (vs : List Value) : Option Value :=
  match P.underlying T with
  | some (.struct _) | some (.array _ _) => (P.info? T).bind fun i => if i.size = vs.length then some (.agg vs.toArray) else none
  | some _ => match vs with | [v] => some v | _ => none
  | none => none
theorem run_isAgg {T : TypeId} {d : TypeDesc} (h : P.underlying T = some d) : (isAgg T).run P w = .ok (match d with | .struct _ | .array _ _ => true | _ => false) w := by
  unfold isAgg
  simp only [Sem.run_bind, run_underlying h, Result.andThen_ok]
  cases d <;> rfl
theorem sizeOf_run {T : TypeId} {n : Nat} (h : (P.info? T).map (·.size) = some n) : (sizeOf T).run P w = .ok n w := by
  cases hi : P.info? T with
  | none => rw [hi] at h; cases h
  | some i =>
    rw [hi] at h
    simp only [Option.map_some, Option.some.injEq] at h
    simp [sizeOf, typeInfo, hi, h]
theorem run_loadVarV {T : TypeId} {vs : List Value} {v : Value} (hT : ldv P T vs = some v) {b off : Nat} (hc : ∀ j u, vs[j]? = some u → w.cell? ⟨b, off + j, none⟩ = some u) : (loadVar T ⟨b, off, none⟩).run P w = .ok v w := by
  unfold ldv at hT
  have hagg : (P.info? T).bind (fun i => if i.size = vs.length then some (Value.agg vs.toArray) else none) = some v → (isAgg T).run P w = .ok true w → (loadVar T ⟨b, off, none⟩).run P w = .ok v w := fun hT hg => by
    cases hi : P.info? T with
    | none => rw [hi] at hT; cases hT
    | some i =>
      rw [hi] at hT
      simp only [Option.bind_some] at hT
      by_cases hs : i.size = vs.length
      · rw [if_pos hs] at hT
        cases hT
        have hz : (sizeOf T).run P w = .ok vs.length w := sizeOf_run (by rw [hi, ← hs]; rfl)
        have hl := run_loadCells_list (P := P) w ⟨b, off, none⟩ vs (fun j u hj => by rw [Addr.add_lit]; exact hc j u hj)
        unfold loadVar
        simp only [Sem.run_bind, hg, Result.andThen_ok, if_true, hz, hl, Sem.run_pure]
      · rw [if_neg hs] at hT; cases hT
  have hsc : ∀ u, vs = [u] → some u = some v → (isAgg T).run P w = .ok false w → (loadVar T ⟨b, off, none⟩).run P w = .ok v w := fun u e e2 hg => by
    cases e2
    have := hc 0 v (by rw [e]; rfl)
    unfold loadVar
    simp only [Sem.run_bind, hg, Result.andThen_ok, Bool.false_eq_true, if_false]
    rw [run_load]
    simp only [Nat.add_zero] at this
    simp [this]
  cases hu : P.underlying T with
  | none => rw [hu] at hT; cases hT
  | some d =>
    rw [hu] at hT
    have hg := run_isAgg (w := w) hu
    cases d <;> first
      | exact hagg hT hg
      | (match vs, hT with
         | [u], hT => exact hsc u rfl hT hg)
theorem op_load {dst : Option Tmp} {T : TypeId} {x : Operand} {ty : TypeId} {pos : String} {after : Array Edge} {g : Option (Nat × Bool)} {b off : Nat} (hx : a.eval x = .pointer (some ⟨b, off, none⟩)) {vs : List Value} {v : Value} (hT : ldv P T vs = some v)
    (h : Own w0 E L w) (i : Nat) {r : Res} (hi : L[i]? = some r) (hr : RdAt r b off vs) (hK : K (a.put dst v) w) : Oper.wp P ⟨dst, .load T x, ty, pos, after, g⟩ a w K Q := by
  have hl := run_loadVarV (P := P) (w := w) hT (hr w (h.fact i hi))
  unfold Oper.wp
  simp only [execOp, Instr.loadAt, hx, Instr.sureAddr, Sem.run_bind, Sem.run_pure, Result.andThen_ok, hl]
  exact hK
theorem op_store {dst : Option Tmp} {T : TypeId} {x y : Operand} {ty : TypeId} {pos : String} {after : Array Edge} {g : Option (Nat × Bool)} {b off : Nat} (hx : a.eval x = .pointer (some ⟨b, off, none⟩)) {vs : List Value} (hy : (a.eval y).cells = vs.toArray)
    (hs : (P.info? T).map (·.size) = some vs.length) (h1 : ∀ u ∈ vs, u.oneCell' = true) (h : Own w0 E L w) (i : Nat) {r r' : Res} (hi : L[i]? = some r) (hr : WrAt r b off vs r')
    (hK : ∀ w', Own w0 E (L.set i r') w' → K (a.put dst undef) w') : Oper.wp P ⟨dst, .store T x y, ty, pos, after, g⟩ a w K Q := by
  obtain ⟨hw, hr⟩ := hr
  obtain ⟨hc, hf, hfb, hff⟩ := hr w (h.fact i hi)
  have hst := run_storeCells_cells (P := P) b off vs 0 w (fun j hj => (hc j hj).1) (fun j hj => (hc j hj).2) h1
  rw [Nat.add_zero] at hst
  have hz : ∀ w, (sizeOf T).run P w = .ok vs.length w := fun w => sizeOf_run hs
  unfold Oper.wp
  simp only [execOp, Instr.storeAt, hx, Instr.sureAddr, storeVar, Sem.run_bind, Sem.run_pure, Result.andThen_ok, hz, hy, List.size_toArray, ne_eq, not_true_eq_false, if_false, hst]
  exact hK _ (h.upd i hi hw ((chg_setCells vs off w).mono (fun x _ e => by rw [e]; exact hfb)) hf (fun b hb => .inl (hff b hb)))
/-- A call of a Go function, by its contract. -/
theorem op_call {o : Oper} {f : FuncId} {args : Array Value} (is : List Nat) {Φ : Value → List Res → Prop} (hs : Spec P f args (pk is L) Φ) (hrun : ∀ w, (execOp a.eval o).run P w = .ok (.enter f args) w)
    (h : Own w0 E L w) (hK : ∀ v Lp w', Φ v Lp → Own w0 E (Lp ++ rs is L) w' → K (a.put o.dst v) w') : o.wp P a w K Q := by
  unfold Oper.wp; rw [hrun]
  have hp := h.perm (pk_perm is L)
  refine (hs _ w w hp.focus).mono ?_
  rintro e w' ⟨v, Lp, hΦ, rfl, ho⟩
  exact hK v Lp w' hΦ (hp.unfocus ho)

/-! ### In the text's order -/
theorem sq {ops : Array Oper} {o : Oper} {rest : List Oper} (hg : o.guard = none) (h : o.wp P a w (wpList P ops Q rest) Q) : wpList P ops Q (o :: rest) a w := by
  unfold wpList
  rw [if_pos (by simp [Region.wanted, hg])]
  exact .inl h
theorem sqg {ops : Array Oper} {o : Oper} {rest : List Oper} (hg : Region.wanted o (yielded ops a.tmps) = true) (h : o.wp P a w (wpList P ops Q rest) Q) : wpList P ops Q (o :: rest) a w := by
  unfold wpList
  rw [if_pos hg]
  exact .inl h
theorem sqn {ops : Array Oper} {o : Oper} {rest : List Oper} (hg : Region.wanted o (yielded ops a.tmps) = false) (h : wpList P ops Q rest (a.put o.dst undef) w) : wpList P ops Q (o :: rest) a w := by
  unfold wpList
  rw [if_neg (by simp [hg])]
  exact h

/-! ### In whatever order -/
/-- Whatever order is picked from here on; what is owned stays behind each operation but those of brk. -/
def wpAnyO (P : Program) (md : Region.Mode) (ops : Array Oper) (Q : Exit → Act → World → Prop) (w0 : World) (E : Ent) (brk : Nat → Bool) : Nat → Array Bool → List Res → Act → World → Prop
  | 0, listed, _, a, w => Region.ready md ops listed = [] ∧ Q .normal a w
  | fuel + 1, listed, L, a, w =>
    (Region.ready md ops listed = [] → Q .normal a w) ∧
    ∀ i ∈ Region.ready md ops listed, wpOp P ops Q i (fun a' w' => if brk i = true then wpAny P md ops Q fuel (listed.setIfInBounds i true) a' w' else Own w0 E L w' ∧ wpAnyO P md ops Q w0 E brk fuel (listed.setIfInBounds i true) L a' w') a w
variable {ops : Array Oper} {md : Region.Mode} {br : Nat → Bool}
theorem wpAny_of_O : ∀ (fuel : Nat) (listed : Array Bool) (L : List Res) (a : Act) (w : World), wpAnyO P md ops Q w0 E br fuel listed L a w → wpAny P md ops Q fuel listed a w
  | 0, _, _, _, _, h => h
  | fuel + 1, _, _, _, _, h => ⟨h.1, fun i hi => wpOp_mono (fun a' w' h' => by
      by_cases hb : br i = true
      · rw [if_pos hb] at h'; exact h'
      · rw [if_neg hb] at h'; exact wpAny_of_O fuel _ _ a' w' h'.2) (h.2 i hi)⟩
theorem wpAnyO_mono {L L' : List Res} (hL : ∀ w, Own w0 E L w → Own w0 E L' w) : ∀ (fuel : Nat) (listed : Array Bool) (a : Act) (w : World), wpAnyO P md ops Q w0 E br fuel listed L a w → wpAnyO P md ops Q w0 E br fuel listed L' a w
  | 0, _, _, _, h => h
  | fuel + 1, _, _, _, h => ⟨h.1, fun i hi => wpOp_mono (fun a' w' h' => by
      by_cases hb : br i = true
      · rw [if_pos hb] at h' ⊢; exact h'
      · rw [if_neg hb] at h' ⊢; exact ⟨hL _ h'.1, wpAnyO_mono hL fuel _ a' w' h'.2⟩) (h.2 i hi)⟩
/-- May number i be taken first? c: the numbers that may come up ahead of it. -/
def freeO (md : Region.Mode) (ops : Array Oper) (br : Nat → Bool) (listed : Array Bool) (i c : Nat) : Bool :=
  !c.testBit i && match ops[i]? with
  | none => false
  | some oi => (List.range ops.size).all fun j => j == i || match ops[j]? with
    | none => false
    | some oj => if c.testBit j then listed.getD j true || (!br j && oi.apart ops oj) else !listed.getD j false && !(oj.after.all fun e => !Region.binds md e || c.testBit e.on)
theorem wpAnyO_first {i c : Nat} {oi : Oper} {v : Value} {listed0 : Array Bool} (hi : ops[i]? = some oi) (hs : Region.noSelect ops = true) (hf : freeO md ops br listed0 i c = true)
    (hQ : ∀ c a w, Q (.panic c) (a.put oi.dst v) w → Q (.panic c) a w) :
    ∀ (fuel : Nat) (listed : Array Bool) (a : Act) (w : World), listed.size = ops.size →
      (∀ j, listed.getD j false = true → c.testBit j = true) → (∀ j, listed0.getD j true = true → listed.getD j true = true) →
      i ∈ Region.ready md ops listed → YieldsIf P ops (Own w0 E L) oi v a → Own w0 E L w →
      wpAnyO P md ops Q w0 E br fuel (listed.setIfInBounds i true) L (a.put oi.dst v) w → wpAnyO P md ops Q w0 E br (fuel + 1) listed L a w := by
  have hsel := Region.noSelect_spec hs
  simp only [freeO, hi, Bool.and_eq_true, Bool.not_eq_true', List.all_eq_true, List.mem_range] at hf
  obtain ⟨hci, hall⟩ := hf
  intro fuel
  induction fuel with
  | zero =>
    intro listed a w _ _ _ hr hy hS H
    refine ⟨fun h => (by rw [h] at hr; cases hr), fun j hj => ?_⟩
    by_cases hji : j = i
    · subst hji
      refine hy.wpOp hi hS ?_
      by_cases hb : br j = true
      · rw [if_pos hb]; exact H
      · rw [if_neg hb]; exact ⟨hS, H⟩
    · have := ready_mono hj hji
      rw [H.1] at this
      cases this
  | succ fuel ih =>
    intro listed a w hsz hsub hsup hr hy hS H
    refine ⟨fun h => (by rw [h] at hr; cases hr), fun j hj => ?_⟩
    by_cases hji : j = i
    · subst hji
      refine hy.wpOp hi hS ?_
      by_cases hb : br j = true
      · rw [if_pos hb]; exact wpAny_of_O _ _ _ _ _ H
      · rw [if_neg hb]; exact ⟨hS, H⟩
    · obtain ⟨hjun, oj, hoj, hdep⟩ := mem_ready.1 hj
      have hjl : j < ops.size := (Array.getElem?_eq_some_iff.1 hoj).1
      have hj1 := hall j hjl
      simp only [hoj, Bool.or_eq_true, beq_iff_eq, hji, false_or] at hj1
      have hcj : c.testBit j = true := by
        cases hc : c.testBit j
        · exfalso
          rw [hc] at hj1
          simp only [Bool.false_eq_true, if_false, Bool.and_eq_true, Bool.not_eq_true'] at hj1
          have : (oj.after.all fun e => !Region.binds md e || c.testBit e.on) = true := by
            rw [Array.all_eq_true_iff_forall_mem]
            intro e he
            cases hb : Region.binds md e
            · rfl
            · have := hsub e.on (hdep e he hb)
              simp [this]
          rw [this] at hj1
          exact absurd hj1.2 (by simp)
        · rfl
      rw [hcj] at hj1
      simp only [if_true, Bool.or_eq_true, Bool.and_eq_true, Bool.not_eq_true'] at hj1
      have hl0 : listed0.getD j true = true → False := fun h => by rw [hsup j h] at hjun; cases hjun
      obtain ⟨hbj, hap⟩ := hj1.resolve_left hl0
      have h1 := H.2 j (ready_mono hj hji)
      have h2 := wpOp_putIf hoj hap (fun cs b => hsel i oi cs b hi) (fun cs b => hsel j oj cs b hoj) hQ hy h1
      refine wpOp_mono (fun a' w' h3 => ?_) h2
      simp only [hbj, Bool.false_eq_true, if_false] at h3 ⊢
      refine ⟨h3.2.1, ih (listed.setIfInBounds j true) a' w' (by simpa using hsz) (fun k hk => ?_) (fun k hk => ?_) (ready_mono hr (Ne.symm hji)) h3.1 h3.2.1 ?_⟩
      · by_cases hjk : j = k
        · subst hjk; exact hcj
        · rw [getD_set_ne false hjk] at hk; exact hsub k hk
      · by_cases hjk : j = k
        · subst hjk
          have : j < listed.size := by omega
          simp [this]
        · rw [getD_set_ne true hjk]; exact hsup k hk
      · rw [Array.setIfInBounds_comm _ _ hji]
        exact h3.2.2
def takeO (md : Region.Mode) (ops : Array Oper) (br : Nat → Bool) (listed : Array Bool) (i c : Nat) : Bool :=
  listed.size == ops.size && ((List.range ops.size).all fun j => !listed.getD j false || c.testBit j) && (Region.ready md ops listed).contains i && freeO md ops br listed i c
theorem wpAnyO_take {fuel : Nat} {listed : Array Bool} (i c : Nat) {oi : Oper} (hi : ops[i]? = some oi) {v : Value} (hs : Region.noSelect ops = true) (ht : takeO md ops br listed i c = true)
    (hQ : ∀ c a w, Q (.panic c) (a.put oi.dst v) w → Q (.panic c) a w) (hy : YieldsIf P ops (Own w0 E L) oi v a) (h : Own w0 E L w)
    (hK : wpAnyO P md ops Q w0 E br fuel (listed.setIfInBounds i true) L (a.put oi.dst v) w) : wpAnyO P md ops Q w0 E br (fuel + 1) listed L a w := by
  simp only [takeO, Bool.and_eq_true, beq_iff_eq, List.all_eq_true, List.mem_range, Bool.or_eq_true, Bool.not_eq_true'] at ht
  obtain ⟨⟨⟨h1, h2⟩, h3⟩, h4⟩ := ht
  refine wpAnyO_first hi hs h4 hQ fuel listed a w h1 (fun j hj => ?_) (fun j hj => hj) (by simpa using h3) hy h hK
  rcases Nat.lt_or_ge j ops.size with hjl | hjl
  · rcases h2 j hjl with h | h
    · rw [h] at hj; cases hj
    · exact h
  · have : listed[j]? = none := by simp; omega
    simp [this] at hj
/-- It yields in whatever world. -/
theorem yp {o : Oper} {v : Value} (hg : Region.wanted o (yielded ops a.tmps) = true) (hv : ∀ w, (execOp a.eval o).run P w = .ok (.value v) w) : YieldsIf P ops (Own w0 E L) o v a := .inl ⟨hg, fun w _ => hv w⟩
/-- It is passed by. -/
theorem yn {o : Oper} (hg : Region.wanted o (yielded ops a.tmps) = false) : YieldsIf P ops (Own w0 E L) o undef a := .inr ⟨hg, rfl⟩
/-- It loads what is owned. -/
theorem yl {dst : Option Tmp} {T : TypeId} {x : Operand} {ty : TypeId} {pos : String} {after : Array Edge} {g : Option (Nat × Bool)} (hg : Region.wanted ⟨dst, .load T x, ty, pos, after, g⟩ (yielded ops a.tmps) = true) {b off : Nat} (hx : a.eval x = .pointer (some ⟨b, off, none⟩)) {vs : List Value} {v : Value} (hT : ldv P T vs = some v)
    (i : Nat) {r : Res} (hi : L[i]? = some r) (hr : RdAt r b off vs) : YieldsIf P ops (Own w0 E L) ⟨dst, .load T x, ty, pos, after, g⟩ v a := .inl ⟨hg, fun w h => by
  have hl := run_loadVarV (P := P) (w := w) hT (hr w (h.fact i hi))
  simp only [execOp, Instr.loadAt, hx, Instr.sureAddr, Sem.run_bind, Sem.run_pure, Result.andThen_ok, hl]⟩
def AllO (P : Program) (md : Region.Mode) (ops : Array Oper) (Q : Exit → Act → World → Prop) (w0 : World) (E : Ent) (br : Nat → Bool) (fuel : Nat) (listed : Array Bool) (L : List Res) (a : Act) (w : World) (is : List Nat) : Prop :=
  ∀ i ∈ is, wpOp P ops Q i (fun a' w' => if br i = true then wpAny P md ops Q fuel (listed.setIfInBounds i true) a' w' else Own w0 E L w' ∧ wpAnyO P md ops Q w0 E br fuel (listed.setIfInBounds i true) L a' w') a w
theorem AllO.nil {fuel : Nat} {listed : Array Bool} : AllO P md ops Q w0 E br fuel listed L a w [] := fun _ h => by cases h
theorem wpOp_of {i : Nat} {o : Oper} (hi : ops[i]? = some o) (hg : Region.wanted o (yielded ops a.tmps) = true) (h : o.wp P a w K Q) : wpOp P ops Q i K a w := by
  unfold wpOp
  simp only [hi, hg, if_true]
  exact .inl h
/-- Number i comes up; what it needs stays owned. -/
theorem AllO.cons {fuel : Nat} {listed : Array Bool} {i : Nat} {is : List Nat} {o : Oper} (hi : ops[i]? = some o) (hb : br i = false) (hg : Region.wanted o (yielded ops a.tmps) = true)
    (h : o.wp P a w (fun a' w' => Own w0 E L w' ∧ wpAnyO P md ops Q w0 E br fuel (listed.setIfInBounds i true) L a' w') Q) (hs : AllO P md ops Q w0 E br fuel listed L a w is) : AllO P md ops Q w0 E br fuel listed L a w (i :: is) := fun j hj => by
  rcases List.mem_cons.1 hj with rfl | hj
  · simp only [hb, Bool.false_eq_true, if_false]; exact wpOp_of hi hg h
  · exact hs j hj
/-- Number i comes up and turns what was owned. -/
theorem AllO.brk {fuel : Nat} {listed : Array Bool} {i : Nat} {is : List Nat} {o : Oper} (hi : ops[i]? = some o) (hb : br i = true) (hg : Region.wanted o (yielded ops a.tmps) = true)
    (h : o.wp P a w (wpAny P md ops Q fuel (listed.setIfInBounds i true)) Q) (hs : AllO P md ops Q w0 E br fuel listed L a w is) : AllO P md ops Q w0 E br fuel listed L a w (i :: is) := fun j hj => by
  rcases List.mem_cons.1 hj with rfl | hj
  · simp only [hb, if_true]; exact wpOp_of hi hg h
  · exact hs j hj
theorem wpAnyO_ready {fuel : Nat} {listed : Array Bool} (is : List Nat) (hr : Region.ready md ops listed = is) (hne : is ≠ []) (h : AllO P md ops Q w0 E br fuel listed L a w is) : wpAnyO P md ops Q w0 E br (fuel + 1) listed L a w :=
  ⟨fun h0 => absurd (hr ▸ h0) hne, hr ▸ h⟩
theorem wpAnyO_done {listed : Array Bool} (hr : Region.ready md ops listed = []) (h : Q .normal a w) : ∀ fuel, wpAnyO P md ops Q w0 E br fuel listed L a w
  | 0 => ⟨hr, h⟩
  | _ + 1 => ⟨fun _ => h, by rw [hr]; simp⟩
/-- Behind an operation: what was owned is owned, and more. -/
theorem O_and {fuel : Nat} {listed : Array Bool} {L' : List Res} (h : Own w0 E L' w) (is : List Nat) (hp : pk is L' = L) (hK : wpAnyO P md ops Q w0 E br fuel listed L' a w) : Own w0 E L w ∧ wpAnyO P md ops Q w0 E br fuel listed L a w :=
  ⟨hp ▸ h.pick is, wpAnyO_mono (fun w h => hp ▸ h.pick is) fuel listed a w hK⟩
/-- The beginning. -/
theorem wp_region_O {id : Nat} (br : Nat → Bool) (hm : P.follows .mixedOrders = true) (h : Own w0 E L w) (hK : ∀ w', Own w0 E L w' → wpAnyO P .any ops Q w0 E br ops.size (Array.replicate ops.size false) L a w') : (Code.region id ops true).wp P Q a w :=
  wp_region_any hm (wpAny_of_O _ _ _ _ _ (hK _ h.drew))

/-! ### Conditions, loops, the end -/
theorem then_n {next : Act → World → Prop} (h : next a w) : Exit.then next Q .normal a w := h
theorem then_e {next : Act → World → Prop} {id : Nat} (h : Q (.exit id) a w) : Exit.then next Q (.exit id) a w := h
theorem then_r {next : Act → World → Prop} (h : Q .ret a w) : Exit.then next Q .ret a w := h
theorem blk_n {id : Nat} (h : Q .normal a w) : Exit.inBlock id Q .normal a w := h
theorem blk_r {id : Nat} (h : Q .ret a w) : Exit.inBlock id Q .ret a w := h
theorem blk_e {id : Nat} (h : Q .normal a w) : Exit.inBlock id Q (.exit id) a w := by simp only [Exit.inBlock, if_true]; exact h
theorem blk_x {id id' : Nat} (hne : (id' == id) = false) (h : Q (.exit id') a w) : Exit.inBlock id Q (.exit id') a w := by
  have : ¬ id' = id := by simpa using hne
  simp only [Exit.inBlock, if_neg this]; exact h
/-- A loop: x tells what changes from round to round. -/
theorem wp_loopO {X : Type} {body : Code} (A : X → Act) (R : X → List Res) (G : X → Prop) (μ : X → Nat) (x0 : X) (h0 : G x0) (ha : A x0 = a) (is : List Nat) (hR : R x0 = pk is L) (h : Own w0 E L w)
    (round : ∀ x w, G x → Own w0 E (R x) w → body.wp P (Exit.then (fun a' w' => ∃ x', (G x' ∧ μ x' < μ x) ∧ a' = A x' ∧ Own w0 E (R x') w') Q) (A x) w) : (Code.loop body).wp P Q a w := by
  intro b k cs
  have key : ∀ n x a w, μ x = n → G x → a = A x → Own w0 E (R x) w →
      ∃ e a' w', Q e a' w' ∧ Arrives P (lone (b.at a (.code body :: .inLoop body :: k)) cs w) b k cs e a' w' := by
    intro n
    induction n using Nat.strongRecOn with
    | _ n ih =>
      intro x a w hn hG hA hO
      subst hA
      obtain ⟨e, a₁, w₁, hq, harr⟩ := round x w hG hO b (.inLoop body :: k) cs
      cases e with
      | normal =>
        obtain ⟨x', ⟨hG', hlt⟩, hA', hO'⟩ := hq
        obtain ⟨e₂, a₂, w₂, hq₂, harr₂⟩ := ih (μ x') (hn ▸ hlt) x' a₁ w₁ rfl hG' hA' hO'
        exact ⟨e₂, a₂, w₂, hq₂, .of_steps (Steps.trans harr (.one step_inLoop)) harr₂⟩
      | exit id => exact ⟨_, a₁, w₁, hq, .pass (x := .inLoop body) rfl (fun _ _ => .inl (by simp)) harr⟩
      | goto l => exact ⟨_, a₁, w₁, hq, .pass (x := .inLoop body) rfl (fun _ _ => .inl (by simp)) harr⟩
      | ret => exact ⟨_, a₁, w₁, hq, .pass (x := .inLoop body) rfl (fun _ _ => .inl (by simp)) harr⟩
      | panic ch => exact ⟨_, a₁, w₁, hq, .pass (x := .inLoop body) rfl (fun _ _ => .inl (by simp)) harr⟩
      | outgrown => exact ⟨_, a₁, w₁, hq, .pass (x := .inLoop body) rfl (fun _ _ => .inl (by simp)) harr⟩
  obtain ⟨e, a', w', hq, harr⟩ := key _ x0 a w rfl h0 ha.symm (hR ▸ h.pick is)
  exact ⟨e, a', w', hq, .of_steps (.one step_loop) harr⟩
/-- What the results hold. -/
def resV (P : Program) (L : List Res) (tm : Array Value) : List ResultVar → List Value → Prop
  | [], vs => vs = []
  | .tmp t :: rs, vs => ∃ v vs', vs = v :: vs' ∧ tm.getD t undef = v ∧ resV P L tm rs vs'
  | .cell p T :: rs, vs => ∃ v vs' b off us r, vs = v :: vs' ∧ tm.getD p undef = .pointer (some ⟨b, off, none⟩) ∧ ldv P T us = some v ∧ r ∈ L ∧ RdAt r b off us ∧ resV P L tm rs vs'
def resF (tm : Array Value) : ResultVar → Sem Value
  | .tmp t => pure (tm.getD t undef)
  | .cell p T => do loadVar T (← asAddr (tm.getD p undef))
theorem resV_run {tm : Array Value} : ∀ (l : List ResultVar) (vs : List Value), resV P L tm l vs → Own w0 E L w → (l.mapM (resF tm)).run P w = .ok vs w
  | [], vs, h, _ => by
    have : vs = [] := h
    subst this; rfl
  | .tmp t :: l, vs, h, ho => by
    obtain ⟨v, vs', rfl, hv, h⟩ := h
    have ih := resV_run l vs' h ho
    have e : (resF tm (.tmp t)).run P w = .ok v w := by
      show (Pure.pure (tm.getD t undef) : Sem Value).run P w = _
      rw [hv]; rfl
    simp only [List.mapM_cons, Sem.run_bind, Sem.run_pure, Result.andThen_ok, e, ih]
  | .cell p T :: l, vs, h, ho => by
    obtain ⟨v, vs', b, off, us, r, rfl, hp, hT, hr, hrd, h⟩ := h
    have ih := resV_run l vs' h ho
    have hl := run_loadVarV (P := P) (w := w) hT (hrd w (ho.facts r hr))
    have e : (resF tm (.cell p T)).run P w = .ok v w := by
      show (asAddr (tm.getD p undef) >>= fun x => loadVar T x).run P w = _
      rw [Sem.run_bind, hp]
      exact hl
    simp only [List.mapM_cons, Sem.run_bind, Sem.run_pure, Result.andThen_ok, e, ih]
/-- One result, or a tuple. -/
def retV (vs : List Value) : Value := match vs with | [v] => v | _ => .tuple vs.toArray
theorem ret_O {fn : Func} {R : Ending → World → Prop} {tm : Array Value} (vs : List Value) (h : Own w0 E L w) (hr : resV P L tm fn.results.toList vs) (hR : R (.returned (retV vs)) w) : bodyPost P fn R .ret ⟨tm, []⟩ w := by
  refine ⟨rfl, _, ?_, hR⟩
  have hm := resV_run fn.results.toList vs hr h
  have e0 : (fn.results.mapM (resF tm)) = List.toArray <$> fn.results.toList.mapM (resF tm) := Array.mapM_eq_mapM_toList
  have e : results fn tm = (fn.results.mapM (resF tm)) >>= fun vs => pure (if h : vs.size = 1 then vs[0] else .tuple vs) := rfl
  have e1 : (fn.results.mapM (resF tm)).run P w = .ok vs.toArray w := by
    rw [e0]
    show ((fn.results.toList.mapM (resF tm)) >>= fun l => pure l.toArray).run P w = _
    rw [Sem.run_bind, hm, Result.andThen_ok, Sem.run_pure]
  rw [e, Sem.run_bind, e1, Result.andThen_ok, Sem.run_pure]
  congr 1
  match vs with
  | [] => rfl
  | [v] => rfl
  | _ :: _ :: _ => rfl
end

/- The operations' laws by what is owned: slices told by their elements (length, an element's address, loads, stores, append), guarded operations, calls, cuts, the beginning of a contract's proof. Over any program, no condition. -/

/-- Where a slice begins. -/
def blkN : Value → Nat
  | .slice (some a) _ _ => a.block
  | .map (some r) => r
  | _ => 0
def offN : Value → Nat
  | .slice (some a) _ _ => a.off
  | _ => 0
/-- A slice whose elements are l, each as enc tells (k cells). -/
abbrev rRows {α : Type} (wr : Bool) (v : Value) (T k : Nat) (enc : α → List Value) (l : List α) : Res := rSl wr v T k l.length (l.flatMap enc)

theorem SliceAt.own {w : World} {v : Value} {T k n : Nat} {xs : List Value} {S : Nat → Prop} (h : SliceAt w v T k n xs S) : SliceAt w v T k n xs (blkOf v) ∧ ∀ b, blkOf v b → S b := by
  obtain ⟨h1, ⟨rfl, h2⟩ | ⟨g, off, cap, cs, rfl, hb, a, b, c, d, s⟩⟩ := h
  · exact ⟨⟨h1, .inl ⟨rfl, h2⟩⟩, fun b hb => hb.elim⟩
  · exact ⟨⟨h1, .inr ⟨g, off, cap, cs, rfl, hb, a, b, c, d, rfl⟩⟩, fun b hb => by have : b = g := hb; rw [this]; exact s⟩
theorem rdSl {wr : Bool} {v : Value} {T k n : Nat} {xs : List Value} (p : Nat) {vs : List Value} (h : ∀ j u, vs[j]? = some u → xs[p + j]? = some u) : RdAt (rSl wr v T k n xs) (blkN v) (offN v + p) vs := fun w hf j u hj => by
  obtain ⟨h1, ⟨rfl, h2⟩ | ⟨g, off, cap, cs, rfl, hb, h2, h3, h4, h5, _⟩⟩ := hf
  · have := h j u hj
    have hx : xs = [] := by subst h2; simpa using h1
    rw [hx] at this; simp at this
  · show w.cell? ⟨g, off + p + j, none⟩ = _
    rw [cell_of hb, Nat.add_assoc]
    exact h5 _ u (h j u hj)
theorem wr {x y : Int} (h : y = x ∧ -9223372036854775808 ≤ x ∧ x ≤ 9223372036854775807) : Value.int .i64 (IntKind.i64.wrap x) = Value.int .i64 y := by
  rw [IntWalk.i64_in _ ⟨h.2.1, h.2.2⟩, h.1]
/-- Part of element x of l (place i, from its cell r on). -/
theorem rdRow {α : Type} {wr : Bool} {v : Value} {T k : Nat} {enc : α → List Value} {l : List α} (he : ∀ a, (enc a).length = k) {i : Nat} {x : α} (hi : l[i]? = some x) (r : Nat) {vs : List Value} (h : ((enc x).drop r).take vs.length = vs) :
    RdAt (rRows wr v T k enc l) (blkN v) (offN v + i * k + r) vs := by
  rw [Nat.add_assoc]
  refine rdSl _ fun j u hj => ?_
  have hl := (List.getElem?_eq_some_iff.1 hj).1
  have h2 := congrArg (fun l => l[j]?) h
  simp only [List.getElem?_take, List.getElem?_drop, if_pos hl] at h2
  have hlt : r + j < k := by
    rw [← he x]
    have : (enc x)[r + j]? = some u := by rw [h2]; exact hj
    exact (List.getElem?_eq_some_iff.1 this).1
  rw [Nat.add_assoc, flat_get enc he l i (r + j) x hi hlt, h2]; exact hj
theorem rdRow0 {α : Type} {wr : Bool} {v : Value} {T k : Nat} {enc : α → List Value} {l : List α} (he : ∀ a, (enc a).length = k) {i : Nat} {x : α} (hi : l[i]? = some x) {vs : List Value} (h : (enc x).take vs.length = vs) :
    RdAt (rRows wr v T k enc l) (blkN v) (offN v + i * k) vs := rdRow (r := 0) he hi h

theorem setCells_get {b : Nat} {T : TypeId} {fz : Nat × Nat} {w : World} {cs : Array Value} (vs : List Value) (o : Nat) (h : w.heap[b]? = some (.cells cs T fz)) (hl : o + vs.length ≤ cs.size) :
    ∃ cs', (w.setCells b o vs).heap[b]? = some (.cells cs' T fz) ∧ cs'.size = cs.size ∧ ∀ i, cs'[i]? = if o ≤ i ∧ i < o + vs.length then vs[i - o]? else cs[i]? := by
  obtain ⟨cs', h1, h2, h3, h4⟩ := block_setCells vs o w cs h
  refine ⟨cs', h1, h2, fun i => ?_⟩
  split
  · have := h3 (i - o) (by omega) (by omega)
    rw [show o + (i - o) = i by omega] at this
    exact this
  · exact h4 i (by omega)
theorem flat_set {α : Type} {k : Nat} {enc : α → List Value} (he : ∀ a, (enc a).length = k) : ∀ (l : List α) (i : Nat) (x : α), i < l.length → (l.set i x).flatMap enc = (l.flatMap enc).take (i * k) ++ (enc x ++ (l.flatMap enc).drop (i * k + k))
  | [], _, _, h => by simp at h
  | y :: l, 0, x, _ => by simp [he y, List.drop_append]
  | y :: l, i + 1, x, h => by
    have ih := flat_set he l i x (by simpa using h)
    simp only [List.set_cons_succ, List.flatMap_cons, ih]
    have e1 : (enc y ++ l.flatMap enc).take ((i + 1) * k) = enc y ++ (l.flatMap enc).take (i * k) := by
      rw [List.take_append, he, Nat.add_mul, Nat.one_mul, List.take_of_length_le (by rw [he]; omega)]; congr 2; omega
    have e2 : (enc y ++ l.flatMap enc).drop ((i + 1) * k + k) = (l.flatMap enc).drop (i * k + k) := by
      rw [List.drop_append, he, Nat.add_mul, Nat.one_mul, List.drop_of_length_le (by rw [he]; omega), List.nil_append]; congr 1; omega
    rw [e1, e2, List.append_assoc]
/-- Part of an element is stored: from its cell r on. -/
theorem wrRow {α : Type} {v : Value} {T k : Nat} {enc : α → List Value} {l : List α} (he : ∀ a, (enc a).length = k) {i : Nat} {x : α} (hi : l[i]? = some x) (r : Nat) (x' : α) {vs : List Value} (h : (enc x).take r ++ (vs ++ (enc x).drop (r + vs.length)) = enc x') (hr : Nat.ble r k = true) :
    WrAt (rRows true v T k enc l) (blkN v) (offN v + i * k + r) vs (rRows true v T k enc (l.set i x')) := by
  refine ⟨rfl, fun w hf => ?_⟩
  have hil : i < l.length := (List.getElem?_eq_some_iff.1 hi).1
  have hrl : r + vs.length ≤ k := by
    have h1 := congrArg List.length h
    have h2 : (enc x).length = k := he x
    have h3 : (enc x').length = k := he x'
    simp only [List.length_append, List.length_take, List.length_drop] at h1
    have := Nat.le_of_ble_eq_true hr
    omega
  have hik : (i + 1) * k ≤ l.length * k := Nat.mul_le_mul_right _ hil
  rw [Nat.add_mul, Nat.one_mul] at hik
  obtain ⟨h1, ⟨rfl, h2⟩ | ⟨g, off, cap, cs, rfl, hb, h2, h3, h4, h5, _⟩⟩ := hf
  · have : l.length = 0 := h2
    omega
  have hck : l.length * k ≤ cap * k := Nat.mul_le_mul_right _ h2
  show (∀ j, j < vs.length → (w.cell? ⟨g, off + i * k + r + j, none⟩).isSome = true ∧ w.frozen? ⟨g, off + i * k + r + j, none⟩ = false) ∧ SliceAt (w.setCells g (off + i * k + r) vs) (.slice (some ⟨g, off, none⟩) l.length cap) T k (l.set i x').length ((l.set i x').flatMap enc) _ ∧ _ ∧ _
  refine ⟨fun j hj => ⟨?_, free_of hb _⟩, ?_, rfl, fun _ e => e⟩
  · rw [cell_of hb]; simp; omega
  obtain ⟨cs', e1, e2, e3⟩ := setCells_get vs (off + i * k + r) hb (by omega)
  rw [List.length_set]
  refine ⟨by rw [flat_len enc he]; simp, .inr ⟨g, off, cap, cs', rfl, e1, h2, h3, by rw [e2]; exact h4, fun j u hj => ?_, rfl⟩⟩
  rw [flat_set he l i x' hil] at hj
  rw [e3]
  have hlx : (l.flatMap enc).length = l.length * k := flat_len enc he l
  rw [List.getElem?_append, List.length_take, hlx, Nat.min_eq_left (by omega)] at hj
  by_cases c1 : j < i * k
  · rw [if_pos c1, List.getElem?_take, if_pos c1] at hj
    rw [if_neg (by omega)]
    exact h5 j u hj
  · rw [if_neg c1, List.getElem?_append, he x'] at hj
    by_cases c2 : j - i * k < k
    · rw [if_pos c2, ← h, List.getElem?_append, List.length_take, he x, Nat.min_eq_left (by omega)] at hj
      by_cases c3 : j - i * k < r
      · rw [if_pos c3, List.getElem?_take, if_pos c3] at hj
        rw [if_neg (by omega)]
        refine h5 j u ?_
        rw [← hj, show j = i * k + (j - i * k) by omega, flat_get enc he l i (j - i * k) x hi c2]
        simp
      · rw [if_neg c3, List.getElem?_append] at hj
        by_cases c4 : j - i * k - r < vs.length
        · rw [if_pos c4] at hj
          rw [if_pos (by omega), ← hj]
          congr 1; omega
        · rw [if_neg c4, List.getElem?_drop] at hj
          rw [if_neg (by omega)]
          refine h5 j u ?_
          rw [← hj, show j = i * k + (j - i * k) by omega, flat_get enc he l i (j - i * k) x hi c2]
          congr 1; omega
    · rw [if_neg c2, List.getElem?_drop] at hj
      rw [if_neg (by omega)]
      refine h5 j u ?_
      rw [← hj]; congr 1; omega
section
variable {P : Program} {a : Act} {w w0 : World} {E : Ent} {L : List Res} {K : Act → World → Prop} {Q : Exit → Act → World → Prop} {ops : Array Oper} {rest : List Oper}

/-! ### What yields where L is owned -/
def Gives (P : Program) (w0 : World) (E : Ent) (L : List Res) (o : Oper) (a : Act) (v : Value) : Prop := ∀ w, Own w0 E L w → (execOp a.eval o).run P w = .ok (.value v) w
theorem g_pure {o : Oper} {v : Value} (hv : ∀ w, (execOp a.eval o).run P w = .ok (.value v) w) : Gives P w0 E L o a v := fun w _ => hv w
theorem g_eq {o : Oper} {v v' : Value} (h : Gives P w0 E L o a v) (e : v = v') : Gives P w0 E L o a v' := e ▸ h
/-- A load of a cell of a block. -/
theorem g_ld {dst : Option Tmp} {T : TypeId} {x : Operand} {ty : TypeId} {pos : String} {after : Array Edge} {g : Option (Nat × Bool)} {wr : Bool} {b : Nat} {cs : List Value} {T' : TypeId} (off : Nat) (vs : List Value) (v : Value)
    (hx : (a.eval x, ldv P T vs, (cs.drop off).take vs.length) = (.pointer (some ⟨b, off, none⟩), some v, vs)) (i : Nat) (hi : L[i]? = some (rCell wr b cs T')) : Gives P w0 E L ⟨dst, .load T x, ty, pos, after, g⟩ a v := fun w h => by
  obtain ⟨h1, h2, h3⟩ : a.eval x = _ ∧ ldv P T vs = _ ∧ (cs.drop off).take vs.length = vs := by simpa using hx
  have hl := run_loadVarV (P := P) (w := w) h2 (rdCell off h3 w (h.fact i hi))
  simp only [execOp, Instr.loadAt, h1, Instr.sureAddr, Sem.run_bind, Sem.run_pure, Result.andThen_ok, hl]
/-- A load of what a resource tells. -/
theorem g_ldr {dst : Option Tmp} {T : TypeId} {x : Operand} {ty : TypeId} {pos : String} {after : Array Edge} {g : Option (Nat × Bool)} {r : Res} {b : Nat} (off : Nat) (vs : List Value) (v : Value)
    (hx : (a.eval x, ldv P T vs) = (.pointer (some ⟨b, off, none⟩), some v)) (i : Nat) (hi : L[i]? = some r) (hr : RdAt r b off vs) : Gives P w0 E L ⟨dst, .load T x, ty, pos, after, g⟩ a v := fun w h => by
  obtain ⟨h1, h2⟩ : a.eval x = _ ∧ ldv P T vs = _ := by simpa using hx
  have hl := run_loadVarV (P := P) (w := w) h2 (hr w (h.fact i hi))
  simp only [execOp, Instr.loadAt, h1, Instr.sureAddr, Sem.run_bind, Sem.run_pure, Result.andThen_ok, hl]
theorem SliceAt.val {w : World} {v : Value} {T k n : Nat} {xs : List Value} {S : Nat → Prop} (h : SliceAt w v T k n xs S) : ∃ ad cap, v = .slice ad n cap ∧ n ≤ cap ∧ (∀ i, i < n → ad = some ⟨blkN v, offN v, none⟩) := by
  obtain ⟨h1, ⟨rfl, h2⟩ | ⟨g, off, cap, cs, rfl, hb, h2, h3, h4, h5, _⟩⟩ := h
  · exact ⟨none, 0, by rw [h2], by omega, fun i hi => by omega⟩
  · exact ⟨_, cap, rfl, h2, fun _ _ => rfl⟩
/-- len of a slice. -/
theorem g_len {dst : Option Tmp} {T : TypeId} {x : Operand} {ty : TypeId} {pos : String} {after : Array Edge} {g : Option (Nat × Bool)} {wr : Bool} {v : Value} {d k n : Nat} {xs : List Value} (hx : (a.eval x, P.underlying T) = (v, some (.slice d))) (i : Nat) (hi : L[i]? = some (rSl wr v d k n xs)) :
    Gives P w0 E L ⟨dst, .call { callee := .builtin .len, args := #[x], argTypes := #[T] }, ty, pos, after, g⟩ a (.int .i64 n) := fun w h => by
  obtain ⟨h1, h2⟩ : a.eval x = v ∧ P.underlying T = _ := by simpa using hx
  obtain ⟨ad, cap, e, _, _⟩ := (h.fact i hi : SliceAt _ _ _ _ _ _ _).val
  subst e
  simp [execOp, resolve, invoke, builtin, Builtin.len_, h1, Sem.run_bind, run_underlying h2, goInt]
/-- The address of an element of a slice. -/
theorem g_idx {dst : Option Tmp} {T : TypeId} {x y : Operand} {ty : TypeId} {pos : String} {after : Array Edge} {g : Option (Nat × Bool)} {wr : Bool} {v : Value} {d k n : Nat} {xs : List Value} (j : Nat) (hx : (a.eval x, a.eval y, P.underlying T, (P.info? d).map (·.size)) = (v, .int .i64 (j : Int), some (.slice d), some k)) (hj : j < n) (i : Nat) (hi : L[i]? = some (rSl wr v d k n xs)) :
    Gives P w0 E L ⟨dst, .indexAddr T x y, ty, pos, after, g⟩ a (.pointer (some ⟨blkN v, offN v + j * k, none⟩)) := fun w h => by
  obtain ⟨h1, h2, h3, h4⟩ : a.eval x = v ∧ a.eval y = _ ∧ P.underlying T = _ ∧ (P.info? d).map (·.size) = some k := by simpa using hx
  obtain ⟨ad, cap, e, _, hp⟩ := (h.fact i hi : SliceAt _ _ _ _ _ _ _).val
  obtain rfl := hp j hj
  obtain ⟨B, hB⟩ : ∃ B, B = blkN v := ⟨_, rfl⟩
  obtain ⟨O, hO⟩ : ∃ O, O = offN v := ⟨_, rfl⟩
  rw [← hB, ← hO] at e ⊢
  subst e
  have hz := sizeOf_run (w := w) h4
  have hi1 : (0 : Int) ≤ (j : Int) ∧ (j : Int) < (n : Int) := by omega
  simp only [execOp, Instr.indexAt, h1, h2, asIntOf, Sem.run_bind, Sem.run_pure, Result.andThen_ok, run_underlying h3]
  simp only [Sem.run_ite, hi1, and_self, if_true, Sem.run_bind, hz, Result.andThen_ok, Sem.run_pure, Int.toNat_natCast, Addr.add_lit]

theorem g_idxI {dst : Option Tmp} {T : TypeId} {x y : Operand} {ty : TypeId} {pos : String} {after : Array Edge} {g : Option (Nat × Bool)} {wr : Bool} {v : Value} {d k n : Nat} {xs : List Value} (j : Nat) {z : Int} (hz : z = (j : Int)) (hx : (a.eval x, a.eval y, P.underlying T, (P.info? d).map (·.size)) = (v, .int .i64 z, some (.slice d), some k)) (hj : j < n) (i : Nat) (hi : L[i]? = some (rSl wr v d k n xs)) :
    Gives P w0 E L ⟨dst, .indexAddr T x y, ty, pos, after, g⟩ a (.pointer (some ⟨blkN v, offN v + j * k, none⟩)) := g_idx j (hz ▸ hx) hj i hi

/-! ### One operation, in the text's order -/
/-- wpList, Code.wp, wpAnyO, wpAny, shut: no tactic looks into them. -/
structure LW (P : Program) (ops : Array Oper) (Q : Exit → Act → World → Prop) (l : List Oper) (a : Act) (w : World) : Prop where
  out : wpList P ops Q l a w
structure CW (P : Program) (c : Code) (Q : Exit → Act → World → Prop) (a : Act) (w : World) : Prop where
  out : c.wp P Q a w
structure DW (P : Program) (ops : Array Oper) (Q : Exit → Act → World → Prop) (w0 : World) (E : Ent) (br : Nat → Bool) (fuel : Nat) (listed : Array Bool) (L : List Res) (a : Act) (w : World) : Prop where
  out : wpAnyO P .any ops Q w0 E br fuel listed L a w
structure AW (P : Program) (ops : Array Oper) (Q : Exit → Act → World → Prop) (fuel : Nat) (listed : Array Bool) (a : Act) (w : World) : Prop where
  out : wpAny P .any ops Q fuel listed a w
theorem lnil {ops : Array Oper} (h : Q .normal a w) : LW P ops Q [] a w := ⟨h⟩
theorem sn {ops : Array Oper} {o : Oper} {rest : List Oper} (hg : Region.wanted o (yielded ops a.tmps) = false) (h : LW P ops Q rest (a.put o.dst undef) w) : LW P ops Q (o :: rest) a w := ⟨sqn hg h.out⟩
theorem sq_q {o : Oper} {v : Value} (hg : Region.wanted o (yielded ops a.tmps) = true) (h : Own w0 E L w) (hv : Gives P w0 E L o a v) (hK : LW P ops Q rest (a.put o.dst v) w) : LW P ops Q (o :: rest) a w := ⟨sqg hg (by unfold Oper.wp; rw [hv w h]; exact hK.out)⟩
theorem sq_p {o : Oper} (v : Value) (hg : Region.wanted o (yielded ops a.tmps) = true) (hv : ∀ w, (execOp a.eval o).run P w = .ok (.value v) w) (hK : LW P ops Q rest (a.put o.dst v) w) : LW P ops Q (o :: rest) a w := ⟨sqg hg (by unfold Oper.wp; rw [hv w]; exact hK.out)⟩
/-- Guarded: carried out where B is so. -/
theorem sq_m1 {o : Oper} {v : Value} (B : Bool) (hg : Region.wanted o (yielded ops a.tmps) = B) (h : Own w0 E L w) (hv : B = true → Gives P w0 E L o a v) (hK : LW P ops Q rest (a.put o.dst (if B = true then v else undef)) w) : LW P ops Q (o :: rest) a w := by
  obtain ⟨hK⟩ := hK
  cases B
  · exact ⟨sqn hg hK⟩
  · exact ⟨sqg hg (by unfold Oper.wp; rw [hv rfl w h]; exact hK)⟩
theorem sq_m0 {o : Oper} {v : Value} (B : Bool) (hg : Region.wanted o (yielded ops a.tmps) = !B) (h : Own w0 E L w) (hv : B = false → Gives P w0 E L o a v) (hK : LW P ops Q rest (a.put o.dst (if B = false then v else undef)) w) : LW P ops Q (o :: rest) a w := by
  obtain ⟨hK⟩ := hK
  cases B
  · exact ⟨sqg hg (by unfold Oper.wp; rw [hv rfl w h]; exact hK)⟩
  · exact ⟨sqn hg hK⟩
theorem sq_new {o : Oper} (hg : Region.wanted o (yielded ops a.tmps) = true) (mk : Nat → Value) (cs : List Value) (T : TypeId) (hrun : ∀ w, (execOp a.eval o).run P w = .ok (.value (mk w.heap.size)) (w.alloc (.cells cs.toArray T)))
    (h : Own w0 E L w) (hK : ∀ b w', Own w0 E (rCell true b cs T :: L) w' → LW P ops Q rest (a.put o.dst (mk b)) w') : LW P ops Q (o :: rest) a w := ⟨sqg hg (op_new mk cs T hrun h fun b w' h => (hK b w' h).out)⟩
/-- A store into a block. -/
theorem op_st {dst : Option Tmp} {T : TypeId} {x y : Operand} {ty : TypeId} {pos : String} {after : Array Edge} {g : Option (Nat × Bool)} {b : Nat} (off : Nat) (vs cs' : List Value) {cs : List Value} {T' : TypeId} (h : Own w0 E L w) (i : Nat) (hi : L[i]? = some (rCell true b cs T'))
    (hx : (a.eval x, (a.eval y).cells, (P.info? T).map (·.size), Nat.ble (off + vs.length) cs.length, vs.all (·.oneCell'), cs.take off ++ (vs ++ cs.drop (off + vs.length))) = (.pointer (some ⟨b, off, none⟩), vs.toArray, some vs.length, true, true, cs'))
    (hK : ∀ w', Own w0 E (L.set i (rCell true b cs' T')) w' → K (a.put dst undef) w') : Oper.wp P ⟨dst, .store T x y, ty, pos, after, g⟩ a w K Q := by
  simp only [Prod.mk.injEq] at hx
  obtain ⟨h1, h2, h3, h4, h5, h6⟩ := hx
  exact op_store h1 h2 h3 (List.all_eq_true.1 h5) h i hi (wrCell off vs (Nat.le_of_ble_eq_true h4) h6) hK
theorem op_str {dst : Option Tmp} {T : TypeId} {x y : Operand} {ty : TypeId} {pos : String} {after : Array Edge} {g : Option (Nat × Bool)} {b : Nat} (off : Nat) (vs : List Value) {r r' : Res} (h : Own w0 E L w) (i : Nat) (hi : L[i]? = some r)
    (hx : (a.eval x, (a.eval y).cells, (P.info? T).map (·.size), vs.all (·.oneCell')) = (.pointer (some ⟨b, off, none⟩), vs.toArray, some vs.length, true)) (hr : WrAt r b off vs r')
    (hK : ∀ w', Own w0 E (L.set i r') w' → K (a.put dst undef) w') : Oper.wp P ⟨dst, .store T x y, ty, pos, after, g⟩ a w K Q := by
  simp only [Prod.mk.injEq] at hx
  obtain ⟨h1, h2, h3, h4⟩ := hx
  exact op_store h1 h2 h3 (List.all_eq_true.1 h4) h i hi hr hK
def okInfo (P : Program) (d size : Nat) : Bool := match P.info? d with
  | some i => (match i.zero with | some z => z.cells.size == size | none => false) && (i.size == size && (Nat.ble i.bytes 1000 && Nat.ble 1 size))
  | none => false
theorem okInfo_spec {d size : Nat} (h : okInfo P d size = true) : ∃ z bytes, (P.info? d).map (fun i => (i.zero, i.size, i.bytes)) = some (some z, size, bytes) ∧ z.cells.size = size ∧ bytes ≤ 1000 ∧ 0 < size := by
  unfold okInfo at h
  cases hi : P.info? d with
  | none => rw [hi] at h; cases h
  | some i =>
    rw [hi] at h
    simp only [Bool.and_eq_true, beq_iff_eq] at h
    obtain ⟨h1, h2, h3, h4⟩ := h
    cases hz : i.zero with
    | none => rw [hz] at h1; cases h1
    | some z =>
      rw [hz] at h1
      exact ⟨z, i.bytes, by simp [hz, h2], by simpa using h1, Nat.le_of_ble_eq_true h3, Nat.le_of_ble_eq_true h4⟩
/-- A value of one cell. -/
def OneV (v : Value) : Prop := v.cells = #[v] ∧ v.oneCell' = true
theorem Own.slv {wr : Bool} {v : Value} {T k n : Nat} {xs : List Value} (h : Own w0 E L w) (i : Nat) (hi : L[i]? = some (rSl wr v T k n xs)) : OneV v := by
  obtain ⟨ad, cap, e, _, _⟩ := (h.fact i hi : SliceAt _ _ _ _ _ _ _).val
  rw [e]; exact ⟨rfl, rfl⟩
theorem op_sto {dst : Option Tmp} {T : TypeId} {x y : Operand} {ty : TypeId} {pos : String} {after : Array Edge} {g : Option (Nat × Bool)} {b : Nat} {v : Value} (hv : OneV v) (off : Nat) (cs' : List Value) {cs : List Value} {T' : TypeId} (h : Own w0 E L w) (i : Nat) (hi : L[i]? = some (rCell true b cs T'))
    (hx : (a.eval x, a.eval y, (P.info? T).map (·.size), Nat.ble (off + 1) cs.length, cs.take off ++ (v :: cs.drop (off + 1))) = (.pointer (some ⟨b, off, none⟩), v, some 1, true, cs'))
    (hK : ∀ w', Own w0 E (L.set i (rCell true b cs' T')) w' → K (a.put dst undef) w') : Oper.wp P ⟨dst, .store T x y, ty, pos, after, g⟩ a w K Q := by
  simp only [Prod.mk.injEq] at hx
  obtain ⟨h1, h2, h3, h4, h6⟩ := hx
  exact op_store (vs := [v]) h1 (by rw [h2]; exact hv.1) h3 (fun u hu => by rw [List.mem_singleton.1 hu]; exact hv.2) h i hi (wrCell off [v] (Nat.le_of_ble_eq_true h4) h6) hK
theorem sq_sto {dst : Option Tmp} {T : TypeId} {x y : Operand} {ty : TypeId} {pos : String} {after : Array Edge} {g : Option (Nat × Bool)} {b : Nat} {v : Value} (hg : Region.wanted ⟨dst, .store T x y, ty, pos, after, g⟩ (yielded ops a.tmps) = true) (hv : OneV v) (off : Nat) (cs' : List Value) {cs : List Value} {T' : TypeId} (h : Own w0 E L w) (i : Nat) (hi : L[i]? = some (rCell true b cs T'))
    (hx : (a.eval x, a.eval y, (P.info? T).map (·.size), Nat.ble (off + 1) cs.length, cs.take off ++ (v :: cs.drop (off + 1))) = (.pointer (some ⟨b, off, none⟩), v, some 1, true, cs'))
    (hK : ∀ w', Own w0 E (L.set i (rCell true b cs' T')) w' → LW P ops Q rest (a.put dst undef) w') : LW P ops Q (⟨dst, .store T x y, ty, pos, after, g⟩ :: rest) a w := ⟨sqg hg (op_sto hv off cs' h i hi hx fun w' h => (hK w' h).out)⟩
/-- One element is appended. -/
theorem op_app {α : Type} {enc : α → List Value} {l : List α} {dst : Option Tmp} {T : TypeId} {s x : Operand} {ty : TypeId} {pos : String} {after : Array Edge} {g : Option (Nat × Bool)} {v : Value} {b o size : Nat} {d : TypeId} {r : Res} (c : Nat) (e : α)
    (hx : (a.eval s, a.eval x, P.underlying T, okInfo P d size, (enc e).length, (enc e).all (·.oneCell')) = (v, .slice (some ⟨b, o, none⟩) 1 c, some (.slice d), true, size, true))
    (h : Own w0 E L w) (i : Nat) (hi : L[i]? = some (rRows true v d size enc l)) (j : Nat) (hj : L[j]? = some r) (hr : RdAt r b o (enc e)) (hb : l.length < 100000000000)
    (hK : ∀ v' w', Own w0 E (L.set i (rRows true v' d size enc (l ++ [e]))) w' → K (a.put dst v') w') : Oper.wp P ⟨dst, .call { callee := .builtin .append, args := #[s, x], argTypes := #[T, T] }, ty, pos, after, g⟩ a w K Q := by
  simp only [Prod.mk.injEq] at hx
  obtain ⟨h1, h2, h3, h4', h6, h7⟩ := hx
  obtain ⟨z, bytes, h4, h5, hby, h8⟩ := okInfo_spec h4'
  obtain ⟨v', w', S', hrun, hs, hc, hg⟩ := run_appendS (P := P) (ty := ty) (c := c) h3 h4 h5 h8 (h.fact i hi : SliceAt _ _ _ _ _ _ _) (a := ⟨b, o, none⟩) (m := 1) (news := enc e) (by omega)
    (fun j u hu => by rw [Addr.add_lit]; exact hr w (h.fact _ hj) j u hu) (fun u hu => List.all_eq_true.1 h7 u hu) (by unfold maxLen; omega) (by
      have : (l.length + 1) * bytes ≤ 100000000000 * 1000 := Nat.mul_le_mul (by omega) hby
      omega)
  obtain ⟨hs1, hs2⟩ := hs.own
  unfold Oper.wp
  simp [execOp, resolve, invoke, builtin, h1, h2, hrun, Result.andThen, Oper.upon]
  refine hK _ _ (h.upd i hi rfl hc ?_ (fun b hb => ?_))
  · have : (l ++ [e]).flatMap enc = l.flatMap enc ++ enc e := by simp
    show SliceAt w' v' d size (l ++ [e]).length ((l ++ [e]).flatMap enc) _
    rw [this, List.length_append]
    exact hs1
  · rcases hg b (hs2 b hb) with h | h
    · exact .inl h
    · exact .inr h.1
theorem sq_call {o : Oper} {f : FuncId} (args : Array Value) (is : List Nat) {Φ : Value → List Res → Prop} (hg : Region.wanted o (yielded ops a.tmps) = true) (hs : Spec P f args (pk is L) Φ) (hrun : ∀ w, (execOp a.eval o).run P w = .ok (.enter f args) w)
    (h : Own w0 E L w) (hK : ∀ v Lp w', Φ v Lp → Own w0 E (Lp ++ rs is L) w' → LW P ops Q rest (a.put o.dst v) w') : LW P ops Q (o :: rest) a w := ⟨sqg hg (op_call is hs hrun h fun v Lp w' hΦ h => (hK v Lp w' hΦ h).out)⟩
theorem sq_st {dst : Option Tmp} {T : TypeId} {x y : Operand} {ty : TypeId} {pos : String} {after : Array Edge} {g : Option (Nat × Bool)} {b : Nat} (hg : Region.wanted ⟨dst, .store T x y, ty, pos, after, g⟩ (yielded ops a.tmps) = true) (off : Nat) (vs cs' : List Value) {cs : List Value} {T' : TypeId} (h : Own w0 E L w) (i : Nat) (hi : L[i]? = some (rCell true b cs T'))
    (hx : (a.eval x, (a.eval y).cells, (P.info? T).map (·.size), Nat.ble (off + vs.length) cs.length, vs.all (·.oneCell'), cs.take off ++ (vs ++ cs.drop (off + vs.length))) = (.pointer (some ⟨b, off, none⟩), vs.toArray, some vs.length, true, true, cs'))
    (hK : ∀ w', Own w0 E (L.set i (rCell true b cs' T')) w' → LW P ops Q rest (a.put dst undef) w') : LW P ops Q (⟨dst, .store T x y, ty, pos, after, g⟩ :: rest) a w := ⟨sqg hg (op_st off vs cs' h i hi hx fun w' h => (hK w' h).out)⟩
theorem sq_str {dst : Option Tmp} {T : TypeId} {x y : Operand} {ty : TypeId} {pos : String} {after : Array Edge} {g : Option (Nat × Bool)} {b : Nat} (hg : Region.wanted ⟨dst, .store T x y, ty, pos, after, g⟩ (yielded ops a.tmps) = true) (off : Nat) (vs : List Value) {r r' : Res} (h : Own w0 E L w) (i : Nat) (hi : L[i]? = some r)
    (hx : (a.eval x, (a.eval y).cells, (P.info? T).map (·.size), vs.all (·.oneCell')) = (.pointer (some ⟨b, off, none⟩), vs.toArray, some vs.length, true)) (hr : WrAt r b off vs r')
    (hK : ∀ w', Own w0 E (L.set i r') w' → LW P ops Q rest (a.put dst undef) w') : LW P ops Q (⟨dst, .store T x y, ty, pos, after, g⟩ :: rest) a w := ⟨sqg hg (op_str off vs h i hi hx hr fun w' h => (hK w' h).out)⟩
theorem sq_app {α : Type} {enc : α → List Value} {l : List α} {dst : Option Tmp} {T : TypeId} {s x : Operand} {ty : TypeId} {pos : String} {after : Array Edge} {g : Option (Nat × Bool)} {v : Value} {b o size : Nat} {d : TypeId} {r : Res} (hg : Region.wanted ⟨dst, .call { callee := .builtin .append, args := #[s, x], argTypes := #[T, T] }, ty, pos, after, g⟩ (yielded ops a.tmps) = true) (c : Nat) (e : α)
    (hx : (a.eval s, a.eval x, P.underlying T, okInfo P d size, (enc e).length, (enc e).all (·.oneCell')) = (v, .slice (some ⟨b, o, none⟩) 1 c, some (.slice d), true, size, true))
    (h : Own w0 E L w) (i : Nat) (hi : L[i]? = some (rRows true v d size enc l)) (j : Nat) (hj : L[j]? = some r) (hr : RdAt r b o (enc e)) (hb : l.length < 100000000000)
    (hK : ∀ v' w', Own w0 E (L.set i (rRows true v' d size enc (l ++ [e]))) w' → LW P ops Q rest (a.put dst v') w') : LW P ops Q (⟨dst, .call { callee := .builtin .append, args := #[s, x], argTypes := #[T, T] }, ty, pos, after, g⟩ :: rest) a w := ⟨sqg hg (op_app c e hx h i hi j hj hr hb fun v' w' h => (hK v' w' h).out)⟩
/-- An empty slice is owned at no cost. -/
theorem Own.nilSl (h : Own w0 E L w) (T k : Nat) : Own w0 E (rSl true (.slice none 0 0) T k 0 [] :: L) w := h.push (Chg.refl _ _) (rSl_nil _ _ _ _) (fun b hb => (hb : False).elim)
theorem Own.nilRows {α : Type} (h : Own w0 E L w) (T k : Nat) (enc : α → List Value) : Own w0 E (rRows true (.slice none 0 0) T k enc [] :: L) w := h.nilSl T k

/-! ### In whatever order -/
theorem yq {o : Oper} {v : Value} (hg : Region.wanted o (yielded ops a.tmps) = true) (hv : Gives P w0 E L o a v) : YieldsIf P ops (Own w0 E L) o v a := .inl ⟨hg, hv⟩
theorem ym1 {o : Oper} {v : Value} (B : Bool) (hg : Region.wanted o (yielded ops a.tmps) = B) (hv : B = true → Gives P w0 E L o a v) : YieldsIf P ops (Own w0 E L) o (if B = true then v else undef) a := by
  cases B
  · exact .inr ⟨hg, rfl⟩
  · exact .inl ⟨hg, hv rfl⟩
theorem ym0 {o : Oper} {v : Value} (B : Bool) (hg : Region.wanted o (yielded ops a.tmps) = !B) (hv : B = false → Gives P w0 E L o a v) : YieldsIf P ops (Own w0 E L) o (if B = false then v else undef) a := by
  cases B
  · exact .inl ⟨hg, hv rfl⟩
  · exact .inr ⟨hg, rfl⟩

/-! ### Cuts, the beginning, the end -/
theorem loop_end' {X : Type} {A : X → Act} {R : X → List Res} {G : X → Prop} {μ : X → Nat} {x : X} {a : Act} {w : World} (f : (Nat → Value) → X) (hG : G (f fun n => a.tmps.getD n undef) ∧ μ (f fun n => a.tmps.getD n undef) < μ x) (ha : a = A (f fun n => a.tmps.getD n undef)) (is : List Nat) (hR : R (f fun n => a.tmps.getD n undef) = pk is L) (h : Own w0 E L w) :
    ∃ x', (G x' ∧ μ x' < μ x) ∧ a = A x' ∧ Own w0 E (R x') w := ⟨_, hG, ha, hR ▸ h.pick is⟩
theorem mid_end {X : Type} {A : X → Act} {R : X → List Res} {G : X → Prop} {a : Act} {w : World} (f : (Nat → Value) → X) (hG : G (f fun n => a.tmps.getD n undef)) (ha : a = A (f fun n => a.tmps.getD n undef)) (is : List Nat) (hR : R (f fun n => a.tmps.getD n undef) = pk is L) (h : Own w0 E L w) :
    ∃ x', G x' ∧ a = A x' ∧ Own w0 E (R x') w := ⟨_, hG, ha, hR ▸ h.pick is⟩
/-- Behind a piece of code, if it ends, M is so. -/
def Mid (M : Act → World → Prop) (Q : Exit → Act → World → Prop) : Exit → Act → World → Prop
  | .normal, a, w => M a w
  | e, a, w => Q e a w
theorem c_mid {c : Code} (M : Act → World → Prop) (h : CW P c (Mid M Q) a w) (hM : ∀ a w, M a w → Q .normal a w) : CW P c Q a w :=
  ⟨wp_mono h.out fun e a w hq => by cases e <;> first | exact hM _ _ hq | exact hq⟩
/-- Code behind code. -/
def Thn (P : Program) (y : Code) (Q : Exit → Act → World → Prop) : Exit → Act → World → Prop
  | .normal, a, w => CW P y Q a w
  | e, a, w => Q e a w
theorem c_seq {x y : Code} (h : CW P x (Thn P y Q) a w) : CW P (.seq x y) Q a w := ⟨wp_seq (wp_mono h.out fun e a w hq => by cases e <;> first | exact hq.out | exact hq)⟩
theorem c_skip (h : Q .normal a w) : CW P .skip Q a w := ⟨wp_skip h⟩
theorem c_ret (h : Q .ret a w) : CW P .ret Q a w := ⟨wp_ret h⟩
theorem c_exit {id : Nat} (h : Q (.exit id) a w) : CW P (.exit id) Q a w := ⟨wp_exit h⟩
theorem c_block {id : Nat} {c : Code} (h : CW P c (Exit.inBlock id Q) a w) : CW P (.block id c) Q a w := ⟨wp_block h.out⟩
theorem c_true {c : Operand} {x y : Code} (hc : a.eval c = .bool true) (h : CW P x Q a w) : CW P (.cond c x y) Q a w := ⟨wp_cond_true hc h.out⟩
theorem c_false {c : Operand} {x y : Code} (hc : a.eval c = .bool false) (h : CW P y Q a w) : CW P (.cond c x y) Q a w := ⟨wp_cond_false hc h.out⟩
theorem c_cond {c : Operand} {x y : Code} (t : Bool) (hc : a.eval c = .bool t) (ht : t = true → CW P x Q a w) (hf : t = false → CW P y Q a w) : CW P (.cond c x y) Q a w := ⟨wp_cond_split hc (fun e => (ht e).out) (fun e => (hf e).out)⟩
theorem c_reg {id : Nat} {l : List Oper} (h : LW P l.toArray Q l a w) : CW P (.region id l.toArray false) Q a w := ⟨wp_region_lit h.out⟩
/-- A loop: x tells what changes from round to round. -/
def Rnd {X : Type} (w0 : World) (E : Ent) (A : X → Act) (R : X → List Res) (G : X → Prop) (μ : X → Nat) (x : X) (Q : Exit → Act → World → Prop) : Exit → Act → World → Prop
  | .normal, a, w => ∃ x', (G x' ∧ μ x' < μ x) ∧ a = A x' ∧ Own w0 E (R x') w
  | e, a, w => Q e a w
theorem c_loop {X : Type} {body : Code} (A : X → Act) (R : X → List Res) (G : X → Prop) (μ : X → Nat) (x0 : X) (h0 : G x0) (ha : A x0 = a) (is : List Nat) (hR : R x0 = pk is L) (h : Own w0 E L w)
    (round : ∀ x w, G x → Own w0 E (R x) w → CW P body (Rnd w0 E A R G μ x Q) (A x) w) : CW P (.loop body) Q a w :=
  ⟨wp_loopO A R G μ x0 h0 ha is hR h fun x w hG hO => wp_mono (round x w hG hO).out fun e a w hq => by cases e <;> exact hq⟩
theorem rnd_e {X : Type} {A : X → Act} {R : X → List Res} {G : X → Prop} {μ : X → Nat} {x : X} {id : Nat} (h : Q (.exit id) a w) : Rnd w0 E A R G μ x Q (.exit id) a w := h
theorem rnd_r {X : Type} {A : X → Act} {R : X → List Res} {G : X → Prop} {μ : X → Nat} {x : X} (h : Q .ret a w) : Rnd w0 E A R G μ x Q .ret a w := h
theorem thn_n {y : Code} (h : CW P y Q a w) : Thn P y Q .normal a w := h
theorem thn_e {y : Code} {id : Nat} (h : Q (.exit id) a w) : Thn P y Q (.exit id) a w := h
theorem thn_r {y : Code} (h : Q .ret a w) : Thn P y Q .ret a w := h
theorem mid_n {M : Act → World → Prop} (h : M a w) : Mid M Q .normal a w := h
theorem mid_e {M : Act → World → Prop} {id : Nat} (h : Q (.exit id) a w) : Mid M Q (.exit id) a w := h
theorem mid_r {M : Act → World → Prop} (h : Q .ret a w) : Mid M Q .ret a w := h
theorem loop_end {X : Type} {A : X → Act} {R : X → List Res} {G : X → Prop} {μ : X → Nat} {x : X} {a : Act} {w : World} (f : (Nat → Value) → X) (hG : G (f fun n => a.tmps.getD n undef) ∧ μ (f fun n => a.tmps.getD n undef) < μ x) (ha : a = A (f fun n => a.tmps.getD n undef)) (is : List Nat) (hR : R (f fun n => a.tmps.getD n undef) = pk is L) (h : Own w0 E L w) :
    Rnd w0 E A R G μ x Q .normal a w := ⟨_, hG, ha, hR ▸ h.pick is⟩
theorem spec_of {f : FuncId} {fn : Func} {c : Code} {args : Array Value} {Φ : Value → List Res → Prop} (tm : Array Value) (hf : P.funcs[f]? = some fn) (hb : fn.body = some c) (ht : args ++ Array.replicate (fn.ntmps - args.size) undef = tm)
    (h : ∀ E w0 w, Own w0 E L w → CW P c (bodyPost P fn fun e w' => ∃ v L', Φ v L' ∧ e = .returned v ∧ Own w0 E L' w') ⟨tm, []⟩ w) : Spec P f args L Φ := fun E w0 w ho =>
  calls_of_wp hf hb (by rw [ht]; exact (h E w0 w ho).out)
/-- A contract of the elder kind that turns nothing. -/
theorem spec_quiet {f : FuncId} {args : Array Value} {v : Value} (h : ∀ w, Calls P f args w fun e w' => e = .returned v ∧ Chg Nil w w') : Spec P f args [] fun u L => u = v ∧ L = [] := fun E w0 w ho =>
  (h w).mono fun e w' ⟨he, hc⟩ => ⟨v, [], ⟨rfl, rfl⟩, he, ho.quiet hc⟩
theorem ret_end {fn : Func} {Φ : Value → List Res → Prop} {a : Act} (vs : List Value) (is : List Nat) (h : Own w0 E L w) (hd : a.defers = []) (hr : resV P L a.tmps fn.results.toList vs) (hΦ : Φ (retV vs) (pk is L)) :
    bodyPost P fn (fun e w' => ∃ v L', Φ v L' ∧ e = .returned v ∧ Own w0 E L' w') .ret a w := by
  obtain ⟨tm, ds⟩ := a
  obtain rfl : ds = [] := hd
  exact ret_O vs h hr ⟨_, _, hΦ, rfl, h.pick is⟩
theorem res_n {tm : Array Value} : resV P L tm [] [] := rfl
theorem res_t {tm : Array Value} {t : Tmp} {l : List ResultVar} {v : Value} {vs : List Value} (hv : tm.getD t undef = v) (h : resV P L tm l vs) : resV P L tm (.tmp t :: l) (v :: vs) := ⟨v, vs, rfl, hv, h⟩
theorem res_c {tm : Array Value} {p : Tmp} {T : TypeId} {l : List ResultVar} {vs : List Value} {wr : Bool} {b : Nat} {cs : List Value} {T' : TypeId} (off : Nat) (us : List Value) (v : Value) (i : Nat) (hi : L[i]? = some (rCell wr b cs T'))
    (hx : (tm.getD p undef, ldv P T us, (cs.drop off).take us.length) = (.pointer (some ⟨b, off, none⟩), some v, us)) (h : resV P L tm l vs) : resV P L tm (.cell p T :: l) (v :: vs) := by
  simp only [Prod.mk.injEq] at hx
  exact ⟨v, vs, b, off, us, _, rfl, hx.1, hx.2.1, List.mem_of_getElem? hi, rdCell off hx.2.2, h⟩
def resT (tm : Array Value) : ResultVar → Option Value
  | .tmp t => some (tm.getD t undef)
  | _ => none
/-- One result, several: all in temporaries. -/
theorem ret_t {fn : Func} {Φ : Value → List Res → Prop} {a : Act} (vs : List Value) (is : List Nat) (h : Own w0 E L w) (hr : (a.defers, fn.results.toList.map (resT a.tmps)) = ([], vs.map some)) (hΦ : Φ (retV vs) (pk is L)) :
    bodyPost P fn (fun e w' => ∃ v L', Φ v L' ∧ e = .returned v ∧ Own w0 E L' w') .ret a w := by
  obtain ⟨tm, ds⟩ := a
  simp only [Prod.mk.injEq] at hr
  obtain ⟨rfl, hr⟩ := hr
  refine ret_end vs is h rfl ?_ hΦ
  have : ∀ (l : List ResultVar) (vs : List Value), l.map (resT tm) = vs.map some → resV P L tm l vs := by
    intro l
    induction l with
    | nil => intro vs h; simpa [resV] using h.symm
    | cons x l ih =>
      intro vs h
      cases vs with
      | nil => simp at h
      | cons v vs =>
        simp only [List.map_cons, List.cons.injEq] at h
        cases x with
        | tmp t => exact ⟨v, vs, rfl, Option.some.inj h.1, ih vs h.2⟩
        | cell p T => cases h.1
  exact this _ _ hr
end

/- A region that draws its order, by what is owned. Over any program, no condition. -/

/-- What follows a panic does not hang on the frame's temporaries. -/
def QP (Q : Exit → Act → World → Prop) : Prop := ∀ c a d v w, Q (.panic c) (Act.put a d v) w → Q (.panic c) a w
section
variable {P : Program} {a : Act} {w w0 : World} {E : Ent} {L : List Res} {K : Act → World → Prop} {Q : Exit → Act → World → Prop} {ops : Array Oper} {br br' : Nat → Bool} {fuel : Nat} {listed : Array Bool}
theorem qp_thn {y : Code} (h : QP Q) : QP (Thn P y Q) := fun c a d v w hq => h c a d v w hq
theorem qp_blk {id : Nat} (h : QP Q) : QP (Exit.inBlock id Q) := fun c a d v w hq => h c a d v w hq
theorem qp_mid {M : Act → World → Prop} (h : QP Q) : QP (Mid M Q) := fun c a d v w hq => h c a d v w hq
theorem qp_rnd {X : Type} {A : X → Act} {R : X → List Res} {G : X → Prop} {μ : X → Nat} {x : X} (h : QP Q) : QP (Rnd w0 E A R G μ x Q) := fun c a d v w hq => h c a d v w hq
theorem qp_body {fn : Func} {R : Ending → World → Prop} : QP (bodyPost P fn R) := fun c a d v w hq => by
  refine ⟨?_, hq.2⟩
  have := hq.1
  cases d <;> exact this
theorem Own.sub {M : List Res} (h : Own w0 E M w) (js : List Nat) (e : pk js M = L) : Own w0 E L w := e ▸ h.pick js
theorem d_start {M : List Res} {id : Nat} {l : List Oper} (n : Nat) (js : List Nat) (hn : (l.toArray.size, P.follows .mixedOrders) = (n, true)) (h : Own w0 E M w) (hK : ∀ w', Own w0 E M w' → DW P l.toArray Q w0 E (Nat.testBit 0) n (Array.replicate n false) (pk js M) a w') : CW P (.region id l.toArray true) Q a w := by
  simp only [Prod.mk.injEq] at hn
  obtain ⟨rfl, hm⟩ := hn
  exact ⟨wp_region_any hm (wpAny_of_O _ _ _ _ _ (hK _ h.drew).out)⟩
theorem d_take {M : List Res} (i c : Nat) (js : List Nat) {oi : Oper} (hi : ops[i]? = some oi) {v : Value} (ht : (Region.noSelect ops && takeO .any ops br listed i c) = true) (hQ : QP Q) (hy : YieldsIf P ops (Own w0 E L) oi v a) (h : Own w0 E M w) (e : pk js M = L)
    (hK : DW P ops Q w0 E br fuel (listed.setIfInBounds i true) L (a.put oi.dst v) w) : DW P ops Q w0 E br (fuel + 1) listed L a w := by
  rw [Bool.and_eq_true] at ht
  exact ⟨wpAnyO_take i c hi ht.1 ht.2 (fun c a w h => hQ c a _ _ w h) hy (h.sub js e) hK.out⟩
theorem d_done (hr : Region.ready .any ops listed = []) (h : Q .normal a w) : DW P ops Q w0 E br fuel listed L a w := ⟨wpAnyO_done hr h fuel⟩
/-- More is held from here on. -/
theorem d_more (L' : List Res) (ks : List Nat) (e : pk ks L' = L) (h : DW P ops Q w0 E br fuel listed L' a w) : DW P ops Q w0 E br fuel listed L a w := ⟨wpAnyO_mono (fun w h => e ▸ h.pick ks) fuel listed a w h.out⟩
structure AllD (P : Program) (ops : Array Oper) (Q : Exit → Act → World → Prop) (w0 : World) (E : Ent) (br : Nat → Bool) (fuel : Nat) (listed : Array Bool) (L : List Res) (a : Act) (w : World) (is : List Nat) : Prop where
  out : AllO P .any ops Q w0 E br fuel listed L a w is
theorem d_ready (is : List Nat) (hr : Region.ready .any ops listed = is) (hne : is.isEmpty = false) (h : AllD P ops Q w0 E br fuel listed L a w is) : DW P ops Q w0 E br (fuel + 1) listed L a w := ⟨wpAnyO_ready is hr (fun e => by rw [e] at hne; cases hne) h.out⟩
theorem ad_nil : AllD P ops Q w0 E br fuel listed L a w [] := ⟨AllO.nil⟩
variable {M : List Res} {i : Nat} {is : List Nat}
/-- It makes a block. -/
theorem ad_new {o : Oper} (js : List Nat) (hi : ops[i]? = some o) (hb : (br i, Region.wanted o (yielded ops a.tmps)) = (false, true)) (mk : Nat → Value) (cs : List Value) (T : TypeId) (hrun : ∀ w, (execOp a.eval o).run P w = .ok (.value (mk w.heap.size)) (w.alloc (.cells cs.toArray T)))
    (h : Own w0 E M w) (hK : ∀ b w', Own w0 E (rCell true b cs T :: M) w' → pk js (rCell true b cs T :: M) = L ∧ DW P ops Q w0 E br fuel (listed.setIfInBounds i true) L (a.put o.dst (mk b)) w') (hs : AllD P ops Q w0 E br fuel listed L a w is) : AllD P ops Q w0 E br fuel listed L a w (i :: is) := by
  simp only [Prod.mk.injEq] at hb
  exact ⟨AllO.cons hi hb.1 hb.2 (op_new mk cs T hrun h fun b w' h' => ⟨h'.sub js (hK b w' h').1, (hK b w' h').2.out⟩) hs.out⟩
/-- It yields what it yields where M is owned. -/
theorem ad_q {o : Oper} {v : Value} (js : List Nat) (hi : ops[i]? = some o) (hb : (br i, Region.wanted o (yielded ops a.tmps)) = (false, true)) (hv : Gives P w0 E M o a v) (h : Own w0 E M w) (e : pk js M = L)
    (hK : DW P ops Q w0 E br fuel (listed.setIfInBounds i true) L (a.put o.dst v) w) (hs : AllD P ops Q w0 E br fuel listed L a w is) : AllD P ops Q w0 E br fuel listed L a w (i :: is) := by
  simp only [Prod.mk.injEq] at hb
  exact ⟨AllO.cons hi hb.1 hb.2 (by unfold Oper.wp; rw [hv w h]; exact ⟨h.sub js e, hK.out⟩) hs.out⟩
/-- A call. -/
theorem ad_call {o : Oper} {f : FuncId} (args : Array Value) (us : List Nat) (js : List Nat) {Φ : Value → List Res → Prop} (hi : ops[i]? = some o) (hb : (br i, Region.wanted o (yielded ops a.tmps)) = (false, true)) (hsp : Spec P f args (pk us M) Φ) (hrun : ∀ w, (execOp a.eval o).run P w = .ok (.enter f args) w)
    (h : Own w0 E M w) (hK : ∀ v Lp w', Φ v Lp → Own w0 E (Lp ++ rs us M) w' → pk js (Lp ++ rs us M) = L ∧ DW P ops Q w0 E br fuel (listed.setIfInBounds i true) L (a.put o.dst v) w') (hs : AllD P ops Q w0 E br fuel listed L a w is) : AllD P ops Q w0 E br fuel listed L a w (i :: is) := by
  simp only [Prod.mk.injEq] at hb
  exact ⟨AllO.cons hi hb.1 hb.2 (op_call us hsp hrun h fun v Lp w' hΦ h' => ⟨h'.sub js (hK v Lp w' hΦ h').1, (hK v Lp w' hΦ h').2.out⟩) hs.out⟩
/-- A store. -/
theorem ad_st {dst : Option Tmp} {T : TypeId} {x y : Operand} {ty : TypeId} {pos : String} {after : Array Edge} {g : Option (Nat × Bool)} {b : Nat} (js : List Nat) (hi : ops[i]? = some ⟨dst, .store T x y, ty, pos, after, g⟩) (hb : (br i, Region.wanted ⟨dst, .store T x y, ty, pos, after, g⟩ (yielded ops a.tmps)) = (false, true)) (off : Nat) (vs cs' : List Value) {cs : List Value} {T' : TypeId} (h : Own w0 E M w) (j : Nat) (hj : M[j]? = some (rCell true b cs T'))
    (hx : (a.eval x, (a.eval y).cells, (P.info? T).map (·.size), Nat.ble (off + vs.length) cs.length, vs.all (·.oneCell'), cs.take off ++ (vs ++ cs.drop (off + vs.length))) = (.pointer (some ⟨b, off, none⟩), vs.toArray, some vs.length, true, true, cs'))
    (hK : ∀ w', Own w0 E (M.set j (rCell true b cs' T')) w' → pk js (M.set j (rCell true b cs' T')) = L ∧ DW P ops Q w0 E br fuel (listed.setIfInBounds i true) L (a.put dst undef) w') (hs : AllD P ops Q w0 E br fuel listed L a w is) : AllD P ops Q w0 E br fuel listed L a w (i :: is) := by
  simp only [Prod.mk.injEq] at hb
  exact ⟨AllO.cons hi hb.1 hb.2 (op_st off vs cs' h j hj hx fun w' h' => ⟨h'.sub js (hK w' h').1, (hK w' h').2.out⟩) hs.out⟩
theorem ad_sto {dst : Option Tmp} {T : TypeId} {x y : Operand} {ty : TypeId} {pos : String} {after : Array Edge} {g : Option (Nat × Bool)} {b : Nat} {v : Value} (js : List Nat) (hi : ops[i]? = some ⟨dst, .store T x y, ty, pos, after, g⟩) (hb : (br i, Region.wanted ⟨dst, .store T x y, ty, pos, after, g⟩ (yielded ops a.tmps)) = (false, true)) (hv : OneV v) (off : Nat) (cs' : List Value) {cs : List Value} {T' : TypeId} (h : Own w0 E M w) (j : Nat) (hj : M[j]? = some (rCell true b cs T'))
    (hx : (a.eval x, a.eval y, (P.info? T).map (·.size), Nat.ble (off + 1) cs.length, cs.take off ++ (v :: cs.drop (off + 1))) = (.pointer (some ⟨b, off, none⟩), v, some 1, true, cs'))
    (hK : ∀ w', Own w0 E (M.set j (rCell true b cs' T')) w' → pk js (M.set j (rCell true b cs' T')) = L ∧ DW P ops Q w0 E br fuel (listed.setIfInBounds i true) L (a.put dst undef) w') (hs : AllD P ops Q w0 E br fuel listed L a w is) : AllD P ops Q w0 E br fuel listed L a w (i :: is) := by
  simp only [Prod.mk.injEq] at hb
  exact ⟨AllO.cons hi hb.1 hb.2 (op_sto hv off cs' h j hj hx fun w' h' => ⟨h'.sub js (hK w' h').1, (hK w' h').2.out⟩) hs.out⟩
theorem ad_str {dst : Option Tmp} {T : TypeId} {x y : Operand} {ty : TypeId} {pos : String} {after : Array Edge} {g : Option (Nat × Bool)} {b : Nat} (js : List Nat) (hi : ops[i]? = some ⟨dst, .store T x y, ty, pos, after, g⟩) (hb : (br i, Region.wanted ⟨dst, .store T x y, ty, pos, after, g⟩ (yielded ops a.tmps)) = (false, true)) (off : Nat) (vs : List Value) {r r' : Res} (h : Own w0 E M w) (j : Nat) (hj : M[j]? = some r)
    (hx : (a.eval x, (a.eval y).cells, (P.info? T).map (·.size), vs.all (·.oneCell')) = (.pointer (some ⟨b, off, none⟩), vs.toArray, some vs.length, true)) (hr : WrAt r b off vs r')
    (hK : ∀ w', Own w0 E (M.set j r') w' → pk js (M.set j r') = L ∧ DW P ops Q w0 E br fuel (listed.setIfInBounds i true) L (a.put dst undef) w') (hs : AllD P ops Q w0 E br fuel listed L a w is) : AllD P ops Q w0 E br fuel listed L a w (i :: is) := by
  simp only [Prod.mk.injEq] at hb
  exact ⟨AllO.cons hi hb.1 hb.2 (op_str off vs h j hj hx hr fun w' h' => ⟨h'.sub js (hK w' h').1, (hK w' h').2.out⟩) hs.out⟩
/-- One element is appended. -/
theorem ad_app {α : Type} {enc : α → List Value} {l : List α} {dst : Option Tmp} {T : TypeId} {s x : Operand} {ty : TypeId} {pos : String} {after : Array Edge} {g : Option (Nat × Bool)} {v : Value} {b o size : Nat} {d : TypeId} {r : Res} (js : List Nat) (hi : ops[i]? = some ⟨dst, .call { callee := .builtin .append, args := #[s, x], argTypes := #[T, T] }, ty, pos, after, g⟩) (hb : (br i, Region.wanted ⟨dst, .call { callee := .builtin .append, args := #[s, x], argTypes := #[T, T] }, ty, pos, after, g⟩ (yielded ops a.tmps)) = (false, true)) (c : Nat) (e : α)
    (hx : (a.eval s, a.eval x, P.underlying T, okInfo P d size, (enc e).length, (enc e).all (·.oneCell')) = (v, .slice (some ⟨b, o, none⟩) 1 c, some (.slice d), true, size, true))
    (h : Own w0 E M w) (j : Nat) (hj : M[j]? = some (rRows true v d size enc l)) (k : Nat) (hk : M[k]? = some r) (hr : RdAt r b o (enc e)) (hlen : l.length < 100000000000)
    (hK : ∀ v' w', Own w0 E (M.set j (rRows true v' d size enc (l ++ [e]))) w' → pk js (M.set j (rRows true v' d size enc (l ++ [e]))) = L ∧ DW P ops Q w0 E br fuel (listed.setIfInBounds i true) L (a.put dst v') w') (hs : AllD P ops Q w0 E br fuel listed L a w is) : AllD P ops Q w0 E br fuel listed L a w (i :: is) := by
  simp only [Prod.mk.injEq] at hb
  exact ⟨AllO.cons hi hb.1 hb.2 (op_app c e hx h j hj k hk hr hlen fun v' w' h' => ⟨h'.sub js (hK v' w' h').1, (hK v' w' h').2.out⟩) hs.out⟩
end

/- The errors of package api by number: where they lie, what a walk may know of them; out of what a row lists. -/

/-- The variable of error number c. -/
def gl : Nat → Nat
  | 1 => 3
  | 2 => 5
  | 3 => 0
  | 4 => 6
  | 5 => 7
  | 6 => 1
  | 7 => 8
  | 8 => 9
  | 9 => 2
  | 10 => 10
  | 11 => 4
  | 12 => 11
  | 13 => 12
  | 14 => 13
  | 15 => 14
  | _ => 0

/-- The value of error number c (0: nil); ad: where the errors lie. -/
def errV (ad : Nat → Addr) (c : Nat) : Value := if c = 0 then .nilIface else .iface 205 (.pointer (some (ad c)))
theorem errV_pos {ad : Nat → Addr} {c : Nat} (h : c ≠ 0) : errV ad c = .iface 205 (.pointer (some (ad c))) := if_neg h
theorem errV_zero {ad : Nat → Addr} : errV ad 0 = .nilIface := rfl

/-- The errors cs as they lie below block B. -/
structure Env (B : Nat) (ad : Nat → Addr) (cs : List Nat) (w : World) : Prop where
  size : B ≤ w.heap.size
  glob : ∀ c ∈ cs, w.cell? ⟨gl c, 0, none⟩ = some (.iface 205 (.pointer (some (ad c)))) ∧ gl c < B
  row : ∀ c ∈ cs, (∃ s, w.cell? (ad c) = some (.string s)) ∧ (∃ x t, w.heap[(ad c).block]? = some (.cells x t (0, 0))) ∧ (ad c).block < B
  dist : ∀ c ∈ cs, ∀ d ∈ cs, c ≠ d → ad c ≠ ad d

theorem Env.keep {B : Nat} {ad : Nat → Addr} {cs : List Nat} {S : Nat → Prop} {w w' : World} (h : Env B ad cs w) (c : Chg S w w') (hS : ∀ x, S x → B ≤ x) : Env B ad cs w' := by
  obtain ⟨h1, h2, h3, h4⟩ := h
  refine ⟨Nat.le_trans h1 c.size, fun x hx => ?_, fun x hx => ?_, h4⟩
  · obtain ⟨a, b⟩ := h2 x hx
    exact ⟨(c.cell (p := ⟨gl x, 0, none⟩) (Nat.lt_of_lt_of_le b h1) (fun s => by have := hS _ s; simp at this; omega)).trans a, b⟩
  · obtain ⟨⟨s, a⟩, ⟨y, t, b⟩, d⟩ := h3 x hx
    exact ⟨⟨s, (c.cell (Nat.lt_of_lt_of_le d h1) (fun s => by have := hS _ s; omega)).trans a⟩, ⟨y, t, c.keep b (fun s => by have := hS _ s; omega)⟩, d⟩
theorem Env.keepN {B : Nat} {ad : Nat → Addr} {cs : List Nat} {w w' : World} (h : Env B ad cs w) (c : Chg Nil w w') : Env B ad cs w' := h.keep c (fun _ f => f.elim)
theorem Env.alloc {B : Nat} {ad : Nat → Addr} {cs : List Nat} {w : World} (h : Env B ad cs w) (o : Obj) : Env B ad cs (w.alloc o) := h.keepN ((Chg.refl Nil w).alloc o)
theorem Env.sub {B : Nat} {ad : Nat → Addr} {cs ds : List Nat} {w : World} (h : Env B ad cs w) (hd : ∀ c ∈ ds, c ∈ cs) : Env B ad ds w :=
  ⟨h.size, fun c hc => h.glob c (hd c hc), fun c hc => h.row c (hd c hc), fun c hc d hd' => h.dist c (hd c hc) d (hd d hd')⟩
theorem Env.get {B : Nat} {ad : Nat → Addr} {cs : List Nat} {w : World} (h : Env B ad cs w) {c : Nat} (hc : c ∈ cs) : w.cell? ⟨gl c, 0, none⟩ = some (.iface 205 (.pointer (some (ad c)))) ∧ gl c < w.heap.size :=
  ⟨(h.glob c hc).1, Nat.lt_of_lt_of_le (h.glob c hc).2 h.size⟩

/-! ### Out of what a row lists -/
def sentD {H : Type} (text : List UInt8) : DataW H := .iface "*errors.errorString" (.ptr (.agg [.lit (.string text)]))
theorem star_err : "*errors.errorString" = "*" ++ "errors.errorString" := by decide
theorem typeName_err (u : TypeId) (h : Tryz.prog.typeName? 3 u = some "*errors.errorString") : u = 205 :=
  typeName_ptr_named (nm := "errors.errorString") (by rw [← star_err]; kernel_rfl) (by kernel_rfl) (by decide) u (by rw [← star_err]; exact h)
theorem cells_str : Tryz.prog.cellsOf 9 = 1 := by kernel_rfl
theorem cells_errStr : Tryz.prog.cellsOf 207 = 1 := by kernel_rfl

def errType (x : String) : Prop := ∀ g, Tryz.prog.globalNamed x = some g → (Tryz.prog.globals[g]?).map (·.type) = some 25
theorem sents_of_laid {W : World} : ∀ (l : List (String × List UInt8)) (ps : List MemPlace),
    DataW.LaidVars Tryz.prog W (l.map fun x => (x.1, sentD x.2)) ps → ps.Nodup →
    (∀ b off, MemPlace.cell b off ∈ ps → (∃ c t, W.heap[b]? = some (.cells c t (0, 0))) ∧ ∀ u v, W.cell? ⟨b, off, none⟩ = some (.iface u v) → Value.okWide Tryz.prog W .any 0 u v) →
    (∀ x ∈ l, errType x.1) →
    ∃ ads : List Addr, ads.length = l.length ∧ ads.Nodup ∧ (∀ a ∈ ads, MemPlace.cell a.block a.off ∈ ps ∧ a.spot = none) ∧
      ∀ (i : Nat) x a, l[i]? = some x → ads[i]? = some a → W.var? Tryz.prog x.1 = some #[.iface 205 (.pointer (some a))] ∧ (∃ s : ByteArray, W.cell? a = some (.string s) ∧ s.data.toList = x.2) ∧ ∃ c t, W.heap[a.block]? = some (.cells c t (0, 0))
  | [], ps, h, _, _, _ => ⟨[], rfl, List.nodup_nil, fun a h => (by cases h), fun i x a h => (by cases h)⟩
  | (n, text) :: l, ps, h, hnd, hrows, hty => by
    obtain ⟨g, t, cs, fuel, p, q, hg, ht, hv, hd, hr, e⟩ := h
    subst e
    have ht' := hty (n, text) (List.mem_cons_self ..) g hg
    obtain rfl := Option.some.inj (ht'.symm.trans ht)
    obtain ⟨l0⟩ := cs
    have ok0 : ∀ u v, l0 = [.iface u v] → Value.okWide Tryz.prog W .any 0 u v := fun u v e => by
      subst e
      exact (hrows g 0 (by simp [MemPlace.row])).2 u v (by simpa using World.var?_cell hg hv 0)
    obtain ⟨a, s, rfl, hc0, hs0, hz0, rfl⟩ := errorString_of_trod Tryz.underlying25 typeName_err Tryz.underlying205 Tryz.underlying207 rfl rfl Tryz.underlying9 cells_errStr cells_str hd ok0
    have hsp : a.spot = none := World.cell?_spot hc0
    rw [List.append_assoc] at hnd
    have hnd2 := (List.nodup_append.1 hnd).2.1
    obtain ⟨hn1, hn2, hn3⟩ := List.nodup_append.1 hnd2
    obtain ⟨ads, h1, h2, h3, h4⟩ := sents_of_laid l q hr hn2 (fun b off hm => hrows b off (by simp [hm])) (fun x hx => hty x (List.mem_cons_of_mem _ hx))
    have hma : MemPlace.cell a.block a.off ∈ MemPlace.row a 1 := by simp [MemPlace.row]
    refine ⟨a :: ads, by simp [h1], List.nodup_cons.2 ⟨fun hm => ?_, h2⟩, fun b hb => ?_, fun i x b hx hb => ?_⟩
    · exact hn3 _ hma _ (h3 a hm).1 rfl
    · rcases List.mem_cons.1 hb with rfl | hb
      · exact ⟨by simp [hma], hsp⟩
      · exact ⟨by simp [(h3 b hb).1], (h3 b hb).2⟩
    · cases i with
      | zero =>
        simp only [List.getElem?_cons_zero, Option.some.injEq] at hx hb
        subst hx; subst hb
        exact ⟨hv, ⟨s, hc0, hs0⟩, (hrows a.block a.off (by simp [hma])).1⟩
      | succ i => exact h4 i x b (by simpa using hx) (by simpa using hb)

def errName : Nat → String
  | 1 => "pigeonholes/api.ErrText" | 2 => "pigeonholes/api.ErrBound" | 3 => "pigeonholes/api.ErrShape" | 4 => "pigeonholes/api.ErrName" | 5 => "pigeonholes/api.ErrNone"
  | 6 => "pigeonholes/api.ErrExist" | 7 => "pigeonholes/api.ErrDir" | 8 => "pigeonholes/api.ErrFile" | 9 => "pigeonholes/api.ErrFull" | 10 => "pigeonholes/api.ErrStale"
  | 11 => "pigeonholes/api.ErrHeld" | 12 => "pigeonholes/api.ErrSeq" | 13 => "pigeonholes/api.ErrOld" | 14 => "pigeonholes/api.ErrGrace" | _ => "pigeonholes/api.ErrPower"
/-- The word behind the head of error number c's text. -/
def errWord : Nat → List UInt8
  | 1 => [116, 101, 120, 116] | 2 => [98, 111, 117, 110, 100] | 3 => [115, 104, 97, 112, 101] | 4 => [110, 97, 109, 101] | 5 => [110, 111, 110, 101]
  | 6 => [101, 120, 105, 115, 116] | 7 => [100, 105, 114] | 8 => [102, 105, 108, 101] | 9 => [102, 117, 108, 108] | 10 => [115, 116, 97, 108, 101]
  | 11 => [104, 101, 108, 100] | 12 => [115, 101, 113] | 13 => [111, 108, 100] | 14 => [103, 114, 97, 99, 101] | _ => [112, 111, 119, 101, 114]
def errText (c : Nat) : List UInt8 := [112, 105, 103, 101, 111, 110, 104, 111, 108, 101, 115, 58, 32] ++ errWord c
/-- What a row lists of the errors cs. -/
def errLaid (cs : List Nat) : List (String × DataW Unit) := cs.map fun c => (errName c, sentD (errText c))
/-- Number c's variable is known by its name. -/
def errKnown (c : Nat) : Prop := Tryz.prog.globalNamed (errName c) = some (gl c) ∧ (Tryz.prog.globals[gl c]?).map (·.type) = some 25

theorem env_of_laid {W : World} {cs : List Nat} (h : laidMet Tryz.prog (errLaid cs) W) (hk : ∀ c ∈ cs, errKnown c) :
    ∃ ad, Env W.heap.size ad cs W ∧ ∀ c ∈ cs, ∃ s : ByteArray, W.cell? (ad c) = some (.string s) ∧ s.data.toList = errText c := by
  obtain ⟨ps, hv, hnd, hrows⟩ := h
  have hk' : ∀ c ∈ cs, Tryz.prog.globalNamed (errName c) = some (gl c) ∧ (Tryz.prog.globals[gl c]?).map (·.type) = some 25 := hk
  have e : errLaid cs = (cs.map fun c => (errName c, errText c)).map fun x => (x.1, sentD x.2) := by simp [errLaid]
  rw [e] at hv
  obtain ⟨ads, h1, h2, h3, h4⟩ := sents_of_laid _ ps hv hnd hrows (fun x hx g hg => by
    obtain ⟨c, hc, rfl⟩ := List.mem_map.1 hx
    obtain ⟨a, b⟩ := hk' c hc
    obtain rfl := Option.some.inj (a.symm.trans hg)
    exact b)
  simp only [List.length_map] at h1
  have get : ∀ c ∈ cs, ∃ a, ads[cs.idxOf c]? = some a ∧ W.var? Tryz.prog (errName c) = some #[.iface 205 (.pointer (some a))] ∧ (∃ s : ByteArray, W.cell? a = some (.string s) ∧ s.data.toList = errText c) ∧ ∃ x t, W.heap[a.block]? = some (.cells x t (0, 0)) := fun c hc => by
    have hi : cs.idxOf c < cs.length := List.idxOf_lt_length_of_mem hc
    obtain ⟨a, ha⟩ : ∃ a, ads[cs.idxOf c]? = some a := ⟨ads[cs.idxOf c]'(by omega), List.getElem?_eq_getElem _⟩
    have hx : (cs.map fun c => (errName c, errText c))[cs.idxOf c]? = some (errName c, errText c) := by simp [hi]
    exact ⟨a, ha, h4 _ _ a hx ha⟩
  refine ⟨fun c => (ads[cs.idxOf c]?).getD default, ⟨Nat.le_refl _, fun c hc => ?_, fun c hc => ?_, fun c hc d hd hne he => ?_⟩, fun c hc => ?_⟩
  · obtain ⟨a, ha, hv, _⟩ := get c hc
    simp only [ha, Option.getD_some]
    have hcell : W.cell? ⟨gl c, 0, none⟩ = some (.iface 205 (.pointer (some a))) := by simpa using World.var?_cell (hk' c hc).1 hv 0
    exact ⟨hcell, World.block_lt_of_cell? _ _ hcell⟩
  · obtain ⟨a, ha, _, ⟨s, hs, _⟩, y, t, hr⟩ := get c hc
    simp only [ha, Option.getD_some]
    exact ⟨⟨s, hs⟩, ⟨y, t, hr⟩, lt_of_block hr⟩
  · obtain ⟨a, ha, _⟩ := get c hc
    obtain ⟨b, hb, _⟩ := get d hd
    simp only [ha, hb, Option.getD_some] at he
    subst he
    have hi := (List.getElem?_eq_some_iff.1 ha)
    have hj := (List.getElem?_eq_some_iff.1 hb)
    obtain ⟨i1, i2⟩ := hi
    obtain ⟨j1, j2⟩ := hj
    have hpw := List.pairwise_iff_getElem.1 h2
    have : cs.idxOf c = cs.idxOf d := by
      rcases Nat.lt_trichotomy (cs.idxOf c) (cs.idxOf d) with h | h | h
      · exact absurd (i2.trans j2.symm) (hpw _ _ i1 j1 h)
      · exact h
      · exact absurd (j2.trans i2.symm) (hpw _ _ j1 i1 h)
    have e1 : cs[cs.idxOf c]? = some c := by simp [List.idxOf_lt_length_of_mem hc]
    have e2 : cs[cs.idxOf d]? = some d := by simp [List.idxOf_lt_length_of_mem hd]
    rw [this, e2] at e1
    exact hne (Option.some.inj e1).symm
  · obtain ⟨a, ha, _, ⟨s, hs, hs2⟩, _⟩ := get c hc
    simp only [ha, Option.getD_some]
    exact ⟨s, hs, hs2⟩

/- Resources: the errors of package api (rEnv). Contracts of the elder kind as contracts by what is owned. No condition. -/

/-- The errors cs, below block B. -/
def rEnv (B : Nat) (ad : Nat → Addr) (cs : List Nat) : Res :=
  ⟨false, fun b => ∃ c ∈ cs, b = gl c ∨ b = (ad c).block, fun w => Env B ad cs w, fun w w' h hs hb => by
    obtain ⟨h1, h2, h3, h4⟩ := h
    refine ⟨Nat.le_trans h1 hs, fun c hc => ⟨?_, (h2 c hc).2⟩, fun c hc => ⟨?_, ?_, (h3 c hc).2.2⟩, h4⟩
    · rw [World.cell?_of_block (w := w) (hb (gl c) ⟨c, hc, .inl rfl⟩)]; exact (h2 c hc).1
    · obtain ⟨s, e⟩ := (h3 c hc).1
      exact ⟨s, by rw [World.cell?_of_block (w := w) (hb (ad c).block ⟨c, hc, .inr rfl⟩)]; exact e⟩
    · obtain ⟨x, t, e⟩ := (h3 c hc).2.1
      exact ⟨x, t, by rw [hb (ad c).block ⟨c, hc, .inr rfl⟩]; exact e⟩,
   fun w b h hb => by
    obtain ⟨c, hc, rfl | rfl⟩ := hb
    · exact (h.get hc).2
    · exact Nat.lt_of_lt_of_le (h.row c hc).2.2 h.size⟩
theorem rdEnv {B : Nat} {ad : Nat → Addr} {cs : List Nat} {c : Nat} (hc : c ∈ cs) (h0 : Nat.beq c 0 = false) : RdAt (rEnv B ad cs) (gl c) 0 [errV ad c] := fun w h j u hj => by
  have h1 : c ≠ 0 := Nat.ne_of_beq_eq_false h0
  cases j with
  | zero =>
    simp only [List.getElem?_cons_zero, Option.some.injEq] at hj
    rw [← hj, errV_pos h1]
    exact ((h : Env B ad cs w).get hc).1
  | succ j => simp at hj

theorem errV_one (ad : Nat → Addr) (c : Nat) : OneV (errV ad c) := by unfold errV; split <;> exact ⟨rfl, rfl⟩
theorem pw_of {α : Type} {R : α → α → Prop} : ∀ {L : List α}, (∀ r ∈ L, ∀ s ∈ L, R r s) → L.Pairwise R
  | [], _ => List.Pairwise.nil
  | r :: L, h => List.pairwise_cons.2 ⟨fun s hs => h r (by simp) s (by simp [hs]), pw_of fun a ha b hb => h a (by simp [ha]) b (by simp [hb])⟩
section
variable {P : Program} {f : FuncId} {args : Array Value}
/-- A contract over what is only read, as one of the elder kind. -/
theorem Spec.reads {L : List Res} {Φ : Value → List Res → Prop} (hs : Spec P f args L Φ) {w : World} (hro : L.all (fun r => !r.wr) = true) (hf : ∀ r ∈ L, r.fact w) : Calls P f args w fun e w' => ∃ u L', Φ u L' ∧ e = .returned u ∧ Chg Nil w w' := by
  have hr : ∀ r ∈ L, r.wr = false := fun r h => by simpa using List.all_eq_true.1 hro r h
  have hp : L.Pairwise (fun r s => r.wr = true ∨ s.wr = true → ∀ b, r.foot b → ¬ s.foot b) := by
    refine pw_of fun r h1 s h2 hc => ?_
    rw [hr r h1, hr s h2] at hc
    rcases hc with e | e <;> cases e
  have ho : Own w (entOf L) L w := ⟨Chg.refl _ _, fun b ⟨r, h, hb, _⟩ => ⟨r, h, hb, fun e => by cases e⟩, hf, hp, fun r h b hb => .inl ⟨r, h, hb, fun e => e⟩⟩
  refine (hs _ w w ho).mono ?_
  rintro e w' ⟨u, L', h1, h2, h3⟩
  exact ⟨u, L', h1, h2, h3.chg.mono fun x _ ⟨r, h, _, hw⟩ => by have := hw rfl; rw [hr r h] at this; cases this⟩
/-- It makes a slice of what it reads. -/
theorem spec_fresh {wr : Bool} {v : Value} {T k n T' k' n' : Nat} {xs xs' : List Value} (h : ∀ w, SliceAt w v T k n xs (blkOf v) → Calls P f args w fun e w' => ∃ v' S', e = .returned v' ∧ SliceAt w' v' T' k' n' xs' S' ∧ Chg Nil w w' ∧ Grow Nil S' w w') :
    Spec P f args [rSl wr v T k n xs] fun u L => ∃ v', u = v' ∧ L = [rSl true v' T' k' n' xs', rSl wr v T k n xs] := fun E w0 w ho =>
  (h w (ho.fact 0 rfl)).mono fun e w' ⟨v', S', he, hs, hc, hg⟩ => by
    obtain ⟨h1, h2⟩ := hs.own
    refine ⟨v', _, ⟨v', rfl, rfl⟩, he, ho.push hc h1 fun b hb => ?_⟩
    rcases hg b (h2 b hb) with f | f
    · exact f.elim
    · exact f.1
/-- It turns a slice where it lies. -/
theorem spec_turn {X : Type} {v : Value} {T k n : Nat} {xs : List Value} {r : X → Value} {n' : X → Nat} {xs' : X → List Value} {u : X → Value} {G : X → Prop} (h : ∀ w, SliceAt w v T k n xs (blkOf v) → Calls P f args w fun e w' => ∃ x, G x ∧ e = .returned (u x) ∧ SliceAt w' (r x) T k (n' x) (xs' x) (blkOf v) ∧ Chg (blkOf v) w w') :
    Spec P f args [rSl true v T k n xs] fun z L => ∃ x, G x ∧ z = u x ∧ L = [rSl true (r x) T k (n' x) (xs' x)] := fun E w0 w ho =>
  (h w (ho.fact 0 rfl)).mono fun e w' ⟨x, hG, he, hs, hc⟩ => by
    obtain ⟨h1, h2⟩ := hs.own
    exact ⟨_, _, ⟨x, hG, rfl, rfl⟩, he, ho.upd 0 rfl rfl hc h1 fun b hb => .inl (h2 b hb)⟩
end

/- Slices of structs among a law's arguments: opened. -/

theorem list_choice {α : Type} {Q : Nat → α → Prop} : ∀ (n : Nat), (∀ i, i < n → ∃ x, Q i x) → ∃ l : List α, l.length = n ∧ ∀ (i : Nat) x, l[i]? = some x → Q i x
  | 0, _ => ⟨[], rfl, fun i x h => by cases h⟩
  | n + 1, h => by
    obtain ⟨l, h1, h2⟩ := list_choice n (fun i hi => h i (by omega))
    obtain ⟨x, hx⟩ := h n (by omega)
    refine ⟨l ++ [x], by simp [h1], fun i y hy => ?_⟩
    rcases Nat.lt_or_ge i n with hi | hi
    · rw [List.getElem?_append_left (by omega)] at hy; exact h2 i y hy
    · rw [List.getElem?_append_right (by omega)] at hy
      have hin : i = n := by
        have := (List.getElem?_eq_some_iff.1 hy).1
        simp at this; omega
      subst hin
      simp [h1] at hy; subst hy; exact hx

/-- The cells of a row, one by one. -/
theorem cells_at {w : World} {base : Nat} {a : Addr} : ∀ {n : Nat} {cs : List Value}, w.cells? base a n = some cs → cs.length = n ∧ ∀ (r : Nat) u, cs[r]? = some u → w.cell? (a.add r) = some u := by
  intro n cs h
  unfold World.cells? at h
  split at h
  · have key : ∀ (l : List Nat) (cs : List Value), l.mapM (fun i => w.cell? (a.add i)) = some cs → cs.length = l.length ∧ ∀ (r : Nat) u, cs[r]? = some u → ∃ i : Nat, l[r]? = some i ∧ w.cell? (a.add i) = some u := by
      intro l
      induction l with
      | nil => intro cs h; simp at h; subst h; exact ⟨rfl, fun r u h => by cases h⟩
      | cons x l ih =>
        intro cs h
        simp only [List.mapM_cons, Option.bind_eq_bind, Option.bind_eq_some_iff] at h
        obtain ⟨v, hv, vs, hvs, hcs⟩ := h
        cases hcs
        obtain ⟨h1, h2⟩ := ih vs hvs
        refine ⟨by simp [h1], fun r u hu => ?_⟩
        cases r with
        | zero => simp at hu; subst hu; exact ⟨x, rfl, hv⟩
        | succ r => obtain ⟨i, hi, hc⟩ := h2 r u (by simpa using hu); exact ⟨i, by simpa using hi, hc⟩
    obtain ⟨h1, h2⟩ := key _ cs h
    refine ⟨by simpa using h1, fun r u hu => ?_⟩
    obtain ⟨i, hi, hc⟩ := h2 r u hu
    obtain ⟨hr, e⟩ := List.getElem?_eq_some_iff.1 hi
    simp at e; subst e; exact hc
  · cases h

/-- A slice's elements, each told by its cells: what each element's reading gives is asked of the caller. -/
theorem open_elems {H : Type} {P : Program} {enc : TypeId × Value → H} {W : World} {T E size fuel : Nat} {a0 : Option Addr} {len cap : Nat} {x : DataW H × List MemPlace} {α : Type} {encC : α → List Value}
    (ht : P.underlying T = some (.slice E)) (hsz : P.cellsOf E = size) (hs0 : 0 < size) (he : ∀ a, (encC a).length = size)
    (h : DataW.trod enc P W 0 (fun _ => true) true fuel T [.slice a0 len cap] = some x)
    (elem : ∀ (n : Nat) (cs : List Value) y, DataW.trod enc P W 0 (fun _ => true) true n E cs = some y → ∃ a, cs = encC a) :
    ∃ l : List α, l.length = len ∧ len ≤ cap ∧ cap ≤ maxLen ∧ ∀ (i : Nat) x, l[i]? = some x → ∃ g off, a0 = some ⟨g, off, none⟩ ∧ g < W.heap.size ∧ ∀ r u, (encC x)[r]? = some u → W.cell? ⟨g, off + i * size + r, none⟩ = some u := by
  rcases Go.Deep.open_slice ht h with ⟨hcs, _⟩ | ⟨a, len', cap', m, n, D, Pl, hcs, _, hl, hm, hmm, _, hx⟩
  · simp at hcs
    obtain ⟨rfl, rfl, rfl⟩ := hcs
    exact ⟨[], rfl, Nat.le_refl _, Nat.zero_le _, fun i x h => by cases h⟩
  · simp at hcs
    obtain ⟨rfl, rfl, rfl⟩ := hcs
    simp only [if_true] at hmm
    obtain ⟨l, h1, h2⟩ := list_choice (Q := fun i (x : α) => ∃ g off, (some a : Option Addr) = some ⟨g, off, none⟩ ∧ g < W.heap.size ∧ ∀ r u, (encC x)[r]? = some u → W.cell? ⟨g, off + i * size + r, none⟩ = some u) len (fun i hi => by
      obtain ⟨cs', hc, hd⟩ := hx i (by omega)
      obtain ⟨y, rfl⟩ := elem _ _ _ hd
      rw [hsz] at hc
      obtain ⟨c1, c2⟩ := cells_at hc
      obtain ⟨g, off, sp⟩ := a
      have h0 := c2 0 ((encC y)[0]'(by rw [he]; omega)) (List.getElem?_eq_getElem _)
      have hsp : sp = none := by
        have := World.cell?_spot h0
        rcases Nat.eq_zero_or_pos (i * size) with hz | hz
        · rw [hz] at this; simpa [Addr.add] using this
        · obtain ⟨cs0, hc0, hd0⟩ := hx 0 (by omega)
          obtain ⟨y0, rfl⟩ := elem _ _ _ hd0
          rw [hsz, Nat.zero_mul] at hc0
          obtain ⟨_, e2⟩ := cells_at hc0
          have := World.cell?_spot (e2 0 ((encC y0)[0]'(by rw [he]; omega)) (List.getElem?_eq_getElem _))
          simpa [Addr.add] using this
      subst hsp
      refine ⟨y, g, off, rfl, ?_, fun r u hu => ?_⟩
      · have := World.block_lt_of_cell? _ _ h0
        simpa [Addr.add_lit] using this
      · have := c2 r u hu
        rwa [Addr.add_lit, Addr.add_lit] at this)
    exact ⟨l, h1, hl, hm, h2⟩

end Go.Proofs.YtbdolnbgjkhdnaaGreatDoor
/- Arguments of any shape (numbers, texts, bools, structs, slices, one within another) opened at once, over any program. No condition. -/
namespace Go.Proofs.YtbdolnbgjkhdnaaGreatDoor
open Go.RowKit Go.ChangeShapes Go.WideShapes
set_option linter.unusedVariables false
set_option linter.unusedSimpArgs false

/-- Shapes: a struct is a chain of 'and's that ends in 'unit'. -/
inductive Sh where
  | int | str | bool | unit
  | and (a b : Sh)
  | slice (s : Sh)

namespace Sh
def D : Sh → Type
  | int => Int
  | str => ByteArray
  | bool => Bool
  | unit => Unit
  | and a b => a.D × b.D
  | slice s => Option Addr × Nat × List s.D
def size : Sh → Nat
  | unit => 0
  | and a b => a.size + b.size
  | _ => 1
def cells : (s : Sh) → s.D → List Value
  | int, d => [.int .i64 d]
  | str, d => [.string d]
  | bool, d => [.bool d]
  | unit, _ => []
  | and a b, d => a.cells d.1 ++ b.cells d.2
  | slice _, d => [.slice d.1 d.2.2.length d.2.1]
def val : (s : Sh) → s.D → Value
  | int, d => .int .i64 d
  | str, d => .string d
  | bool, d => .bool d
  | unit, d => .agg #[]
  | and a b, d => .agg (a.cells d.1 ++ b.cells d.2).toArray
  | slice _, d => .slice d.1 d.2.2.length d.2.1
/-- What is known of such data, below block B. -/
def At (W : World) (B : Nat) : (s : Sh) → s.D → Prop
  | int, d => -9223372036854775808 ≤ (show Int from d) ∧ (show Int from d) ≤ 9223372036854775807
  | str, d => (show ByteArray from d).size ≤ 9223372036854775807
  | and a b, d => a.At W B d.1 ∧ b.At W B d.2
  | slice s, d => d.2.2.length ≤ d.2.1 ∧ d.2.1 ≤ 9223372036854775807 ∧ ∀ (i : Nat) x, d.2.2[i]? = some x → s.At W B x ∧
      ∃ g off, d.1 = some ⟨g, off, none⟩ ∧ g < B ∧ ∀ (r : Nat) u, (s.cells x)[r]? = some u → W.cell? ⟨g, off + i * s.size + r, none⟩ = some u
  | _, _ => True

/-- So many bytes an element has at least. -/
def bytes : Sh → Nat
  | int => 8
  | str => 16
  | bool => 1
  | unit => 0
  | and a b => a.bytes + b.bytes
  | slice _ => 24
/-- What the weights tell of such data. -/
def Sz : (s : Sh) → s.D → Prop
  | and a b, d => a.Sz d.1 ∧ b.Sz d.2
  | slice s, d => d.2.1 * s.bytes ≤ 140737488355327 ∧ ∀ (i : Nat) x, d.2.2[i]? = some x → s.Sz x
  | str, d => (show ByteArray from d).size ≤ 140737488355327
  | _, _ => True

theorem cells_len : ∀ (s : Sh) (d : s.D), (s.cells d).length = s.size
  | int, _ => rfl
  | str, _ => rfl
  | bool, _ => rfl
  | unit, _ => rfl
  | and a b, d => by simp [cells, size, cells_len a, cells_len b]
  | slice _, _ => rfl

theorem At.keep {S : Nat → Prop} {W W' : World} {B : Nat} (c : Chg S W W') (hB : B ≤ W.heap.size) (hS : ∀ x, S x → B ≤ x) : ∀ (s : Sh) (d : s.D), s.At W B d → s.At W' B d
  | int, _, h => h
  | str, _, h => h
  | bool, _, h => h
  | unit, _, h => h
  | and a b, d, h => ⟨At.keep c hB hS a d.1 h.1, At.keep c hB hS b d.2 h.2⟩
  | slice s, d, h => ⟨h.1, h.2.1, fun i x hx => by
      obtain ⟨h1, g, off, e, hg, h2⟩ := h.2.2 i x hx
      exact ⟨At.keep c hB hS s x h1, g, off, e, hg, fun r u hu => (c.cell (p := ⟨g, off + i * s.size + r, none⟩) (Nat.lt_of_lt_of_le hg hB) (fun s => by have := hS _ s; simp at this; omega)).trans (h2 r u hu)⟩⟩

def fitsAll (P : Program) (ok : TypeId → Sh → Bool) : List Field → Nat → Sh → Bool
  | [], _, unit => true
  | f :: fs, off, and a b => ok f.type a && f.offset == off && P.cellsOf f.type == a.size && fitsAll P ok fs (off + a.size) b
  | _, _, _ => false
/-- Is a type of a shape? -/
def fits (P : Program) : Nat → TypeId → Sh → Bool
  | 0, _, _ => false
  | n + 1, t, int => match P.underlying t with | some (.int .i64) => true | _ => false
  | n + 1, t, str => match P.underlying t with | some .string => true | _ => false
  | n + 1, t, bool => match P.underlying t with | some .bool => true | _ => false
  | n + 1, t, slice s => match P.underlying t with | some (.slice e) => fits P n e s && P.cellsOf e == s.size && decide (0 < s.size) && decide (s.bytes ≤ P.bytesOf e) | _ => false
  | n + 1, t, s => match P.underlying t with | some (.struct fs) => fitsAll P (fits P n) fs.toList 0 s && P.cellsOf t == s.size | _ => false

theorem open_all {H : Type} {P : Program} {enc : TypeId × Value → H} {W : World} {m : Nat} {Z : Prop} (ok : TypeId → Sh → Bool)
    (hok : ∀ (t : TypeId) (s : Sh) (cs : List Value) (x : DataW H × List MemPlace), ok t s = true → DataW.trod enc P W 0 (fun _ => true) true m t cs = some x → ∃ d : s.D, cs = s.cells d ∧ s.At W W.heap.size d ∧ ((∀ n ∈ x.1.weights P t, n ≤ reachBytes) → s.Sz d)) :
    ∀ (fs : List Field) (off : Nat) (s : Sh) (cs : List Value), fitsAll P ok fs off s = true → cs.length = off + s.size →
      (∀ (i : Nat) (f : Field), fs[i]? = some f → ∃ x, DataW.trod enc P W 0 (fun _ => true) true m f.type ((cs.drop f.offset).take (P.cellsOf f.type)) = some x ∧ (Z → ∀ n ∈ x.1.weights P f.type, n ≤ reachBytes)) →
      ∃ d : s.D, cs.drop off = s.cells d ∧ s.At W W.heap.size d ∧ (Z → s.Sz d)
  | [], off, unit, cs, _, hl, _ => ⟨(), by simp [cells, size] at hl ⊢; omega, trivial, fun _ => trivial⟩
  | f :: fs, off, and a b, cs, hf, hl, hx => by
    simp only [fitsAll, Bool.and_eq_true, beq_iff_eq] at hf
    obtain ⟨⟨⟨h1, h2⟩, h3⟩, h4⟩ := hf
    obtain ⟨x, hx0, hz0⟩ := hx 0 f rfl
    rw [h2, h3] at hx0
    obtain ⟨d1, e1, a1, z1⟩ := hok f.type a _ x h1 hx0
    obtain ⟨d2, e2, a2, z2⟩ := open_all ok hok fs (off + a.size) b cs h4 (by rw [hl]; simp [size]; omega) (fun i f' hf' => hx (i + 1) f' (by simpa using hf'))
    refine ⟨(d1, d2), ?_, ⟨a1, a2⟩, fun z => ⟨z1 (hz0 z), z2 z⟩⟩
    show cs.drop off = a.cells d1 ++ b.cells d2
    rw [← e1, ← e2, ← List.drop_drop, List.take_append_drop]
  | [], _, int, _, h, _, _ => by simp [fitsAll] at h
  | [], _, str, _, h, _, _ => by simp [fitsAll] at h
  | [], _, bool, _, h, _, _ => by simp [fitsAll] at h
  | [], _, and _ _, _, h, _, _ => by simp [fitsAll] at h
  | [], _, slice _, _, h, _, _ => by simp [fitsAll] at h
  | _ :: _, _, int, _, h, _, _ => by simp [fitsAll] at h
  | _ :: _, _, str, _, h, _, _ => by simp [fitsAll] at h
  | _ :: _, _, bool, _, h, _, _ => by simp [fitsAll] at h
  | _ :: _, _, unit, _, h, _, _ => by simp [fitsAll] at h
  | _ :: _, _, slice _, _, h, _, _ => by simp [fitsAll] at h

theorem open_struct {H : Type} {P : Program} {enc : TypeId × Value → H} {W : World} {n m : Nat} {t : TypeId} {s : Sh} {cs : List Value} {x : DataW H × List MemPlace}
    (hok : ∀ (t : TypeId) (s : Sh) (m : Nat) (cs : List Value) (x : DataW H × List MemPlace), fits P n t s = true → DataW.trod enc P W 0 (fun _ => true) true m t cs = some x → ∃ d : s.D, cs = s.cells d ∧ s.At W W.heap.size d ∧ ((∀ n ∈ x.1.weights P t, n ≤ reachBytes) → s.Sz d))
    (hf : (match P.underlying t with | some (.struct fs) => fitsAll P (fits P n) fs.toList 0 s && P.cellsOf t == s.size | _ => false) = true)
    (h : DataW.trod enc P W 0 (fun _ => true) true m t cs = some x) : ∃ d : s.D, cs = s.cells d ∧ s.At W W.heap.size d ∧ ((∀ n ∈ x.1.weights P t, n ≤ reachBytes) → s.Sz d) := by
  split at hf
  · rename_i fs hu
    simp only [Bool.and_eq_true, beq_iff_eq] at hf
    obtain ⟨xs, m', _, hxe, hl, hlen, hfs⟩ := DataW.trod_struct hu h
    obtain ⟨d, e, ha, hz⟩ := open_all (Z := ∀ n ∈ x.1.weights P t, n ≤ reachBytes) (fits P n) (fun t s cs x hf h => hok t s m' cs x hf h) fs.toList 0 s cs hf.1 (by rw [hl, hf.2]; omega) (fun i f hi => by
      have hi' : fs[i]? = some f := by simpa using hi
      have hlt : i < xs.length := by rw [hlen]; exact (Array.getElem?_eq_some_iff.1 hi').1
      refine ⟨xs[i], (hfs i f hi').trans (List.getElem?_eq_getElem hlt), fun z n hn => z n ?_⟩
      rw [hxe]
      simp only [DataW.weights, hu]
      exact DataW.weights_mem_each (j := i) (t := f.type) (d := xs[i].1) (by simp [hi']) (by simp [List.getElem?_eq_getElem hlt]) n hn)
    exact ⟨d, by simpa using e, ha, hz⟩
  · cases hf

theorem mem_weightsAll {H : Type} {P : Program} {e : TypeId} : ∀ {ds : List (DataW H)} {d : DataW H}, d ∈ ds → ∀ n ∈ d.weights P e, n ∈ DataW.weightsAll P e ds
  | d0 :: ds, d, hd, n, hn => by
    simp only [DataW.weightsAll, List.mem_append]
    rcases List.mem_cons.1 hd with rfl | hd
    · exact .inl hn
    · exact .inr (mem_weightsAll hd n hn)

theorem open_sh {H : Type} {P : Program} {enc : TypeId × Value → H} {W : World} : ∀ (n : Nat) (t : TypeId) (s : Sh) (m : Nat) (cs : List Value) (x : DataW H × List MemPlace),
    fits P n t s = true → DataW.trod enc P W 0 (fun _ => true) true m t cs = some x → ∃ d : s.D, cs = s.cells d ∧ s.At W W.heap.size d ∧ ((∀ n ∈ x.1.weights P t, n ≤ reachBytes) → s.Sz d)
  | 0, t, s, _, _, _, hf, _ => by simp [fits] at hf
  | n + 1, t, int, m, cs, x, hf, h => by
    unfold fits at hf
    split at hf
    · rename_i hu
      obtain ⟨k, e, _, wf⟩ := DataW.trod_int hu h
      simp only [Lit.wf, Bool.and_eq_true, decide_eq_true_eq] at wf
      exact ⟨k, e, ⟨by simpa [IntKind.min, IntKind.signed, IntKind.bits] using wf.1, by simpa [IntKind.max, IntKind.signed, IntKind.bits] using wf.2⟩, fun _ => trivial⟩
    · cases hf
  | n + 1, t, str, m, cs, x, hf, h => by
    unfold fits at hf
    split at hf
    · rename_i hu
      obtain ⟨k, e, hx, wf⟩ := DataW.trod_string hu h
      refine ⟨k, e, by unfold maxLen at wf; simp only [At]; omega, fun hz => ?_⟩
      have := hz k.data.toList.length (by rw [hx]; simp [DataW.weights])
      have h2 : k.data.toList.length = k.size := Array.length_toList
      rw [h2] at this
      exact Nat.le_trans this (Nat.le_of_lt_succ reachBytes_lt)
    · cases hf
  | n + 1, t, bool, m, cs, x, hf, h => by
    unfold fits at hf
    split at hf
    · rename_i hu
      obtain ⟨k, e, _⟩ := DataW.trod_bool hu h
      exact ⟨k, e, trivial, fun _ => trivial⟩
    · cases hf
  | n + 1, t, slice s, m, cs, x, hf, h => by
    unfold fits at hf
    split at hf
    · rename_i e hu
      simp only [Bool.and_eq_true, beq_iff_eq, decide_eq_true_eq] at hf
      obtain ⟨⟨⟨hf1, hsz⟩, hs0⟩, hby⟩ := hf
      rcases Go.Deep.open_slice hu h with ⟨rfl, _⟩ | ⟨a, len, cap, mm, n', D', Pl, rfl, _, hl, hm, hmm, hxe, hx⟩
      · exact ⟨(none, 0, []), rfl, ⟨Nat.le_refl _, by simp, fun i x h => by cases h⟩, fun _ => ⟨by simp, fun i x h => by cases h⟩⟩
      · simp only [if_true] at hmm
        obtain ⟨l, h1, h2⟩ := list_choice (Q := fun i (y : s.D) => s.At W W.heap.size y ∧ ((∀ n ∈ x.1.weights P t, n ≤ reachBytes) → s.Sz y) ∧ ∃ g off, (some a : Option Addr) = some ⟨g, off, none⟩ ∧ g < W.heap.size ∧ ∀ (r : Nat) u, (s.cells y)[r]? = some u → W.cell? ⟨g, off + i * s.size + r, none⟩ = some u) len (fun i hi => by
          obtain ⟨cs', hc, hd⟩ := hx i (by omega)
          obtain ⟨y, rfl, hy, hyz⟩ := open_sh n e s _ _ _ hf1 hd
          rw [hsz] at hc
          obtain ⟨c1, c2⟩ := cells_at hc
          obtain ⟨g, off, sp⟩ := a
          have hlen := cells_len s y
          have h0 := c2 0 ((s.cells y)[0]'(by omega)) (List.getElem?_eq_getElem _)
          have hsp : sp = none := by
            have := World.cell?_spot h0
            rcases Nat.eq_zero_or_pos (i * s.size) with hz | hz
            · rw [hz] at this; simpa [Addr.add] using this
            · obtain ⟨cs0, hc0, hd0⟩ := hx 0 (by omega)
              obtain ⟨y0, rfl, _⟩ := open_sh n e s _ _ _ hf1 hd0
              rw [hsz, Nat.zero_mul] at hc0
              obtain ⟨_, e2⟩ := cells_at hc0
              have hlen0 := cells_len s y0
              have := World.cell?_spot (e2 0 ((s.cells y0)[0]'(by omega)) (List.getElem?_eq_getElem _))
              simpa [Addr.add] using this
          subst hsp
          refine ⟨y, hy, fun hz => hyz (fun k hk => hz k ?_), g, off, rfl, ?_, fun r u hu => ?_⟩
          · rw [hxe]
            simp only [DataW.weights, hu, List.mem_cons, List.mem_append]
            exact .inr (.inl (mem_weightsAll (List.mem_map.2 ⟨i, List.mem_range.2 hi, rfl⟩) k hk))
          · have := World.block_lt_of_cell? _ _ h0
            simpa [Addr.add_lit] using this
          · have := c2 r u hu
            rwa [Addr.add_lit, Addr.add_lit] at this)
        refine ⟨(some a, cap, l), by simp [cells, h1], ⟨by simpa [h1] using hl, by unfold maxLen at hm; simp only; omega, fun i x hx => ⟨(h2 i x hx).1, (h2 i x hx).2.2⟩⟩, fun hz => ⟨?_, fun i x hx => (h2 i x hx).2.1 hz⟩⟩
        have := hz (cap * P.bytesOf e) (by
          rw [hxe]
          simp only [DataW.weights, hu, List.mem_cons, List.length_map, List.length_range]
          refine .inl ?_
          rw [hmm, Nat.add_sub_cancel' hl])
        have h3 := Nat.mul_le_mul_left cap hby
        have h4 := reachBytes_lt
        show cap * s.bytes ≤ _
        omega
    · cases hf
  | n + 1, t, unit, m, cs, x, hf, h => open_struct (fun t s m cs x hf h => open_sh n t s m cs x hf h) hf h
  | n + 1, t, and a b, m, cs, x, hf, h => open_struct (fun t s m cs x hf h => open_sh n t s m cs x hf h) hf h

/-- An argument of a shape, with what its weights tell. -/
theorem open_val2 {H : Type} {P : Program} {enc : TypeId × Value → H} {W : World} {r : Reach} {b0 : Nat} {v : Value} {dd : DataW H} {p : List MemPlace} (n : Nat) (t : TypeId) (s : Sh) (hf : fits P n t s = true)
    (hv : Value.okWide P W r b0 t v) (h : DataW.Trod enc P W 0 (fun _ => true) true t v dd p) : ∃ d : s.D, v = s.val d ∧ s.At W W.heap.size d ∧ ((∀ n ∈ dd.weights P t, n ≤ reachBytes) → s.Sz d) := by
  obtain ⟨fuel, hh⟩ := h
  obtain ⟨d, e, ha, hz⟩ := open_sh n t s _ _ _ hf hh
  refine ⟨d, ?_, ha, hz⟩
  cases n with
  | zero => simp [fits] at hf
  | succ n =>
    have struct : ∀ s : Sh, ∀ d : s.D, v.cells.toList = s.cells d → (match P.underlying t with | some (.struct fs) => fitsAll P (fits P n) fs.toList 0 s && P.cellsOf t == s.size | _ => false) = true → v = .agg (s.cells d).toArray := fun s d e hf => by
      split at hf
      · rename_i hu
        obtain ⟨cs, rfl, _⟩ := okWide_struct hu hv
        rw [← e]; simp [Value.cells]
      · cases hf
    cases s with
    | int =>
      unfold fits at hf
      split at hf
      · rename_i hu
        obtain ⟨k, rfl⟩ := okWide_int hu hv
        simpa [Value.cells, cells, val] using e
      · cases hf
    | str =>
      unfold fits at hf
      split at hf
      · rename_i hu
        obtain ⟨k, rfl⟩ := okWide_string hu hv
        simpa [Value.cells, cells, val] using e
      · cases hf
    | bool =>
      unfold fits at hf
      split at hf
      · rename_i hu
        obtain ⟨k, rfl⟩ := okWide_bool hu hv
        simpa [Value.cells, cells, val] using e
      · cases hf
    | slice s =>
      unfold fits at hf
      split at hf
      · rename_i hu
        obtain ⟨a, l, c, rfl⟩ := okWide_slice hu hv
        simpa [Value.cells, cells, val] using e
      · cases hf
    | unit => exact struct _ d e hf
    | and a b => exact struct _ d e hf
/-- An argument of a shape. -/
theorem open_val {H : Type} {P : Program} {enc : TypeId × Value → H} {W : World} {r : Reach} {b0 : Nat} {v : Value} {dd : DataW H} {p : List MemPlace} (n : Nat) (t : TypeId) (s : Sh) (hf : fits P n t s = true)
    (hv : Value.okWide P W r b0 t v) (h : DataW.Trod enc P W 0 (fun _ => true) true t v dd p) : ∃ d : s.D, v = s.val d ∧ s.At W W.heap.size d := by
  obtain ⟨d, h1, h2, _⟩ := open_val2 n t s hf hv h
  exact ⟨d, h1, h2⟩
theorem weights_le {H : Type} {P : Program} {ts : List TypeId} {ds : List (DataW H)} (h : (DataW.weightsEach P ts ds).all (· ≤ reachBytes) = true) {j : Nat} {t : TypeId} {d : DataW H} (ht : ts[j]? = some t) (hd : ds[j]? = some d) :
    ∀ n ∈ d.weights P t, n ≤ reachBytes := fun n hn => of_decide_eq_true (List.all_eq_true.1 h n (DataW.weights_mem_each ht hd n hn))
end Sh
end Go.Proofs.YtbdolnbgjkhdnaaGreatDoor

namespace Go.Proofs.YtbdolnbgjkhdnaaGreatDoor
open Go.RowKit
/- An argument that is a slice, told by its elements and only read (rArg). Over any program, no condition. -/

/-- A slice whose elements are l, each as enc tells (k cells); it is only read. -/
def rArg {α : Type} (v : Value) (k : Nat) (enc : α → List Value) (l : List α) : Res :=
  ⟨false, fun b => b = blkN v ∧ ∃ (i : Nat) (x : α) (r : Nat) (u : Value), l[i]? = some x ∧ (enc x)[r]? = some u,
   fun w => (∃ ad cap, v = .slice ad l.length cap ∧ cap ≤ 9223372036854775807 ∧ l.length ≤ cap ∧ (∀ i, i < l.length → ad = some ⟨blkN v, offN v, none⟩)) ∧ ∀ (i : Nat) x, l[i]? = some x → ∀ (r : Nat) u, (enc x)[r]? = some u → w.cell? ⟨blkN v, offN v + i * k + r, none⟩ = some u,
   fun w w' h _ hb => ⟨h.1, fun i x hx r u hu => by rw [World.cell?_of_block (w := w) (hb (blkN v) ⟨rfl, i, x, r, u, hx, hu⟩)]; exact h.2 i x hx r u hu⟩,
   fun w b h ⟨hb, i, x, r, u, hx, hu⟩ => by rw [hb]; exact World.block_lt_of_cell? w _ (h.2 i x hx r u hu)⟩
theorem arg_of_sh {W : World} {s : Sh} {a0 : Option Addr} {cap : Nat} {l : List s.D} (h : (Sh.slice s).At W W.heap.size (a0, cap, l)) : (rArg (.slice a0 l.length cap) s.size s.cells l).fact W := by
  obtain ⟨h1, h2, h3⟩ := h
  refine ⟨⟨a0, cap, rfl, h2, h1, fun i hi => ?_⟩, fun i x hx r u hu => ?_⟩
  · obtain ⟨_, g, off, e, _⟩ := h3 i l[i] (List.getElem?_eq_getElem hi)
    have e' : a0 = _ := e
    rw [e']; rfl
  · obtain ⟨_, g, off, e, _, hc⟩ := h3 i x hx
    have e' : a0 = _ := e
    subst e'
    exact hc r u hu
theorem rdArg {α : Type} {v : Value} {k : Nat} {enc : α → List Value} {l : List α} {i : Nat} {x : α} (hi : l[i]? = some x) (r : Nat) {vs : List Value} (h : ((enc x).drop r).take vs.length = vs) :
    RdAt (rArg v k enc l) (blkN v) (offN v + i * k + r) vs := fun w hf j u hj => by
  have hl := (List.getElem?_eq_some_iff.1 hj).1
  have h2 := congrArg (fun l => l[j]?) h
  simp only [List.getElem?_take, List.getElem?_drop, if_pos hl] at h2
  rw [Nat.add_assoc]
  exact hf.2 i x hi (r + j) u (by rw [h2]; exact hj)
theorem rdArg0 {α : Type} {v : Value} {k : Nat} {enc : α → List Value} {l : List α} {i : Nat} {x : α} (hi : l[i]? = some x) {vs : List Value} (h : (enc x).take vs.length = vs) :
    RdAt (rArg v k enc l) (blkN v) (offN v + i * k) vs := rdArg (r := 0) hi h
section
variable {P : Program} {a : Act} {w w0 : World} {E : Ent} {L : List Res}
theorem g_lenA {α : Type} {enc : α → List Value} {l : List α} {k : Nat} {dst : Option Tmp} {T : TypeId} {x : Operand} {ty : TypeId} {pos : String} {after : Array Edge} {g : Option (Nat × Bool)} {v : Value} (d : TypeId) (hx : (a.eval x, P.underlying T) = (v, some (.slice d))) (i : Nat) (hi : L[i]? = some (rArg v k enc l)) :
    Gives P w0 E L ⟨dst, .call { callee := .builtin .len, args := #[x], argTypes := #[T] }, ty, pos, after, g⟩ a (.int .i64 l.length) := fun w h => by
  obtain ⟨h1, h2⟩ : a.eval x = v ∧ P.underlying T = _ := by simpa using hx
  obtain ⟨⟨ad, cap, e, _⟩, _⟩ := h.fact i hi
  rw [e] at h1
  simp [execOp, resolve, invoke, builtin, Builtin.len_, h1, Sem.run_bind, run_underlying h2, goInt]
theorem g_idxA {α : Type} {enc : α → List Value} {l : List α} {k : Nat} {dst : Option Tmp} {T : TypeId} {x y : Operand} {ty : TypeId} {pos : String} {after : Array Edge} {g : Option (Nat × Bool)} {v : Value} (d : TypeId) (j : Nat) (hx : (a.eval x, a.eval y, P.underlying T, (P.info? d).map (·.size)) = (v, .int .i64 (j : Int), some (.slice d), some k)) (hj : j < l.length) (i : Nat) (hi : L[i]? = some (rArg v k enc l)) :
    Gives P w0 E L ⟨dst, .indexAddr T x y, ty, pos, after, g⟩ a (.pointer (some ⟨blkN v, offN v + j * k, none⟩)) := fun w h => by
  obtain ⟨h1, h2, h3, h4⟩ : a.eval x = v ∧ a.eval y = _ ∧ P.underlying T = _ ∧ (P.info? d).map (·.size) = some k := by simpa using hx
  obtain ⟨⟨ad, cap, e, _, _, hp⟩, _⟩ := h.fact i hi
  obtain rfl := hp j hj
  obtain ⟨B, hB⟩ : ∃ B, B = blkN v := ⟨_, rfl⟩
  obtain ⟨O, hO⟩ : ∃ O, O = offN v := ⟨_, rfl⟩
  rw [← hB, ← hO] at e ⊢
  subst e
  have hz := sizeOf_run (w := w) h4
  have hi1 : (0 : Int) ≤ (j : Int) ∧ (j : Int) < (l.length : Int) := by omega
  simp only [execOp, Instr.indexAt, h1, h2, asIntOf, Sem.run_bind, Sem.run_pure, Result.andThen_ok, run_underlying h3]
  simp only [Sem.run_ite, hi1, and_self, if_true, Sem.run_bind, hz, Result.andThen_ok, Sem.run_pure, Int.toNat_natCast, Addr.add_lit]
end

/- The operations' laws by what is owned: a part of a slice, a slice appended to a slice. Over any program, no condition. -/

/-- v[lo:hi], each element k cells. -/
def subV (k : Nat) (v : Value) (lo hi : Nat) : Value := match v with
  | .slice a _ cap => .slice (if cap = lo then a else a.map (·.add (lo * k))) (hi - lo) (cap - lo)
  | v => v
/-- What a slice's value is, whoever owns it: n elements; the cells xs from its beginning on. -/
def SlRd (r : Res) (v : Value) (n : Nat) (xs : List Value) : Prop := ∀ w, r.fact w → (∃ ad cap, v = .slice ad n cap ∧ n ≤ cap ∧ cap ≤ 9223372036854775807 ∧ ∀ i, i < n → ad = some ⟨blkN v, offN v, none⟩) ∧ ∀ j u, xs[j]? = some u → w.cell? ⟨blkN v, offN v + j, none⟩ = some u
theorem slRd_sl {wr : Bool} {v : Value} {T k n : Nat} {xs : List Value} : SlRd (rSl wr v T k n xs) v n xs := fun w hf => by
  refine ⟨?_, fun j u hj => ?_⟩
  · obtain ⟨h1, ⟨rfl, h2⟩ | ⟨g, off, cap, cs, rfl, hb, h2, h3, h4, h5, _⟩⟩ := hf
    · exact ⟨none, 0, by rw [h2], by omega, by omega, fun i hi => by omega⟩
    · exact ⟨_, cap, rfl, h2, by unfold maxLen at h3; omega, fun _ _ => rfl⟩
  · have := rdSl (wr := wr) (v := v) (T := T) (k := k) (n := n) (xs := xs) 0 (vs := xs) (fun j u h => by rw [Nat.zero_add]; exact h) w hf j u hj
    simpa using this
theorem slRd_arg {α : Type} {v : Value} {k : Nat} {enc : α → List Value} {l : List α} (he : ∀ a, (enc a).length = k) (hk : 0 < k) : SlRd (rArg v k enc l) v l.length (l.flatMap enc) := fun w hf => by
  obtain ⟨⟨ad, cap, e, h2, h1, h3⟩, h4⟩ := hf
  refine ⟨⟨ad, cap, e, h1, h2, h3⟩, fun j u hj => ?_⟩
  have hjl := (List.getElem?_eq_some_iff.1 hj).1
  rw [flat_len enc he] at hjl
  have hi : j / k < l.length := Nat.div_lt_of_lt_mul (by rw [Nat.mul_comm]; exact hjl)
  obtain ⟨x, hx⟩ : ∃ x, l[j / k]? = some x := ⟨_, List.getElem?_eq_getElem hi⟩
  have hjm : j = j / k * k + j % k := by rw [Nat.mul_comm]; exact (Nat.div_add_mod j k).symm
  have := h4 (j / k) x hx (j % k) u (by rw [← flat_get enc he l (j / k) (j % k) x hx (Nat.mod_lt _ hk), ← hjm]; exact hj)
  rw [Nat.add_assoc, ← hjm] at this
  exact this
section
variable {P : Program} {a : Act} {w w0 : World} {E : Ent} {L M : List Res} {K : Act → World → Prop} {Q : Exit → Act → World → Prop} {ops : Array Oper} {rest : List Oper}
def boundOf (d : Int) : Option Value → Option Int
  | none => some d
  | some (.int _ i) => some i
  | _ => none
theorem bound_some {d : Int} {V : Option Value} {z : Int} (h : boundOf d V = some z) : (V = none ∧ z = d) ∨ ∃ k, V = some (.int k z) := by
  cases V with
  | none => exact .inl ⟨rfl, by simpa [boundOf] using h.symm⟩
  | some v => cases v <;> simp [boundOf] at h; subst h; exact .inr ⟨_, rfl⟩
theorem sliceBounds_run {LV HV : Option Value} {l h n cap : Nat} (hlo : boundOf 0 LV = some (l : Int)) (hhi : boundOf (n : Int) HV = some (h : Int)) (hlh : l ≤ h) (hn : h ≤ n) (hc : n ≤ cap) : (Instr.sliceBounds true n cap LV HV none).run P w = .ok (l, h, cap) w := by
  have e1 : (0 : Int) ≤ (l : Int) ∧ (l : Int) ≤ (h : Int) := by omega
  have e2 : (0 : Int) ≤ (h : Int) ∧ (h : Int) ≤ (cap : Int) := by omega
  have e3 : (l : Int).toNat = l := Int.toNat_natCast l
  have e4 : (h : Int).toNat = h := Int.toNat_natCast h
  have hhc : h ≤ cap := by omega
  rcases bound_some hlo with ⟨rfl, hl⟩ | ⟨kl, rfl⟩ <;> rcases bound_some hhi with ⟨rfl, hh⟩ | ⟨kh, rfl⟩
  · obtain rfl : l = 0 := by omega
    obtain rfl : h = n := by omega
    rfl
  · obtain rfl : l = 0 := by omega
    simp only [Instr.sliceBounds, Instr.sliceBound, asIntOf, Sem.run_bind, Sem.run_pure, Result.andThen_ok]
    simp [e2, hhc, hlh]
  · obtain rfl : h = n := by omega
    simp [Instr.sliceBounds, Instr.sliceBound, asIntOf, e1, hlh, hhc]
  · simp [Instr.sliceBounds, Instr.sliceBound, asIntOf, e1, e2, hlh, hhc]
/-- v[lo:hi]. -/
theorem g_sub {r : Res} {dst : Option Tmp} {T : TypeId} {x : Operand} {lo hi : Option Operand} {ty : TypeId} {pos : String} {after : Array Edge} {g : Option (Nat × Bool)} {v : Value} {n k : Nat} {xs : List Value} {d : TypeId} (l h : Nat)
    (hx : (a.eval x, P.underlying T, (P.info? d).map (·.size)) = (v, some (.slice d), some k)) (hlo : boundOf 0 (lo.map a.eval) = some (l : Int)) (hhi : boundOf (n : Int) (hi.map a.eval) = some (h : Int)) (hlh : l ≤ h) (hn : h ≤ n) (i : Nat) (hi' : L[i]? = some r) (hr : SlRd r v n xs) :
    Gives P w0 E L ⟨dst, .slice T x lo hi none, ty, pos, after, g⟩ a (subV k v l h) := fun w ho => by
  obtain ⟨h1, h3, h4⟩ : a.eval x = v ∧ P.underlying T = _ ∧ (P.info? d).map (·.size) = some k := by simpa using hx
  obtain ⟨⟨ad, cap, e, hc1, hc2, _⟩, _⟩ := hr w (ho.fact i hi')
  have hz := sizeOf_run (w := w) h4
  have hb := sliceBounds_run (P := P) (w := w) hlo hhi hlh hn hc1
  rw [e] at h1
  simp only [execOp, Instr.sliceAt, h1, Option.map_none, Sem.run_bind, run_underlying h3, Result.andThen_ok, Instr.slice, hb, hz, Sem.run_pure]
  rw [e]
  rfl
theorem bnd {d t : Int} {l : Nat} {k : IntKind} (h : t = (l : Int)) : boundOf d (some (.int k t)) = some (l : Int) := by subst h; rfl
theorem g_sub2 {r : Res} {dst : Option Tmp} {T : TypeId} {x : Operand} {lo hi : Option Operand} {ty : TypeId} {pos : String} {after : Array Edge} {g : Option (Nat × Bool)} {v : Value} {n k : Nat} {xs : List Value} {d : TypeId} {LV HV : Option Value} (l h : Nat)
    (hx : (a.eval x, P.underlying T, (P.info? d).map (·.size), lo.map a.eval, hi.map a.eval) = (v, some (.slice d), some k, LV, HV)) (hlo : boundOf 0 LV = some (l : Int)) (hhi : boundOf (n : Int) HV = some (h : Int)) (hlh : l ≤ h) (hn : h ≤ n) (i : Nat) (hi' : L[i]? = some r) (hr : SlRd r v n xs) :
    Gives P w0 E L ⟨dst, .slice T x lo hi none, ty, pos, after, g⟩ a (subV k v l h) := by
  simp only [Prod.mk.injEq] at hx
  obtain ⟨e1, e2, e3, e4, e5⟩ := hx
  exact g_sub l h (by rw [e1, e2, e3]) (by rw [e4]; exact hlo) (by rw [e5]; exact hhi) hlh hn i hi' hr
theorem flat_sub {α : Type} {enc : α → List Value} {k : Nat} (he : ∀ a, (enc a).length = k) {l : List α} {lo hi : Nat} (hlo : lo ≤ hi) (hhi : hi ≤ l.length) {j : Nat} {u : Value} (h : (((l.take hi).drop lo).flatMap enc)[j]? = some u) : (l.flatMap enc)[lo * k + j]? = some u := by
  have e1 : l = l.take lo ++ ((l.take hi).drop lo ++ l.drop hi) := by
    rw [← List.append_assoc, show l.take lo = (l.take hi).take lo by rw [List.take_take, Nat.min_eq_left hlo], List.take_append_drop, List.take_append_drop]
  have hl : ((l.take lo).flatMap enc).length = lo * k := by rw [flat_len enc he, List.length_take, Nat.min_eq_left (by omega)]
  have hj := (List.getElem?_eq_some_iff.1 h).1
  rw [e1, List.flatMap_append, List.flatMap_append, List.getElem?_append_right (by omega), hl, Nat.add_sub_cancel_left, List.getElem?_append_left hj]
  exact h
/-- append of nothing. -/
theorem run_append_none {T ty E : TypeId} {i : TypeInfo} (ht : P.underlying T = some (.slice E)) (hi : P.info? E = some i) {v : Value} {n c k : Nat} {xs : List Value} {S : Nat → Prop} (h : SliceAt w v E k n xs S) :
    (Builtin.append_ #[T, T] ty #[v, .slice none 0 c]).run P w = .ok v w := by
  obtain ⟨hlen, ⟨rfl, rfl⟩ | ⟨g, off, cap, cs, rfl, hbk, hnc, hcm, hoff, hcells, hS⟩⟩ := h
  · simp [Builtin.append_, run_underlying ht, sizeOf, typeInfo, hi, Builtin.lenOf, Builtin.firstCells]
  · simp [Builtin.append_, run_underlying ht, sizeOf, typeInfo, hi, Builtin.lenOf, Builtin.firstCells, hnc, storeCells]
theorem op_apps {α : Type} {enc : α → List Value} {l l2 : List α} {dst : Option Tmp} {T : TypeId} {s x : Operand} {ty : TypeId} {pos : String} {after : Array Edge} {g : Option (Nat × Bool)} {v v2 : Value} {size : Nat} {d : TypeId} {r : Res} (lo hi : Nat)
    (hx : (a.eval s, a.eval x, P.underlying T, okInfo P d size) = (v, subV size v2 lo hi, some (.slice d), true)) (he : ∀ x, (enc x).length = size) (h1 : ∀ x, (enc x).all (·.oneCell') = true) (hlo : lo ≤ hi) (hhi : hi ≤ l2.length)
    (h : Own w0 E L w) (i : Nat) (hi' : L[i]? = some (rRows true v d size enc l)) (j : Nat) (hj : L[j]? = some r) (hr : SlRd r v2 l2.length (l2.flatMap enc)) (hb : l.length + (hi - lo) < 100000000000)
    (hK : ∀ v' w', Own w0 E (L.set i (rRows true v' d size enc (l ++ (l2.take hi).drop lo))) w' → K (a.put dst v') w') : Oper.wp P ⟨dst, .call { callee := .builtin .append, args := #[s, x], argTypes := #[T, T] }, ty, pos, after, g⟩ a w K Q := by
  simp only [Prod.mk.injEq] at hx
  obtain ⟨hs, hx, h3, h4'⟩ := hx
  obtain ⟨z, bytes, h4, h5, hby, h8⟩ := okInfo_spec h4'
  obtain ⟨⟨ad, cap, rfl, hnc, hcm, had⟩, hcells⟩ := hr w (h.fact j hj)
  have hlen : ((l2.take hi).drop lo).length = hi - lo := by rw [List.length_drop, List.length_take]; omega
  have key : ∃ v' w' S', (Builtin.append_ #[T, T] ty #[v, a.eval x]).run P w = .ok v' w' ∧ SliceAt w' v' d size (l.length + (hi - lo)) (l.flatMap enc ++ ((l2.take hi).drop lo).flatMap enc) S' ∧ Chg (blkOf v) w w' ∧ Grow (blkOf v) S' w w' := by
    have hf : SliceAt w v d size l.length (l.flatMap enc) (blkOf v) := h.fact i hi'
    have go : ∀ (q : Addr) (c : Nat), a.eval x = .slice (some q) (hi - lo) c → (∀ jj u, (((l2.take hi).drop lo).flatMap enc)[jj]? = some u → w.cell? (q.add jj) = some u) → ∃ v' w' S', (Builtin.append_ #[T, T] ty #[v, a.eval x]).run P w = .ok v' w' ∧ SliceAt w' v' d size (l.length + (hi - lo)) (l.flatMap enc ++ ((l2.take hi).drop lo).flatMap enc) S' ∧ Chg (blkOf v) w w' ∧ Grow (blkOf v) S' w w' := fun q c e hq => by
      rw [e]
      refine run_appendS (P := P) (ty := ty) (c := c) h3 h4 h5 h8 hf (a := q) (m := hi - lo) (news := ((l2.take hi).drop lo).flatMap enc) (by rw [flat_len enc he, hlen]) hq (fun u hu => ?_) (by unfold maxLen; omega) ?_
      · obtain ⟨y, _, hy⟩ := List.mem_flatMap.1 hu
        exact List.all_eq_true.1 (h1 y) u hy
      · have : (l.length + (hi - lo)) * bytes ≤ 100000000000 * 1000 := Nat.mul_le_mul (by omega) hby
        omega
    by_cases h0 : hi - lo = 0
    · have hnil : (l2.take hi).drop lo = [] := List.length_eq_zero_iff.1 (by rw [hlen]; exact h0)
      cases hq : (if cap = lo then ad else ad.map (·.add (lo * size))) with
      | some q =>
        refine go q (cap - lo) (by rw [hx]; simp only [subV, hq]) (fun jj u hj => ?_)
        rw [hnil] at hj; simp at hj
      | none =>
        obtain ⟨ii, hii, _⟩ := info_parts h4
        refine ⟨v, w, blkOf v, ?_, ?_, Chg.refl _ _, Grow.refl _ _ _⟩
        · rw [hx]
          simp only [subV, hq, h0]
          exact run_append_none h3 hii hf
        · rw [hnil, h0]; simpa using hf
    · have hal := had 0 (by omega)
      refine go ⟨blkN (.slice ad l2.length cap), offN (.slice ad l2.length cap) + lo * size, none⟩ (cap - lo) ?_ (fun jj u hj => ?_)
      · rw [hx]
        simp only [subV]
        rw [if_neg (by omega)]
        conv => lhs; rw [hal]
        simp only [Option.map_some, Addr.add_lit]
      · rw [Addr.add_lit]
        have := hcells (lo * size + jj) u (flat_sub he hlo hhi hj)
        rw [← Nat.add_assoc] at this
        exact this
  obtain ⟨v', w', S', hrun, hs', hc, hg⟩ := key
  obtain ⟨hs1, hs2⟩ := hs'.own
  unfold Oper.wp
  simp [execOp, resolve, invoke, builtin, hs, hrun, Result.andThen, Oper.upon]
  refine hK _ _ (h.upd i hi' rfl hc ?_ (fun b hb => ?_))
  · show SliceAt w' v' d size (l ++ (l2.take hi).drop lo).length ((l ++ (l2.take hi).drop lo).flatMap enc) _
    rw [List.flatMap_append, List.length_append, hlen]
    exact hs1
  · rcases hg b (hs2 b hb) with h | h
    · exact .inl h
    · exact .inr h.1
variable {fuel : Nat}
theorem sq_apps {α : Type} {enc : α → List Value} {l l2 : List α} {dst : Option Tmp} {T : TypeId} {s x : Operand} {ty : TypeId} {pos : String} {after : Array Edge} {g : Option (Nat × Bool)} {v v2 : Value} {size : Nat} {d : TypeId} {r : Res} (hg : Region.wanted ⟨dst, .call { callee := .builtin .append, args := #[s, x], argTypes := #[T, T] }, ty, pos, after, g⟩ (yielded ops a.tmps) = true) (lo hi : Nat)
    (hx : (a.eval s, a.eval x, P.underlying T, okInfo P d size) = (v, subV size v2 lo hi, some (.slice d), true)) (he : ∀ x, (enc x).length = size) (h1 : ∀ x, (enc x).all (·.oneCell') = true) (hlo : lo ≤ hi) (hhi : hi ≤ l2.length)
    (h : Own w0 E L w) (i : Nat) (hi' : L[i]? = some (rRows true v d size enc l)) (j : Nat) (hj : L[j]? = some r) (hr : SlRd r v2 l2.length (l2.flatMap enc)) (hb : l.length + (hi - lo) < 100000000000)
    (hK : ∀ v' w', Own w0 E (L.set i (rRows true v' d size enc (l ++ (l2.take hi).drop lo))) w' → LW P ops Q rest (a.put dst v') w') : LW P ops Q (⟨dst, .call { callee := .builtin .append, args := #[s, x], argTypes := #[T, T] }, ty, pos, after, g⟩ :: rest) a w := ⟨sqg hg (op_apps lo hi hx he h1 hlo hhi h i hi' j hj hr hb fun v' w' h => (hK v' w' h).out)⟩
/-- The slice that a call owns, as it is read. -/
theorem slRd_rows {α : Type} {enc : α → List Value} {wr : Bool} {v : Value} {T k : Nat} {l : List α} : SlRd (rRows wr v T k enc l) v l.length (l.flatMap enc) := slRd_sl

/-! ### Two resources turned at once: a table's cell and its slice -/
theorem Own.turn2 {w' : World} {r s r' s' : Res} {M : List Res} (h : Own w0 E (r :: s :: M) w) (hr : r.wr = true) (hs : s.wr = true) (c : Chg (fun x => r.foot x ∨ s.foot x) w w') (f1 : r'.fact w') (f2 : s'.fact w') (d : ∀ x, r'.foot x → ¬ s'.foot x)
    (g1 : ∀ x, r'.foot x → (r.foot x ∨ s.foot x) ∨ w.heap.size ≤ x) (g2 : ∀ x, s'.foot x → (r.foot x ∨ s.foot x) ∨ w.heap.size ≤ x) : Own w0 E (r' :: s' :: M) w' := by
  have he : ∀ t x, r.foot x ∨ s.foot x → entOf [r, s] t x := fun t x hx => by
    rcases hx with hx | hx
    · exact ⟨r, by simp, hx, fun _ => hr⟩
    · exact ⟨s, by simp, hx, fun _ => hs⟩
  refine Own.unfocus (L := [r, s]) (L' := [r', s']) (M := M) h ⟨c.mono fun x _ hx => he _ x hx, fun b ⟨q, h1, h2, _⟩ => ⟨q, h1, h2, fun e => by cases e⟩, ?_, ?_, ?_⟩
  · intro q hq
    simp only [List.mem_cons, List.mem_nil_iff, or_false] at hq
    rcases hq with rfl | rfl
    · exact f1
    · exact f2
  · refine List.pairwise_cons.2 ⟨fun q hq _ x hx hy => ?_, List.pairwise_singleton _ _⟩
    rw [List.mem_singleton.1 hq] at hy
    exact d x hx hy
  · intro q hq x hx
    simp only [List.mem_cons, List.mem_nil_iff, or_false] at hq
    rcases hq with rfl | rfl
    · exact (g1 x hx).imp (he _ x) id
    · exact (g2 x hx).imp (he _ x) id
end

/- Maps by what is owned: a map told by its entries in the order of their laying (rMap): made, asked, stored into, deleted from, its length. Over any program, no condition. -/

/-- Block r is a map with just these entries. -/
def rMap {α : Type} (wr : Bool) (r : Nat) (f : α → Value) (kv : List (α × Value)) : Res :=
  ⟨wr, (· = r), fun w => MapA w r f kv, fun w w' h _ hb => by
    obtain ⟨es, clock, h1, h2⟩ := h
    exact ⟨es, clock, (hb r rfl).trans h1, h2⟩, fun w b h e => by
    have : b = r := e
    obtain ⟨es, clock, h1, h2⟩ := h
    rw [this]; exact lt_of_block h1⟩
section
variable {α : Type} [DecidableEq α] {P : Program} {a : Act} {w w0 : World} {En : Ent} {L M : List Res} {Ka : Act → World → Prop} {Q : Exit → Act → World → Prop} {ops : Array Oper} {rest : List Oper} {K E : TypeId} {f : α → Value} {kv : List (α × Value)}
variable {dst : Option Tmp} {m x v : Operand} {T ty : TypeId} {pos : String} {after : Array Edge} {g : Option (Nat × Bool)} {r : Nat}
/-- m[k]; with ok: whether it is there. -/
theorem g_look {wr ok : Bool} {z : Value} (F : KeyFn P K f) (k : α) (hx : (a.eval m, a.eval x, P.underlying T) = (.map (some r), f k, some (.map K E))) (hz : ∀ w, (zeroValue E).run P w = .ok z w) (i : Nat) (hi : L[i]? = some (rMap wr r f kv)) :
    Gives P w0 En L ⟨dst, .lookup T m x ok, ty, pos, after, g⟩ a (if ok then .tuple #[(aget kv k).getD z, .bool (aget kv k).isSome] else (aget kv k).getD z) := fun w ho => by
  simp only [Prod.mk.injEq] at hx
  have h : MapA w r f kv := ho.fact i hi
  simp [execOp, hx.1, hx.2.1, h.run_lookup F hx.2.2 (hz w) k ok, Result.andThen]
/-- The zero map asked. -/
theorem g_look0 {ok : Bool} {z : Value} (F : KeyFn P K f) (k : α) (hx : (a.eval m, a.eval x, P.underlying T) = (.map none, f k, some (.map K E))) (hz : ∀ w, (zeroValue E).run P w = .ok z w) :
    Gives P w0 En L ⟨dst, .lookup T m x ok, ty, pos, after, g⟩ a (if ok then .tuple #[z, .bool false] else z) := fun w ho => by
  simp only [Prod.mk.injEq] at hx
  simp [execOp, hx.1, hx.2.1, run_lookup_nilmap F hx.2.2 (hz w) k ok, Result.andThen]
theorem op_mapu (F : KeyFn P K f) (k : α) (u : Value) (hx : (a.eval m, a.eval x, a.eval v, P.underlying T) = (.map (some r), f k, u, some (.map K E))) (h : Own w0 En L w) (i : Nat) (hi : L[i]? = some (rMap true r f kv))
    (hK : ∀ w', Own w0 En (L.set i (rMap true r f (aput kv k u))) w' → Ka (a.put dst undef) w') : Oper.wp P ⟨dst, .mapUpdate T m x v, ty, pos, after, g⟩ a w Ka Q := by
  simp only [Prod.mk.injEq] at hx
  have hm : MapA w r f kv := h.fact i hi
  obtain ⟨w', hr, h1, h2, h3⟩ := hm.run_update F hx.2.2.2 k u
  unfold Oper.wp
  simp [execOp, hx.1, hx.2.1, hx.2.2.1, hr, Result.andThen, Oper.upon]
  exact hK _ (h.upd i hi rfl h2 h1 fun b hb => .inl hb)
theorem op_mapd {Kt : TypeId} (F : KeyFn P K f) (k : α) (hx : (a.eval m, a.eval x, P.underlying T) = (.map (some r), f k, some (.map K E))) (h : Own w0 En L w) (i : Nat) (hi : L[i]? = some (rMap true r f kv))
    (hK : ∀ w', Own w0 En (L.set i (rMap true r f (adel kv k))) w' → Ka (a.put dst (.tuple #[])) w') : Oper.wp P ⟨dst, .call { callee := .builtin .delete, args := #[m, x], argTypes := #[T, Kt] }, ty, pos, after, g⟩ a w Ka Q := by
  simp only [Prod.mk.injEq] at hx
  have hm : MapA w r f kv := h.fact i hi
  obtain ⟨w', hr, h1, h2, h3⟩ := hm.run_delete (Kt := Kt) (ty := ty) F hx.2.2 k
  unfold Oper.wp
  simp [execOp, resolve, invoke, builtin, hx.1, hx.2.1, hr, Result.andThen, Oper.upon]
  exact hK _ (h.upd i hi rfl h2 h1 fun b hb => .inl hb)
/-- A map made. -/
theorem op_newm {o : Oper} (f : α → Value) (hrun : ∀ w, (execOp a.eval o).run P w = .ok (.value (.map (some w.heap.size))) (w.alloc (.map #[] 0)))
    (h : Own w0 En L w) (hK : ∀ b w', Own w0 En (rMap true b f [] :: L) w' → Ka (a.put o.dst (.map (some b))) w') : o.wp P a w Ka Q := by
  unfold Oper.wp; rw [hrun]
  exact hK _ _ (h.push ((Chg.refl Nil w).alloc _) (mapA_made w f) (fun b hb => by have : b = w.heap.size := hb; omega))
theorem sq_newm {o : Oper} (hg : Region.wanted o (yielded ops a.tmps) = true) (f : α → Value) (hrun : ∀ w, (execOp a.eval o).run P w = .ok (.value (.map (some w.heap.size))) (w.alloc (.map #[] 0)))
    (h : Own w0 En L w) (hK : ∀ b w', Own w0 En (rMap true b f [] :: L) w' → LW P ops Q rest (a.put o.dst (.map (some b))) w') : LW P ops Q (o :: rest) a w := ⟨sqg hg (op_newm f hrun h fun b w' h => (hK b w' h).out)⟩
theorem sq_mapu (hg : Region.wanted ⟨dst, .mapUpdate T m x v, ty, pos, after, g⟩ (yielded ops a.tmps) = true) (F : KeyFn P K f) (k : α) (u : Value) (hx : (a.eval m, a.eval x, a.eval v, P.underlying T) = (.map (some r), f k, u, some (.map K E))) (h : Own w0 En L w) (i : Nat) (hi : L[i]? = some (rMap true r f kv))
    (hK : ∀ w', Own w0 En (L.set i (rMap true r f (aput kv k u))) w' → LW P ops Q rest (a.put dst undef) w') : LW P ops Q (⟨dst, .mapUpdate T m x v, ty, pos, after, g⟩ :: rest) a w := ⟨sqg hg (op_mapu F k u hx h i hi fun w' h => (hK w' h).out)⟩
theorem sq_mapd {Kt : TypeId} (hg : Region.wanted ⟨dst, .call { callee := .builtin .delete, args := #[m, x], argTypes := #[T, Kt] }, ty, pos, after, g⟩ (yielded ops a.tmps) = true) (F : KeyFn P K f) (k : α) (hx : (a.eval m, a.eval x, P.underlying T) = (.map (some r), f k, some (.map K E))) (h : Own w0 En L w) (i : Nat) (hi : L[i]? = some (rMap true r f kv))
    (hK : ∀ w', Own w0 En (L.set i (rMap true r f (adel kv k))) w' → LW P ops Q rest (a.put dst (.tuple #[])) w') : LW P ops Q (⟨dst, .call { callee := .builtin .delete, args := #[m, x], argTypes := #[T, Kt] }, ty, pos, after, g⟩ :: rest) a w := ⟨sqg hg (op_mapd F k hx h i hi fun w' h => (hK w' h).out)⟩
theorem g_lenm {wr : Bool} (hx : (a.eval x, P.underlying T) = (.map (some r), some (.map K E))) (i : Nat) (hi : L[i]? = some (rMap wr r f kv)) :
    Gives P w0 En L ⟨dst, .call { callee := .builtin .len, args := #[x], argTypes := #[T] }, ty, pos, after, g⟩ a (.int .i64 (kv.length : Int)) := fun w ho => by
  simp only [Prod.mk.injEq] at hx
  have h : MapA w r f kv := ho.fact i hi
  have hr := MapV.run_len (ty := ty) hx.2 (.inr ⟨r, rfl, h⟩)
  simp [execOp, resolve, invoke, builtin, hx.1, hr, Result.andThen]
variable {br : Nat → Bool} {fuel i : Nat} {listed : Array Bool} {is : List Nat}
theorem ad_newm {o : Oper} (js : List Nat) (hi : ops[i]? = some o) (hb : (br i, Region.wanted o (yielded ops a.tmps)) = (false, true)) (f : α → Value) (hrun : ∀ w, (execOp a.eval o).run P w = .ok (.value (.map (some w.heap.size))) (w.alloc (.map #[] 0)))
    (h : Own w0 En M w) (hK : ∀ b w', Own w0 En (rMap true b f [] :: M) w' → pk js (rMap true b f [] :: M) = L ∧ DW P ops Q w0 En br fuel (listed.setIfInBounds i true) L (a.put o.dst (.map (some b))) w') (hs : AllD P ops Q w0 En br fuel listed L a w is) : AllD P ops Q w0 En br fuel listed L a w (i :: is) := by
  simp only [Prod.mk.injEq] at hb
  exact ⟨AllO.cons hi hb.1 hb.2 (op_newm f hrun h fun b w' h' => ⟨h'.sub js (hK b w' h').1, (hK b w' h').2.out⟩) hs.out⟩
theorem ad_mapu (js : List Nat) (hi : ops[i]? = some ⟨dst, .mapUpdate T m x v, ty, pos, after, g⟩) (hb : (br i, Region.wanted ⟨dst, .mapUpdate T m x v, ty, pos, after, g⟩ (yielded ops a.tmps)) = (false, true)) (F : KeyFn P K f) (k : α) (u : Value) (hx : (a.eval m, a.eval x, a.eval v, P.underlying T) = (.map (some r), f k, u, some (.map K E))) (h : Own w0 En M w) (j : Nat) (hj : M[j]? = some (rMap true r f kv))
    (hK : ∀ w', Own w0 En (M.set j (rMap true r f (aput kv k u))) w' → pk js (M.set j (rMap true r f (aput kv k u))) = L ∧ DW P ops Q w0 En br fuel (listed.setIfInBounds i true) L (a.put dst undef) w') (hs : AllD P ops Q w0 En br fuel listed L a w is) : AllD P ops Q w0 En br fuel listed L a w (i :: is) := by
  simp only [Prod.mk.injEq] at hb
  exact ⟨AllO.cons hi hb.1 hb.2 (op_mapu F k u hx h j hj fun w' h' => ⟨h'.sub js (hK w' h').1, (hK w' h').2.out⟩) hs.out⟩
theorem ad_mapd {Kt : TypeId} (js : List Nat) (hi : ops[i]? = some ⟨dst, .call { callee := .builtin .delete, args := #[m, x], argTypes := #[T, Kt] }, ty, pos, after, g⟩) (hb : (br i, Region.wanted ⟨dst, .call { callee := .builtin .delete, args := #[m, x], argTypes := #[T, Kt] }, ty, pos, after, g⟩ (yielded ops a.tmps)) = (false, true)) (F : KeyFn P K f) (k : α) (hx : (a.eval m, a.eval x, P.underlying T) = (.map (some r), f k, some (.map K E))) (h : Own w0 En M w) (j : Nat) (hj : M[j]? = some (rMap true r f kv))
    (hK : ∀ w', Own w0 En (M.set j (rMap true r f (adel kv k))) w' → pk js (M.set j (rMap true r f (adel kv k))) = L ∧ DW P ops Q w0 En br fuel (listed.setIfInBounds i true) L (a.put dst (.tuple #[])) w') (hs : AllD P ops Q w0 En br fuel listed L a w is) : AllD P ops Q w0 En br fuel listed L a w (i :: is) := by
  simp only [Prod.mk.injEq] at hb
  exact ⟨AllO.cons hi hb.1 hb.2 (op_mapd F k hx h j hj fun w' h' => ⟨h'.sub js (hK w' h').1, (hK w' h').2.out⟩) hs.out⟩
end

section
/- Structs compared, by value. -/
open Go.RowKit Go.MapKept
theorem beqB (x y : ByteArray) : (x.toList == y.toList) = decide (x = y) := by
  rw [← beq_toListBytes, Bool.eq_iff_iff, bytes_beq]; simp
theorem beqS {x y : ByteArray} : Value.bool (x.toList == y.toList) = Value.bool (decide (x = y)) := by rw [beqB]
theorem bneS {x y : ByteArray} : Value.bool (!(x.toList == y.toList)) = Value.bool (!decide (x = y)) := by rw [beqB]
section
variable {P : Program} {a : Act} {w w0 : World} {E : Ent} {L : List Res} {dst : Option Tmp} {x y : Operand} {T T2 ty : TypeId} {pos : String} {after : Array Edge} {g : Option (Nat × Bool)}
theorem g_eq_of {v1 v2 : Value} {b : Bool} (hx : (a.eval x, a.eval y) = (v1, v2)) (h1 : ∀ w, (eqGuard .eql T x y v1 v2).run P w = .ok () w) (h2 : ∀ w, (Op.equal T v1 v2).run P w = .ok b w) (h3 : binOp .eql T v1 v2 = do pure (.bool (← Op.equal T v1 v2))) :
    Gives P w0 E L ⟨dst, .binOp .eql T x y T2, ty, pos, after, g⟩ a (.bool b) := fun w _ => by
  simp only [Prod.mk.injEq] at hx
  simp only [execOp, hx.1, hx.2, h3, Sem.run_bind, h1, h2, Result.andThen_ok, Sem.run_pure]
theorem g_ne_of {v1 v2 : Value} {b : Bool} (hx : (a.eval x, a.eval y) = (v1, v2)) (h1 : ∀ w, (eqGuard .neq T x y v1 v2).run P w = .ok () w) (h2 : ∀ w, (Op.equal T v1 v2).run P w = .ok b w) (h3 : binOp .neq T v1 v2 = do pure (.bool (!(← Op.equal T v1 v2)))) :
    Gives P w0 E L ⟨dst, .binOp .neq T x y T2, ty, pos, after, g⟩ a (.bool (!b)) := fun w _ => by
  simp only [Prod.mk.injEq] at hx
  simp only [execOp, hx.1, hx.2, h3, Sem.run_bind, h1, h2, Result.andThen_ok, Sem.run_pure]
theorem eqH (n1 g1 n2 g2 : Int) (w : World) : (Op.equal 29 (.agg #[.int .i64 n1, .int .i64 g1]) (.agg #[.int .i64 n2, .int .i64 g2])).run Tryz.prog w = .ok (decide (n1 = n2) && decide (g1 = g2)) w := by
  unfold Op.equal
  rw [show Op.maxDepth = 9999 + 1 from rfl, run_equalIn_struct w 9999 29 _ _ (by kernel_rfl) (by kernel_rfl)]
  by_cases c1 : n1 = n2 <;> by_cases c2 : g1 = g2 <;> simp [go_sem, c1, c2]
theorem g_eqH {n1 g1 n2 g2 : Int} (hx : (a.eval x, a.eval y) = (.agg #[.int .i64 n1, .int .i64 g1], .agg #[.int .i64 n2, .int .i64 g2])) : Gives Tryz.prog w0 E L ⟨dst, .binOp .eql 29 x y T2, ty, pos, after, g⟩ a (.bool (decide (n1 = n2) && decide (g1 = g2))) :=
  g_eq_of hx (fun w => by kernel_rfl) (eqH n1 g1 n2 g2) rfl
theorem g_neH {n1 g1 n2 g2 : Int} (hx : (a.eval x, a.eval y) = (.agg #[.int .i64 n1, .int .i64 g1], .agg #[.int .i64 n2, .int .i64 g2])) : Gives Tryz.prog w0 E L ⟨dst, .binOp .neq 29 x y T2, ty, pos, after, g⟩ a (.bool (!(decide (n1 = n2) && decide (g1 = g2)))) :=
  g_ne_of hx (fun w => by kernel_rfl) (eqH n1 g1 n2 g2) rfl
end

end
/- The operations' laws by what is owned: a slice compared with nil, an empty row, a whole slice appended. Over any program, no condition. -/
/-- Is it the zero slice? -/
def nilS : Value → Bool
  | .slice none _ _ => true
  | _ => false
section
variable {P : Program} {a : Act} {w w0 : World} {E : Ent} {L M : List Res} {K : Act → World → Prop} {Q : Exit → Act → World → Prop} {ops : Array Oper} {rest : List Oper}
variable {dst : Option Tmp} {x y : Operand} {T T2 ty : TypeId} {pos : String} {after : Array Edge} {g : Option (Nat × Bool)} {v : Value} {d k n : Nat} {xs : List Value}
theorem nil_shape {r : Res} (hr : SlRd r v n xs) (hf : r.fact w) : ∃ ad c, v = .slice ad n c := by
  obtain ⟨⟨ad, cap, e, _⟩, _⟩ := hr w hf
  exact ⟨ad, cap, e⟩
theorem equal_nil {el : TypeId} (hT : P.underlying T = some (.slice el)) (ad : Option Addr) (n c : Nat) (w : World) : (Op.equal T (.slice ad n c) (.slice none 0 0)).run P w = .ok (nilS (.slice ad n c)) w := by
  have key : ∀ m, (Op.equalIn (m + 1) T (.slice ad n c) (.slice none 0 0)).run P w = .ok (nilS (.slice ad n c)) w := fun m => by
    unfold Op.equalIn
    simp only [Sem.run_bind, run_underlying hT, Result.andThen_ok]
    cases ad <;> rfl
  exact key 9999
theorem g_eqnil {el : TypeId} {r : Res} (hx : (a.eval x, a.eval y, P.underlying T) = (v, .slice none 0 0, some (.slice el))) (hg : ∀ ad n c w, (eqGuard .eql T x y (.slice ad n c) (.slice none 0 0)).run P w = .ok () w) (i : Nat) (hi : L[i]? = some r) (hr : SlRd r v n xs) :
    Gives P w0 E L ⟨dst, .binOp .eql T x y T2, ty, pos, after, g⟩ a (.bool (nilS v)) := fun w ho => by
  simp only [Prod.mk.injEq] at hx
  obtain ⟨ad, c, e⟩ := nil_shape hr (ho.fact i hi)
  subst e
  have h3 : binOp .eql T (.slice ad n c) (.slice none 0 0) = (do pure (.bool (← Op.equal T (.slice ad n c) (.slice none 0 0)))) := rfl
  simp only [execOp, hx.1, hx.2.1, h3, Sem.run_bind, hg, equal_nil hx.2.2, Result.andThen_ok, Sem.run_pure]
theorem g_nenil {el : TypeId} {r : Res} (hx : (a.eval x, a.eval y, P.underlying T) = (v, .slice none 0 0, some (.slice el))) (hg : ∀ ad n c w, (eqGuard .neq T x y (.slice ad n c) (.slice none 0 0)).run P w = .ok () w) (i : Nat) (hi : L[i]? = some r) (hr : SlRd r v n xs) :
    Gives P w0 E L ⟨dst, .binOp .neq T x y T2, ty, pos, after, g⟩ a (.bool (!nilS v)) := fun w ho => by
  simp only [Prod.mk.injEq] at hx
  obtain ⟨ad, c, e⟩ := nil_shape hr (ho.fact i hi)
  subst e
  have h3 : binOp .neq T (.slice ad n c) (.slice none 0 0) = (do pure (.bool (!(← Op.equal T (.slice ad n c) (.slice none 0 0))))) := rfl
  simp only [execOp, hx.1, hx.2.1, h3, Sem.run_bind, hg, equal_nil hx.2.2, Result.andThen_ok, Sem.run_pure]
/-- The zero slice has no elements. -/
theorem Own.nilLen {α : Type} {wr : Bool} {enc : α → List Value} {l : List α} (h : Own w0 E L w) (i : Nat) (hi : L[i]? = some (rRows wr v d k enc l)) (hn : nilS v = true) : l = [] := by
  obtain ⟨_, ⟨_, h2⟩ | ⟨g, off, cap, cs, rfl, _⟩⟩ := (h.fact i hi : SliceAt _ _ _ _ _ _ _)
  · exact List.length_eq_zero_iff.1 h2
  · cases hn
theorem Own.nilLenA {α : Type} {enc : α → List Value} {l : List α} (h : Own w0 E L w) (i : Nat) (hi : L[i]? = some (rArg v k enc l)) (hn : nilS v = true) : l = [] := by
  obtain ⟨⟨ad, cap, e, _, _, had⟩, _⟩ := h.fact i hi
  rcases Nat.eq_zero_or_pos l.length with h0 | h0
  · exact List.length_eq_zero_iff.1 h0
  · rw [e, had 0 h0] at hn; cases hn
/-- A block of no cells as an empty row. -/
theorem Own.cellRows {α : Type} {b : Nat} {d : TypeId} (h : Own w0 E (rCell true b [] d :: M) w) (k : Nat) (enc : α → List Value) : Own w0 E (rRows true (.slice (some ⟨b, 0, none⟩) 0 0) d k enc [] :: M) w :=
  h.upd (i := 0) (r := rCell true b [] d) rfl rfl (Chg.refl _ _) ⟨by simp, .inr ⟨b, 0, 0, #[], rfl, h.fact 0 rfl, Nat.le_refl _, Nat.zero_le _, by simp, fun j u hj => by simp at hj, rfl⟩⟩ fun y hy => .inl hy
theorem addr_add0 (a : Addr) : a.add 0 = a := by
  obtain ⟨b, o, s⟩ := a
  unfold Addr.add
  split <;> simp_all
theorem subV_zero {k n m cap : Nat} {ad : Option Addr} : subV k (.slice ad n cap) 0 m = .slice ad m cap := by
  have e : ad.map (·.add (0 * k)) = ad := by
    cases ad with
    | none => rfl
    | some a => simp [addr_add0]
  show Value.slice (if cap = 0 then ad else ad.map (·.add (0 * k))) (m - 0) (cap - 0) = _
  rw [e]; simp
theorem op_appw {α : Type} {enc : α → List Value} {l l2 : List α} {s : Operand} {v2 : Value} {size : Nat} {d : TypeId} {r : Res}
    (hx : (a.eval s, a.eval x, P.underlying T, okInfo P d size) = (v, v2, some (.slice d), true)) (he : ∀ x, (enc x).length = size) (h1 : ∀ x, (enc x).all (·.oneCell') = true)
    (h : Own w0 E L w) (i : Nat) (hi' : L[i]? = some (rRows true v d size enc l)) (j : Nat) (hj : L[j]? = some r) (hr : SlRd r v2 l2.length (l2.flatMap enc)) (hb : l.length + l2.length < 100000000000)
    (hK : ∀ v' w', Own w0 E (L.set i (rRows true v' d size enc (l ++ l2))) w' → K (a.put dst v') w') : Oper.wp P ⟨dst, .call { callee := .builtin .append, args := #[s, x], argTypes := #[T, T] }, ty, pos, after, g⟩ a w K Q := by
  simp only [Prod.mk.injEq] at hx
  obtain ⟨hs, hx2, h3, h4'⟩ := hx
  rcases Nat.eq_zero_or_pos l2.length with h0 | h0
  · have hnil : l2 = [] := List.length_eq_zero_iff.1 h0
    subst hnil
    obtain ⟨z, bytes, h4, h5, hby, h8⟩ := okInfo_spec h4'
    obtain ⟨⟨ad, cap, e, _, _, _⟩, _⟩ := hr w (h.fact j hj)
    have hf : SliceAt w v d size l.length (l.flatMap enc) (blkOf v) := h.fact i hi'
    cases ad with
    | none =>
      obtain ⟨ii, hii, _⟩ := info_parts h4
      have hrun := run_append_none (ty := ty) (c := cap) h3 hii hf
      unfold Oper.wp
      subst e
      simp only [List.length_nil] at hx2
      simp [execOp, resolve, invoke, builtin, hs, hx2, hrun, Result.andThen, Oper.upon]
      refine hK v w ?_
      have e2 : L.set i (rRows true v d size enc (l ++ [])) = L := by
        rw [List.append_nil]
        apply List.ext_getElem?
        intro j
        rw [List.getElem?_set]
        split
        · subst_vars; split
          · exact hi'.symm
          · rename_i hh; rw [List.getElem?_eq_none (by omega)]
        · rfl
      rw [e2]; exact h
    | some q =>
      obtain ⟨v', w', S', hrun, hs', hc, hg⟩ := run_appendS (P := P) (ty := ty) (c := cap) h3 h4 h5 h8 hf (a := q) (m := 0) (news := []) (by simp) (fun jj u hu => by simp at hu) (fun u hu => by simp at hu) (by unfold maxLen; omega) (by
        have : (l.length + 0) * bytes ≤ 100000000000 * 1000 := Nat.mul_le_mul (by simp at hb; omega) hby
        omega)
      obtain ⟨hs1, hs2⟩ := hs'.own
      unfold Oper.wp
      subst e
      simp only [List.length_nil] at hx2
      simp [execOp, resolve, invoke, builtin, hs, hx2, hrun, Result.andThen, Oper.upon]
      refine hK _ _ (h.upd i hi' rfl hc ?_ (fun b hb => ?_))
      · show SliceAt w' v' d size (l ++ []).length ((l ++ []).flatMap enc) (blkOf v')
        rw [List.append_nil]; simpa using hs1
      · rcases hg b (hs2 b hb) with h | h
        · exact .inl h
        · exact .inr h.1
  · obtain ⟨⟨ad, cap, e, _, _, had⟩, _⟩ := hr w (h.fact j hj)
    have hv : subV size v2 0 l2.length = v2 := by
      rw [e]; exact subV_zero
    refine op_apps (l2 := l2) 0 l2.length (by rw [hs, hx2, h3, h4', hv]) he h1 (Nat.zero_le _) (Nat.le_refl _) h i hi' j hj hr (by omega) fun v' w' h' => hK v' w' ?_
    rw [List.take_length, List.drop_zero] at h'
    exact h'
theorem sq_appw {α : Type} {enc : α → List Value} {l l2 : List α} {s : Operand} {v2 : Value} {size : Nat} {d : TypeId} {r : Res} (hg : Region.wanted ⟨dst, .call { callee := .builtin .append, args := #[s, x], argTypes := #[T, T] }, ty, pos, after, g⟩ (yielded ops a.tmps) = true)
    (hx : (a.eval s, a.eval x, P.underlying T, okInfo P d size) = (v, v2, some (.slice d), true)) (he : ∀ x, (enc x).length = size) (h1 : ∀ x, (enc x).all (·.oneCell') = true)
    (h : Own w0 E L w) (i : Nat) (hi' : L[i]? = some (rRows true v d size enc l)) (j : Nat) (hj : L[j]? = some r) (hr : SlRd r v2 l2.length (l2.flatMap enc)) (hb : l.length + l2.length < 100000000000)
    (hK : ∀ v' w', Own w0 E (L.set i (rRows true v' d size enc (l ++ l2))) w' → LW P ops Q rest (a.put dst v') w') : LW P ops Q (⟨dst, .call { callee := .builtin .append, args := #[s, x], argTypes := #[T, T] }, ty, pos, after, g⟩ :: rest) a w :=
  ⟨sqg hg (op_appw hx he h1 h i hi' j hj hr hb fun v' w' h => (hK v' w' h).out)⟩
end

/- make of one-cell elements, and slices made so, over any program. -/

theorem info_u8 : (Tryz.prog.info? 5).map (fun i => (i.zero, i.size, i.bytes)) = some (some (.int .u8 0), 1, 1) := by kernel_rfl
theorem slice_len' {w : World} {a : Option Addr} {n cap E size m : Nat} {xs : List Value} {S : Nat → Prop} (hn : SliceAt w (.slice a n cap) E size m xs S) : n = m := by
  obtain ⟨_, ⟨e, h⟩ | ⟨g', off', cap', cs, e, _⟩⟩ := hn
  · cases e; omega
  · cases e; rfl
theorem madeCells_one (z : Value) (n : Nat) (hz : z.cells = #[z]) : madeCells z.cells n = (List.replicate n z).toArray := by
  rw [hz]
  apply Array.ext
  · simp [madeCells]
  · intro i h1 h2
    simp [madeCells, Nat.mod_one]
theorem mk_one {P : Program} {T E : TypeId} {z : Value} {bytes : Nat} (ht : P.underlying T = some (.slice E)) (hinfo : (P.info? E).map (fun i => (i.zero, i.size, i.bytes)) = some (some z, 1, bytes)) (hz : z.cells = #[z]) (w : World) (n : Nat) (hb : bytes * n ≤ 281474976710656) (hn : n ≤ 9223372036854775807) :
    (Instr.makeSlice T (.int .i64 (n : Int)) (.int .i64 (n : Int))).run P w = .ok (.slice (some ⟨w.heap.size, 0, none⟩) n n) (w.alloc (.cells (List.replicate n z).toArray E)) := by
  obtain ⟨i, hi, hz0, hz1, hz2⟩ := info_parts hinfo
  have h := run_make (P := P) w T E i z ht hi hz0 .i64 .i64 n n (by omega) (by omega) (by rw [hz2]; have := Int.ofNat_le.2 hb; simpa using this) (by omega)
  rw [h, hz1, Nat.mul_one, madeCells_one z _ hz, Int.toNat_natCast]
theorem rep_flat {α : Type} (c : α → Value) (n : Nat) (a : α) : (List.replicate n a).flatMap (fun x => [c x]) = List.replicate n (c a) := by
  induction n with
  | zero => rfl
  | succ n ih => rw [List.replicate_succ, List.flatMap_cons, ih, List.replicate_succ]; rfl
theorem sliceAt_made' {w : World} {g n E : Nat} {z : Value} (hn : n ≤ 9223372036854775807) (hb : w.heap[g]? = some (.cells (List.replicate n z).toArray E (0, 0))) : SliceAt w (.slice (some ⟨g, 0, none⟩) n n) E 1 n (List.replicate n z) (· = g) := by
  refine ⟨by simp, .inr ⟨g, 0, n, _, rfl, hb, Nat.le_refl _, by unfold maxLen; omega, by simp, fun j u hj => ?_, rfl⟩⟩
  rw [Nat.zero_add, List.getElem?_toArray]; exact hj
theorem chg_at (w : World) (b i : Nat) (v : Value) : Chg (· = b) w (w.setCell ⟨b, i, none⟩ v) := (Chg.refl (· = b) w).setCell (p := ⟨b, i, none⟩) (.inr rfl) v

/- package pigeonholesref1: Byte by contract. -/

def byteOf (n : Int) : UInt8 := UInt8.ofNat (n % 256).toNat

theorem conv_one (n : Int) (w : World) : (convert 71 9 (.slice (some ⟨w.heap.size, 0, none⟩) 1 1)).run Tryz.prog (w.alloc (.cells #[.int .u8 (n % 256)] 5)) =
    .ok (.string ⟨#[byteOf n]⟩) (w.alloc (.cells #[.int .u8 (n % 256)] 5)) := by
  have := run_convert_bytes_arg (P := Tryz.prog) (w.alloc (.cells #[.int .u8 (n % 256)] 5)) 71 5 Tryz.underlying71 Tryz.underlying5 w.heap.size 0 1 1 [n % 256] rfl (fun i hi => by
    obtain rfl : i = 0 := by omega
    simp) 9 Tryz.underlying9
  rw [this]; rfl


/- package xdr, numbers: number (the program) and Big (the reference) by contract over one plain list of bytes. -/

/-- So many bytes of a number, the highest first. -/
def bigL : Nat → Nat → List UInt8
  | 0, _ => []
  | k + 1, n => bigL k (n / 256) ++ [byteOf ((n % 256 : Nat) : Int)]
theorem bigL_len : ∀ k n, (bigL k n).length = k
  | 0, _ => rfl
  | k + 1, n => by simp [bigL, bigL_len k]
theorem bigL_step : ∀ (k n : Nat), byteOf ((n / 256 ^ k % 256 : Nat) : Int) :: bigL k n = bigL (k + 1) n
  | 0, n => by simp [bigL]
  | k + 1, n => by
    have h := bigL_step k (n / 256)
    rw [Nat.div_div_eq_div_mul, ← Nat.pow_succ'] at h
    conv => lhs; rw [bigL, ← List.cons_append, h]
    rfl
def bigB (k n : Nat) : ByteArray := ⟨(bigL k n).toArray⟩
theorem bigB_size (k n : Nat) : (bigB k n).size = k := by simp [bigB, ByteArray.size, bigL_len]

def RelBig (n m : Nat) (w : World) (v out i : Value) (wr : World) : Prop := ∃ k : Nat, k ≤ m ∧ v = .int .i64 ((n / 256 ^ k : Nat) : Int) ∧ out = .string (bigB k n) ∧ i = .int .i64 k ∧ Chg Nil w wr
def u8c (x : Int) : UInt8 := UInt8.ofNat x.toNat
theorem byteOf_mod (m : Nat) : byteOf ((m % 256 : Nat) : Int) = u8c ((m : Int) % 256) := by
  unfold byteOf u8c
  congr 1
  omega
theorem bigB_4 (n : Nat) : bigB 4 n = ⟨#[u8c ((n : Int) / 16777216 % 256), u8c ((n : Int) / 65536 % 256), u8c ((n : Int) / 256 % 256), u8c ((n : Int) % 256)]⟩ := by
  unfold bigB
  simp only [bigL, List.nil_append, List.cons_append, byteOf_mod, Nat.div_div_eq_div_mul, Nat.reduceMul, Int.natCast_ediv]
  rfl
theorem bigB_8 (n : Nat) : bigB 8 n = ⟨#[u8c ((n : Int) / 72057594037927936 % 256), u8c ((n : Int) / 281474976710656 % 256), u8c ((n : Int) / 1099511627776 % 256), u8c ((n : Int) / 4294967296 % 256), u8c ((n : Int) / 16777216 % 256), u8c ((n : Int) / 65536 % 256), u8c ((n : Int) / 256 % 256), u8c ((n : Int) % 256)]⟩ := by
  unfold bigB
  simp only [bigL, List.nil_append, List.cons_append, byteOf_mod, Nat.div_div_eq_div_mul, Nat.reduceMul, Int.natCast_ediv]
  rfl
theorem conv4 (n : Nat) (w : World) : (convert 71 9 (.slice (some ⟨w.heap.size, 0, none⟩) 4 4)).run Tryz.prog (w.alloc (.cells #[.int .u8 ((n : Int) / 16777216 % 256), .int .u8 ((n : Int) / 65536 % 256), .int .u8 ((n : Int) / 256 % 256), .int .u8 ((n : Int) % 256)] 5)) = .ok (.string (bigB 4 n)) (w.alloc (.cells #[.int .u8 ((n : Int) / 16777216 % 256), .int .u8 ((n : Int) / 65536 % 256), .int .u8 ((n : Int) / 256 % 256), .int .u8 ((n : Int) % 256)] 5)) := by
  have := run_convert_bytes_arg (P := Tryz.prog) (w.alloc (.cells #[.int .u8 ((n : Int) / 16777216 % 256), .int .u8 ((n : Int) / 65536 % 256), .int .u8 ((n : Int) / 256 % 256), .int .u8 ((n : Int) % 256)] 5)) 71 5 Tryz.underlying71 Tryz.underlying5 w.heap.size 0 4 4 [(n : Int) / 16777216 % 256, (n : Int) / 65536 % 256, (n : Int) / 256 % 256, (n : Int) % 256] rfl (fun i hi => by
    have hi' : i < 4 := hi
    rw [cell_of (block_alloc w _)]
    match i, hi' with
    | 0, _ => rfl
    | 1, _ => rfl
    | 2, _ => rfl
    | 3, _ => rfl) 9 Tryz.underlying9
  rw [this, bigB_4]; rfl
theorem conv8 (n : Nat) (w : World) : (convert 71 9 (.slice (some ⟨w.heap.size, 0, none⟩) 8 8)).run Tryz.prog (w.alloc (.cells #[.int .u8 ((n : Int) / 72057594037927936 % 256), .int .u8 ((n : Int) / 281474976710656 % 256), .int .u8 ((n : Int) / 1099511627776 % 256), .int .u8 ((n : Int) / 4294967296 % 256), .int .u8 ((n : Int) / 16777216 % 256), .int .u8 ((n : Int) / 65536 % 256), .int .u8 ((n : Int) / 256 % 256), .int .u8 ((n : Int) % 256)] 5)) = .ok (.string (bigB 8 n)) (w.alloc (.cells #[.int .u8 ((n : Int) / 72057594037927936 % 256), .int .u8 ((n : Int) / 281474976710656 % 256), .int .u8 ((n : Int) / 1099511627776 % 256), .int .u8 ((n : Int) / 4294967296 % 256), .int .u8 ((n : Int) / 16777216 % 256), .int .u8 ((n : Int) / 65536 % 256), .int .u8 ((n : Int) / 256 % 256), .int .u8 ((n : Int) % 256)] 5)) := by
  have := run_convert_bytes_arg (P := Tryz.prog) (w.alloc (.cells #[.int .u8 ((n : Int) / 72057594037927936 % 256), .int .u8 ((n : Int) / 281474976710656 % 256), .int .u8 ((n : Int) / 1099511627776 % 256), .int .u8 ((n : Int) / 4294967296 % 256), .int .u8 ((n : Int) / 16777216 % 256), .int .u8 ((n : Int) / 65536 % 256), .int .u8 ((n : Int) / 256 % 256), .int .u8 ((n : Int) % 256)] 5)) 71 5 Tryz.underlying71 Tryz.underlying5 w.heap.size 0 8 8 [(n : Int) / 72057594037927936 % 256, (n : Int) / 281474976710656 % 256, (n : Int) / 1099511627776 % 256, (n : Int) / 4294967296 % 256, (n : Int) / 16777216 % 256, (n : Int) / 65536 % 256, (n : Int) / 256 % 256, (n : Int) % 256] rfl (fun i hi => by
    have hi' : i < 8 := hi
    rw [cell_of (block_alloc w _)]
    match i, hi' with
    | 0, _ => rfl
    | 1, _ => rfl
    | 2, _ => rfl
    | 3, _ => rfl
    | 4, _ => rfl
    | 5, _ => rfl
    | 6, _ => rfl
    | 7, _ => rfl) 9 Tryz.underlying9
  rw [this, bigB_8]; rfl

/- Appends, a map's stores and deletes inside a region that draws its order; a slice without its first element. -/
section
variable {P : Program} {w : World} {ops : Array Oper} {o : Oper} {a : Act} {K : Act → World → Prop} {Q : Exit → Act → World → Prop} {Eo : Prop}
theorem step_appendS (hg : o.guard = none) (s x : Operand) (T : TypeId) (hop : o.op = .call { callee := .builtin .append, args := #[s, x], argTypes := #[T, T] })
    {E : TypeId} {z : Value} {size bytes : Nat} (ht : P.underlying T = some (.slice E)) (hinfo : (P.info? E).map (fun i => (i.zero, i.size, i.bytes)) = some (some z, size, bytes)) (hzs : z.cells.size = size) (hsz : 0 < size)
    {v : Value} (hv : a.eval s = v) {n : Nat} {xs : List Value} {S : Nat → Prop} (h : SliceAt w v E size n xs S) {ad : Addr} {m c : Nat} (hx : a.eval x = .slice (some ad) m c) (news : List Value) (hl : news.length = m * size) (hnews : ∀ j u, news[j]? = some u → w.cell? (ad.add j) = some u) (h1 : ∀ u ∈ news, u.oneCell' = true)
    (h63 : n + m ≤ maxLen) (hb : (n + m) * bytes ≤ 140737488355328)
    (hK : ∀ v' w' S', SliceAt w' v' E size (n + m) (xs ++ news) S' → Chg S w w' → Grow S S' w w' → K (a.put o.dst v') w') :
    if Region.wanted o (yielded ops a.tmps) = true then Oper.wp P o a w K Q else Eo := by
  have hw : Region.wanted o (yielded ops a.tmps) = true := by simp [Region.wanted, hg]
  rw [if_pos hw]
  obtain ⟨v', w', S', r, h2, h3, h4⟩ := run_appendS (ty := o.type) (c := c) ht hinfo hzs hsz h hl hnews h1 h63 hb
  unfold Oper.wp
  simp [execOp, hop, resolve, invoke, builtin, hv, hx, r, Result.andThen]
  exact hK v' w' S' h2 h3 h4
variable {α : Type} [DecidableEq α] {Kt E : TypeId} {f : α → Value} {kv : List (α × Value)}
theorem upon_mapUpdateA {next : Act → World → Prop} {T : TypeId} (ht : P.underlying T = some (.map Kt E)) (F : KeyFn P Kt f)
    {r : Nat} (hM : MapA w r f kv) (k : α) {x val : Value} (hx : x = f k)
    (hK : ∀ w', MapA w' r f (aput kv k val) → Chg (· = r) w w' → w'.heap.size = w.heap.size → next (a.put o.dst undef) w') :
    Oper.upon P o a next Q (((Instr.mapUpdate T (.map (some r)) x val).run P w).andThen fun _ w' => .ok .skip w') := by
  subst hx
  obtain ⟨w', hr, h1, h2, h3⟩ := hM.run_update F ht k val
  rw [hr]
  exact hK w' h1 h2 h3
theorem step_deleteA (hg : o.guard = none) (m x : Operand) (T Ky : TypeId) (hop : o.op = Op.call { callee := .builtin .delete, args := #[m, x], argTypes := #[T, Ky] }) (ht : P.underlying T = some (.map Kt E)) (F : KeyFn P Kt f)
    (r : Nat) (hm : a.eval m = .map (some r)) (hM : MapA w r f kv) (k : α) (hx : a.eval x = f k)
    (hK : ∀ w', MapA w' r f (adel kv k) → Chg (· = r) w w' → w'.heap.size = w.heap.size → K (a.put o.dst (.tuple #[])) w') :
    if Region.wanted o (yielded ops a.tmps) = true then Oper.wp P o a w K Q else Eo := by
  have hw : Region.wanted o (yielded ops a.tmps) = true := by simp [Region.wanted, hg]
  rw [if_pos hw]
  obtain ⟨w', hr, h1, h2, h3⟩ := hM.run_delete (Kt := Ky) (ty := o.type) F ht k
  unfold Oper.wp
  simp [execOp, hop, resolve, invoke, builtin, hm, hx, hr, Result.andThen]
  exact hK w' h1 h2 h3
end

/-- A slice without its first element. -/
theorem SliceAt.tail {α : Type} {enc : α → List Value} {w : World} {g off n cap E size : Nat} {l : List α} {S : Nat → Prop} (he : ∀ a, (enc a).length = size) (hn : 1 ≤ n)
    (h : SliceAt w (.slice (some ⟨g, off, none⟩) n cap) E size n (l.flatMap enc) S) : SliceAt w (.slice (some ⟨g, off + size, none⟩) (n - 1) (cap - 1)) E size (n - 1) (l.tail.flatMap enc) S := by
  obtain ⟨h1, ⟨e, _⟩ | ⟨g', off', cap', cs, e, hb, h2, h3, h4, h5, h6⟩⟩ := h
  · cases e
  cases e
  have hle : 1 * size ≤ n * size := Nat.mul_le_mul_right _ hn
  have hle2 : n * size ≤ cap * size := Nat.mul_le_mul_right _ h2
  match l, h1, h5 with
  | [], h1, h5 =>
    simp only [List.flatMap_nil, List.length_nil, Nat.one_mul] at h1 hle
    have hs0 : size = 0 := by omega
    subst hs0
    exact ⟨by simp, .inr ⟨g, off, cap - 1, cs, rfl, hb, by omega, by omega, by omega, fun j u hj => (by cases hj), h6⟩⟩
  | x :: l, h1, h5 =>
    simp only [List.flatMap_cons, List.length_append, he] at h1
    refine ⟨by simp only [List.tail_cons, Nat.sub_mul]; omega, .inr ⟨g, off + size, cap - 1, cs, rfl, hb, by omega, by omega, by rw [Nat.sub_mul]; omega, fun j u hj => ?_, h6⟩⟩
    have := h5 (size + j) u (by
      simp only [List.flatMap_cons]
      rw [List.getElem?_append_right (by rw [he]; omega), he, Nat.add_sub_cancel_left]; exact hj)
    rw [Nat.add_assoc]; exact this

section
/- package xdr: the Writer by contract over a plain text. -/
open Go.RowKit Go.Lib

/-- A row of bytes that is owned from its head on; its block lies in S. -/
def OwnAt (w : World) (v : Value) (E n : Nat) (xs : List Value) (S : Nat → Prop) : Prop := w.ownsRow 0 E 1 v n xs ∧ ∀ x, v.ownBlock = some x → S x
theorem OwnAt.lt {w : World} {v : Value} {E n : Nat} {xs : List Value} {S : Nat → Prop} (h : OwnAt w v E n xs S) : ∀ x, v.ownBlock = some x → x < w.heap.size := by
  obtain ⟨⟨_, ⟨rfl, _⟩ | ⟨g, cap, cur, rfl, _, hg, _⟩⟩, _⟩ := h
  · intro x e; cases e
  · intro x e; cases e; exact lt_of_block hg
theorem OwnAt.keep {w w' : World} {v : Value} {E n : Nat} {xs : List Value} {S U : Nat → Prop} (h : OwnAt w v E n xs S) (c : Chg U w w') (hd : ∀ x, S x → ¬ U x) : OwnAt w' v E n xs S := by
  obtain ⟨⟨h1, h2 | ⟨g, cap, cur, e, h3, hg, h4⟩⟩, h5⟩ := h
  · exact ⟨⟨h1, .inl h2⟩, h5⟩
  · exact ⟨⟨h1, .inr ⟨g, cap, cur, e, h3, c.keep hg (hd g (h5 g (by rw [e]; rfl))), h4⟩⟩, h5⟩
theorem ownAt_nil (w : World) (E : Nat) (S : Nat → Prop) : OwnAt w (.slice none 0 0) E 0 [] S := ⟨World.ownsRow_nil w 0 E 1, fun x e => by cases e⟩
theorem OwnAt.shape {w : World} {v : Value} {E n : Nat} {xs : List Value} {S : Nat → Prop} (h : OwnAt w v E n xs S) : ∃ a cap, v = .slice a n cap := by
  obtain ⟨⟨_, ⟨rfl, rfl⟩ | ⟨g, cap, cur, e, _⟩⟩, _⟩ := h
  · exact ⟨none, 0, rfl⟩
  · exact ⟨_, cap, e⟩
theorem run_appendT {P : Program} {w : World} {t u ty E : TypeId} (ht : P.underlying t = some (.slice E)) (hu : P.underlying u = some .string) (hinfo : (P.info? E).map (fun i => (i.zero, i.size, i.bytes)) = some (some (.int .u8 0), 1, 1))
    {v : Value} {n : Nat} {xs : List Value} {S : Nat → Prop} (h : OwnAt w v E n xs S) (s : ByteArray) (hb : n + s.size ≤ 140737488355328) :
    ∃ v' w' S', (Builtin.append_ #[t, u] ty #[v, .string s]).run P w = .ok v' w' ∧ OwnAt w' v' E (n + s.size) (xs ++ strCells s) S' ∧ Chg S w w' ∧ Grow S S' w w' := by
  obtain ⟨i, hi, hz0, hz1, hz2⟩ := info_parts hinfo
  obtain ⟨v', w', r, ho, hg, _⟩ := run_append_own_string (P := P) w 0 t u ty E i ht hu hi hz0 hz1 hz2 v n xs h.1 s (by unfold maxLen; omega) hb (Nat.zero_le _)
  have hc : Chg S w w' := ⟨hg.os, hg.tape, hg.output, hg.size, fun k hk hs => hg.block k hk (fun e => hs (h.2 k e.symm))⟩
  have hown' : OwnAt w' v' E (n + s.size) (xs ++ strCells s) (fun x => v'.ownBlock = some x) := ⟨ho, fun x e => e⟩
  have fin : (∀ x, v'.ownBlock = some x → S x ∨ w.heap.size ≤ x) → ∃ v' w' S', (Builtin.append_ #[t, u] ty #[v, .string s]).run P w = .ok v' w' ∧ OwnAt w' v' E (n + s.size) (xs ++ strCells s) S' ∧ Chg S w w' ∧ Grow S S' w w' := fun hx =>
    ⟨v', w', fun x => v'.ownBlock = some x, r, hown', hc, fun x e => (hx x e).imp id (fun q => ⟨q, hown'.lt x e⟩)⟩
  obtain ⟨⟨hl, hcase⟩, hS⟩ := h
  rcases hcase with ⟨rfl, rfl⟩ | ⟨g, cap, cur, rfl, hbg, hgk, hnc, hcm, hcs, htake⟩
  · obtain ⟨v2, w2, r2, ho2, _, _⟩ := run_append_own_string (P := P) w w.heap.size t u ty E i ht hu hi hz0 hz1 hz2 (.slice none 0 0) 0 xs ⟨hl, .inl ⟨rfl, rfl⟩⟩ s (by unfold maxLen; omega) hb (Nat.le_refl _)
    rw [r] at r2
    cases r2
    refine fin fun x e => .inr ?_
    obtain ⟨_, ⟨e2, _⟩ | ⟨g2, cap2, cur2, e2, hb2, _⟩⟩ := ho2
    · rw [e2] at e; cases e
    · rw [e2] at e; cases e; exact hb2
  · by_cases hroom : n + s.size ≤ cap
    · have hr := run_append_room_string (P := P) w t u ty E i ht hu hi hz1 g n cap cur hgk s hroom (by simp at hcs; omega)
      rw [r] at hr
      cases hr
      exact fin fun x e => .inl (hS x e)
    · have hxl : xs.length = n := by simpa using hl
      have holds : ∀ j u, xs[j]? = some u → w.cell? ((⟨g, 0, none⟩ : Addr).add j) = some u := World.ownsRow.cells (w := w) (base := 0) (e := E) (size := 1) (n := n) ⟨hl, .inr ⟨g, cap, cur, rfl, hbg, hgk, hnc, hcm, hcs, htake⟩⟩ (g := g) rfl
      have hr := run_append_grow_string (P := P) w t u ty E i (.int .u8 0) ht hu hi hz0 ⟨g, 0, none⟩ n cap xs (by rw [hz1]; simpa using hxl) holds s (by omega) (by omega) (by rw [hz2]; exact growslice_fits (by omega) (by omega))
      rw [r] at hr
      cases hr
      exact fin fun x e => by cases e; exact .inr (Nat.le_refl _)
theorem wpList_appendT {P : Program} {w : World} {ops : Array Oper} {rest : List Oper} {o : Oper} {a : Act} {Q : Exit → Act → World → Prop} (hg : o.guard = none) (s x : Operand) (T U : TypeId) (hop : o.op = .call { callee := .builtin .append, args := #[s, x], argTypes := #[T, U] })
    {E : TypeId} (ht : P.underlying T = some (.slice E)) (hu : P.underlying U = some .string) (hinfo : (P.info? E).map (fun i => (i.zero, i.size, i.bytes)) = some (some (.int .u8 0), 1, 1))
    {v : Value} (hv : a.eval s = v) {n : Nat} {xs : List Value} {S : Nat → Prop} (h : OwnAt w v E n xs S) (str : ByteArray) (hx : a.eval x = .string str) (hb : n + str.size ≤ 140737488355328)
    (hK : ∀ v' w' S', OwnAt w' v' E (n + str.size) (xs ++ strCells str) S' → Chg S w w' → Grow S S' w w' → wpList P ops Q rest (a.put o.dst v') w') : wpList P ops Q (o :: rest) a w := by
  refine wpList_plain hg fun K' hK' => ?_
  obtain ⟨v', w', S', r, h2, h3, h4⟩ := run_appendT (ty := o.type) ht hu hinfo h str hb
  unfold Oper.wp
  simp [execOp, hop, resolve, invoke, builtin, hv, hx, r, Result.andThen]
  exact hK' _ _ (hK v' w' S' h2 h3 h4)

def txtC (t : List UInt8) : List Value := t.map fun b => Value.int .u8 b.toNat
theorem txtC_len (t : List UInt8) : (txtC t).length = t.length := by simp [txtC]
theorem txtC_app (t : List UInt8) (s : ByteArray) : txtC t ++ strCells s = txtC (t ++ s.data.toList) := by simp [txtC, strCells]
/-- The writer at block b holds the text t. -/
def WrTx (w : World) (b : Nat) (t : List UInt8) (S : Nat → Prop) : Prop :=
  ∃ v T Ss, w.heap[b]? = some (.cells #[v] T (0, 0)) ∧ OwnAt w v 5 t.length (txtC t) Ss ∧ ¬ Ss b ∧ (∀ x, Ss x → S x) ∧ S b ∧ ∀ x, S x → x < w.heap.size
theorem WrTx.keep {w w' : World} {b : Nat} {t : List UInt8} {S U : Nat → Prop} (h : WrTx w b t S) (c : Chg U w w') (hd : ∀ x, S x → ¬ U x) : WrTx w' b t S := by
  obtain ⟨v, T, Ss, h1, h2, h3, h4, h5, h6⟩ := h
  exact ⟨v, T, Ss, c.keep h1 (hd b h5), h2.keep c (fun x hx => hd x (h4 x hx)), h3, h4, h5, fun x hx => Nat.lt_of_lt_of_le (h6 x hx) c.size⟩
def WrPost (S : Nat → Prop) (w : World) (b : Nat) (t : List UInt8) (w' : World) : Prop := Chg S w w' ∧ ∃ S', WrTx w' b t S' ∧ Grow S S' w w'
theorem wr_same {S : Nat → Prop} {w w' : World} {b : Nat} {t : List UInt8} (h : WrTx w b t S) (c : Chg Nil w w') : WrPost S w b t w' := ⟨c.nil, S, h.keep c (fun _ _ f => f), Grow.refl _ _ _⟩
def wPut (t : List UInt8) (s : ByteArray) : List UInt8 × Nat := if 4000 < t.length + s.size then (t, 9) else (t ++ s.data.toList, 0)


end
/- Numbers of bytes as a text. Over any program, no condition. -/
theorem strOf_txt (t : List UInt8) : strOfNums (t.map fun b => (b.toNat : Int)) = ⟨t.toArray⟩ := by
  simp [strOfNums, List.map_map, Function.comp_def]

/- A row of bytes, owned from its head, to which texts are appended (rTxt); it is read as a text; a loop unrolled. Over any program, no condition. -/

def rTxt (v : Value) (E : TypeId) (t : List UInt8) : Res :=
  ⟨true, fun x => v.ownBlock = some x, fun w => w.ownsRow 0 E 1 v t.length (txtC t), fun w w' h _ hb => by
    obtain ⟨h1, h2 | ⟨g, cap, cur, e, h3, hg, h4⟩⟩ := h
    · exact ⟨h1, .inl h2⟩
    · exact ⟨h1, .inr ⟨g, cap, cur, e, h3, (hb g (by rw [e]; rfl)).trans hg, h4⟩⟩, fun w b h hb => OwnAt.lt (S := fun _ => True) ⟨h, fun _ _ => trivial⟩ b hb⟩
section
variable {P : Program} {w0 w : World} {En : Ent} {L M : List Res} {a : Act} {K : Act → World → Prop} {Q : Exit → Act → World → Prop} {rest : List Oper} {ops : Array Oper} {dst : Option Tmp} {T U : TypeId} {s x : Operand} {ty : TypeId} {pos : String} {after : Array Edge} {g : Option (Nat × Bool)} {v : Value} {E : TypeId} {t : List UInt8}
theorem Own.nilTxt (h : Own w0 En M w) (E : TypeId) : Own w0 En (rTxt (.slice none 0 0) E [] :: M) w :=
  ⟨h.chg, h.mono, fun r hr => by
    rcases List.mem_cons.1 hr with rfl | hr
    · exact World.ownsRow_nil w 0 E 1
    · exact h.facts r hr, List.pairwise_cons.2 ⟨fun r _ _ b hb => (by cases hb), h.apart⟩, fun r hr b hb => by
    rcases List.mem_cons.1 hr with rfl | hr
    · cases hb
    · exact h.may r hr b hb⟩
theorem Own.slvT (h : Own w0 En L w) (i : Nat) (hi : L[i]? = some (rTxt v E t)) : OneV v := by
  obtain ⟨_, ⟨rfl, _⟩ | ⟨g, cap, cur, rfl, _⟩⟩ := (h.fact i hi : w.ownsRow 0 E 1 v t.length (txtC t))
  · exact ⟨rfl, rfl⟩
  · exact ⟨rfl, rfl⟩
theorem op_apptxt (str : ByteArray) (hx : (a.eval s, a.eval x, P.underlying T, P.underlying U, (P.info? E).map (fun i => (i.zero, i.size, i.bytes))) = (v, .string str, some (.slice E), some .string, some (some (.int .u8 0), 1, 1))) (h : Own w0 En L w) (i : Nat) (hi : L[i]? = some (rTxt v E t)) (hb : t.length + str.size ≤ 140737488355328)
    (hK : ∀ v' w', Own w0 En (L.set i (rTxt v' E (t ++ str.data.toList))) w' → K (a.put dst v') w') : Oper.wp P ⟨dst, .call { callee := .builtin .append, args := #[s, x], argTypes := #[T, U] }, ty, pos, after, g⟩ a w K Q := by
  simp only [Prod.mk.injEq] at hx
  obtain ⟨h1, h2, h3, h4, h5⟩ := hx
  obtain ⟨v', w', S', hrun, ⟨ho, hs'⟩, hc, hg⟩ := run_appendT (P := P) (ty := ty) (S := fun y => v.ownBlock = some y) h3 h4 h5 (v := v) (n := t.length) (xs := txtC t) ⟨h.fact i hi, fun y e => e⟩ str hb
  unfold Oper.wp
  simp [execOp, resolve, invoke, builtin, h1, h2, hrun, Result.andThen, Oper.upon]
  refine hK _ _ (h.upd i hi rfl hc ?_ (fun b hb => ?_))
  · show w'.ownsRow 0 E 1 v' (t ++ str.data.toList).length (txtC (t ++ str.data.toList))
    rw [← txtC_app, List.length_append, Array.length_toList]
    exact ho
  · rcases hg b (hs' b hb) with h | h
    · exact .inl h
    · exact .inr h.1
theorem sq_apptxt (str : ByteArray) (hg : Region.wanted ⟨dst, .call { callee := .builtin .append, args := #[s, x], argTypes := #[T, U] }, ty, pos, after, g⟩ (yielded ops a.tmps) = true) (hx : (a.eval s, a.eval x, P.underlying T, P.underlying U, (P.info? E).map (fun i => (i.zero, i.size, i.bytes))) = (v, .string str, some (.slice E), some .string, some (some (.int .u8 0), 1, 1))) (h : Own w0 En L w) (i : Nat) (hi : L[i]? = some (rTxt v E t)) (hb : t.length + str.size ≤ 140737488355328)
    (hK : ∀ v' w', Own w0 En (L.set i (rTxt v' E (t ++ str.data.toList))) w' → LW P ops Q rest (a.put dst v') w') : LW P ops Q (⟨dst, .call { callee := .builtin .append, args := #[s, x], argTypes := #[T, U] }, ty, pos, after, g⟩ :: rest) a w := ⟨sqg hg (op_apptxt str hx h i hi hb fun v' w' h => (hK v' w' h).out)⟩
theorem g_lentxt (hx : (a.eval x, P.underlying T) = (v, some (.slice E))) (i : Nat) (hi : L[i]? = some (rTxt v E t)) : Gives P w0 En L ⟨dst, .call { callee := .builtin .len, args := #[x], argTypes := #[T] }, ty, pos, after, g⟩ a (.int .i64 (t.length : Int)) := fun w h => by
  obtain ⟨h1, h2⟩ : a.eval x = v ∧ P.underlying T = _ := by simpa using hx
  have hs : ∃ ad cap, v = .slice ad t.length cap := by
    obtain ⟨_, ⟨rfl, e⟩ | ⟨g, cap, cur, rfl, _⟩⟩ := (h.fact i hi : w.ownsRow 0 E 1 v t.length (txtC t))
    · exact ⟨none, 0, by rw [e]⟩
    · exact ⟨_, cap, rfl⟩
  obtain ⟨ad, cap, e⟩ := hs
  subst e
  simp [execOp, resolve, invoke, builtin, Builtin.len_, h1, Sem.run_bind, run_underlying h2, goInt]
theorem g_convtxt (hx : (a.eval x, P.underlying T, P.underlying U, P.underlying E) = (v, some (.slice E), some .string, some (.int .u8))) (i : Nat) (hi : L[i]? = some (rTxt v E t)) : Gives P w0 En L ⟨dst, .convert T U x, ty, pos, after, g⟩ a (.string ⟨t.toArray⟩) := fun w h => by
  simp only [Prod.mk.injEq] at hx
  obtain ⟨h1, h2, h3, h4⟩ := hx
  obtain ⟨hl, ⟨rfl, hn⟩ | ⟨g, cap, cur, rfl, _, hgk, hnc, hcm, hcs, htake⟩⟩ := (h.fact i hi : w.ownsRow 0 E 1 v t.length (txtC t))
  · obtain rfl : t = [] := List.eq_nil_of_length_eq_zero hn
    have hcv := run_convert_bytes_nil (P := P) w T E h2 h4 0 0 U h3
    simp [execOp, h1, hcv, Result.andThen] <;> rfl
  · have hcv : (convert T U (.slice (some ⟨g, 0, none⟩) t.length cap)).run P w = .ok (.string ⟨t.toArray⟩) w := by
      have := run_convert_bytes_arg (P := P) w T E h2 h4 g 0 t.length cap (t.map fun b => (b.toNat : Int)) (by simp) (fun i hi => by
        rw [cell_of hgk]
        have h8 : (txtC t)[i]? = some (.int .u8 ((t[i]'hi).toNat : Int)) := by simp [txtC, hi]
        rw [← htake, List.getElem?_take, if_pos (by omega)] at h8
        simp only [Nat.zero_add]
        rw [← Array.getElem?_toList, h8]
        simp [List.getD, hi]) U h3
      rw [this, strOf_txt]
    simp [execOp, h1, hcv, Result.andThen] <;> rfl
end
/-! ### A loop, round by round -/
section
variable {P : Program} {Q : Exit → Act → World → Prop} {a : Act} {w : World} {c : Code}
def Unr (P : Program) (c : Code) (Q : Exit → Act → World → Prop) (n : Nat) : Exit → Act → World → Prop
  | .normal, a, w => Code.rounds P c Q n a w
  | e, a, w => Q e a w
theorem c_unroll (n : Nat) (h : CW P c (Unr P c Q n) a w) : CW P (.loop c) Q a w :=
  ⟨wp_loop_rounds (n + 1) (by rw [rounds_succ]; exact wp_mono h.out fun e a w hq => by cases e <;> exact hq)⟩
theorem unr_n {n : Nat} (h : CW P c (Unr P c Q n) a w) : Unr P c Q (n + 1) .normal a w := by
  show Code.rounds P c Q (n + 1) a w
  rw [rounds_succ]
  exact wp_mono h.out fun e a w hq => by cases e <;> exact hq
theorem unr_e {n id : Nat} (h : Q (.exit id) a w) : Unr P c Q n (.exit id) a w := h
theorem unr_r {n : Nat} (h : Q .ret a w) : Unr P c Q n .ret a w := h
theorem qp_unr {n : Nat} (h : QP Q) : QP (Unr P c Q n) := fun ch a d v w hq => h ch a d v w hq
theorem unr_p {n : Nat} {ch : List PanicEntry} (h : Q (.panic ch) a w) : Unr P c Q n (.panic ch) a w := h
end

end Go.Proofs.YtbdolnbgjkhdnaaGreatDoor
/- Contracts of the kit's shelf laid at this program, in plain declarations (written by the kit's tool, trimmed to what is used). -/
namespace Go.Proofs
open Go.Shelf
def Tryz.lays137_ren : Go.Shelf.Ren := ⟨fun | 137 => 40 | 217 => 63 | 266 => 79 | n => n, fun | 9 => 9 | 5 => 5 | 3 => 3 | n => n, fun | n => n⟩
theorem Tryz.lays137 : Go.Proofs.Lays.n137 Tryz.prog Tryz.lays137_ren := {
  mixed := by kernel_rfl
  f137 := Tryz.func40.trans (congrArg some (by kernel_rfl))
  f217 := Tryz.func63.trans (congrArg some (by kernel_rfl))
  f266 := Tryz.func79.trans (congrArg some (by kernel_rfl))
  t3 := Tryz.underlying3
  a3 := Tryz.isAgg3
  z3 := Tryz.sizeOf3
  v3 := Tryz.zeroValue3
  t5 := Tryz.underlying5
  a5 := Tryz.isAgg5
  z5 := Tryz.sizeOf5
  v5 := Tryz.zeroValue5
  t9 := Tryz.underlying9
  a9 := Tryz.isAgg9
  z9 := Tryz.sizeOf9
  v9 := Tryz.zeroValue9 }
open Go.RowKit in
theorem Tryz.strings_IndexByte (s : ByteArray) (c : Int) (w : World) :
    Calls Tryz.prog 40 #[.string s, .int .u8 c] w fun e w' => e = .returned (.int .i64 (Lib.indexByte s.data.toList c.toNat.toUInt8)) ∧ w' = w := Any.strings_IndexByte Tryz.lays137 s c w
def Tryz.laysM171_ren : Go.Shelf.Ren := ⟨fun | 171 => 51 | 243 => 75 | 246 => 94 | 283 => 104 | 284 => 105 | 285 => 106 | 286 => 107 | 129 => 120 | 317 => 130 | 318 => 131 | 319 => 132 | 320 => 133 | 337 => 144 | 338 => 145 | n => n, fun | 3 => 3 | 9 => 9 | 2 => 2 | 4 => 4 | 171 => 199 | 0 => 0 | 53 => 186 | 37 => 71 | 5 => 5 | 173 => 202 | 212 => 227 | 51 => 218 | 20 => 20 | 213 => 228 | 46 => 189 | 232 => 240 | 233 => 121 | n => n, fun | 17 => 19 | 18 => 20 | 19 => 21 | n => n⟩
theorem Tryz.laysM171 : Go.Proofs.LaysM.n171 Tryz.prog Tryz.laysM171_ren := {
  mixed := by kernel_rfl
  f129 := Tryz.func120.trans (congrArg some (by kernel_rfl))
  f171 := Tryz.func51.trans (congrArg some (by kernel_rfl))
  f243 := Tryz.func75.trans (congrArg some (by kernel_rfl))
  f246 := Tryz.func94.trans (congrArg some (by kernel_rfl))
  f283 := Tryz.func104.trans (congrArg some (by kernel_rfl))
  f284 := Tryz.func105.trans (congrArg some (by kernel_rfl))
  f285 := Tryz.func106.trans (congrArg some (by kernel_rfl))
  f286 := Tryz.func107.trans (congrArg some (by kernel_rfl))
  f317 := Tryz.func130.trans (congrArg some (by kernel_rfl))
  f318 := Tryz.func131.trans (congrArg some (by kernel_rfl))
  f319 := Tryz.func132.trans (congrArg some (by kernel_rfl))
  f320 := Tryz.func133.trans (congrArg some (by kernel_rfl))
  f337 := Tryz.func144.trans (congrArg some (by kernel_rfl))
  f338 := Tryz.func145.trans (congrArg some (by kernel_rfl))
  t0 := Tryz.underlying0
  a0 := Tryz.isAgg0
  z0 := Tryz.sizeOf0
  v0 := Tryz.zeroValue0
  t2 := Tryz.underlying2
  a2 := Tryz.isAgg2
  z2 := Tryz.sizeOf2
  v2 := Tryz.zeroValue2
  t3 := Tryz.underlying3
  a3 := Tryz.isAgg3
  z3 := Tryz.sizeOf3
  v3 := Tryz.zeroValue3
  t4 := Tryz.underlying4
  a4 := Tryz.isAgg4
  z4 := Tryz.sizeOf4
  v4 := Tryz.zeroValue4
  t5 := Tryz.underlying5
  a5 := Tryz.isAgg5
  z5 := Tryz.sizeOf5
  v5 := Tryz.zeroValue5
  t9 := Tryz.underlying9
  a9 := Tryz.isAgg9
  z9 := Tryz.sizeOf9
  v9 := Tryz.zeroValue9
  t20 := Tryz.underlying20
  a20 := Tryz.isAgg20
  z20 := Tryz.sizeOf20
  v20 := Tryz.zeroValue20
  t37 := Tryz.underlying71
  a37 := Tryz.isAgg71
  z37 := Tryz.sizeOf71
  v37 := Tryz.zeroValue71
  t46 := Tryz.underlying189
  a46 := Tryz.isAgg189
  z46 := Tryz.sizeOf189
  v46 := Tryz.zeroValue189
  t51 := Tryz.underlying218
  a51 := Tryz.isAgg218
  z51 := Tryz.sizeOf218
  v51 := Tryz.zeroValue218
  t53 := Tryz.underlying186
  a53 := Tryz.isAgg186
  z53 := Tryz.sizeOf186
  v53 := Tryz.zeroValue186
  t171 := Tryz.underlying199
  a171 := Tryz.isAgg199
  z171 := Tryz.sizeOf199
  v171 := Tryz.zeroValue199
  t173 := Tryz.underlying202
  a173 := Tryz.isAgg202
  z173 := Tryz.sizeOf202
  v173 := Tryz.zeroValue202
  t212 := Tryz.underlying227
  a212 := Tryz.isAgg227
  z212 := Tryz.sizeOf227
  v212 := Tryz.zeroValue227
  t213 := Tryz.underlying228
  a213 := Tryz.isAgg228
  z213 := Tryz.sizeOf228
  t232 := Tryz.underlying240
  a232 := Tryz.isAgg240
  z232 := Tryz.sizeOf240
  v232 := Tryz.zeroValue240
  t233 := Tryz.underlying121
  a233 := Tryz.isAgg121
  z233 := Tryz.sizeOf121
  v233 := Tryz.zeroValue121
  g17 := by kernel_rfl
  g18 := by kernel_rfl
  g19 := by kernel_rfl
  i0 := by kernel_rfl
  i2 := by kernel_rfl
  i3 := by kernel_rfl
  i4 := by kernel_rfl
  i5 := by kernel_rfl
  i9 := by kernel_rfl
  i20 := by kernel_rfl
  i37 := by kernel_rfl
  i46 := by kernel_rfl
  i51 := by kernel_rfl
  i53 := by kernel_rfl
  i171 := by kernel_rfl
  i173 := by kernel_rfl
  i212 := by kernel_rfl
  i232 := by kernel_rfl
  i233 := by kernel_rfl
  m17 := by kernel_rfl
  m18 := by kernel_rfl
  m19 := by kernel_rfl }
open Go.RowKit Go.Sort Go.Lib in
theorem Tryz.strconv_Itoa (n : Int) (h0 : -9223372036854775808 ≤ n) (h1 : n ≤ 9223372036854775807) (w : World) (htab : Lib.TabIs Tryz.prog w "internal/strconv.uint64pow10" .u64 Lib.pow10Tab) :
    Calls Tryz.prog 51 #[.int .i64 n] w fun e w' => e = .returned (.string ⟨(Lib.itoa n).toArray⟩) ∧ ∃ k os, w' = grow (w.drewN k) os := Any.strconv_Itoa Tryz.laysM171 n h0 h1 w htab
def Tryz.laysC172_ren : Go.Shelf.Ren := ⟨fun | 172 => 41 | 244 => 64 | 245 => 65 | 247 => 80 | 279 => 81 | 280 => 82 | 281 => 83 | 282 => 84 | 287 => 95 | 316 => 96 | 171 => 51 | 205 => 97 | 321 => 108 | 322 => 109 | 243 => 75 | 246 => 94 | 283 => 104 | 284 => 105 | 285 => 106 | 286 => 107 | 129 => 120 | 317 => 130 | 318 => 131 | 319 => 132 | 320 => 133 | 337 => 144 | 338 => 145 | n => n, fun | 9 => 9 | 3 => 3 | 75 => 25 | 76 => 108 | 4 => 4 | 5 => 5 | 167 => 174 | 37 => 71 | 0 => 0 | 85 => 175 | 2 => 2 | 168 => 177 | 53 => 186 | 175 => 187 | 46 => 189 | 210 => 192 | 127 => 124 | 145 => 207 | 143 => 205 | 21 => 21 | 171 => 199 | 173 => 202 | 212 => 227 | 51 => 218 | 20 => 20 | 213 => 228 | 232 => 240 | 233 => 121 | 80 => 37 | n => n, fun | 15 => 17 | 16 => 18 | 17 => 19 | 18 => 20 | 19 => 21 | n => n⟩
theorem Tryz.laysC172 : Go.Proofs.LaysC.n172 Tryz.prog Tryz.laysC172_ren := {
  mixed := by kernel_rfl
  f129 := Tryz.func120.trans (congrArg some (by kernel_rfl))
  f171 := Tryz.func51.trans (congrArg some (by kernel_rfl))
  f172 := Tryz.func41.trans (congrArg some (by kernel_rfl))
  f205 := Tryz.func97.trans (congrArg some (by kernel_rfl))
  f243 := Tryz.func75.trans (congrArg some (by kernel_rfl))
  f244 := Tryz.func64.trans (congrArg some (by kernel_rfl))
  f245 := Tryz.func65.trans (congrArg some (by kernel_rfl))
  f246 := Tryz.func94.trans (congrArg some (by kernel_rfl))
  f247 := Tryz.func80.trans (congrArg some (by kernel_rfl))
  f279 := Tryz.func81.trans (congrArg some (by kernel_rfl))
  f280 := Tryz.func82.trans (congrArg some (by kernel_rfl))
  f281 := Tryz.func83.trans (congrArg some (by kernel_rfl))
  f282 := Tryz.func84.trans (congrArg some (by kernel_rfl))
  f283 := Tryz.func104.trans (congrArg some (by kernel_rfl))
  f284 := Tryz.func105.trans (congrArg some (by kernel_rfl))
  f285 := Tryz.func106.trans (congrArg some (by kernel_rfl))
  f286 := Tryz.func107.trans (congrArg some (by kernel_rfl))
  f287 := Tryz.func95.trans (congrArg some (by kernel_rfl))
  f316 := Tryz.func96.trans (congrArg some (by kernel_rfl))
  f317 := Tryz.func130.trans (congrArg some (by kernel_rfl))
  f318 := Tryz.func131.trans (congrArg some (by kernel_rfl))
  f319 := Tryz.func132.trans (congrArg some (by kernel_rfl))
  f320 := Tryz.func133.trans (congrArg some (by kernel_rfl))
  f321 := Tryz.func108.trans (congrArg some (by kernel_rfl))
  f322 := Tryz.func109.trans (congrArg some (by kernel_rfl))
  f337 := Tryz.func144.trans (congrArg some (by kernel_rfl))
  f338 := Tryz.func145.trans (congrArg some (by kernel_rfl))
  t0 := Tryz.underlying0
  a0 := Tryz.isAgg0
  z0 := Tryz.sizeOf0
  v0 := Tryz.zeroValue0
  t2 := Tryz.underlying2
  a2 := Tryz.isAgg2
  z2 := Tryz.sizeOf2
  v2 := Tryz.zeroValue2
  t3 := Tryz.underlying3
  a3 := Tryz.isAgg3
  z3 := Tryz.sizeOf3
  v3 := Tryz.zeroValue3
  t4 := Tryz.underlying4
  a4 := Tryz.isAgg4
  z4 := Tryz.sizeOf4
  v4 := Tryz.zeroValue4
  t5 := Tryz.underlying5
  a5 := Tryz.isAgg5
  z5 := Tryz.sizeOf5
  v5 := Tryz.zeroValue5
  t9 := Tryz.underlying9
  a9 := Tryz.isAgg9
  z9 := Tryz.sizeOf9
  v9 := Tryz.zeroValue9
  t20 := Tryz.underlying20
  a20 := Tryz.isAgg20
  z20 := Tryz.sizeOf20
  v20 := Tryz.zeroValue20
  t21 := Tryz.underlying21
  a21 := Tryz.isAgg21
  z21 := Tryz.sizeOf21
  v21 := Tryz.zeroValue21
  t37 := Tryz.underlying71
  a37 := Tryz.isAgg71
  z37 := Tryz.sizeOf71
  v37 := Tryz.zeroValue71
  t46 := Tryz.underlying189
  a46 := Tryz.isAgg189
  z46 := Tryz.sizeOf189
  v46 := Tryz.zeroValue189
  t51 := Tryz.underlying218
  a51 := Tryz.isAgg218
  z51 := Tryz.sizeOf218
  v51 := Tryz.zeroValue218
  t53 := Tryz.underlying186
  a53 := Tryz.isAgg186
  z53 := Tryz.sizeOf186
  v53 := Tryz.zeroValue186
  t75 := Tryz.underlying25
  a75 := Tryz.isAgg25
  z75 := Tryz.sizeOf25
  v75 := Tryz.zeroValue25
  t76 := Tryz.underlying108
  a76 := Tryz.isAgg108
  z76 := Tryz.sizeOf108
  v76 := Tryz.zeroValue108
  t85 := Tryz.underlying175
  a85 := Tryz.isAgg175
  z85 := Tryz.sizeOf175
  v85 := Tryz.zeroValue175
  t127 := Tryz.underlying124
  a127 := Tryz.isAgg124
  z127 := Tryz.sizeOf124
  v127 := Tryz.zeroValue124
  t143 := Tryz.underlying205
  a143 := Tryz.isAgg205
  z143 := Tryz.sizeOf205
  v143 := Tryz.zeroValue205
  t145 := Tryz.underlying207
  a145 := Tryz.isAgg207
  z145 := Tryz.sizeOf207
  v145 := Tryz.zeroValue207
  t167 := Tryz.underlying174
  a167 := Tryz.isAgg174
  z167 := Tryz.sizeOf174
  v167 := Tryz.zeroValue174
  t168 := Tryz.underlying177
  a168 := Tryz.isAgg177
  z168 := Tryz.sizeOf177
  v168 := Tryz.zeroValue177
  t171 := Tryz.underlying199
  a171 := Tryz.isAgg199
  z171 := Tryz.sizeOf199
  v171 := Tryz.zeroValue199
  t173 := Tryz.underlying202
  a173 := Tryz.isAgg202
  z173 := Tryz.sizeOf202
  v173 := Tryz.zeroValue202
  t175 := Tryz.underlying187
  a175 := Tryz.isAgg187
  z175 := Tryz.sizeOf187
  v175 := Tryz.zeroValue187
  t210 := Tryz.underlying192
  a210 := Tryz.isAgg192
  z210 := Tryz.sizeOf192
  v210 := Tryz.zeroValue192
  t212 := Tryz.underlying227
  a212 := Tryz.isAgg227
  z212 := Tryz.sizeOf227
  v212 := Tryz.zeroValue227
  t213 := Tryz.underlying228
  a213 := Tryz.isAgg228
  z213 := Tryz.sizeOf228
  t232 := Tryz.underlying240
  a232 := Tryz.isAgg240
  z232 := Tryz.sizeOf240
  v232 := Tryz.zeroValue240
  t233 := Tryz.underlying121
  a233 := Tryz.isAgg121
  z233 := Tryz.sizeOf121
  v233 := Tryz.zeroValue121
  g15 := by kernel_rfl
  g16 := by kernel_rfl
  g17 := by kernel_rfl
  g18 := by kernel_rfl
  g19 := by kernel_rfl
  t80 := Tryz.underlying37
  a80 := Tryz.isAgg37
  z80 := Tryz.sizeOf37
  v80 := Tryz.zeroValue37
  i0 := by kernel_rfl
  i2 := by kernel_rfl
  i3 := by kernel_rfl
  i4 := by kernel_rfl
  i5 := by kernel_rfl
  i9 := by kernel_rfl
  i20 := by kernel_rfl
  i21 := by kernel_rfl
  i37 := by kernel_rfl
  i46 := by kernel_rfl
  i51 := by kernel_rfl
  i53 := by kernel_rfl
  i75 := by kernel_rfl
  i76 := by kernel_rfl
  i80 := by kernel_rfl
  i85 := by kernel_rfl
  i127 := by kernel_rfl
  i143 := by kernel_rfl
  i145 := by kernel_rfl
  i167 := by kernel_rfl
  i168 := by kernel_rfl
  i171 := by kernel_rfl
  i173 := by kernel_rfl
  i175 := by kernel_rfl
  i210 := by kernel_rfl
  i212 := by kernel_rfl
  i232 := by kernel_rfl
  i233 := by kernel_rfl
  m15 := by kernel_rfl
  m16 := by kernel_rfl
  m17 := by kernel_rfl
  m18 := by kernel_rfl
  m19 := by kernel_rfl
  c0 := by kernel_rfl
  c2 := by kernel_rfl
  c3 := by kernel_rfl
  c4 := by kernel_rfl
  c5 := by kernel_rfl
  c9 := by kernel_rfl
  c20 := by kernel_rfl
  c21 := by kernel_rfl
  c37 := by kernel_rfl
  c46 := by kernel_rfl
  c51 := by kernel_rfl
  c53 := by kernel_rfl
  c75 := by kernel_rfl
  c76 := by kernel_rfl
  c80 := by kernel_rfl
  c85 := by kernel_rfl
  c127 := by kernel_rfl
  c143 := by kernel_rfl
  c145 := by kernel_rfl
  c167 := by kernel_rfl
  c168 := by kernel_rfl
  c171 := by kernel_rfl
  c173 := by kernel_rfl
  c175 := by kernel_rfl
  c210 := by kernel_rfl
  c212 := by kernel_rfl
  c213 := by kernel_rfl
  c232 := by kernel_rfl
  c233 := by kernel_rfl }
open Go.RowKit in
theorem Tryz.strconv_Atoi_ok (s : ByteArray) (hmax : s.size ≤ 9223372036854775806) (v : Int) (h : Lib.atoiAll s.data.toList = .ok v) (w : World) :
    Calls Tryz.prog 41 #[.string s] w fun e w' => e = .returned (.tuple #[.int .i64 v, .nilIface]) ∧ (w' = w ∨ ∃ t, w' = Lib.bytesWorld w 5 t) := Any.strconv_Atoi_ok Tryz.laysC172 s hmax v h w
def Tryz.laysNm215_ren : Go.Shelf.Ren := ⟨fun | 15 => 50 | n => n, fun | 22 => 78 | 3 => 3 | 4 => 4 | n => n, fun | n => n⟩
theorem Tryz.laysNm215 : Go.Proofs.Lays2.n15 Tryz.prog Tryz.laysNm215_ren := {
  mixed := by kernel_rfl
  f15 := Tryz.func50.trans (congrArg some (by kernel_rfl))
  t3 := Tryz.underlying3
  a3 := Tryz.isAgg3
  z3 := Tryz.sizeOf3
  v3 := Tryz.zeroValue3
  t4 := Tryz.underlying4
  a4 := Tryz.isAgg4
  z4 := Tryz.sizeOf4
  v4 := Tryz.zeroValue4
  t22 := Tryz.underlying78
  a22 := Tryz.isAgg78
  z22 := Tryz.sizeOf78
  v22 := Tryz.zeroValue78
  i3 := by kernel_rfl }
open Go.RowKit Go.Lib in
theorem Tryz.slices_Clone_int (b off n c : Nat) (zs : List Int) (w : World) (hz : n ≤ zs.length) (hbig : n * 8 ≤ 140737488355328) (hc : ∀ j, j < zs.length → w.cell? ⟨b, off + j, none⟩ = some (.int .i64 (zs.getD j 0))) :
    Calls Tryz.prog 50 #[.slice (some ⟨b, off, none⟩) n c] w fun e w' => ∃ v', e = .returned v' ∧ w'.ownsRow w.heap.size 3 1 v' n ((zs.take n).map (Value.int .i64)) ∧ v' ≠ .slice none 0 0 ∧ Below w.heap.size w w' := Any.slices_Clone_int Tryz.laysNm215 b off n c zs w hz hbig hc
end Go.Proofs

namespace Go.Proofs.YtbdolnbgjkhdnaaGreatDoor
open Go.RowKit
/- strings.Builder within a pen (package tree), by what is owned: its cell and its row. No condition. -/
theorem bld_size : (Tryz.prog.info? 73).map (·.size) = some 2 := by kernel_rfl
theorem ccheck_used (b : Nat) (w : World) (h0 : w.cell? ⟨b, 0, none⟩ = some (.pointer (some ⟨b, 0, none⟩))) :
    Calls Tryz.prog 87 #[.pointer (some ⟨b, 0, none⟩)] w fun e w' => e = .returned (.tuple #[]) ∧ w' = w := by
  obtain ⟨j, hj, _⟩ := Option.map_eq_some_iff.1 bld_size
  go_enter Tryz.func87, Tryz.ntmps87
  go_wp2
  rw [Lib.run_neq_ptr_same w _ Tryz.underlying70 hj]
  go_wp2
  go_end0
  exact ⟨rfl, rfl⟩
theorem ccheck_fresh (b : Nat) (w : World) (h0 : w.cell? ⟨b, 0, none⟩ = some (.pointer none)) (hsh : w.shape? b = some (75, 2)) (hfz : w.frozen? ⟨b, 0, none⟩ = false) :
    Calls Tryz.prog 87 #[.pointer (some ⟨b, 0, none⟩)] w fun e w' => e = .returned (.tuple #[]) ∧ w' = w.setCell ⟨b, 0, none⟩ (.pointer (some ⟨b, 0, none⟩)) := by
  obtain ⟨j, hj, hjs⟩ := Option.map_eq_some_iff.1 bld_size
  go_enter Tryz.func87, Tryz.ntmps87
  go_wp2
  rw [Lib.run_to_unsafe w ⟨b, 0, none⟩ Tryz.underlying70 Tryz.underlying129 hj (by rw [hjs]; decide) hsh (Nat.zero_lt_succ 1)]
  simp only [Result.andThen]
  rw [Oper.upon_value]
  go_wp2
  rw [run_callFunc_extern Tryz.func98 (by kernel_rfl) (by kernel_rfl) (by kernel_rfl) (e := Extern.AbiNoEscape.same) (by kernel_rfl)]
  rw [Lib.run_noEscape]
  simp only [Result.andThen]
  rw [Oper.upon_value]
  go_wp2
  rw [Lib.run_from_unsafe w ⟨b, 0, none⟩ Tryz.underlying129 Tryz.underlying70 hj hsh (by kernel_rfl)]
  simp only [Result.andThen]
  rw [Oper.upon_value]
  go_wp2
  go_end0
  exact ⟨rfl, rfl⟩
/-- A builder's cell. -/
abbrev rBld (b : Nat) (p v : Value) : Res := rCell true b [p, v] 75
theorem ccheck_spec (b : Nat) (p v : Value) (hp : p = .pointer none ∨ p = .pointer (some ⟨b, 0, none⟩)) : Spec Tryz.prog 87 #[.pointer (some ⟨b, 0, none⟩)] [rBld b p v] fun u L => u = .tuple #[] ∧ L = [rBld b (.pointer (some ⟨b, 0, none⟩)) v] := fun E w0 w ho => by
  have hb : w.heap[b]? = some (.cells #[p, v] 75 (0, 0)) := ho.fact 0 rfl
  rcases hp with rfl | rfl
  · refine (ccheck_fresh b w (by rw [cell_of hb]; rfl) (by simp [World.shape?, hb]) (by rw [free_of hb])).mono fun e w' ⟨he, hw⟩ => ?_
    subst hw
    refine ⟨_, _, ⟨rfl, rfl⟩, he, ?_⟩
    have hc : Chg (· = b) w (w.setCell ⟨b, 0, none⟩ (.pointer (some ⟨b, 0, none⟩))) := (Chg.refl (· = b) w).setCell (.inr rfl) _
    have hf : (w.setCell ⟨b, 0, none⟩ (.pointer (some ⟨b, 0, none⟩))).heap[b]? = some (.cells #[.pointer (some ⟨b, 0, none⟩), v] 75 (0, 0)) := by
      have := block_setCell hb 0 (.pointer (some ⟨b, 0, none⟩))
      simpa using this
    exact ho.upd (i := 0) (r' := rBld b (.pointer (some ⟨b, 0, none⟩)) v) rfl rfl hc hf fun x hx => .inl hx
  · refine (ccheck_used b w (by rw [cell_of hb]; rfl)).mono fun e w' ⟨he, hw⟩ => ?_
    subst hw
    exact ⟨_, _, ⟨rfl, rfl⟩, he, ho⟩
theorem bstr_nil (b : Nat) (p : Value) (w : World) (hbk : w.heap[b]? = some (.cells #[p, .slice none 0 0] 75 (0, 0))) :
    Calls Tryz.prog 30 #[.pointer (some ⟨b, 0, none⟩)] w fun e w' => e = .returned (.string ⟨#[]⟩) ∧ Chg Nil w w' := by
  have hUS : ∀ W : World, (Builtin.unsafeString_ #[124, 3] 9 #[.pointer none, .int .i64 0]).run Tryz.prog W = .ok (.string .empty) W := fun W => by rfl
  have c1 : w.drew.cell? ⟨b, 1, none⟩ = some (.slice none 0 0) := by
    have : w.drew.heap[b]? = some (.cells #[p, .slice none 0 0] 75 (0, 0)) := hbk
    rw [Lib.cell_of_heap this]; rfl
  have hSD : (Builtin.unsafeSliceData_ #[71] 124 #[.slice none 0 0]).run Tryz.prog w.drew = .ok (.pointer none) w.drew := rfl
  go_enter Tryz.func30, Tryz.ntmps30
  go_wp2
  have mixed : Tryz.prog.follows .mixedOrders = true := by kernel_rfl
  go_region_o
  all_goals (go_wp2; go_ret; exact ⟨rfl, (Chg.refl _ w).drew⟩)
theorem bstr_some (b g cap : Nat) (p : Value) (cur : Array Value) (l : List UInt8) (h0 : l ≠ []) (w : World) (hbk : w.heap[b]? = some (.cells #[p, .slice (some ⟨g, 0, none⟩) l.length cap] 75 (0, 0))) (hg : w.heap[g]? = some (.cells cur 5 (0, 0))) (hnc : l.length ≤ cap) (hcm : cap ≤ maxLen) (hcs : cur.size = cap * 1) (htake : cur.toList.take (l.length * 1) = txtC l) :
    Calls Tryz.prog 30 #[.pointer (some ⟨b, 0, none⟩)] w fun e w' => e = .returned (.string ⟨l.toArray⟩) ∧ w' = w.drew.freeze ⟨g, 0, none⟩ l.length := by
  have hl0 : l.length ≠ 0 := by simpa using h0
  have c1 : w.drew.cell? ⟨b, 1, none⟩ = some (.slice (some ⟨g, 0, none⟩) l.length cap) := by
    have : w.drew.heap[b]? = some (.cells #[p, .slice (some ⟨g, 0, none⟩) l.length cap] 75 (0, 0)) := hbk
    rw [Lib.cell_of_heap this]; rfl
  have hSD : (Builtin.unsafeSliceData_ #[71] 124 #[.slice (some ⟨g, 0, none⟩) l.length cap]).run Tryz.prog w.drew = .ok (.pointer (some ⟨g, 0, none⟩)) w.drew :=
    Lib.run_unsafeSliceData_row _ _ _ _ _ _ (by omega)
  have hUS : (Builtin.unsafeString_ #[124, 3] 9 #[.pointer (some ⟨g, 0, none⟩), .int .i64 l.length]).run Tryz.prog w.drew = .ok (.string ⟨l.toArray⟩) (w.drew.freeze ⟨g, 0, none⟩ l.length) := by
    refine Lib.run_unsafeString_row w.drew 124 3 9 5 Tryz.underlying124 (by kernel_rfl) g cur.size (by have hg' : w.drew.heap[g]? = some (.cells cur 5 (0, 0)) := hg; simp [World.shape?, hg']) l h0 (by omega) (by unfold maxLen at hcm; omega) ?_
    intro j x hx
    have hjl : j < l.length := (List.getElem?_eq_some_iff.1 hx).1
    have h8 : (txtC l)[j]? = some (.int .u8 (x.toNat : Int)) := by simp [txtC, hx]
    rw [← htake, List.getElem?_take, if_pos (by omega)] at h8
    have hg' : w.drew.heap[g]? = some (.cells cur 5 (0, 0)) := hg
    rw [Addr.add_lit, cell_of hg', ← Array.getElem?_toList]
    simpa using h8
  go_enter Tryz.func30, Tryz.ntmps30
  go_wp2
  have mixed : Tryz.prog.follows .mixedOrders = true := by kernel_rfl
  go_region_o
  all_goals (go_wp2; go_ret; exact ⟨rfl, rfl⟩)
theorem chg_freeze (w : World) (g n : Nat) : Chg (· = g) w (w.freeze ⟨g, 0, none⟩ n) := by
  unfold World.freeze
  split
  · exact Chg.refl _ _
  · refine ⟨rfl, rfl, rfl, by simp, fun k _ hk => ?_⟩
    simp only [Array.getElem?_modify]
    rw [if_neg (fun e => hk e.symm)]
def rGone : Res := ⟨true, fun _ => False, fun _ => True, fun _ _ _ _ _ => trivial, fun _ _ _ f => f.elim⟩
theorem bstr_spec (b : Nat) (p v : Value) (t : List UInt8) (ht : t = [] → v = .slice none 0 0) : Spec Tryz.prog 30 #[.pointer (some ⟨b, 0, none⟩)] [rBld b p v, rTxt v 5 t] fun u L => u = .string ⟨t.toArray⟩ ∧ L = [rBld b p v] := fun E w0 w ho => by
  have hb : w.heap[b]? = some (.cells #[p, v] 75 (0, 0)) := ho.fact 0 rfl
  by_cases h0 : t = []
  · obtain rfl := ht h0
    subst h0
    exact (bstr_nil b p w hb).mono fun e w' ⟨he, hc⟩ => ⟨_, _, ⟨rfl, rfl⟩, he, (ho.pick [0]).quiet hc⟩
  · obtain ⟨hl, ⟨rfl, hn⟩ | ⟨g, cap, cur, rfl, _, hgk, hnc, hcm, hcs, htake⟩⟩ := (ho.fact 1 rfl : w.ownsRow 0 5 1 v t.length (txtC t))
    · exact absurd (List.eq_nil_of_length_eq_zero hn) h0
    · refine (bstr_some b g cap p cur t h0 w hb hgk hnc hcm hcs htake).mono fun e w' ⟨he, hw⟩ => ⟨_, _, ⟨rfl, rfl⟩, he, ?_⟩
      subst hw
      have hc : Chg (· = g) w (w.drew.freeze ⟨g, 0, none⟩ t.length) := ((Chg.refl (· = g) w).drew).then (chg_freeze w.drew g t.length)
      have hc2 : Chg (rTxt (.slice (some ⟨g, 0, none⟩) t.length cap) 5 t).foot w (w.drew.freeze ⟨g, 0, none⟩ t.length) := hc.mono fun x _ hx => by rw [hx]; rfl
      have h2 := ho.upd (i := 1) (r' := rGone) rfl rfl hc2 trivial fun x hx => hx.elim
      exact h2.pick [0]

section
/- A log's texts, plainly: numbers of ten digits, heads, records. No condition. -/
open Go.Lib
/-! ### Numbers -/
abbrev Tx := List UInt8
def ten10 : Nat := 10000000000
/-- What digits tell. -/
def valD (acc : Nat) (l : Tx) : Nat := l.foldl (fun a c => a * 10 + (c.toNat - 48)) acc
def isD (c : UInt8) : Prop := 48 ≤ c.toNat ∧ c.toNat ≤ 57
theorem dig_of {k : Nat} (h : k < 10) : isD (UInt8.ofNat (48 + k)) ∧ (UInt8.ofNat (48 + k)).toNat - 48 = k := by
  have e : (UInt8.ofNat (48 + k)).toNat = 48 + k := by rw [UInt8.toNat_ofNat']; omega
  exact ⟨⟨by omega, by omega⟩, by omega⟩
theorem dec_dig : ∀ (u : Nat), ∀ c ∈ decDigits u, isD c := by
  intro u
  induction u using Nat.strongRecOn with
  | _ u ih =>
    rw [decDigits]
    split
    · rename_i h
      intro c hc
      rw [List.mem_singleton.1 hc]; exact (dig_of h).1
    · rename_i h
      intro c hc
      rcases List.mem_append.1 hc with hc | hc
      · exact ih (u / 10) (by omega) c hc
      · rw [List.mem_singleton.1 hc]; exact (dig_of (by omega)).1
theorem valD_app (acc : Nat) (a b : Tx) : valD acc (a ++ b) = valD (valD acc a) b := by unfold valD; rw [List.foldl_append]
theorem dec_val : ∀ (u : Nat), valD 0 (decDigits u) = u := by
  intro u
  induction u using Nat.strongRecOn with
  | _ u ih =>
    rw [decDigits]
    split
    · rename_i h
      show 0 * 10 + ((UInt8.ofNat (48 + u)).toNat - 48) = u
      rw [(dig_of h).2]; omega
    · rename_i h
      rw [valD_app, ih (u / 10) (by omega)]
      show (u / 10) * 10 + ((UInt8.ofNat (48 + u % 10)).toNat - 48) = u
      rw [(dig_of (by omega)).2]; omega
theorem zeros_val : ∀ (m : Nat), valD 0 (List.replicate m 48) = 0
  | 0 => rfl
  | m + 1 => by
    rw [List.replicate_succ]
    show valD (0 * 10 + ((48 : UInt8).toNat - 48)) (List.replicate m 48) = 0
    exact zeros_val m
theorem zeros_dig (m : Nat) : ∀ c ∈ List.replicate m (48 : UInt8), isD c := fun c hc => by
  rw [List.eq_of_mem_replicate hc]; exact ⟨by decide, by decide⟩
theorem nDigits_le : ∀ (k u : Nat), u < 10 ^ (k + 1) → nDigits u ≤ k + 1
  | 0, u, h => by rw [nDigits_small (by simpa using h)]; omega
  | k + 1, u, h => by
    by_cases c : u < 10
    · rw [nDigits_small c]; omega
    · rw [nDigits_big c]
      have := nDigits_le k (u / 10) (by rw [Nat.pow_succ] at h; omega)
      omega
theorem dec_len {u : Nat} (h : u < ten10) : (decDigits u).length ≤ 10 := by
  rw [decDigits_length]; exact nDigits_le 9 u (by simpa [ten10] using h)
theorem dec_pos (u : Nat) : 0 < (decDigits u).length := by rw [decDigits_length]; exact nDigits_pos u
/-- A number of ten digits. -/
def num10 (n : Nat) : Tx := List.replicate (10 - (decDigits n).length) 48 ++ decDigits n
theorem num10_len {n : Nat} (h : n < ten10) : (num10 n).length = 10 := by
  unfold num10; have := dec_len h; simp; omega
theorem num10_dig (n : Nat) : ∀ c ∈ num10 n, isD c := fun c hc => by
  rcases List.mem_append.1 hc with hc | hc
  · exact zeros_dig _ c hc
  · exact dec_dig n c hc
theorem num10_val (n : Nat) : valD 0 (num10 n) = n := by unfold num10; rw [valD_app, zeros_val, dec_val]
/-- What parses tells no more than its digits may. -/
theorem parse_lt : ∀ (l : Tx) (acc u : Nat), parseUint10 acc l = .ok u → u < (acc + 1) * 10 ^ l.length ∧ u = valD acc l ∧ ∀ c ∈ l, isD c
  | [], acc, u, h => by
    simp only [parseUint10] at h
    injection h with h
    subst h
    exact ⟨by simp, rfl, fun c hc => (by cases hc)⟩
  | c :: r, acc, u, h => by
    simp only [parseUint10] at h
    split at h
    · rename_i hd
      split at h
      · cases h
      · split at h
        · cases h
        · obtain ⟨h1, h2, h3⟩ := parse_lt r _ u h
          refine ⟨?_, h2, fun x hx => ?_⟩
          · rw [List.length_cons, Nat.pow_succ]
            have : acc * 10 + (c.toNat - 48) + 1 ≤ (acc + 1) * 10 := by omega
            calc u < (acc * 10 + (c.toNat - 48) + 1) * 10 ^ r.length := h1
              _ ≤ (acc + 1) * 10 * 10 ^ r.length := Nat.mul_le_mul_right _ this
              _ = (acc + 1) * (10 ^ r.length * 10) := by rw [Nat.mul_assoc, Nat.mul_comm 10]
          · rcases List.mem_cons.1 hx with rfl | hx
            · exact hd
            · exact h3 x hx
    · cases h
theorem parse_ok : ∀ (l : Tx) (acc : Nat), (∀ c ∈ l, isD c) → valD acc l < 1000000000000000000 → acc ≤ valD acc l → parseUint10 acc l = .ok (valD acc l)
  | [], acc, _, _, _ => rfl
  | c :: r, acc, hd, hv, ha => by
    have hc : 48 ≤ c.toNat ∧ c.toNat ≤ 57 := hd c (by simp)
    have hm : ∀ (l : Tx) (a : Nat), a ≤ valD a l := fun l => by
      induction l with
      | nil => exact fun a => Nat.le_refl _
      | cons x l ih => intro a; exact Nat.le_trans (by omega) (ih (a * 10 + (x.toNat - 48)))
    have e : valD acc (c :: r) = valD (acc * 10 + (c.toNat - 48)) r := rfl
    rw [e] at hv ⊢
    have h1 := hm r (acc * 10 + (c.toNat - 48))
    simp only [parseUint10]
    rw [if_pos hc, if_neg (by omega), if_neg (by omega)]
    exact parse_ok r _ (fun x hx => hd x (List.mem_cons_of_mem _ hx)) hv h1
theorem atoi_num {n : Nat} (h : n < ten10) : atoiAll (num10 n) = .ok (n : Int) := by
  have hl := num10_len h
  have hv := num10_val n
  have hd := num10_dig n
  obtain ⟨c, r, e⟩ : ∃ c r, num10 n = c :: r := by
    cases hq : num10 n with
    | nil => rw [hq] at hl; cases hl
    | cons c r => exact ⟨c, r, rfl⟩
  rw [e] at hl hv hd ⊢
  have hc := hd c (by simp)
  unfold isD at hc
  rw [atoiAll_plain c r (by omega) (by omega)]
  unfold parseMag
  rw [if_neg (by simp), parse_ok (c :: r) 0 hd (by rw [hv]; unfold ten10 at h; omega) (Nat.zero_le _), hv]
  show (if 9223372036854775808 ≤ n then NumEnd.range else .ok (n : Int)) = _
  rw [if_neg (by unfold ten10 at h; omega)]
theorem atoi_lt {l : Tx} {v : Int} (h : atoiAll l = .ok v) (hl : l.length ≤ 10) (h0 : 0 ≤ v) : v < 10000000000 := by
  have pw : ∀ k, k ≤ 10 → 10 ^ k ≤ 10000000000 := fun k hk => Nat.le_trans (Nat.pow_le_pow_right (by decide) hk) (by decide)
  have key : ∀ (m : Tx) (u : Nat), m.length ≤ 10 → parseMag m = .ok u → u < 10000000000 := fun m u hm hp => by
    unfold parseMag at hp
    split at hp
    · cases hp
    · have h1 := (parse_lt m 0 u hp).1
      have := pw m.length hm
      omega
  cases l with
  | nil => cases h
  | cons c r =>
    rw [List.length_cons] at hl
    by_cases h43 : c.toNat = 43
    · have e : c = 43 := UInt8.toNat_inj.1 h43
      subst e
      rw [atoiAll_plus] at h
      cases hp : parseMag r with
      | range => rw [hp] at h; cases h
      | ok u =>
        rw [hp] at h
        have := key r u (by omega) hp
        unfold signless at h
        simp only at h
        split at h
        · cases h
        · injection h with h; omega
      | _ => rw [hp] at h; cases h
    · by_cases h45 : c.toNat = 45
      · have e : c = 45 := UInt8.toNat_inj.1 h45
        subst e
        rw [atoiAll_minus] at h
        cases hp : parseMag r with
        | range => rw [hp] at h; cases h
        | ok u =>
          rw [hp] at h
          unfold signed at h
          simp only at h
          split at h
          · cases h
          · injection h with h; omega
        | _ => rw [hp] at h; cases h
      · rw [atoiAll_plain c r h43 h45] at h
        cases hp : parseMag (c :: r) with
        | range => rw [hp] at h; cases h
        | ok u =>
          rw [hp] at h
          have := key (c :: r) u (by rw [List.length_cons]; omega) hp
          unfold signless at h
          simp only at h
          split at h
          · cases h
          · injection h with h; omega
        | _ => rw [hp] at h; cases h
/-! ### Heads -/
def magicB : Tx := [112, 105, 103, 101, 111, 110, 104, 111, 108, 101, 115, 32, 108, 111, 103, 32]
def headB (c h z : Nat) : Tx := magicB ++ num10 c ++ num10 h ++ num10 z
/-- Three numbers of a head's text, whatever it be. -/
def head3 (s : Tx) : Option (Nat × Nat × Nat) :=
  match atoiAll ((s.drop 16).take 10), atoiAll ((s.drop 26).take 10), atoiAll ((s.drop 36).take 10) with
  | .ok a, .ok b, .ok c => if a < 0 ∨ b < 0 ∨ c < 0 then none else some (a.toNat, b.toNat, c.toNat)
  | _, _, _ => none
def headP (s : Tx) : Option (Nat × Nat × Nat) := match head3 s with
  | some (c, h, z) => if trimRightB s 0 = headB c h z ∧ h < 2 then some (c, h, z) else none
  | none => none
def padB (l : Tx) : Tx := l ++ List.replicate (64 - l.length) 0
theorem headB_len {c h z : Nat} (hc : c < ten10) (hh : h < ten10) (hz : z < ten10) : (headB c h z).length = 46 := by
  unfold headB; simp [num10_len hc, num10_len hh, num10_len hz, magicB]
theorem trim_pad {l : Tx} (m : Nat) (h : ∀ c, l.getLast? = some c → c ≠ 0) : trimRightB (l ++ List.replicate m 0) 0 = l := by
  unfold trimRightB
  rw [List.reverse_append, List.reverse_replicate]
  have e : ∀ m : Nat, (List.replicate m (0 : UInt8) ++ l.reverse).dropWhile (· == 0) = l.reverse.dropWhile (· == 0) := fun m => by
    induction m with
    | zero => rfl
    | succ m ih => rw [List.replicate_succ, List.cons_append, List.dropWhile_cons]; simp [ih]
  rw [e]
  cases hr : l.reverse with
  | nil => have : l = [] := by simpa using hr
           rw [this]; rfl
  | cons c r =>
    have hl : l.getLast? = some c := by rw [← List.head?_reverse, hr]; rfl
    have := h c hl
    rw [List.dropWhile_cons, if_neg (by simpa using this), ← hr, List.reverse_reverse]
theorem head3_pad {c h z : Nat} (hc : c < ten10) (hh : h < ten10) (hz : z < ten10) (p : Tx) : head3 (headB c h z ++ p) = some (c, h, z) := by
  have e1 : ((headB c h z ++ p).drop 16).take 10 = num10 c := by
    unfold headB
    rw [List.append_assoc, List.append_assoc, List.append_assoc, show (16 : Nat) = magicB.length from rfl, List.drop_left, List.take_left' (num10_len hc)]
  have e2 : ((headB c h z ++ p).drop 26).take 10 = num10 h := by
    unfold headB
    rw [show magicB ++ num10 c ++ num10 h ++ num10 z ++ p = (magicB ++ num10 c) ++ (num10 h ++ (num10 z ++ p)) by simp [List.append_assoc]]
    rw [List.drop_left' (by simp [num10_len hc, magicB]), List.take_left' (num10_len hh)]
  have e3 : ((headB c h z ++ p).drop 36).take 10 = num10 z := by
    unfold headB
    rw [show magicB ++ num10 c ++ num10 h ++ num10 z ++ p = (magicB ++ num10 c ++ num10 h) ++ (num10 z ++ p) by simp [List.append_assoc]]
    rw [List.drop_left' (by simp [num10_len hc, num10_len hh, magicB]), List.take_left' (num10_len hz)]
  unfold head3
  rw [e1, e2, e3, atoi_num hc, atoi_num hh, atoi_num hz]
  simp only
  rw [if_neg (by omega)]
  simp
theorem num10_last {n : Nat} {c : UInt8} (h : (num10 n).getLast? = some c) : c ≠ 0 := by
  have := num10_dig n c (List.mem_of_getLast? h)
  rintro rfl
  exact absurd this.1 (by decide)
theorem headP_pad {c h z : Nat} (hc : c < ten10) (hh : h < 2) (hz : z < ten10) (m : Nat) : headP (headB c h z ++ List.replicate m 0) = some (c, h, z) := by
  have hh' : h < ten10 := by unfold ten10; omega
  unfold headP
  rw [head3_pad hc hh' hz]
  simp only
  rw [trim_pad m fun x hx => ?_, if_pos ⟨rfl, hh⟩]
  unfold headB at hx
  rw [List.getLast?_append] at hx
  cases hq : (num10 z).getLast? with
  | none => rw [List.getLast?_eq_none_iff] at hq; have := num10_len hz; rw [hq] at this; cases this
  | some y => rw [hq] at hx; cases hx; exact num10_last hq
theorem head3_lt {s : Tx} {c h z : Nat} (h3 : head3 s = some (c, h, z)) : c < ten10 ∧ h < ten10 ∧ z < ten10 := by
  unfold head3 at h3
  split at h3
  · rename_i a b d e1 e2 e3
    split at h3
    · cases h3
    · rename_i hn
      have h1 := atoi_lt e1 (by simp; omega) (by omega)
      have h2 := atoi_lt e2 (by simp; omega) (by omega)
      have h4 := atoi_lt e3 (by simp; omega) (by omega)
      cases h3
      unfold ten10
      omega
  · cases h3
theorem headP_lt {s : Tx} {c h z : Nat} (hp : headP s = some (c, h, z)) : c < ten10 ∧ h < 2 ∧ z < ten10 := by
  unfold headP at hp
  split at hp
  · rename_i c' h' z' e
    split at hp
    · rename_i q
      cases hp
      have := head3_lt e
      exact ⟨this.1, q.2, this.2.2⟩
    · cases hp
  · cases hp
/-! ### Records -/
def recB (r : Tx) : Tx := num10 r.length ++ r
def packT (rs : List Tx) : Tx := rs.flatMap recB
def upTo (n : Nat) : Nat := (64 - n % 64) % 64
def packB (rs : List Tx) : Tx := packT rs ++ List.replicate (upTo (packT rs).length) 0
/-- The records of a text; none: they are none. -/
def recP (s : Tx) : Option (List Tx) :=
  match s with
  | [] => some []
  | c :: r =>
    if c = 0 then recP ((c :: r).drop (if (c :: r).length % 64 = 0 then 64 else (c :: r).length % 64))
    else if (c :: r).length < 10 then none
    else match atoiAll ((c :: r).take 10) with
      | .ok n => if n < 0 ∨ n > ((c :: r).length : Int) - 10 then none
        else (recP ((c :: r).drop (10 + n.toNat))).map ((((c :: r).drop 10).take n.toNat) :: ·)
      | _ => none
termination_by s.length
decreasing_by
  · rw [List.length_drop, List.length_cons]; split <;> omega
  · rw [List.length_drop, List.length_cons]; omega
theorem recP_nil : recP [] = some [] := by rw [recP]
theorem recP_rec {r : Tx} (hr : r.length < ten10) (p : Tx) : recP (recB r ++ p) = (recP p).map (r :: ·) := by
  have hl := num10_len hr
  obtain ⟨c, m, e⟩ : ∃ c m, num10 r.length = c :: m := by
    cases hq : num10 r.length with
    | nil => rw [hq] at hl; cases hl
    | cons c m => exact ⟨c, m, rfl⟩
  have hc : c ≠ 0 := by
    have := num10_dig r.length c (by rw [e]; simp)
    rintro rfl
    exact absurd this.1 (by decide)
  have e0 : recB r ++ p = c :: (m ++ (r ++ p)) := by unfold recB; rw [e]; simp
  have e1 : (c :: (m ++ (r ++ p))).take 10 = num10 r.length := by
    rw [← e0]; unfold recB; rw [List.append_assoc]; exact List.take_left' hl
  have e2 : (c :: (m ++ (r ++ p))).drop 10 = r ++ p := by
    rw [← e0]; unfold recB; rw [List.append_assoc]; exact List.drop_left' hl
  have e3 : (c :: (m ++ (r ++ p))).length = 10 + r.length + p.length := by rw [← e0]; unfold recB; simp [hl]; omega
  rw [e0, recP]
  rw [if_neg hc, if_neg (by omega), e1, atoi_num hr]
  simp only
  rw [if_neg (by omega)]
  have e4 : (c :: (m ++ (r ++ p))).drop (10 + r.length) = p := by
    rw [← List.drop_drop, e2, List.drop_left]
  have e5 : ((r.length : Int)).toNat = r.length := by omega
  rw [e5, e4, e2, List.take_left]
theorem recP_zero {k : Nat} (hk : 0 < k) (hk2 : k < 64) {p : Tx} (hp : p.length % 64 = 0) : recP (List.replicate k 0 ++ p) = recP p := by
  obtain ⟨k, rfl⟩ : ∃ j, k = j + 1 := ⟨k - 1, by omega⟩
  have e : List.replicate (k + 1) (0 : UInt8) ++ p = 0 :: (List.replicate k 0 ++ p) := by rw [List.replicate_succ]; rfl
  have el : (0 :: (List.replicate k 0 ++ p)).length = k + 1 + p.length := by simp; omega
  rw [e, recP]
  rw [if_pos rfl, el, if_neg (by omega)]
  have : (k + 1 + p.length) % 64 = k + 1 := by omega
  rw [this, ← e, List.drop_left' (by simp)]
theorem recP_pack {rs : List Tx} (hr : ∀ r ∈ rs, r.length < ten10) {p : Tx} (hp : p.length % 64 = 0) : recP (packB rs ++ p) = (recP p).map (rs ++ ·) := by
  have key : ∀ (rs : List Tx) (q : Tx), (∀ r ∈ rs, r.length < ten10) → recP (packT rs ++ q) = (recP q).map (rs ++ ·) := fun rs => by
    induction rs with
    | nil => intro q _; cases hq : recP q <;> simp [packT, hq]
    | cons r rs ih =>
      intro q h
      have e : packT (r :: rs) ++ q = recB r ++ (packT rs ++ q) := by unfold packT; rw [List.flatMap_cons, List.append_assoc]
      rw [e, recP_rec (h r (by simp)), ih q fun x hx => h x (List.mem_cons_of_mem _ hx)]
      cases recP q <;> rfl
  unfold packB
  rw [List.append_assoc, key rs _ hr]
  by_cases h0 : upTo (packT rs).length = 0
  · rw [h0]; rfl
  · rw [recP_zero (by omega) (by unfold upTo; omega) hp]
theorem packB_len (rs : List Tx) : (packB rs).length % 64 = 0 ∧ (packB rs).length < (packT rs).length + 64 := by
  unfold packB upTo
  rw [List.length_append, List.length_replicate]
  omega
theorem packT_len {rs : List Tx} (hr : ∀ r ∈ rs, r.length < ten10) : (packT rs).length = (rs.map fun r => 10 + r.length).sum := by
  induction rs with
  | nil => rfl
  | cons r rs ih =>
    have e : packT (r :: rs) = recB r ++ packT rs := by unfold packT; rw [List.flatMap_cons]
    rw [e, List.length_append, ih fun x hx => hr x (List.mem_cons_of_mem _ hx), List.map_cons, List.sum_cons]
    unfold recB
    rw [List.length_append, num10_len (hr r (by simp))]

end
section
/- Texts of a tree of directories, one in another, plainly. No condition. -/
open Go.Lib
def tx (s : ByteArray) : Tx := s.data.toList
theorem tx_len (s : ByteArray) : (tx s).length = s.size := Array.length_toList
theorem tx_inj {s t : ByteArray} (h : tx s = tx t) : s = t := by
  obtain ⟨⟨a⟩⟩ := s
  obtain ⟨⟨b⟩⟩ := t
  have : a = b := h
  rw [this]
def ofT (l : Tx) : ByteArray := ⟨l.toArray⟩
theorem tx_of (l : Tx) : tx (ofT l) = l := by unfold tx ofT; simp
theorem size_of (l : Tx) : (ofT l).size = l.length := by rw [← tx_len, tx_of]
theorem tx_app (a b : ByteArray) : tx (a ++ b) = tx a ++ tx b := by unfold tx; simp
theorem tx_ext (s : ByteArray) (a b : Nat) : tx (s.extract a b) = ((tx s).take b).drop a := by
  unfold tx
  rw [ByteArray.data_extract, Array.toList_extract, List.extract_eq_take_drop, List.take_drop]
  by_cases h : a ≤ b
  · rw [show a + (b - a) = b by omega]
  · rw [List.drop_eq_nil_of_le (by rw [List.length_take]; omega), List.drop_eq_nil_of_le (by rw [List.length_take]; omega)]
theorem dec_atoi {n : Nat} (h : n < ten10) : atoiAll (decDigits n) = .ok (n : Int) := by
  have hl := dec_pos n
  have hv := dec_val n
  have hd := dec_dig n
  obtain ⟨c, r, e⟩ : ∃ c r, decDigits n = c :: r := by
    cases hq : decDigits n with
    | nil => rw [hq] at hl; cases hl
    | cons c r => exact ⟨c, r, rfl⟩
  rw [e] at hl hv hd ⊢
  have hc := hd c (by simp)
  unfold isD at hc
  rw [atoiAll_plain c r (by omega) (by omega)]
  unfold parseMag
  rw [if_neg (by simp), parse_ok (c :: r) 0 hd (by rw [hv]; unfold ten10 at h; omega) (Nat.zero_le _), hv]
  show (if 9223372036854775808 ≤ n then NumEnd.range else .ok (n : Int)) = _
  rw [if_neg (by unfold ten10 at h; omega)]
theorem dec_lt {k n : Nat} (h : n < 10 ^ (k + 1)) : (decDigits n).length ≤ k + 1 := by rw [decDigits_length]; exact nDigits_le k n h
theorem index_colon : ∀ (l r : Tx), (∀ c ∈ l, isD c) → indexByte (l ++ 58 :: r) 58 = (l.length : Int)
  | [], r, _ => by simp [indexByte]
  | c :: l, r, h => by
    have ih := index_colon l r fun x hx => h x (List.mem_cons_of_mem _ hx)
    have hc := h c (by simp)
    unfold isD at hc
    have hne : (c == 58) = false := by
      rw [beq_eq_false_iff_ne]
      intro e; subst e
      have : (58 : UInt8).toNat = 58 := rfl
      omega
    show (if (c == 58) = true then (0 : Int) else if (indexByte (l ++ 58 :: r) 58 == -1) = true then -1 else indexByte (l ++ 58 :: r) 58 + 1) = _
    rw [hne, ih, if_neg (by simp), if_neg (by simp), List.length_cons]
    omega
/-- An item ahead of a text. -/
def itK (x t : Tx) : Tx := decDigits x.length ++ 58 :: (x ++ t)
def numK (n : Nat) (t : Tx) : Tx := itK (decDigits n) t
theorem itK_len (x t : Tx) : (itK x t).length = (decDigits x.length).length + 1 + x.length + t.length := by unfold itK; simp; omega
theorem itK_head (x t : Tx) : (itK x t).take (decDigits x.length).length = decDigits x.length := by unfold itK; rw [List.take_left]
theorem itK_body (x t : Tx) : ((itK x t).take ((decDigits x.length).length + 1 + x.length)).drop ((decDigits x.length).length + 1) = x := by
  unfold itK
  have e : decDigits x.length ++ 58 :: (x ++ t) = (decDigits x.length ++ [58]) ++ (x ++ t) := by simp
  rw [e]
  have hl : (decDigits x.length ++ [58]).length = (decDigits x.length).length + 1 := by simp
  rw [← hl, List.take_append, List.take_of_length_le (by omega), Nat.add_sub_cancel_left, List.take_left, List.drop_left]
theorem itK_rest (x t : Tx) : (itK x t).drop ((decDigits x.length).length + 1 + x.length) = t := by
  unfold itK
  have e : decDigits x.length ++ 58 :: (x ++ t) = ((decDigits x.length ++ [58]) ++ x) ++ t := by simp
  rw [e]
  have hl : ((decDigits x.length ++ [58]) ++ x).length = (decDigits x.length).length + 1 + x.length := by simp; omega
  rw [← hl, List.drop_left]
def dirT : Tx := [100, 105, 114]
/-- What is kept of directory i, with r directories in it, one in another; behind it t. -/
def bodyK : Nat → Nat → Tx → Tx
  | 0, i, t => numK i (numK 0 (numK 0 (numK 0 t)))
  | r + 1, i, t => numK i (numK 0 (numK 1 (numK 1 (itK [100] (itK dirT (bodyK r (i + 1) t))))))
def deepT (r i : Nat) (t : Tx) : Tx := itK dirT (bodyK r i t)
theorem itK_app (x t u : Tx) : itK x t ++ u = itK x (t ++ u) := by unfold itK; simp
theorem numK_app (n : Nat) (t u : Tx) : numK n t ++ u = numK n (t ++ u) := itK_app _ _ _
theorem bodyK_app : ∀ (r i : Nat) (t u : Tx), bodyK r i t ++ u = bodyK r i (t ++ u)
  | 0, i, t, u => by simp only [bodyK, numK_app]
  | r + 1, i, t, u => by simp only [bodyK, numK_app, itK_app, bodyK_app r (i + 1) t u]
theorem itK_nil (x t : Tx) : itK x [] ++ t = itK x t := by rw [itK_app]; rfl
theorem num_small {n : Nat} (h : n < 1000) : (decDigits n).length ≤ 3 := dec_lt (k := 2) (by simpa using h)
theorem numK_size {n : Nat} (h : n < 1000) (t : Tx) : (numK n t).length ≤ 5 + t.length := by
  unfold numK
  have h1 := num_small h
  have h2 : (decDigits (decDigits n).length).length ≤ 1 := dec_lt (k := 0) (by omega)
  rw [itK_len]; omega
theorem bodyK_size : ∀ (r i : Nat) (t : Tx), r + i < 1000 → (bodyK r i t).length ≤ 40 * (r + 1) + t.length
  | 0, i, t, h => by
    unfold bodyK
    have h1 := numK_size (n := 0) (by omega) t
    have h2 := numK_size (n := 0) (by omega) (numK 0 t)
    have h3 := numK_size (n := 0) (by omega) (numK 0 (numK 0 t))
    have h4 := numK_size (n := i) (by omega) (numK 0 (numK 0 (numK 0 t)))
    omega
  | r + 1, i, t, h => by
    unfold bodyK
    have h0 := bodyK_size r (i + 1) t (by omega)
    have e1 : (decDigits dirT.length).length ≤ 1 := dec_lt (k := 0) (by decide)
    have e2 : (decDigits ([100] : Tx).length).length ≤ 1 := dec_lt (k := 0) (by decide)
    have h1 := itK_len dirT (bodyK r (i + 1) t)
    have h2 := itK_len [100] (itK dirT (bodyK r (i + 1) t))
    have h3 := numK_size (n := 1) (by omega) (itK [100] (itK dirT (bodyK r (i + 1) t)))
    have h4 := numK_size (n := 1) (by omega) (numK 1 (itK [100] (itK dirT (bodyK r (i + 1) t))))
    have h5 := numK_size (n := 0) (by omega) (numK 1 (numK 1 (itK [100] (itK dirT (bodyK r (i + 1) t)))))
    have h6 := numK_size (n := i) (by omega) (numK 0 (numK 1 (numK 1 (itK [100] (itK dirT (bodyK r (i + 1) t))))))
    have hd : dirT.length = 3 := rfl
    have h1' : ([100] : Tx).length = 1 := rfl
    omega
theorem itK_ne (x t : Tx) : ¬ itK x t = [] := fun h => by
  have := congrArg List.length h
  rw [itK_len] at this
  simp at this
theorem bodyK_ne : ∀ (r i : Nat) (t : Tx), ¬ bodyK r i t = []
  | 0, i, t => itK_ne _ _
  | r + 1, i, t => itK_ne _ _

end
/- Numbers as texts, texts as numbers, a colon found, by what is owned. No condition. -/
/-- The library's table of tens. -/
def rPow : Res := ⟨false, (· = 19), fun w => Lib.TabIs Tryz.prog w "internal/strconv.uint64pow10" .u64 Lib.pow10Tab, fun w w' h _ hb => by
    unfold Lib.TabIs World.var? at h ⊢
    rw [show Tryz.prog.globalNamed "internal/strconv.uint64pow10" = some 19 by kernel_rfl] at h ⊢
    simp only [Option.bind_some] at h ⊢
    rw [hb _ rfl]; exact h, fun w b h e => by
    unfold Lib.TabIs World.var? at h
    rw [show Tryz.prog.globalNamed "internal/strconv.uint64pow10" = some 19 by kernel_rfl] at h
    simp only [Option.bind_some] at h
    rw [e]
    cases hq : w.heap[19]? with
    | none => rw [hq] at h; cases h
    | some o => exact (Array.getElem?_eq_some_iff.1 hq).1⟩
theorem chg_grow (w : World) (k : Nat) (os : Array Obj) : Chg Nil w (Go.Sort.grow (w.drewN k) os) := by
  refine ⟨rfl, rfl, rfl, ?_, fun j hj _ => ?_⟩
  · unfold Go.Sort.grow; simp [World.drewN]
  · unfold Go.Sort.grow; simp [World.drewN, Array.getElem?_append_left hj]
theorem itoaD_spec (n : Nat) (hn : n ≤ 9223372036854775807) : Spec Tryz.prog 51 #[.int .i64 (n : Int)] [rPow] fun u L => u = .string (ofT (Lib.decDigits n)) ∧ L = [rPow] := fun E w0 w ho =>
  (Go.Proofs.Tryz.strconv_Itoa (n : Int) (by omega) (by omega) w (ho.fact 0 rfl)).mono fun e w' ⟨he, k, os, hw⟩ => by
    subst hw
    refine ⟨_, _, ⟨rfl, rfl⟩, ?_, ho.quiet (chg_grow w k os)⟩
    rw [he]
    unfold Lib.itoa ofT
    rw [if_neg (by omega)]; rfl
theorem atoiD_spec (n : Nat) (hn : n < ten10) : Spec Tryz.prog 41 #[.string (ofT (Lib.decDigits n))] [] fun u L => u = .tuple #[.int .i64 (n : Int), .nilIface] ∧ L = [] :=
  spec_quiet fun w => (Go.Proofs.Tryz.strconv_Atoi_ok (ofT (Lib.decDigits n)) (by rw [size_of]; have := dec_len hn; omega) (n : Int) (by show Lib.atoiAll (tx (ofT (Lib.decDigits n))) = _; rw [tx_of]; exact dec_atoi hn) w).mono fun e w' ⟨he, hw⟩ => ⟨he, by
    rcases hw with rfl | ⟨t, rfl⟩
    · exact Chg.refl _ _
    · exact Chg.of_below (Lib.bytesWorld_below _ _ _) (fun x h1 h2 => by omega)⟩
theorem indexD_spec (x t : Tx) : Spec Tryz.prog 40 #[.string (ofT (itK x t)), .int .u8 58] [] fun u L => u = .int .i64 (((Lib.decDigits x.length).length : Nat) : Int) ∧ L = [] :=
  spec_quiet fun w => (Go.Proofs.Tryz.strings_IndexByte (ofT (itK x t)) 58 w).mono fun e w' ⟨he, hw⟩ => ⟨by
    rw [he, show (ofT (itK x t)).data.toList = itK x t from tx_of _]
    unfold itK
    rw [show ((58 : Int).toNat.toUInt8) = 58 from rfl, index_colon _ _ (dec_dig _)], hw ▸ Chg.refl _ _⟩
theorem cat1 (n : Nat) : ofT (Lib.decDigits n) ++ (⟨#[58]⟩ : ByteArray) = ofT (Lib.decDigits n ++ [58]) := tx_inj (by rw [tx_app, tx_of, tx_of]; rfl)
theorem cat2 (s : ByteArray) : ofT (Lib.decDigits s.size ++ [58]) ++ s = ofT (itK (tx s) []) := tx_inj (by rw [tx_app, tx_of, tx_of]; unfold itK; rw [tx_len]; simp)
theorem ext_head (x t : Tx) : (ofT (itK x t)).extract 0 (Lib.decDigits x.length).length = ofT (Lib.decDigits x.length) := tx_inj (by rw [tx_ext, tx_of, tx_of, List.drop_zero, itK_head])
theorem ext_body (x t : Tx) : (ofT (itK x t)).extract ((Lib.decDigits x.length).length + 1) ((Lib.decDigits x.length).length + 1 + x.length) = ofT x := tx_inj (by rw [tx_ext, tx_of, tx_of, itK_body])
theorem ext_rest (x t : Tx) : (ofT (itK x t)).extract ((Lib.decDigits x.length).length + 1 + x.length) (ofT (itK x t)).size = ofT t := tx_inj (by rw [tx_ext, tx_of, tx_of, size_of, List.take_of_length_le (Nat.le_refl _), itK_rest])

end Go.Proofs.YtbdolnbgjkhdnaaGreatDoor
