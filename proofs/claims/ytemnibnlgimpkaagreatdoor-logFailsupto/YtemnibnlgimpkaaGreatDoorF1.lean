/- Lemmas: part 1. -/
import Derived.Test.YtemnibnlgimpkaaGreatDoorProg
import Derived.WalkKit
import Derived.WalkSpells
import Derived.WalkLawsBesides
import Derived.BigQuiet
import Derived.Deep.QuietTactic
import Derived.Deep.RegionWith
import Derived.MapKept
import Derived.Lib.Hide
import Derived.Handy
import Derived.Maps.OwnSet
import Derived.ArgAppend
import Derived.OrdersHeld
import Derived.IntWalk
import Derived.LaidLaws
import Derived.LaidHandle
import Derived.FnData
import Derived.ProofKit
import Derived.Deep.Slices
import Derived.Lib.SmallJoins
import Derived.SizedLaws
import Derived.Laws.MakeOwn
import Derived.Deep.RegionHeld3
import Derived.StillTailTactics
import Derived.Lib.AppendStr
import Derived.Deep.MidRow
import Derived.Maps.RangeRun
import Derived.Maps.RangeWalk
import Derived.Deep.LoopGhost
import Derived.Lib.SliceRun
import Derived.Laws.BytesArg
set_option linter.all false
set_option maxRecDepth 100000
set_option maxHeartbeats 20000000
namespace Go.Proofs.YtemnibnlgimpkaaGreatDoor
open Go.RowKit
section
/- General words of these proofs, over any program: what a step of a call may turn (Chg), maps told by their entries in the order of their laying (MapA), and the run laws on them. No condition. -/
open Go.RowKit Go.MapKept

/-- What turns between two worlds: new blocks, and blocks in S. -/
structure Chg (S : Nat → Prop) (w w' : World) : Prop where
  os : w'.os = w.os
  tape : w'.tape = w.tape
  output : w'.output = w.output
  size : w.heap.size ≤ w'.heap.size
  block : ∀ k, k < w.heap.size → ¬ S k → w'.heap[k]? = w.heap[k]?

abbrev Nil : Nat → Prop := fun _ => False

theorem Chg.refl (S : Nat → Prop) (w : World) : Chg S w w := ⟨rfl, rfl, rfl, Nat.le_refl _, fun _ _ _ => rfl⟩
theorem Chg.trans {S T : Nat → Prop} {a b c : World} (h : Chg S a b) (k : Chg T b c) (hT : ∀ x, x < a.heap.size → T x → S x) : Chg S a c :=
  ⟨k.os.trans h.os, k.tape.trans h.tape, k.output.trans h.output, Nat.le_trans h.size k.size, fun i hi hs => (k.block i (Nat.lt_of_lt_of_le hi h.size) (fun t => hs (hT i hi t))).trans (h.block i hi hs)⟩
theorem Chg.then {S : Nat → Prop} {a b c : World} (h : Chg S a b) (k : Chg S b c) : Chg S a c := h.trans k (fun _ _ t => t)
theorem Chg.mono {S T : Nat → Prop} {a b : World} (h : Chg S a b) (hT : ∀ x, x < a.heap.size → S x → T x) : Chg T a b :=
  ⟨h.os, h.tape, h.output, h.size, fun i hi hs => h.block i hi (fun t => hs (hT i hi t))⟩
theorem Chg.nil {S : Nat → Prop} {a b : World} (h : Chg Nil a b) : Chg S a b := h.mono (fun _ _ f => f.elim)
theorem Chg.drewN {S : Nat → Prop} (w : World) (n : Nat) : Chg S w (w.drewN n) := ⟨rfl, rfl, rfl, Nat.le_refl _, fun _ _ _ => rfl⟩
theorem Chg.drew {S : Nat → Prop} {a w : World} (h : Chg S a w) : Chg S a w.drew := ⟨h.os, h.tape, h.output, h.size, h.block⟩
theorem Chg.drewsN {S : Nat → Prop} {a w : World} (h : Chg S a w) (n : Nat) : Chg S a (w.drewN n) := ⟨h.os, h.tape, h.output, h.size, h.block⟩
theorem Chg.alloc {S : Nat → Prop} {a w : World} (h : Chg S a w) (o : Obj) : Chg S a (w.alloc o) :=
  h.then ⟨rfl, rfl, rfl, by simp, fun k hk _ => Below.heap_alloc _ _ _ (by omega)⟩
theorem Chg.setCell {S : Nat → Prop} {a w : World} (h : Chg S a w) {p : Addr} (hp : a.heap.size ≤ p.block ∨ S p.block) (u : Value) : Chg S a (w.setCell p u) :=
  ⟨h.os, h.tape, h.output, by simpa [World.setCell] using h.size, fun k hk hs => by
    rw [Below.heap_setCell _ _ _ _ (fun e => by subst e; rcases hp with hp | hp; exact absurd hk (by omega); exact hs hp)]
    exact h.block k hk hs⟩
theorem Chg.below {S : Nat → Prop} {B : Nat} {w w' : World} (h : Chg S w w') (hB : B ≤ w.heap.size) (hS : ∀ x, x < w.heap.size → S x → B ≤ x) : Below B w w' :=
  ⟨h.os, h.tape, h.output, h.size, fun k hk => h.block k (by omega) (fun s => by have := hS k (by omega) s; omega)⟩
theorem Chg.of_below {S : Nat → Prop} {B : Nat} {w w' : World} (h : Below B w w') (hS : ∀ x, B ≤ x → x < w.heap.size → S x) : Chg S w w' :=
  ⟨h.os, h.tape, h.output, h.size, fun k hk hs => h.block k (by by_cases c : k < B; exact c; exact absurd (hS k (by omega) hk) hs)⟩
theorem Chg.cell {S : Nat → Prop} {w w' : World} (h : Chg S w w') {p : Addr} (hp : p.block < w.heap.size) (hs : ¬ S p.block) : w'.cell? p = w.cell? p :=
  World.cell?_of_block (w := w) (h.block p.block hp hs)
theorem Chg.frozen {S : Nat → Prop} {w w' : World} (h : Chg S w w') {p : Addr} (hp : p.block < w.heap.size) (hs : ¬ S p.block) : w'.frozen? p = w.frozen? p :=
  World.frozen?_of_block (w := w) (h.block p.block hp hs)
/-- A known block stays known. -/
theorem Chg.keep {S : Nat → Prop} {w w' : World} (h : Chg S w w') {b : Nat} {o : Obj} (hb : w.heap[b]? = some o) (hs : ¬ S b) : w'.heap[b]? = some o :=
  (h.block b (lt_of_block hb) hs).trans hb

/-! ### Whole blocks -/
theorem cell_of {w : World} {b : Nat} {c : Array Value} {t : TypeId} {f : Nat × Nat} (h : w.heap[b]? = some (.cells c t f)) (i : Nat) : w.cell? ⟨b, i, none⟩ = c[i]? := by simp [World.cell?, h]
theorem free_of {w : World} {b : Nat} {c : Array Value} {t : TypeId} (h : w.heap[b]? = some (.cells c t (0, 0))) (i : Nat) : w.frozen? ⟨b, i, none⟩ = false := by simp [World.frozen?, h]
theorem block_setCell {w : World} {b : Nat} {c : Array Value} {t : TypeId} {f : Nat × Nat} (h : w.heap[b]? = some (.cells c t f)) (i : Nat) (v : Value) :
    (w.setCell ⟨b, i, none⟩ v).heap[b]? = some (.cells (c.setIfInBounds i v) t f) := by
  simp [World.setCell, Array.getElem?_modify, h]
theorem block_alloc (w : World) (o : Obj) : (w.alloc o).heap[w.heap.size]? = some o := by
  show (w.heap.push o)[w.heap.size]? = _
  simp
theorem block_alloc_old {w : World} {b : Nat} {x : Obj} (h : w.heap[b]? = some x) (o : Obj) : (w.alloc o).heap[b]? = some x := by
  rw [Below.heap_alloc _ _ _ (lt_of_block h)]; exact h

/-! ### Maps by their entries -/
section
variable {α β : Type} [DecidableEq α]

def aget (kv : List (α × β)) (k : α) : Option β := match kv with
  | [] => none
  | p :: r => if k = p.1 then some p.2 else aget r k
def aput (kv : List (α × β)) (k : α) (v : β) : List (α × β) := match kv with
  | [] => [(k, v)]
  | p :: r => if k = p.1 then (p.1, v) :: r else p :: aput r k v
def adel (kv : List (α × β)) (k : α) : List (α × β) := match kv with
  | [] => []
  | p :: r => if k = p.1 then r else p :: adel r k
def findA (kv : List (α × β)) (k : α) (i : Nat) : Option (Nat × β) := match kv with
  | [] => none
  | p :: r => if k = p.1 then some (i, p.2) else findA r k (i + 1)

theorem findA_none {k : α} : ∀ {kv : List (α × β)} {i : Nat}, findA kv k i = none → aget kv k = none ∧ (∀ v, aput kv k v = kv ++ [(k, v)]) ∧ adel kv k = kv ∧ ∀ p ∈ kv, p.1 ≠ k
  | [], _, _ => ⟨rfl, fun _ => rfl, rfl, fun _ h => by cases h⟩
  | p :: r, i, h => by
    unfold findA at h
    by_cases c : k = p.1
    · rw [if_pos c] at h; cases h
    · rw [if_neg c] at h
      obtain ⟨h1, h2, h3, h4⟩ := findA_none h
      refine ⟨by simp [aget, c, h1], fun v => by simp [aput, c, h2], by simp [adel, c, h3], fun q hq => ?_⟩
      rcases List.mem_cons.1 hq with rfl | hq
      · exact fun e => c e.symm
      · exact h4 q hq
theorem findA_some {k : α} : ∀ {kv : List (α × β)} {i j : Nat} {v : β}, findA kv k i = some (j, v) → ∃ n, j = i + n ∧ kv[n]? = some (k, v) ∧ aget kv k = some v ∧ (∀ v', aput kv k v' = kv.set n (k, v')) ∧ adel kv k = kv.eraseIdx n
  | [], _, _, _, h => by cases h
  | p :: r, i, j, v, h => by
    unfold findA at h
    by_cases c : k = p.1
    · rw [if_pos c] at h
      cases h
      exact ⟨0, rfl, by simp [c], by simp [aget, c], fun v' => by simp [aput, c], by simp [adel, c]⟩
    · rw [if_neg c] at h
      obtain ⟨n, e, h1, h2, h3, h4⟩ := findA_some h
      exact ⟨n + 1, by omega, by simpa using h1, by simp [aget, c, h2], fun v' => by simp [aput, c, h3], by simp [adel, c, h4]⟩

/-- HOW KEYS OF A TYPE ARE FOUND: f says which value a key is. -/
structure KeyFn (P : Program) (K : TypeId) (f : α → Value) : Prop where
  chk : ∀ em a w, (Instr.checkKey em 10000 K (f a)).run P w = .ok () w
  find : ∀ (a : α) (l : List MapEntry) (kv : List (α × Value)) (w : World), l.map (fun e => (e.key, e.val)) = kv.map (fun p => (f p.1, p.2)) →
    (Instr.findKey K (f a) l).run P w = .ok (findA kv a 0) w
  keep : ∀ a w, (Instr.keyThatStays (f a) (f a)).run P w = .ok (f a) w
  inj : ∀ a b, f a = f b → a = b

/-- Block r is a map with just these entries, in the order of their laying. -/
def MapA (w : World) (r : Nat) (f : α → Value) (kv : List (α × Value)) : Prop :=
  ∃ es clock, w.heap[r]? = some (.map es clock) ∧ es.toList.map (fun e => (e.key, e.val)) = kv.map (fun p => (f p.1, p.2)) ∧ Stamped es clock
/-- A map's value: nil, or a block. -/
def MapV (w : World) (mv : Value) (f : α → Value) (kv : List (α × Value)) : Prop :=
  (mv = .map none ∧ kv = []) ∨ ∃ r, mv = .map (some r) ∧ MapA w r f kv

theorem MapA.keep {S : Nat → Prop} {w w' : World} {r : Nat} {f : α → Value} {kv : List (α × Value)} (h : MapA w r f kv) (c : Chg S w w') (hs : ¬ S r) : MapA w' r f kv := by
  obtain ⟨es, clock, hb, r⟩ := h
  exact ⟨es, clock, c.keep hb hs, r⟩
theorem MapA.lt {w : World} {r : Nat} {f : α → Value} {kv : List (α × Value)} (h : MapA w r f kv) : r < w.heap.size := by
  obtain ⟨es, clock, hb, _⟩ := h
  exact lt_of_block hb

variable {P : Program} {K E : TypeId} {f : α → Value} {kv : List (α × Value)} {w : World}

theorem MapA.run_lookup {r : Nat} {T : TypeId} {z : Value} (F : KeyFn P K f) (ht : P.underlying T = some (.map K E)) (hz : (zeroValue E).run P w = .ok z w) (h : MapA w r f kv) (a : α) (ok : Bool) :
    (Instr.lookup T (.map (some r)) (f a) ok).run P w = .ok (if ok then .tuple #[(aget kv a).getD z, .bool (aget kv a).isSome] else (aget kv a).getD z) w := by
  obtain ⟨es, clock, hb, he, _⟩ := h
  have hfd := F.find a es.toList kv w he
  simp only [Instr.lookup, Sem.run_bind, run_underlying ht, Result.andThen_ok, MapKept.run_getObj_map hb, F.chk, Sem.run_pure]
  rw [hfd]
  cases hf : findA kv a 0 with
  | none =>
    simp [(findA_none hf).1, hz, Result.andThen_ok]
  | some p =>
    obtain ⟨j, v⟩ := p
    obtain ⟨n, _, _, h3, _⟩ := findA_some hf
    simp [h3, Result.andThen_ok]
theorem run_lookup_nilmap {T : TypeId} {z : Value} (F : KeyFn P K f) (ht : P.underlying T = some (.map K E)) (hz : (zeroValue E).run P w = .ok z w) (a : α) (ok : Bool) :
    (Instr.lookup T (.map none) (f a) ok).run P w = .ok (if ok then .tuple #[z, .bool false] else z) w := by
  simp only [Instr.lookup, Sem.run_bind, run_underlying ht, Result.andThen_ok, F.chk, F.find a [] [] w rfl, findA, Sem.run_pure]
  simp [hz, Result.andThen_ok]
theorem MapV.run_lookup {mv : Value} {T : TypeId} {z : Value} (F : KeyFn P K f) (ht : P.underlying T = some (.map K E)) (hz : (zeroValue E).run P w = .ok z w) (h : MapV w mv f kv) (a : α) (ok : Bool) :
    (Instr.lookup T mv (f a) ok).run P w = .ok (if ok then .tuple #[(aget kv a).getD z, .bool (aget kv a).isSome] else (aget kv a).getD z) w := by
  rcases h with ⟨rfl, rfl⟩ | ⟨r, rfl, h⟩
  · rw [run_lookup_nilmap F ht hz a ok]; rfl
  · exact h.run_lookup F ht hz a ok

theorem keys_of {es : Array MapEntry} (he : es.toList.map (fun e => (e.key, e.val)) = kv.map (fun p => (f p.1, p.2))) : es.toList.map (·.key) = kv.map (fun p => f p.1) := by
  have := congrArg (List.map Prod.fst) he
  simpa [List.map_map, Function.comp_def] using this

theorem MapA.nodup {r : Nat} (h : MapA w r f kv) : (kv.map (·.1)).Nodup := by
  obtain ⟨es, clock, hb, he, hs⟩ := h
  have h3 := hs.2.2
  rw [keys_of he] at h3
  simp only [List.Nodup, List.pairwise_map] at h3 ⊢
  exact h3.imp fun hne e => hne (congrArg f e)

theorem MapA.run_update {r : Nat} {T : TypeId} (F : KeyFn P K f) (ht : P.underlying T = some (.map K E)) (h : MapA w r f kv) (a : α) (v : Value) :
    ∃ w', (Instr.mapUpdate T (.map (some r)) (f a) v).run P w = .ok () w' ∧ MapA w' r f (aput kv a v) ∧ Chg (· = r) w w' ∧ w'.heap.size = w.heap.size := by
  obtain ⟨es, clock, hb, he, hs⟩ := h
  have hch : ∀ o : Obj, Chg (· = r) w { w with heap := w.heap.setIfInBounds r o } := fun o =>
    ⟨rfl, rfl, rfl, by simp, fun k _ hk => (heap_set (o' := o) hb).2 k hk⟩
  cases hf : findA kv a 0 with
  | none =>
    obtain ⟨_, h2, _, h4⟩ := findA_none hf
    have hr : (Instr.mapUpdate T (.map (some r)) (f a) v).run P w = .ok () { w with heap := w.heap.setIfInBounds r (.map (es.push { key := f a, val := v, born := clock }) (clock + 1)) } := by
      simp only [Instr.mapUpdate, Sem.run_bind, run_underlying ht, Result.andThen_ok, MapKept.run_getObj_map hb, F.chk, F.find a es.toList kv w he, hf]
      exact MapKept.run_setObj_map _ hb
    refine ⟨_, hr, ⟨_, _, (heap_set hb).1, ?_, stamped_push hs ?_⟩, hch _, by simp⟩
    · rw [h2]; simp [he]
    · intro x hx e
      have : x.key ∈ es.toList.map (·.key) := List.mem_map.2 ⟨x, hx, rfl⟩
      rw [keys_of he] at this
      obtain ⟨p, hp, e2⟩ := List.mem_map.1 this
      exact h4 p hp (F.inj _ _ (e2.trans e))
  | some p =>
    obtain ⟨j, u⟩ := p
    obtain ⟨n, e0, h1, h2, h3, _⟩ := findA_some hf
    have e0' : j = n := by omega
    subst e0'
    have hkey : es[j]?.map (·.key) = some (f a) := by
      have := congrArg (fun l => l[j]?) (keys_of he)
      simpa [h1] using this
    obtain ⟨en, hen, henk⟩ : ∃ en, es[j]? = some en ∧ en.key = f a := by
      cases hq : es[j]? with
      | none => rw [hq] at hkey; cases hkey
      | some en => rw [hq] at hkey; exact ⟨en, rfl, by simpa using hkey⟩
    have hr : (Instr.mapUpdate T (.map (some r)) (f a) v).run P w = .ok () { w with heap := w.heap.setIfInBounds r (.map (es.modify j fun e => { e with key := f a, val := v }) clock) } := by
      simp only [Instr.mapUpdate, Sem.run_bind, run_underlying ht, Result.andThen_ok, MapKept.run_getObj_map hb, F.chk, F.find a es.toList kv w he, hf]
      simp only [hen, Option.map_some, Option.getD_some, henk, F.keep]
      exact MapKept.run_setObj_map _ hb
    refine ⟨_, hr, ⟨_, _, (heap_set hb).1, ?_, ?_⟩, hch _, by simp⟩
    · rw [h3]
      apply List.ext_getElem?
      intro i
      have hi := congrArg (fun l => l[i]?) he
      simp only [List.getElem?_map, Array.getElem?_toList, Array.getElem?_modify, List.getElem?_set] at hi ⊢
      by_cases c : j = i
      · subst c
        have hjl : j < kv.length := (List.getElem?_eq_some_iff.1 h1).1
        simp [hen, hjl]
      · simpa [c] using hi
    · refine stamped_modify hs j _ (fun e _ => rfl) (fun e _ he' => ?_)
      have : e = en := by rw [hen] at he'; exact (Option.some.inj he').symm
      subst this
      exact henk.symm
theorem map_erase {γ δ : Type} (g : γ → δ) : ∀ (l : List γ) (i : Nat), (l.eraseIdx i).map g = (l.map g).eraseIdx i
  | [], _ => by simp
  | _ :: _, 0 => rfl
  | x :: l, i + 1 => by simp [map_erase g l i]
theorem MapA.run_delete {r : Nat} {T Kt ty : TypeId} (F : KeyFn P K f) (ht : P.underlying T = some (.map K E)) (h : MapA w r f kv) (a : α) :
    ∃ w', (Builtin.delete_ #[T, Kt] ty #[.map (some r), f a]).run P w = .ok (.tuple #[]) w' ∧ MapA w' r f (adel kv a) ∧ Chg (· = r) w w' ∧ w'.heap.size = w.heap.size := by
  obtain ⟨es, clock, hb, he, hs⟩ := h
  have hch : ∀ o : Obj, Chg (· = r) w { w with heap := w.heap.setIfInBounds r o } := fun o =>
    ⟨rfl, rfl, rfl, by simp, fun k _ hk => (heap_set (o' := o) hb).2 k hk⟩
  have hfd := F.find a es.toList kv w he
  cases hf : findA kv a 0 with
  | none =>
    obtain ⟨_, _, h3, _⟩ := findA_none hf
    have hr : (Builtin.delete_ #[T, Kt] ty #[.map (some r), f a]).run P w = .ok (.tuple #[]) { w with heap := w.heap.setIfInBounds r (.map es clock) } := by
      simp only [Builtin.delete_, List.getElem?_toArray, List.getElem?_cons_zero, List.getElem?_cons_succ, Sem.run_bind, run_underlying ht, Result.andThen_ok, MapKept.run_getObj_map hb, F.chk, Sem.run_pure]
      rw [hfd, hf]
      simp only [Result.andThen_ok, Sem.run_bind]
      rw [MapKept.run_setObj_map _ hb]
      rfl
    exact ⟨_, hr, ⟨_, _, (heap_set hb).1, by rw [h3]; exact he, hs⟩, hch _, by simp⟩
  | some p =>
    obtain ⟨j, u⟩ := p
    obtain ⟨n, e0, h1, h2, _, h3⟩ := findA_some hf
    have e0' : j = n := by omega
    subst e0'
    have hr : (Builtin.delete_ #[T, Kt] ty #[.map (some r), f a]).run P w = .ok (.tuple #[]) { w with heap := w.heap.setIfInBounds r (.map (es.eraseIdxIfInBounds j) clock) } := by
      simp only [Builtin.delete_, List.getElem?_toArray, List.getElem?_cons_zero, List.getElem?_cons_succ, Sem.run_bind, run_underlying ht, Result.andThen_ok, MapKept.run_getObj_map hb, F.chk, Sem.run_pure]
      rw [hfd, hf]
      simp only [Result.andThen_ok, Sem.run_bind]
      rw [MapKept.run_setObj_map _ hb]
      rfl
    refine ⟨_, hr, ⟨_, _, (heap_set hb).1, ?_, stamped_erase hs j⟩, hch _, by simp⟩
    rw [h3]
    have hl : es.size = kv.length := by simpa using congrArg List.length he
    have hj : j < es.size := by rw [hl]; exact (List.getElem?_eq_some_iff.1 h1).1
    simp only [Array.eraseIdxIfInBounds, hj, dite_true, Array.toList_eraseIdx]
    rw [map_erase, map_erase, he]
theorem MapV.run_len {mv : Value} {T ty : TypeId} (ht : P.underlying T = some (.map K E)) (h : MapV w mv f kv) : (Builtin.len_ #[T] ty #[mv]).run P w = .ok (.int .i64 kv.length) w := by
  rcases h with ⟨rfl, rfl⟩ | ⟨r, rfl, es, clock, hb, he, _⟩
  · simp only [Builtin.len_, List.getElem?_toArray, List.getElem?_cons_zero, Sem.run_bind, run_underlying ht, Result.andThen_ok, Sem.run_pure]; rfl
  · have hl : es.size = kv.length := by simpa using congrArg List.length he
    simp only [Builtin.len_, List.getElem?_toArray, List.getElem?_cons_zero, Sem.run_bind, run_underlying ht, Result.andThen_ok, MapKept.run_getObj_map hb, Sem.run_pure]
    rw [hl]; rfl

theorem mapA_made (w : World) (f : α → Value) : MapA (w.alloc (.map #[] 0)) w.heap.size f [] := ⟨#[], 0, block_alloc _ _, rfl, stamped_empty 0⟩

/-! ### At the operations -/
variable {ops : Array Oper} {rest : List Oper} {o : Oper} {a : Act} {Q : Exit → Act → World → Prop}
theorem wpList_lookupA (hg : o.guard = none) (m x : Operand) (T : TypeId) (ok : Bool) (hop : o.op = Op.lookup T m x ok) (K E : TypeId) (ht : P.underlying T = some (.map K E)) (F : KeyFn P K f) (z : Value) (hz : (zeroValue E).run P w = .ok z w)
    (hM : MapV w (a.eval m) f kv) (k : α) (hx : a.eval x = f k)
    (hK : wpList P ops Q rest (a.put o.dst (if ok then .tuple #[(aget kv k).getD z, .bool (aget kv k).isSome] else (aget kv k).getD z)) w) : wpList P ops Q (o :: rest) a w := by
  refine wpList_plain hg fun K' hK' => ?_
  unfold Oper.wp
  simp [execOp, hop, hx, hM.run_lookup F ht hz k ok, Result.andThen]
  exact hK' _ _ hK
theorem wpList_mapUpdateA (hg : o.guard = none) (m x v : Operand) (T : TypeId) (hop : o.op = Op.mapUpdate T m x v) (K E : TypeId) (ht : P.underlying T = some (.map K E)) (F : KeyFn P K f)
    (r : Nat) (hm : a.eval m = .map (some r)) (hM : MapA w r f kv) (k : α) (hx : a.eval x = f k) (val : Value) (hv : a.eval v = val)
    (hK : ∀ w', MapA w' r f (aput kv k val) → Chg (· = r) w w' → w'.heap.size = w.heap.size → wpList P ops Q rest (a.put o.dst undef) w') : wpList P ops Q (o :: rest) a w := by
  refine wpList_plain hg fun K' hK' => ?_
  obtain ⟨w', hr, h1, h2, h3⟩ := hM.run_update F ht k val
  unfold Oper.wp
  simp [execOp, hop, hx, hm, hv, hr, Result.andThen]
  exact hK' _ _ (hK w' h1 h2 h3)
end

section
variable {α : Type} [DecidableEq α] {P : Program} {K E : TypeId} {f : α → Value} {kv : List (α × Value)} {w : World} {ops : Array Oper} {rest : List Oper} {o : Oper} {a : Act} {Q : Exit → Act → World → Prop}
theorem wpList_deleteA (hg : o.guard = none) (m x : Operand) (T Kt : TypeId) (hop : o.op = Op.call { callee := .builtin .delete, args := #[m, x], argTypes := #[T, Kt] }) (K E : TypeId) (ht : P.underlying T = some (.map K E)) (F : KeyFn P K f)
    (r : Nat) (hm : a.eval m = .map (some r)) (hM : MapA w r f kv) (k : α) (hx : a.eval x = f k)
    (hK : ∀ w', MapA w' r f (adel kv k) → Chg (· = r) w w' → w'.heap.size = w.heap.size → wpList P ops Q rest (a.put o.dst (.tuple #[])) w') : wpList P ops Q (o :: rest) a w := by
  refine wpList_plain hg fun K' hK' => ?_
  obtain ⟨w', hr, h1, h2, h3⟩ := hM.run_delete (Kt := Kt) (ty := o.type) F ht k
  unfold Oper.wp
  simp [execOp, hop, resolve, invoke, builtin, hm, hx, hr, Result.andThen]
  exact hK' _ _ (hK w' h1 h2 h3)
end

/-! ### Keys -/
theorem findNow_keys {α : Type} [DecidableEq α] {f : α → Value} {d : TypeDesc} (hs : ∀ a b, Instr.sameNow d (f a) (f b) = some (decide (a = b))) (k : α) :
    ∀ (l : List MapEntry) (kv : List (α × Value)) (i : Nat), l.map (fun e => (e.key, e.val)) = kv.map (fun p => (f p.1, p.2)) → Instr.findNow d (f k) l i = some (findA kv k i)
  | [], [], _, _ => rfl
  | [], _ :: _, _, h => by cases h
  | _ :: _, [], _, h => by cases h
  | e :: l, p :: kv, i, h => by
    simp only [List.map_cons, List.cons.injEq, Prod.mk.injEq] at h
    obtain ⟨⟨h1, h2⟩, h3⟩ := h
    unfold Instr.findNow findA
    rw [h1, hs]
    by_cases c : k = p.1
    · simp [c, h2]
    · simp [c, findNow_keys hs k l kv (i + 1) h3]

theorem keyFn_now {α : Type} [DecidableEq α] {P : Program} {K : TypeId} {f : α → Value} {d : TypeDesc} (hd : P.underlying K = some d) (hk : ∀ a, IsKey d (f a)) (hs : ∀ a b, Instr.sameNow d (f a) (f b) = some (decide (a = b)))
    (inj : ∀ a b, f a = f b → a = b) : KeyFn P K f where
  chk := fun em a w => run_checkKey hd (hk a) em 9999
  find := fun a l kv w h => run_findKey hd (findNow_keys hs a l kv 0 h)
  keep := fun a w => run_keyThatStays (hk a)
  inj := inj

def ik (n : Int) : Value := .int .i64 n
theorem keyInt {P : Program} {K : TypeId} (hd : P.underlying K = some (.int .i64)) : KeyFn P K ik :=
  keyFn_now hd (fun _ => rfl) (fun a b => by simp only [Instr.sameNow, ik, if_true]; congr 1) (fun a b h => by cases h; rfl)
def sk (s : ByteArray) : Value := .string s
theorem keyStr {P : Program} {K : TypeId} (hd : P.underlying K = some .string) : KeyFn P K sk :=
  keyFn_now hd (fun _ => trivial) (fun a b => by
    simp only [Instr.sameNow, sk]
    congr 1
    rw [Bool.eq_iff_iff, bytes_beq]; simp) (fun a b h => by cases h; rfl)

end
/- Slices told by their elements (SliceAt), over any program: append, reads. -/

/-- Blocks S' are S's, or new. -/
def Grow (S S' : Nat → Prop) (w w' : World) : Prop := ∀ x, S' x → S x ∨ (w.heap.size ≤ x ∧ x < w'.heap.size)
theorem Grow.refl (S : Nat → Prop) (w w' : World) : Grow S S w w' := fun x h => .inl h
theorem Grow.ge {S S' : Nat → Prop} {w w' : World} {B : Nat} (h : Grow S S' w w') (hS : ∀ x, S x → B ≤ x) (hB : B ≤ w.heap.size) : ∀ x, S' x → B ≤ x := fun x hx => by
  rcases h x hx with h | h
  · exact hS x h
  · omega

/-- The value v is a slice whose cells (n elements of E, size cells each) are xs; its block is in S. -/
def SliceAt (w : World) (v : Value) (E size n : Nat) (xs : List Value) (S : Nat → Prop) : Prop :=
  xs.length = n * size ∧ ((v = .slice none 0 0 ∧ n = 0) ∨
    ∃ g off cap cs, v = .slice (some ⟨g, off, none⟩) n cap ∧ w.heap[g]? = some (.cells cs E (0, 0)) ∧ n ≤ cap ∧ cap ≤ maxLen ∧ off + cap * size ≤ cs.size ∧ (∀ j u, xs[j]? = some u → cs[off + j]? = some u) ∧ S g)

theorem SliceAt.keep {w w' : World} {v : Value} {E size n : Nat} {xs : List Value} {S T : Nat → Prop} (h : SliceAt w v E size n xs S) (c : Chg T w w') (hd : ∀ x, S x → ¬ T x) : SliceAt w' v E size n xs S := by
  obtain ⟨h1, h2 | ⟨g, off, cap, cs, e, hb, r⟩⟩ := h
  · exact ⟨h1, .inl h2⟩
  · exact ⟨h1, .inr ⟨g, off, cap, cs, e, c.keep hb (hd g r.2.2.2.2), r⟩⟩
theorem SliceAt.mono {w : World} {v : Value} {E size n : Nat} {xs : List Value} {S T : Nat → Prop} (h : SliceAt w v E size n xs S) (hd : ∀ x, S x → T x) : SliceAt w v E size n xs T := by
  obtain ⟨h1, h2 | ⟨g, off, cap, cs, e, hb, a, b, c, d, s⟩⟩ := h
  · exact ⟨h1, .inl h2⟩
  · exact ⟨h1, .inr ⟨g, off, cap, cs, e, hb, a, b, c, d, hd g s⟩⟩
theorem sliceAt_nil (w : World) (E size : Nat) (S : Nat → Prop) : SliceAt w (.slice none 0 0) E size 0 [] S := ⟨by simp, .inl ⟨rfl, rfl⟩⟩
theorem SliceAt.shape {w : World} {v : Value} {E size n : Nat} {xs : List Value} {S : Nat → Prop} (h : SliceAt w v E size n xs S) : ∃ a cap, v = .slice a n cap := by
  obtain ⟨_, ⟨rfl, rfl⟩ | ⟨g, off, cap, cs, e, _⟩⟩ := h
  · exact ⟨none, 0, rfl⟩
  · exact ⟨_, cap, e⟩
/-- A slice that has elements: where it lies. -/
theorem SliceAt.place {w : World} {v : Value} {E size n : Nat} {xs : List Value} {S : Nat → Prop} (h : SliceAt w v E size n xs S) (hn : 0 < n) :
    ∃ g off cap cs, v = .slice (some ⟨g, off, none⟩) n cap ∧ w.heap[g]? = some (.cells cs E (0, 0)) ∧ n ≤ cap ∧ cap ≤ maxLen ∧ off + cap * size ≤ cs.size ∧ (∀ j u, xs[j]? = some u → w.cell? ⟨g, off + j, none⟩ = some u) ∧ S g ∧ g < w.heap.size := by
  obtain ⟨_, ⟨_, rfl⟩ | ⟨g, off, cap, cs, e, hb, h1, h2, h3, h4, h5⟩⟩ := h
  · omega
  · exact ⟨g, off, cap, cs, e, hb, h1, h2, h3, fun j u hj => by rw [cell_of hb]; exact h4 j u hj, h5, lt_of_block hb⟩
theorem SliceAt.of_owns {w : World} {base E size : Nat} {v : Value} {n : Nat} {xs : List Value} {S : Nat → Prop} (h : w.ownsRow base E size v n xs) (hS : ∀ x, base ≤ x → x < w.heap.size → S x) : SliceAt w v E size n xs S := by
  obtain ⟨h1, ⟨a, b⟩ | ⟨g, cap, cur, e, hg, hb, h2, h3, h4, h5⟩⟩ := h
  · exact ⟨h1, .inl ⟨a, b⟩⟩
  · refine ⟨h1, .inr ⟨g, 0, cap, cur, e, hb, h2, h3, by omega, fun j u hj => ?_, hS g hg (lt_of_block hb)⟩⟩
    rw [← h5, List.getElem?_take] at hj
    split at hj
    · simpa using hj
    · cases hj

theorem block_setCells {T : TypeId} {fz : Nat × Nat} {b : Nat} : ∀ (vs : List Value) (o : Nat) (w : World) (cs : Array Value), w.heap[b]? = some (.cells cs T fz) →
    ∃ cs', (w.setCells b o vs).heap[b]? = some (.cells cs' T fz) ∧ cs'.size = cs.size ∧ (∀ j, j < vs.length → o + j < cs.size → cs'[o + j]? = vs[j]?) ∧ (∀ i, i < o ∨ o + vs.length ≤ i → cs'[i]? = cs[i]?)
  | [], o, w, cs, h => ⟨cs, h, rfl, fun j hj => by simp at hj, fun _ _ => rfl⟩
  | v :: vs, o, w, cs, h => by
    obtain ⟨cs', h1, h2, h3, h4⟩ := block_setCells vs (o + 1) _ _ (block_setCell h o v)
    refine ⟨cs', h1, by simpa using h2, fun j hj hl => ?_, fun i hi => ?_⟩
    · cases j with
      | zero => rw [h4 (o + 0) (.inl (by omega))]; simp at hl ⊢; simp [hl]
      | succ j =>
        have := h3 j (by simpa using hj) (by simp; omega)
        rw [show o + (j + 1) = o + 1 + j by omega, this]; simp
    · rw [h4 i (by simp at hi; omega)]
      simp at hi
      rw [Array.getElem?_setIfInBounds_ne (by omega)]
theorem chg_setCells {b : Nat} : ∀ (vs : List Value) (o : Nat) (w : World), Chg (· = b) w (w.setCells b o vs)
  | [], _, w => Chg.refl _ w
  | v :: vs, o, w => Chg.then (S := (· = b)) ((Chg.refl (· = b) w).setCell (p := ⟨b, o, none⟩) (.inr rfl) v) (chg_setCells vs (o + 1) (w.setCell ⟨b, o, none⟩ v))
theorem size_setCells' {b : Nat} : ∀ (vs : List Value) (o : Nat) (w : World), (w.setCells b o vs).heap.size = w.heap.size
  | [], _, _ => rfl
  | v :: vs, o, w => by
    show ((w.setCell _ v).setCells b (o + 1) vs).heap.size = _
    rw [size_setCells' vs]; simp

section
variable {P : Program} {w : World}
/-- append of m elements that lie at a. -/
theorem run_appendS {T ty E : TypeId} {z : Value} {size bytes : Nat} (ht : P.underlying T = some (.slice E)) (hinfo : (P.info? E).map (fun i => (i.zero, i.size, i.bytes)) = some (some z, size, bytes)) (hzs : z.cells.size = size) (hsz : 0 < size)
    {v : Value} {n : Nat} {xs : List Value} {S : Nat → Prop} (h : SliceAt w v E size n xs S) {a : Addr} {m c : Nat} {news : List Value} (hl : news.length = m * size) (hnews : ∀ j u, news[j]? = some u → w.cell? (a.add j) = some u) (h1 : ∀ u ∈ news, u.oneCell' = true)
    (h63 : n + m ≤ maxLen) (hb : (n + m) * bytes ≤ 140737488355328) :
    ∃ v' w' S', (Builtin.append_ #[T, T] ty #[v, .slice (some a) m c]).run P w = .ok v' w' ∧ SliceAt w' v' E size (n + m) (xs ++ news) S' ∧ Chg S w w' ∧ Grow S S' w w' := by
  obtain ⟨i, hi, hz0, hz1, hz2⟩ := info_parts hinfo
  obtain ⟨hlen, hcase⟩ := h
  have hgrown : ∀ {v' : Value} {w' : World}, w'.ownsRow w.heap.size E size v' (n + m) (xs ++ news) → w.grownBy w' none → ∃ S', SliceAt w' v' E size (n + m) (xs ++ news) S' ∧ Chg S w w' ∧ Grow S S' w w' := fun ho hg =>
    ⟨fun x => w.heap.size ≤ x ∧ x < _, SliceAt.of_owns ho (fun x h1 h2 => ⟨h1, h2⟩), ⟨hg.os, hg.tape, hg.output, hg.size, fun k hk _ => hg.block k hk (by simp)⟩, fun x hx => .inr hx⟩
  rcases hcase with ⟨rfl, rfl⟩ | ⟨g, off, cap, cs, rfl, hbk, hnc, hcm, hoff, hcells, hS⟩
  · have hx0 : xs = [] := by simpa using hlen
    subst hx0
    obtain ⟨v', w', r, ho, hg, _⟩ := run_append_own (w := w) (P := P) w.heap.size T ty E i z size bytes ht hi hz0 hz1 hz2 hzs hsz (.slice none 0 0) 0 [] (World.ownsRow_nil _ _ _ _) a m c news hl hnews h1 h63 hb (Nat.le_refl _)
    obtain ⟨S', h2, h3, h4⟩ := hgrown ho hg
    exact ⟨v', w', S', r, h2, h3, h4⟩
  · by_cases hroom : n + m ≤ cap
    · have hlt : ∀ j, j < news.length → off + n * size + j < cs.size := fun j hj => by
        have : (n + m) * size ≤ cap * size := Nat.mul_le_mul_right _ hroom
        rw [Nat.add_mul] at this
        omega
      have hr := run_append_room_cells (w := w) (P := P) T ty E i ht hi g off n cap a m c news (by rw [hz1]; exact hl) hnews h1 hroom
        (fun j hj => by rw [hz1, cell_of hbk]; simp [hlt j hj]) (fun j hj => free_of hbk _)
      rw [hz1] at hr
      obtain ⟨cs', e1, e2, e3, e4⟩ := block_setCells news (off + n * size) w cs hbk
      refine ⟨_, _, S, hr, ⟨by rw [List.length_append, hlen, hl, Nat.add_mul], .inr ⟨g, off, cap, cs', rfl, e1, hroom, hcm, by rw [e2]; exact hoff, fun j u hj => ?_, hS⟩⟩, (chg_setCells _ _ _).mono (fun x _ e => by subst e; exact hS), Grow.refl _ _ _⟩
      rcases Nat.lt_or_ge j xs.length with hj' | hj'
      · rw [List.getElem?_append_left hj'] at hj
        rw [e4 _ (.inl (by omega))]
        exact hcells j u hj
      · rw [List.getElem?_append_right hj'] at hj
        have hjl := (List.getElem?_eq_some_iff.1 hj).1
        have hk : off + j = off + n * size + (j - xs.length) := by omega
        rw [hk, e3 _ hjl (hlt _ hjl)]
        exact hj
    · obtain ⟨v', w', r, ho, hg⟩ := run_append_arg_grows (w := w) (P := P) T ty E i z size bytes ht hi hz0 hz1 hz2 hzs hsz ⟨g, off, none⟩ n cap xs hlen (fun j u hj => by
        have := hcells j u hj
        rw [Addr.add_lit, cell_of hbk]; exact this) a m c news hl hnews (by omega) h63 hb
      obtain ⟨S', h2, h3, h4⟩ := hgrown ho hg
      exact ⟨v', w', S', r, h2, h3, h4⟩

variable {ops : Array Oper} {rest : List Oper} {o : Oper} {a : Act} {Q : Exit → Act → World → Prop}
theorem wpList_appendS (hg : o.guard = none) (s x : Operand) (T : TypeId) (hop : o.op = .call { callee := .builtin .append, args := #[s, x], argTypes := #[T, T] })
    {E : TypeId} {z : Value} {size bytes : Nat} (ht : P.underlying T = some (.slice E)) (hinfo : (P.info? E).map (fun i => (i.zero, i.size, i.bytes)) = some (some z, size, bytes)) (hzs : z.cells.size = size) (hsz : 0 < size)
    {v : Value} (hv : a.eval s = v) {n : Nat} {xs : List Value} {S : Nat → Prop} (h : SliceAt w v E size n xs S) {ad : Addr} {m c : Nat} (hx : a.eval x = .slice (some ad) m c) (news : List Value) (hl : news.length = m * size) (hnews : ∀ j u, news[j]? = some u → w.cell? (ad.add j) = some u) (h1 : ∀ u ∈ news, u.oneCell' = true)
    (h63 : n + m ≤ maxLen) (hb : (n + m) * bytes ≤ 140737488355328)
    (hK : ∀ v' w' S', SliceAt w' v' E size (n + m) (xs ++ news) S' → Chg S w w' → Grow S S' w w' → wpList P ops Q rest (a.put o.dst v') w') : wpList P ops Q (o :: rest) a w := by
  refine wpList_plain hg fun K' hK' => ?_
  obtain ⟨v', w', S', r, h2, h3, h4⟩ := run_appendS (ty := o.type) (c := c) ht hinfo hzs hsz h hl hnews h1 h63 hb
  unfold Oper.wp
  simp [execOp, hop, resolve, invoke, builtin, hv, hx, r, Result.andThen]
  exact hK' _ _ (hK v' w' S' h2 h3 h4)
end

/-! ### Elements of several cells -/
theorem flat_len {α : Type} {size : Nat} (enc : α → List Value) (he : ∀ a, (enc a).length = size) : ∀ l : List α, (l.flatMap enc).length = l.length * size
  | [] => by simp
  | a :: l => by simp [he, flat_len enc he l, Nat.add_mul]; omega
theorem flat_get {α : Type} {size : Nat} (enc : α → List Value) (he : ∀ a, (enc a).length = size) : ∀ (l : List α) (i j : Nat) (a : α), l[i]? = some a → j < size → (l.flatMap enc)[i * size + j]? = (enc a)[j]?
  | [], _, _, _, h, _ => by cases h
  | b :: l, 0, j, a, h, hj => by
    simp only [List.getElem?_cons_zero, Option.some.injEq] at h
    subst h
    simp only [List.flatMap_cons, Nat.zero_mul, Nat.zero_add]
    rw [List.getElem?_append_left (by rw [he]; exact hj)]
  | b :: l, i + 1, j, a, h, hj => by
    simp only [List.flatMap_cons]
    rw [List.getElem?_append_right (by rw [he, Nat.add_mul]; omega), he, show (i + 1) * size + j - size = i * size + j by rw [Nat.add_mul]; omega]
    exact flat_get enc he l i j a (by simpa using h) hj

theorem cell_new_list (w : World) (l : List Value) (E : TypeId) (j : Nat) (u : Value) (h : l[j]? = some u) : (w.alloc (.cells l.toArray E)).cell? ((⟨w.heap.size, 0, none⟩ : Addr).add j) = some u := by
  rw [Addr.add_lit, cell_of (block_alloc w (.cells l.toArray E))]
  simpa using h

/-- One element stored anew. -/
theorem SliceAt.setElem {α : Type} {enc : α → List Value} {w : World} {g off n cap E size : Nat} {l : List α} {S : Nat → Prop} (he : ∀ a, (enc a).length = size)
    (h : SliceAt w (.slice (some ⟨g, off, none⟩) n cap) E size n (l.flatMap enc) S) {k : Nat} (hk : k < l.length) (x : α) :
    SliceAt (w.setCells g (off + k * size) (enc x)) (.slice (some ⟨g, off, none⟩) n cap) E size n ((l.set k x).flatMap enc) S := by
  obtain ⟨h1, ⟨e, _⟩ | ⟨g', off', cap', cs, e, hb, h2, h3, h4, h5, h6⟩⟩ := h
  · cases e
  cases e
  obtain ⟨cs', e1, e2, e3, e4⟩ := block_setCells (enc x) (off + k * size) w cs hb
  have hn : l.length * size = n * size := by rw [← flat_len enc he l]; exact h1
  have hks : (k + 1) * size ≤ n * size := by rw [← hn]; exact Nat.mul_le_mul_right _ hk
  have hnc : n * size ≤ cap * size := Nat.mul_le_mul_right _ h2
  rw [Nat.add_mul] at hks
  refine ⟨by rw [flat_len enc he]; simpa using hn, .inr ⟨g, off, cap, cs', rfl, e1, h2, h3, by rw [e2]; exact h4, fun j u hj => ?_, h6⟩⟩
  have hjl := (List.getElem?_eq_some_iff.1 hj).1
  rw [flat_len enc he, List.length_set] at hjl
  by_cases hin : k * size ≤ j ∧ j < k * size + size
  · obtain ⟨r, rfl⟩ : ∃ r, j = k * size + r := ⟨j - k * size, by omega⟩
    rw [flat_get enc he (l.set k x) k r x (by simp [hk]) (by omega)] at hj
    rw [show off + (k * size + r) = off + k * size + r by omega, e3 r (by rw [he]; omega) (by omega)]
    exact hj
  · rw [e4 _ (by rw [he]; omega)]
    refine h5 j u ?_
    have hs0 : 0 < size := by rcases Nat.eq_zero_or_pos size with h | h; (subst h; simp at hjl); exact h
    obtain ⟨i, r, rfl, hr⟩ : ∃ i r, j = i * size + r ∧ r < size := ⟨j / size, j % size, by rw [Nat.mul_comm]; exact (Nat.div_add_mod j size).symm, Nat.mod_lt _ hs0⟩
    have hi : i < l.length := by
      rcases Nat.lt_or_ge i l.length with h | h
      · exact h
      · have := Nat.mul_le_mul_right size h; omega
    have hik : i ≠ k := fun e => by subst e; omega
    obtain ⟨y, hy⟩ : ∃ y, l[i]? = some y := ⟨l[i], List.getElem?_eq_getElem hi⟩
    rw [flat_get enc he (l.set k x) i r y (by rw [List.getElem?_set_ne (fun e => hik e.symm)]; exact hy) hr] at hj
    rw [flat_get enc he l i r y hy hr]; exact hj
theorem SliceAt.elem {α : Type} {enc : α → List Value} {w : World} {g off n cap E size : Nat} {l : List α} {S : Nat → Prop} (he : ∀ a, (enc a).length = size)
    (h : SliceAt w (.slice (some ⟨g, off, none⟩) n cap) E size n (l.flatMap enc) S) {k : Nat} {x : α} (hk : l[k]? = some x) (r : Nat) (u : Value) (hu : (enc x)[r]? = some u) : w.cell? ⟨g, off + k * size + r, none⟩ = some u ∧ w.frozen? ⟨g, off + k * size + r, none⟩ = false ∧ g < w.heap.size := by
  obtain ⟨h1, ⟨e, _⟩ | ⟨g', off', cap', cs, e, hb, h2, h3, h4, h5, h6⟩⟩ := h
  · cases e
  cases e
  refine ⟨?_, free_of hb _, lt_of_block hb⟩
  rw [cell_of hb, Nat.add_assoc]
  have hr : r < size := by rw [← he x]; exact (List.getElem?_eq_some_iff.1 hu).1
  exact h5 _ u (by rw [flat_get enc he l k r x hk hr]; exact hu)
theorem SliceAt.len {α : Type} {enc : α → List Value} {w : World} {v : Value} {n E size : Nat} {l : List α} {S : Nat → Prop} (he : ∀ a, (enc a).length = size) (hs : 0 < size) (h : SliceAt w v E size n (l.flatMap enc) S) : n = l.length := by
  have := h.1
  rw [flat_len enc he] at this
  exact (Nat.mul_right_cancel hs this).symm
theorem SliceAt.le {w : World} {v : Value} {n E size : Nat} {xs : List Value} {S : Nat → Prop} (h : SliceAt w v E size n xs S) : n ≤ 9223372036854775807 := by
  rcases Nat.eq_zero_or_pos n with h0 | h0
  · omega
  · obtain ⟨_, _, _, _, _, _, h1, h2, _⟩ := h.place h0
    unfold maxLen at h2; omega

/- What a call owns: a list of resources (each with the blocks it lies in), kept over steps that turn other blocks; contracts that say what is handed in and what is handed back (Spec); the operations' laws by it. Over any program, no condition. -/

/-- A resource: may it be written? the blocks it lies in; what is so. -/
structure Res where
  wr : Bool
  foot : Nat → Prop
  fact : World → Prop
  stab : ∀ (w w' : World), fact w → w.heap.size ≤ w'.heap.size → (∀ b, foot b → w'.heap[b]? = w.heap[b]?) → fact w'
  alive : ∀ (w : World) (b : Nat), fact w → foot b → b < w.heap.size

abbrev Ent := Bool → Nat → Prop

/-- Since w0 only what E allows has turned; in w the resources L are so, apart from each other where one is written. -/
structure Own (w0 : World) (E : Ent) (L : List Res) (w : World) : Prop where
  chg : Chg (E true) w0 w
  mono : ∀ b, E true b → E false b
  facts : ∀ r ∈ L, r.fact w
  apart : L.Pairwise (fun r s => r.wr = true ∨ s.wr = true → ∀ b, r.foot b → ¬ s.foot b)
  may : ∀ r ∈ L, ∀ b, r.foot b → E r.wr b ∨ w0.heap.size ≤ b

theorem Own.perm {w0 w : World} {E : Ent} {L L' : List Res} (h : Own w0 E L w) (p : L.Perm L') : Own w0 E L' w :=
  ⟨h.chg, h.mono, fun r hr => h.facts r (p.mem_iff.2 hr), p.pairwise h.apart (fun {r s} hrs c b hb hs => hrs (c.symm) b hs hb), fun r hr => h.may r (p.mem_iff.2 hr)⟩
theorem Own.left {w0 w : World} {E : Ent} {L M : List Res} (h : Own w0 E (L ++ M) w) : Own w0 E L w :=
  ⟨h.chg, h.mono, fun r hr => h.facts r (List.mem_append_left _ hr), (List.pairwise_append.1 h.apart).1, fun r hr => h.may r (List.mem_append_left _ hr)⟩
/-- What a list of resources lies in. -/
def entOf (L : List Res) : Ent := fun t b => ∃ r ∈ L, r.foot b ∧ (t = true → r.wr = true)
theorem Own.focus {w0 w : World} {E : Ent} {L M : List Res} (h : Own w0 E (L ++ M) w) : Own w (entOf L) L w :=
  ⟨Chg.refl _ _, fun b ⟨r, hr, hb, _⟩ => ⟨r, hr, hb, fun e => by cases e⟩, h.left.facts, h.left.apart, fun r hr b hb => .inl ⟨r, hr, hb, fun e => e⟩⟩
theorem Own.unfocus {w0 w w' : World} {E : Ent} {L L' M : List Res} (h : Own w0 E (L ++ M) w) (k : Own w (entOf L) L' w') : Own w0 E (L' ++ M) w' := by
  obtain ⟨h1, h2, h3, h4, h5⟩ := h
  obtain ⟨k1, k2, k3, k4, k5⟩ := k
  obtain ⟨_, hM, hLM⟩ := List.pairwise_append.1 h4
  have hsz := h1.size
  refine ⟨h1.trans k1 ?_, h2, ?_, ?_, ?_⟩
  · rintro x hx ⟨r, hr, hb, hw⟩
    rcases h5 r (List.mem_append_left _ hr) x hb with h | h
    · rw [hw rfl] at h; exact h
    · omega
  · intro r hr
    rcases List.mem_append.1 hr with hr | hr
    · exact k3 r hr
    · have hf := h3 r (List.mem_append_right _ hr)
      refine r.stab w w' hf k1.size (fun b hb => k1.block b (r.alive w b hf hb) ?_)
      rintro ⟨s, hs, hsb, hw⟩
      exact hLM s hs r hr (.inl (hw rfl)) b hsb hb
  · refine List.pairwise_append.2 ⟨k4, hM, fun r hr s hs hc b hb hsb => ?_⟩
    rcases k5 r hr b hb with ⟨q, hq, hqb, hqw⟩ | hge
    · rcases hc with hc | hc
      · exact hLM q hq s hs (.inl (hqw hc)) b hqb hsb
      · exact hLM q hq s hs (.inr hc) b hqb hsb
    · have := s.alive w b (h3 s (List.mem_append_right _ hs)) hsb
      omega
  · intro r hr b hb
    rcases List.mem_append.1 hr with hr | hr
    · rcases k5 r hr b hb with ⟨q, hq, hqb, hqw⟩ | hge
      · rcases h5 q (List.mem_append_left _ hq) b hqb with h | h
        · refine .inl ?_
          cases e : r.wr
          · cases e2 : q.wr
            · rw [e2] at h; exact h
            · rw [e2] at h; exact h2 b h
          · rw [hqw e] at h; exact h
        · exact .inr h
      · exact .inr (by omega)
    · exact h5 r (List.mem_append_right _ hr) b hb

/-- The resources at these places, each counted behind the taking out of the ones before it; and the rest. -/
def pk : List Nat → List Res → List Res
  | [], _ => []
  | i :: is, L => match L[i]? with | some r => r :: pk is (L.eraseIdx i) | none => pk is L
def rs : List Nat → List Res → List Res
  | [], L => L
  | i :: is, L => rs is (L.eraseIdx i)
theorem erase_perm {α : Type} : ∀ {L : List α} {i : Nat} {r : α}, L[i]? = some r → (r :: L.eraseIdx i).Perm L
  | [], _, _, h => by simp at h
  | x :: L, 0, r, h => by simp at h; subst h; exact List.Perm.refl _
  | x :: L, i + 1, r, h => (List.Perm.swap x r _).trans ((erase_perm (by simpa using h)).cons x)
theorem pk_perm : ∀ (is : List Nat) (L : List Res), L.Perm (pk is L ++ rs is L)
  | [], L => by simp [pk, rs]
  | i :: is, L => by
    unfold pk rs
    cases hi : L[i]? with
    | none =>
      have hl : L.length ≤ i := by simpa using hi
      rw [List.eraseIdx_of_length_le hl]
      exact pk_perm is L
    | some r =>
      exact (erase_perm hi).symm.trans ((pk_perm is (L.eraseIdx i)).cons r)
theorem Own.pick {w0 w : World} {E : Ent} {L : List Res} (h : Own w0 E L w) (is : List Nat) : Own w0 E (pk is L) w := (h.perm (pk_perm is L)).left
theorem Own.pick1 {w0 w : World} {E : Ent} {r : Res} {L : List Res} (h : Own w0 E (r :: L) w) : Own w0 E L w :=
  ⟨h.chg, h.mono, fun r hr => h.facts r (List.mem_cons_of_mem _ hr), (List.pairwise_cons.1 h.apart).2, fun r hr => h.may r (List.mem_cons_of_mem _ hr)⟩
theorem Own.fact {w0 w : World} {E : Ent} {L : List Res} (h : Own w0 E L w) (i : Nat) {r : Res} (hi : L[i]? = some r) : r.fact w := h.facts r (List.mem_of_getElem? hi)
theorem Own.quiet {w0 w w' : World} {E : Ent} {L : List Res} (h : Own w0 E L w) (c : Chg Nil w w') : Own w0 E L w' :=
  ⟨h.chg.then c.nil, h.mono, fun r hr => r.stab w w' (h.facts r hr) c.size (fun b hb => c.block b (r.alive w b (h.facts r hr) hb) (fun f => f)), h.apart, h.may⟩
theorem Own.drew {w0 w : World} {E : Ent} {L : List Res} (h : Own w0 E L w) : Own w0 E L w.drew := h.quiet ((Chg.refl Nil w).drew)
theorem Own.push {w0 w w' : World} {E : Ent} {L : List Res} (h : Own w0 E L w) (c : Chg Nil w w') {r : Res} (hf : r.fact w') (hn : ∀ b, r.foot b → w.heap.size ≤ b) : Own w0 E (r :: L) w' := by
  have hq := h.quiet c
  have hsz := h.chg.size
  refine ⟨hq.chg, hq.mono, fun s hs => ?_, List.pairwise_cons.2 ⟨fun s hs _ b hb hsb => ?_, hq.apart⟩, fun s hs b hb => ?_⟩
  · rcases List.mem_cons.1 hs with rfl | hs
    · exact hf
    · exact hq.facts s hs
  · have := s.alive w b (h.facts s hs) hsb
    have := hn b hb
    omega
  · rcases List.mem_cons.1 hs with rfl | hs
    · exact .inr (by have := hn b hb; omega)
    · exact h.may s hs b hb
/-- One resource turns, and its blocks alone. -/
theorem Own.upd {w0 w w' : World} {E : Ent} {L : List Res} (h : Own w0 E L w) (i : Nat) {r r' : Res} (hi : L[i]? = some r) (hw : r.wr = true) (c : Chg r.foot w w') (hf : r'.fact w') (hg : ∀ b, r'.foot b → r.foot b ∨ w.heap.size ≤ b) : Own w0 E (L.set i r') w' := by
  have hl : i < L.length := (List.getElem?_eq_some_iff.1 hi).1
  have p1 := erase_perm hi
  have p2 := erase_perm (L := L.set i r') (i := i) (r := r') (by rw [List.getElem?_set_self hl])
  rw [List.eraseIdx_set_eq] at p2
  have h1 : Own w0 E ([r] ++ L.eraseIdx i) w := h.perm p1.symm
  have h2 : Own w (entOf [r]) [r'] w' := by
    refine ⟨c.mono (fun x _ hx => ⟨r, List.mem_singleton.2 rfl, hx, fun _ => hw⟩), fun b ⟨s, hs, hb, _⟩ => ⟨s, hs, hb, fun e => by cases e⟩, fun s hs => by rw [List.mem_singleton.1 hs]; exact hf, List.pairwise_singleton _ _, fun s hs b hb => ?_⟩
    rw [List.mem_singleton.1 hs] at hb ⊢
    rcases hg b hb with hb | hb
    · exact .inl ⟨r, List.mem_singleton.2 rfl, hb, fun _ => hw⟩
    · exact .inr hb
  exact (h1.unfocus h2).perm p2

/-- A contract: with these resources the call returns v and leaves the resources L', as Φ says. -/
def Spec (P : Program) (f : FuncId) (args : Array Value) (L : List Res) (Φ : Value → List Res → Prop) : Prop :=
  ∀ (E : Ent) (w0 w : World), Own w0 E L w → Calls P f args w fun e w' => ∃ v L', Φ v L' ∧ e = .returned v ∧ Own w0 E L' w'
theorem Spec.mono {P : Program} {f : FuncId} {args : Array Value} {L : List Res} {Φ Ψ : Value → List Res → Prop} (h : Spec P f args L Φ) (hm : ∀ v L', Φ v L' → Ψ v L') : Spec P f args L Ψ :=
  fun E w0 w ho => (h E w0 w ho).mono fun e w' ⟨v, L', h1, h2, h3⟩ => ⟨v, L', hm v L' h1, h2, h3⟩

/-! ### Resources -/
/-- A block of cells. -/
def rCell (wr : Bool) (b : Nat) (cs : List Value) (T : TypeId) : Res :=
  ⟨wr, (· = b), fun w => w.heap[b]? = some (.cells cs.toArray T (0, 0)), fun w w' h _ hb => (hb b rfl).trans h, fun w x h e => by rw [e]; exact lt_of_block h⟩
/-- A map told by its entries. -/
def blkOf : Value → Nat → Prop
  | .slice (some a) _ _ => (· = a.block)
  | .map (some r) => (· = r)
  | _ => fun _ => False
/-- A slice whose n elements of E (k cells each) have the cells xs. -/
def rSl (wr : Bool) (v : Value) (E k n : Nat) (xs : List Value) : Res :=
  ⟨wr, blkOf v, fun w => SliceAt w v E k n xs (blkOf v), fun w w' h hs hb => by
    obtain ⟨h1, h2 | ⟨g, off, cap, cs, e, hbk, a, b, c, d, s⟩⟩ := h
    · exact ⟨h1, .inl h2⟩
    · exact ⟨h1, .inr ⟨g, off, cap, cs, e, (hb g s).trans hbk, a, b, c, d, s⟩⟩,
   fun w x h hx => by
    obtain ⟨h1, ⟨rfl, _⟩ | ⟨g, off, cap, cs, rfl, hbk, _⟩⟩ := h
    · exact hx.elim
    · have : x = g := hx
      rw [this]; exact lt_of_block hbk⟩
theorem rSl_nil (wr : Bool) (E k : Nat) (w : World) : (rSl wr (.slice none 0 0) E k 0 []).fact w := sliceAt_nil _ _ _ _

/-- What lies at b, off on: the cells vs. -/
def RdAt (r : Res) (b off : Nat) (vs : List Value) : Prop := ∀ w, r.fact w → ∀ j u, vs[j]? = some u → w.cell? ⟨b, off + j, none⟩ = some u
theorem rdCell {wr : Bool} {b : Nat} {cs : List Value} {T : TypeId} (off : Nat) {vs : List Value} (h : (cs.drop off).take vs.length = vs) : RdAt (rCell wr b cs T) b off vs := fun w hf j u hj => by
  have hq : w.cell? ⟨b, off + j, none⟩ = cs[off + j]? := by rw [cell_of hf, List.getElem?_toArray]
  rw [hq]
  have hl := (List.getElem?_eq_some_iff.1 hj).1
  have h2 := congrArg (fun l => l[j]?) h
  simp only [List.getElem?_take, List.getElem?_drop, if_pos hl] at h2
  rw [h2]; exact hj
/-- The cells vs may be stored at b, off on: then it is r'. -/
def WrAt (r : Res) (b off : Nat) (vs : List Value) (r' : Res) : Prop := r.wr = true ∧ ∀ w, r.fact w → (∀ j, j < vs.length → (w.cell? ⟨b, off + j, none⟩).isSome = true ∧ w.frozen? ⟨b, off + j, none⟩ = false) ∧ r'.fact (w.setCells b off vs) ∧ r.foot b ∧ ∀ x, r'.foot x → r.foot x
theorem setCells_lit {b : Nat} {T : TypeId} : ∀ (vs : List Value) (off : Nat) (w : World) (cs : List Value), w.heap[b]? = some (.cells cs.toArray T (0, 0)) → off + vs.length ≤ cs.length →
    (w.setCells b off vs).heap[b]? = some (.cells (cs.take off ++ (vs ++ cs.drop (off + vs.length))).toArray T (0, 0))
  | [], off, w, cs, h, _ => by
    show w.heap[b]? = _
    rw [h]
    simp
  | v :: vs, off, w, cs, h, hl => by
    have h1 := block_setCell h off v
    rw [List.setIfInBounds_toArray] at h1
    have h2 := setCells_lit vs (off + 1) _ _ h1 (by simp at hl ⊢; omega)
    show ((w.setCell ⟨b, off, none⟩ v).setCells b (off + 1) vs).heap[b]? = _
    rw [h2]
    simp at hl
    have ho : off < cs.length := by omega
    congr 3
    apply List.ext_getElem?
    intro i
    have e1 : (List.take (off + 1) (cs.set off v)).length = off + 1 := by simp; omega
    have e2 : (List.take off cs).length = off := by simp; omega
    simp only [List.length_cons]
    rw [List.getElem?_append (l₁ := List.take (off + 1) (cs.set off v)), e1, List.getElem?_append (l₁ := List.take off cs), e2]
    by_cases h1 : i < off
    · rw [if_pos (by omega), if_pos h1, List.getElem?_take, List.getElem?_take, if_pos (by omega), if_pos h1, List.getElem?_set_ne (by omega)]
    · by_cases h2 : i = off
      · subst h2
        rw [if_pos (by omega), if_neg (by omega), List.getElem?_take, if_pos (by omega), List.getElem?_set_self ho]
        simp
      · rw [if_neg (by omega), if_neg h1]
        obtain ⟨d, rfl⟩ : ∃ d, i = off + 1 + d := ⟨i - off - 1, by omega⟩
        rw [show off + 1 + d - (off + 1) = d by omega, show off + 1 + d - off = d + 1 by omega, List.cons_append, List.getElem?_cons_succ, List.getElem?_append, List.getElem?_append]
        split
        · rfl
        · rw [List.getElem?_drop, List.getElem?_drop, List.getElem?_set_ne (by omega)]
          congr 1; omega
theorem wrCell {b : Nat} {cs : List Value} {T : TypeId} (off : Nat) (vs : List Value) {cs' : List Value} (hl : off + vs.length ≤ cs.length) (h : cs.take off ++ (vs ++ cs.drop (off + vs.length)) = cs') : WrAt (rCell true b cs T) b off vs (rCell true b cs' T) :=
  ⟨rfl, fun w hf => ⟨fun j hj => ⟨by rw [cell_of hf]; simp; omega, free_of hf _⟩, by rw [← h]; exact setCells_lit vs off w cs hf hl, rfl, fun x e => e⟩⟩

/- The operations' laws by what is owned (Own), in the text's order and in whatever order a region draws. Over any program, no condition. -/

section
variable {P : Program} {a : Act} {w w0 : World} {E : Ent} {L : List Res} {K : Act → World → Prop} {Q : Exit → Act → World → Prop}

/-! ### One operation -/
/-- It yields v in whatever world. -/
theorem op_pure {o : Oper} {v : Value} (hv : ∀ w, (execOp a.eval o).run P w = .ok (.value v) w) (hK : K (a.put o.dst v) w) : o.wp P a w K Q := by
  unfold Oper.wp; rw [hv]; exact hK
/-- It makes a block. -/
theorem op_new {o : Oper} (mk : Nat → Value) (cs : List Value) (T : TypeId) (hrun : ∀ w, (execOp a.eval o).run P w = .ok (.value (mk w.heap.size)) (w.alloc (.cells cs.toArray T)))
    (h : Own w0 E L w) (hK : ∀ b w', Own w0 E (rCell true b cs T :: L) w' → K (a.put o.dst (mk b)) w') : o.wp P a w K Q := by
  unfold Oper.wp; rw [hrun]
  exact hK _ _ (h.push ((Chg.refl Nil w).alloc _) (block_alloc w _) (fun b hb => by have : b = w.heap.size := hb; omega))
def ldv (P : Program) (T : TypeId) (vs : List Value) : Option Value :=
  match P.underlying T with
  | some (.struct _) | some (.array _ _) => (P.info? T).bind fun i => if i.size = vs.length then some (.agg vs.toArray) else none
  | some _ => match vs with | [v] => some v | _ => none
  | none => none
theorem run_isAgg {T : TypeId} {d : TypeDesc} (h : P.underlying T = some d) : (isAgg T).run P w = .ok (match d with | .struct _ | .array _ _ => true | _ => false) w := by
  unfold isAgg
  simp only [Sem.run_bind, run_underlying h, Result.andThen_ok]
  cases d <;> rfl
theorem sizeOf_run {T : TypeId} {n : Nat} (h : (P.info? T).map (·.size) = some n) : (sizeOf T).run P w = .ok n w := by
  cases hi : P.info? T with
  | none => rw [hi] at h; cases h
  | some i =>
    rw [hi] at h
    simp only [Option.map_some, Option.some.injEq] at h
    simp [sizeOf, typeInfo, hi, h]
theorem run_loadVarV {T : TypeId} {vs : List Value} {v : Value} (hT : ldv P T vs = some v) {b off : Nat} (hc : ∀ j u, vs[j]? = some u → w.cell? ⟨b, off + j, none⟩ = some u) : (loadVar T ⟨b, off, none⟩).run P w = .ok v w := by
  unfold ldv at hT
  have hagg : (P.info? T).bind (fun i => if i.size = vs.length then some (Value.agg vs.toArray) else none) = some v → (isAgg T).run P w = .ok true w → (loadVar T ⟨b, off, none⟩).run P w = .ok v w := fun hT hg => by
    cases hi : P.info? T with
    | none => rw [hi] at hT; cases hT
    | some i =>
      rw [hi] at hT
      simp only [Option.bind_some] at hT
      by_cases hs : i.size = vs.length
      · rw [if_pos hs] at hT
        cases hT
        have hz : (sizeOf T).run P w = .ok vs.length w := sizeOf_run (by rw [hi, ← hs]; rfl)
        have hl := run_loadCells_list (P := P) w ⟨b, off, none⟩ vs (fun j u hj => by rw [Addr.add_lit]; exact hc j u hj)
        unfold loadVar
        simp only [Sem.run_bind, hg, Result.andThen_ok, if_true, hz, hl, Sem.run_pure]
      · rw [if_neg hs] at hT; cases hT
  have hsc : ∀ u, vs = [u] → some u = some v → (isAgg T).run P w = .ok false w → (loadVar T ⟨b, off, none⟩).run P w = .ok v w := fun u e e2 hg => by
    cases e2
    have := hc 0 v (by rw [e]; rfl)
    unfold loadVar
    simp only [Sem.run_bind, hg, Result.andThen_ok, Bool.false_eq_true, if_false]
    rw [run_load]
    simp only [Nat.add_zero] at this
    simp [this]
  cases hu : P.underlying T with
  | none => rw [hu] at hT; cases hT
  | some d =>
    rw [hu] at hT
    have hg := run_isAgg (w := w) hu
    cases d <;> first
      | exact hagg hT hg
      | (match vs, hT with
         | [u], hT => exact hsc u rfl hT hg)
theorem op_load {dst : Option Tmp} {T : TypeId} {x : Operand} {ty : TypeId} {pos : String} {after : Array Edge} {g : Option (Nat × Bool)} {b off : Nat} (hx : a.eval x = .pointer (some ⟨b, off, none⟩)) {vs : List Value} {v : Value} (hT : ldv P T vs = some v)
    (h : Own w0 E L w) (i : Nat) {r : Res} (hi : L[i]? = some r) (hr : RdAt r b off vs) (hK : K (a.put dst v) w) : Oper.wp P ⟨dst, .load T x, ty, pos, after, g⟩ a w K Q := by
  have hl := run_loadVarV (P := P) (w := w) hT (hr w (h.fact i hi))
  unfold Oper.wp
  simp only [execOp, Instr.loadAt, hx, Instr.sureAddr, Sem.run_bind, Sem.run_pure, Result.andThen_ok, hl]
  exact hK
theorem op_store {dst : Option Tmp} {T : TypeId} {x y : Operand} {ty : TypeId} {pos : String} {after : Array Edge} {g : Option (Nat × Bool)} {b off : Nat} (hx : a.eval x = .pointer (some ⟨b, off, none⟩)) {vs : List Value} (hy : (a.eval y).cells = vs.toArray)
    (hs : (P.info? T).map (·.size) = some vs.length) (h1 : ∀ u ∈ vs, u.oneCell' = true) (h : Own w0 E L w) (i : Nat) {r r' : Res} (hi : L[i]? = some r) (hr : WrAt r b off vs r')
    (hK : ∀ w', Own w0 E (L.set i r') w' → K (a.put dst undef) w') : Oper.wp P ⟨dst, .store T x y, ty, pos, after, g⟩ a w K Q := by
  obtain ⟨hw, hr⟩ := hr
  obtain ⟨hc, hf, hfb, hff⟩ := hr w (h.fact i hi)
  have hst := run_storeCells_cells (P := P) b off vs 0 w (fun j hj => (hc j hj).1) (fun j hj => (hc j hj).2) h1
  rw [Nat.add_zero] at hst
  have hz : ∀ w, (sizeOf T).run P w = .ok vs.length w := fun w => sizeOf_run hs
  unfold Oper.wp
  simp only [execOp, Instr.storeAt, hx, Instr.sureAddr, storeVar, Sem.run_bind, Sem.run_pure, Result.andThen_ok, hz, hy, List.size_toArray, ne_eq, not_true_eq_false, if_false, hst]
  exact hK _ (h.upd i hi hw ((chg_setCells vs off w).mono (fun x _ e => by rw [e]; exact hfb)) hf (fun b hb => .inl (hff b hb)))
/-- A call of a Go function, by its contract. -/
theorem op_call {o : Oper} {f : FuncId} {args : Array Value} (is : List Nat) {Φ : Value → List Res → Prop} (hs : Spec P f args (pk is L) Φ) (hrun : ∀ w, (execOp a.eval o).run P w = .ok (.enter f args) w)
    (h : Own w0 E L w) (hK : ∀ v Lp w', Φ v Lp → Own w0 E (Lp ++ rs is L) w' → K (a.put o.dst v) w') : o.wp P a w K Q := by
  unfold Oper.wp; rw [hrun]
  have hp := h.perm (pk_perm is L)
  refine (hs _ w w hp.focus).mono ?_
  rintro e w' ⟨v, Lp, hΦ, rfl, ho⟩
  exact hK v Lp w' hΦ (hp.unfocus ho)

/-! ### In the text's order -/
theorem sq {ops : Array Oper} {o : Oper} {rest : List Oper} (hg : o.guard = none) (h : o.wp P a w (wpList P ops Q rest) Q) : wpList P ops Q (o :: rest) a w := by
  unfold wpList
  rw [if_pos (by simp [Region.wanted, hg])]
  exact .inl h
theorem sqg {ops : Array Oper} {o : Oper} {rest : List Oper} (hg : Region.wanted o (yielded ops a.tmps) = true) (h : o.wp P a w (wpList P ops Q rest) Q) : wpList P ops Q (o :: rest) a w := by
  unfold wpList
  rw [if_pos hg]
  exact .inl h
theorem sqn {ops : Array Oper} {o : Oper} {rest : List Oper} (hg : Region.wanted o (yielded ops a.tmps) = false) (h : wpList P ops Q rest (a.put o.dst undef) w) : wpList P ops Q (o :: rest) a w := by
  unfold wpList
  rw [if_neg (by simp [hg])]
  exact h

/-! ### In whatever order -/
/-- Whatever order is picked from here on; what is owned stays behind each operation but those of brk. -/
def wpAnyO (P : Program) (md : Region.Mode) (ops : Array Oper) (Q : Exit → Act → World → Prop) (w0 : World) (E : Ent) (brk : Nat → Bool) : Nat → Array Bool → List Res → Act → World → Prop
  | 0, listed, _, a, w => Region.ready md ops listed = [] ∧ Q .normal a w
  | fuel + 1, listed, L, a, w =>
    (Region.ready md ops listed = [] → Q .normal a w) ∧
    ∀ i ∈ Region.ready md ops listed, wpOp P ops Q i (fun a' w' => if brk i = true then wpAny P md ops Q fuel (listed.setIfInBounds i true) a' w' else Own w0 E L w' ∧ wpAnyO P md ops Q w0 E brk fuel (listed.setIfInBounds i true) L a' w') a w
variable {ops : Array Oper} {md : Region.Mode} {br : Nat → Bool}
theorem wpAny_of_O : ∀ (fuel : Nat) (listed : Array Bool) (L : List Res) (a : Act) (w : World), wpAnyO P md ops Q w0 E br fuel listed L a w → wpAny P md ops Q fuel listed a w
  | 0, _, _, _, _, h => h
  | fuel + 1, _, _, _, _, h => ⟨h.1, fun i hi => wpOp_mono (fun a' w' h' => by
      by_cases hb : br i = true
      · rw [if_pos hb] at h'; exact h'
      · rw [if_neg hb] at h'; exact wpAny_of_O fuel _ _ a' w' h'.2) (h.2 i hi)⟩
theorem wpAnyO_mono {L L' : List Res} (hL : ∀ w, Own w0 E L w → Own w0 E L' w) : ∀ (fuel : Nat) (listed : Array Bool) (a : Act) (w : World), wpAnyO P md ops Q w0 E br fuel listed L a w → wpAnyO P md ops Q w0 E br fuel listed L' a w
  | 0, _, _, _, h => h
  | fuel + 1, _, _, _, h => ⟨h.1, fun i hi => wpOp_mono (fun a' w' h' => by
      by_cases hb : br i = true
      · rw [if_pos hb] at h' ⊢; exact h'
      · rw [if_neg hb] at h' ⊢; exact ⟨hL _ h'.1, wpAnyO_mono hL fuel _ a' w' h'.2⟩) (h.2 i hi)⟩
/-- May number i be taken first? c: the numbers that may come up ahead of it. -/
def freeO (md : Region.Mode) (ops : Array Oper) (br : Nat → Bool) (listed : Array Bool) (i c : Nat) : Bool :=
  !c.testBit i && match ops[i]? with
  | none => false
  | some oi => (List.range ops.size).all fun j => j == i || match ops[j]? with
    | none => false
    | some oj => if c.testBit j then listed.getD j true || (!br j && oi.apart ops oj) else !listed.getD j false && !(oj.after.all fun e => !Region.binds md e || c.testBit e.on)
theorem wpAnyO_first {i c : Nat} {oi : Oper} {v : Value} {listed0 : Array Bool} (hi : ops[i]? = some oi) (hs : Region.noSelect ops = true) (hf : freeO md ops br listed0 i c = true)
    (hQ : ∀ c a w, Q (.panic c) (a.put oi.dst v) w → Q (.panic c) a w) :
    ∀ (fuel : Nat) (listed : Array Bool) (a : Act) (w : World), listed.size = ops.size →
      (∀ j, listed.getD j false = true → c.testBit j = true) → (∀ j, listed0.getD j true = true → listed.getD j true = true) →
      i ∈ Region.ready md ops listed → YieldsIf P ops (Own w0 E L) oi v a → Own w0 E L w →
      wpAnyO P md ops Q w0 E br fuel (listed.setIfInBounds i true) L (a.put oi.dst v) w → wpAnyO P md ops Q w0 E br (fuel + 1) listed L a w := by
  have hsel := Region.noSelect_spec hs
  simp only [freeO, hi, Bool.and_eq_true, Bool.not_eq_true', List.all_eq_true, List.mem_range] at hf
  obtain ⟨hci, hall⟩ := hf
  intro fuel
  induction fuel with
  | zero =>
    intro listed a w _ _ _ hr hy hS H
    refine ⟨fun h => (by rw [h] at hr; cases hr), fun j hj => ?_⟩
    by_cases hji : j = i
    · subst hji
      refine hy.wpOp hi hS ?_
      by_cases hb : br j = true
      · rw [if_pos hb]; exact H
      · rw [if_neg hb]; exact ⟨hS, H⟩
    · have := ready_mono hj hji
      rw [H.1] at this
      cases this
  | succ fuel ih =>
    intro listed a w hsz hsub hsup hr hy hS H
    refine ⟨fun h => (by rw [h] at hr; cases hr), fun j hj => ?_⟩
    by_cases hji : j = i
    · subst hji
      refine hy.wpOp hi hS ?_
      by_cases hb : br j = true
      · rw [if_pos hb]; exact wpAny_of_O _ _ _ _ _ H
      · rw [if_neg hb]; exact ⟨hS, H⟩
    · obtain ⟨hjun, oj, hoj, hdep⟩ := mem_ready.1 hj
      have hjl : j < ops.size := (Array.getElem?_eq_some_iff.1 hoj).1
      have hj1 := hall j hjl
      simp only [hoj, Bool.or_eq_true, beq_iff_eq, hji, false_or] at hj1
      have hcj : c.testBit j = true := by
        cases hc : c.testBit j
        · exfalso
          rw [hc] at hj1
          simp only [Bool.false_eq_true, if_false, Bool.and_eq_true, Bool.not_eq_true'] at hj1
          have : (oj.after.all fun e => !Region.binds md e || c.testBit e.on) = true := by
            rw [Array.all_eq_true_iff_forall_mem]
            intro e he
            cases hb : Region.binds md e
            · rfl
            · have := hsub e.on (hdep e he hb)
              simp [this]
          rw [this] at hj1
          exact absurd hj1.2 (by simp)
        · rfl
      rw [hcj] at hj1
      simp only [if_true, Bool.or_eq_true, Bool.and_eq_true, Bool.not_eq_true'] at hj1
      have hl0 : listed0.getD j true = true → False := fun h => by rw [hsup j h] at hjun; cases hjun
      obtain ⟨hbj, hap⟩ := hj1.resolve_left hl0
      have h1 := H.2 j (ready_mono hj hji)
      have h2 := wpOp_putIf hoj hap (fun cs b => hsel i oi cs b hi) (fun cs b => hsel j oj cs b hoj) hQ hy h1
      refine wpOp_mono (fun a' w' h3 => ?_) h2
      simp only [hbj, Bool.false_eq_true, if_false] at h3 ⊢
      refine ⟨h3.2.1, ih (listed.setIfInBounds j true) a' w' (by simpa using hsz) (fun k hk => ?_) (fun k hk => ?_) (ready_mono hr (Ne.symm hji)) h3.1 h3.2.1 ?_⟩
      · by_cases hjk : j = k
        · subst hjk; exact hcj
        · rw [getD_set_ne false hjk] at hk; exact hsub k hk
      · by_cases hjk : j = k
        · subst hjk
          have : j < listed.size := by omega
          simp [this]
        · rw [getD_set_ne true hjk]; exact hsup k hk
      · rw [Array.setIfInBounds_comm _ _ hji]
        exact h3.2.2
def takeO (md : Region.Mode) (ops : Array Oper) (br : Nat → Bool) (listed : Array Bool) (i c : Nat) : Bool :=
  listed.size == ops.size && ((List.range ops.size).all fun j => !listed.getD j false || c.testBit j) && (Region.ready md ops listed).contains i && freeO md ops br listed i c
theorem wpAnyO_take {fuel : Nat} {listed : Array Bool} (i c : Nat) {oi : Oper} (hi : ops[i]? = some oi) {v : Value} (hs : Region.noSelect ops = true) (ht : takeO md ops br listed i c = true)
    (hQ : ∀ c a w, Q (.panic c) (a.put oi.dst v) w → Q (.panic c) a w) (hy : YieldsIf P ops (Own w0 E L) oi v a) (h : Own w0 E L w)
    (hK : wpAnyO P md ops Q w0 E br fuel (listed.setIfInBounds i true) L (a.put oi.dst v) w) : wpAnyO P md ops Q w0 E br (fuel + 1) listed L a w := by
  simp only [takeO, Bool.and_eq_true, beq_iff_eq, List.all_eq_true, List.mem_range, Bool.or_eq_true, Bool.not_eq_true'] at ht
  obtain ⟨⟨⟨h1, h2⟩, h3⟩, h4⟩ := ht
  refine wpAnyO_first hi hs h4 hQ fuel listed a w h1 (fun j hj => ?_) (fun j hj => hj) (by simpa using h3) hy h hK
  rcases Nat.lt_or_ge j ops.size with hjl | hjl
  · rcases h2 j hjl with h | h
    · rw [h] at hj; cases hj
    · exact h
  · have : listed[j]? = none := by simp; omega
    simp [this] at hj
/-- It yields in whatever world. -/
theorem yp {o : Oper} {v : Value} (hg : Region.wanted o (yielded ops a.tmps) = true) (hv : ∀ w, (execOp a.eval o).run P w = .ok (.value v) w) : YieldsIf P ops (Own w0 E L) o v a := .inl ⟨hg, fun w _ => hv w⟩
/-- It is passed by. -/
theorem yn {o : Oper} (hg : Region.wanted o (yielded ops a.tmps) = false) : YieldsIf P ops (Own w0 E L) o undef a := .inr ⟨hg, rfl⟩
/-- It loads what is owned. -/
theorem yl {dst : Option Tmp} {T : TypeId} {x : Operand} {ty : TypeId} {pos : String} {after : Array Edge} {g : Option (Nat × Bool)} (hg : Region.wanted ⟨dst, .load T x, ty, pos, after, g⟩ (yielded ops a.tmps) = true) {b off : Nat} (hx : a.eval x = .pointer (some ⟨b, off, none⟩)) {vs : List Value} {v : Value} (hT : ldv P T vs = some v)
    (i : Nat) {r : Res} (hi : L[i]? = some r) (hr : RdAt r b off vs) : YieldsIf P ops (Own w0 E L) ⟨dst, .load T x, ty, pos, after, g⟩ v a := .inl ⟨hg, fun w h => by
  have hl := run_loadVarV (P := P) (w := w) hT (hr w (h.fact i hi))
  simp only [execOp, Instr.loadAt, hx, Instr.sureAddr, Sem.run_bind, Sem.run_pure, Result.andThen_ok, hl]⟩
def AllO (P : Program) (md : Region.Mode) (ops : Array Oper) (Q : Exit → Act → World → Prop) (w0 : World) (E : Ent) (br : Nat → Bool) (fuel : Nat) (listed : Array Bool) (L : List Res) (a : Act) (w : World) (is : List Nat) : Prop :=
  ∀ i ∈ is, wpOp P ops Q i (fun a' w' => if br i = true then wpAny P md ops Q fuel (listed.setIfInBounds i true) a' w' else Own w0 E L w' ∧ wpAnyO P md ops Q w0 E br fuel (listed.setIfInBounds i true) L a' w') a w
theorem AllO.nil {fuel : Nat} {listed : Array Bool} : AllO P md ops Q w0 E br fuel listed L a w [] := fun _ h => by cases h
theorem wpOp_of {i : Nat} {o : Oper} (hi : ops[i]? = some o) (hg : Region.wanted o (yielded ops a.tmps) = true) (h : o.wp P a w K Q) : wpOp P ops Q i K a w := by
  unfold wpOp
  simp only [hi, hg, if_true]
  exact .inl h
/-- Number i comes up; what it needs stays owned. -/
theorem AllO.cons {fuel : Nat} {listed : Array Bool} {i : Nat} {is : List Nat} {o : Oper} (hi : ops[i]? = some o) (hb : br i = false) (hg : Region.wanted o (yielded ops a.tmps) = true)
    (h : o.wp P a w (fun a' w' => Own w0 E L w' ∧ wpAnyO P md ops Q w0 E br fuel (listed.setIfInBounds i true) L a' w') Q) (hs : AllO P md ops Q w0 E br fuel listed L a w is) : AllO P md ops Q w0 E br fuel listed L a w (i :: is) := fun j hj => by
  rcases List.mem_cons.1 hj with rfl | hj
  · simp only [hb, Bool.false_eq_true, if_false]; exact wpOp_of hi hg h
  · exact hs j hj
/-- Number i comes up and turns what was owned. -/
theorem AllO.brk {fuel : Nat} {listed : Array Bool} {i : Nat} {is : List Nat} {o : Oper} (hi : ops[i]? = some o) (hb : br i = true) (hg : Region.wanted o (yielded ops a.tmps) = true)
    (h : o.wp P a w (wpAny P md ops Q fuel (listed.setIfInBounds i true)) Q) (hs : AllO P md ops Q w0 E br fuel listed L a w is) : AllO P md ops Q w0 E br fuel listed L a w (i :: is) := fun j hj => by
  rcases List.mem_cons.1 hj with rfl | hj
  · simp only [hb, if_true]; exact wpOp_of hi hg h
  · exact hs j hj
theorem wpAnyO_ready {fuel : Nat} {listed : Array Bool} (is : List Nat) (hr : Region.ready md ops listed = is) (hne : is ≠ []) (h : AllO P md ops Q w0 E br fuel listed L a w is) : wpAnyO P md ops Q w0 E br (fuel + 1) listed L a w :=
  ⟨fun h0 => absurd (hr ▸ h0) hne, hr ▸ h⟩
theorem wpAnyO_done {listed : Array Bool} (hr : Region.ready md ops listed = []) (h : Q .normal a w) : ∀ fuel, wpAnyO P md ops Q w0 E br fuel listed L a w
  | 0 => ⟨hr, h⟩
  | _ + 1 => ⟨fun _ => h, by rw [hr]; simp⟩
/-- Behind an operation: what was owned is owned, and more. -/
theorem O_and {fuel : Nat} {listed : Array Bool} {L' : List Res} (h : Own w0 E L' w) (is : List Nat) (hp : pk is L' = L) (hK : wpAnyO P md ops Q w0 E br fuel listed L' a w) : Own w0 E L w ∧ wpAnyO P md ops Q w0 E br fuel listed L a w :=
  ⟨hp ▸ h.pick is, wpAnyO_mono (fun w h => hp ▸ h.pick is) fuel listed a w hK⟩
/-- The beginning. -/
theorem wp_region_O {id : Nat} (br : Nat → Bool) (hm : P.follows .mixedOrders = true) (h : Own w0 E L w) (hK : ∀ w', Own w0 E L w' → wpAnyO P .any ops Q w0 E br ops.size (Array.replicate ops.size false) L a w') : (Code.region id ops true).wp P Q a w :=
  wp_region_any hm (wpAny_of_O _ _ _ _ _ (hK _ h.drew))

/-! ### Conditions, loops, the end -/
theorem then_n {next : Act → World → Prop} (h : next a w) : Exit.then next Q .normal a w := h
theorem then_e {next : Act → World → Prop} {id : Nat} (h : Q (.exit id) a w) : Exit.then next Q (.exit id) a w := h
theorem then_r {next : Act → World → Prop} (h : Q .ret a w) : Exit.then next Q .ret a w := h
theorem blk_n {id : Nat} (h : Q .normal a w) : Exit.inBlock id Q .normal a w := h
theorem blk_r {id : Nat} (h : Q .ret a w) : Exit.inBlock id Q .ret a w := h
theorem blk_e {id : Nat} (h : Q .normal a w) : Exit.inBlock id Q (.exit id) a w := by simp only [Exit.inBlock, if_true]; exact h
theorem blk_x {id id' : Nat} (hne : (id' == id) = false) (h : Q (.exit id') a w) : Exit.inBlock id Q (.exit id') a w := by
  have : ¬ id' = id := by simpa using hne
  simp only [Exit.inBlock, if_neg this]; exact h
/-- A loop: x tells what changes from round to round. -/
theorem wp_loopO {X : Type} {body : Code} (A : X → Act) (R : X → List Res) (G : X → Prop) (μ : X → Nat) (x0 : X) (h0 : G x0) (ha : A x0 = a) (is : List Nat) (hR : R x0 = pk is L) (h : Own w0 E L w)
    (round : ∀ x w, G x → Own w0 E (R x) w → body.wp P (Exit.then (fun a' w' => ∃ x', (G x' ∧ μ x' < μ x) ∧ a' = A x' ∧ Own w0 E (R x') w') Q) (A x) w) : (Code.loop body).wp P Q a w := by
  intro b k cs
  have key : ∀ n x a w, μ x = n → G x → a = A x → Own w0 E (R x) w →
      ∃ e a' w', Q e a' w' ∧ Arrives P (lone (b.at a (.code body :: .inLoop body :: k)) cs w) b k cs e a' w' := by
    intro n
    induction n using Nat.strongRecOn with
    | _ n ih =>
      intro x a w hn hG hA hO
      subst hA
      obtain ⟨e, a₁, w₁, hq, harr⟩ := round x w hG hO b (.inLoop body :: k) cs
      cases e with
      | normal =>
        obtain ⟨x', ⟨hG', hlt⟩, hA', hO'⟩ := hq
        obtain ⟨e₂, a₂, w₂, hq₂, harr₂⟩ := ih (μ x') (hn ▸ hlt) x' a₁ w₁ rfl hG' hA' hO'
        exact ⟨e₂, a₂, w₂, hq₂, .of_steps (Steps.trans harr (.one step_inLoop)) harr₂⟩
      | exit id => exact ⟨_, a₁, w₁, hq, .pass (x := .inLoop body) rfl (fun _ _ => .inl (by simp)) harr⟩
      | goto l => exact ⟨_, a₁, w₁, hq, .pass (x := .inLoop body) rfl (fun _ _ => .inl (by simp)) harr⟩
      | ret => exact ⟨_, a₁, w₁, hq, .pass (x := .inLoop body) rfl (fun _ _ => .inl (by simp)) harr⟩
      | panic ch => exact ⟨_, a₁, w₁, hq, .pass (x := .inLoop body) rfl (fun _ _ => .inl (by simp)) harr⟩
      | outgrown => exact ⟨_, a₁, w₁, hq, .pass (x := .inLoop body) rfl (fun _ _ => .inl (by simp)) harr⟩
  obtain ⟨e, a', w', hq, harr⟩ := key _ x0 a w rfl h0 ha.symm (hR ▸ h.pick is)
  exact ⟨e, a', w', hq, .of_steps (.one step_loop) harr⟩
/-- What the results hold. -/
def resV (P : Program) (L : List Res) (tm : Array Value) : List ResultVar → List Value → Prop
  | [], vs => vs = []
  | .tmp t :: rs, vs => ∃ v vs', vs = v :: vs' ∧ tm.getD t undef = v ∧ resV P L tm rs vs'
  | .cell p T :: rs, vs => ∃ v vs' b off us r, vs = v :: vs' ∧ tm.getD p undef = .pointer (some ⟨b, off, none⟩) ∧ ldv P T us = some v ∧ r ∈ L ∧ RdAt r b off us ∧ resV P L tm rs vs'
def resF (tm : Array Value) : ResultVar → Sem Value
  | .tmp t => pure (tm.getD t undef)
  | .cell p T => do loadVar T (← asAddr (tm.getD p undef))
theorem resV_run {tm : Array Value} : ∀ (l : List ResultVar) (vs : List Value), resV P L tm l vs → Own w0 E L w → (l.mapM (resF tm)).run P w = .ok vs w
  | [], vs, h, _ => by
    have : vs = [] := h
    subst this; rfl
  | .tmp t :: l, vs, h, ho => by
    obtain ⟨v, vs', rfl, hv, h⟩ := h
    have ih := resV_run l vs' h ho
    have e : (resF tm (.tmp t)).run P w = .ok v w := by
      show (Pure.pure (tm.getD t undef) : Sem Value).run P w = _
      rw [hv]; rfl
    simp only [List.mapM_cons, Sem.run_bind, Sem.run_pure, Result.andThen_ok, e, ih]
  | .cell p T :: l, vs, h, ho => by
    obtain ⟨v, vs', b, off, us, r, rfl, hp, hT, hr, hrd, h⟩ := h
    have ih := resV_run l vs' h ho
    have hl := run_loadVarV (P := P) (w := w) hT (hrd w (ho.facts r hr))
    have e : (resF tm (.cell p T)).run P w = .ok v w := by
      show (asAddr (tm.getD p undef) >>= fun x => loadVar T x).run P w = _
      rw [Sem.run_bind, hp]
      exact hl
    simp only [List.mapM_cons, Sem.run_bind, Sem.run_pure, Result.andThen_ok, e, ih]
/-- One result, or a tuple. -/
def retV (vs : List Value) : Value := match vs with | [v] => v | _ => .tuple vs.toArray
theorem ret_O {fn : Func} {R : Ending → World → Prop} {tm : Array Value} (vs : List Value) (h : Own w0 E L w) (hr : resV P L tm fn.results.toList vs) (hR : R (.returned (retV vs)) w) : bodyPost P fn R .ret ⟨tm, []⟩ w := by
  refine ⟨rfl, _, ?_, hR⟩
  have hm := resV_run fn.results.toList vs hr h
  have e0 : (fn.results.mapM (resF tm)) = List.toArray <$> fn.results.toList.mapM (resF tm) := Array.mapM_eq_mapM_toList
  have e : results fn tm = (fn.results.mapM (resF tm)) >>= fun vs => pure (if h : vs.size = 1 then vs[0] else .tuple vs) := rfl
  have e1 : (fn.results.mapM (resF tm)).run P w = .ok vs.toArray w := by
    rw [e0]
    show ((fn.results.toList.mapM (resF tm)) >>= fun l => pure l.toArray).run P w = _
    rw [Sem.run_bind, hm, Result.andThen_ok, Sem.run_pure]
  rw [e, Sem.run_bind, e1, Result.andThen_ok, Sem.run_pure]
  congr 1
  match vs with
  | [] => rfl
  | [v] => rfl
  | _ :: _ :: _ => rfl
end

/- The operations' laws by what is owned: slices told by their elements (length, an element's address, loads, stores, append), guarded operations, calls, cuts, the beginning of a contract's proof. Over any program, no condition. -/

/-- Where a slice begins. -/
def blkN : Value → Nat
  | .slice (some a) _ _ => a.block
  | .map (some r) => r
  | _ => 0
def offN : Value → Nat
  | .slice (some a) _ _ => a.off
  | _ => 0
/-- A slice whose elements are l, each as enc tells (k cells). -/
abbrev rRows {α : Type} (wr : Bool) (v : Value) (T k : Nat) (enc : α → List Value) (l : List α) : Res := rSl wr v T k l.length (l.flatMap enc)

theorem SliceAt.own {w : World} {v : Value} {T k n : Nat} {xs : List Value} {S : Nat → Prop} (h : SliceAt w v T k n xs S) : SliceAt w v T k n xs (blkOf v) ∧ ∀ b, blkOf v b → S b := by
  obtain ⟨h1, ⟨rfl, h2⟩ | ⟨g, off, cap, cs, rfl, hb, a, b, c, d, s⟩⟩ := h
  · exact ⟨⟨h1, .inl ⟨rfl, h2⟩⟩, fun b hb => hb.elim⟩
  · exact ⟨⟨h1, .inr ⟨g, off, cap, cs, rfl, hb, a, b, c, d, rfl⟩⟩, fun b hb => by have : b = g := hb; rw [this]; exact s⟩
theorem rdSl {wr : Bool} {v : Value} {T k n : Nat} {xs : List Value} (p : Nat) {vs : List Value} (h : ∀ j u, vs[j]? = some u → xs[p + j]? = some u) : RdAt (rSl wr v T k n xs) (blkN v) (offN v + p) vs := fun w hf j u hj => by
  obtain ⟨h1, ⟨rfl, h2⟩ | ⟨g, off, cap, cs, rfl, hb, h2, h3, h4, h5, _⟩⟩ := hf
  · have := h j u hj
    have hx : xs = [] := by subst h2; simpa using h1
    rw [hx] at this; simp at this
  · show w.cell? ⟨g, off + p + j, none⟩ = _
    rw [cell_of hb, Nat.add_assoc]
    exact h5 _ u (h j u hj)
theorem wr {x y : Int} (h : y = x ∧ -9223372036854775808 ≤ x ∧ x ≤ 9223372036854775807) : Value.int .i64 (IntKind.i64.wrap x) = Value.int .i64 y := by
  rw [IntWalk.i64_in _ ⟨h.2.1, h.2.2⟩, h.1]
/-- Part of element x of l (place i, from its cell r on). -/
theorem rdRow {α : Type} {wr : Bool} {v : Value} {T k : Nat} {enc : α → List Value} {l : List α} (he : ∀ a, (enc a).length = k) {i : Nat} {x : α} (hi : l[i]? = some x) (r : Nat) {vs : List Value} (h : ((enc x).drop r).take vs.length = vs) :
    RdAt (rRows wr v T k enc l) (blkN v) (offN v + i * k + r) vs := by
  rw [Nat.add_assoc]
  refine rdSl _ fun j u hj => ?_
  have hl := (List.getElem?_eq_some_iff.1 hj).1
  have h2 := congrArg (fun l => l[j]?) h
  simp only [List.getElem?_take, List.getElem?_drop, if_pos hl] at h2
  have hlt : r + j < k := by
    rw [← he x]
    have : (enc x)[r + j]? = some u := by rw [h2]; exact hj
    exact (List.getElem?_eq_some_iff.1 this).1
  rw [Nat.add_assoc, flat_get enc he l i (r + j) x hi hlt, h2]; exact hj
theorem rdRow0 {α : Type} {wr : Bool} {v : Value} {T k : Nat} {enc : α → List Value} {l : List α} (he : ∀ a, (enc a).length = k) {i : Nat} {x : α} (hi : l[i]? = some x) {vs : List Value} (h : (enc x).take vs.length = vs) :
    RdAt (rRows wr v T k enc l) (blkN v) (offN v + i * k) vs := rdRow (r := 0) he hi h

theorem setCells_get {b : Nat} {T : TypeId} {fz : Nat × Nat} {w : World} {cs : Array Value} (vs : List Value) (o : Nat) (h : w.heap[b]? = some (.cells cs T fz)) (hl : o + vs.length ≤ cs.size) :
    ∃ cs', (w.setCells b o vs).heap[b]? = some (.cells cs' T fz) ∧ cs'.size = cs.size ∧ ∀ i, cs'[i]? = if o ≤ i ∧ i < o + vs.length then vs[i - o]? else cs[i]? := by
  obtain ⟨cs', h1, h2, h3, h4⟩ := block_setCells vs o w cs h
  refine ⟨cs', h1, h2, fun i => ?_⟩
  split
  · have := h3 (i - o) (by omega) (by omega)
    rw [show o + (i - o) = i by omega] at this
    exact this
  · exact h4 i (by omega)
theorem flat_set {α : Type} {k : Nat} {enc : α → List Value} (he : ∀ a, (enc a).length = k) : ∀ (l : List α) (i : Nat) (x : α), i < l.length → (l.set i x).flatMap enc = (l.flatMap enc).take (i * k) ++ (enc x ++ (l.flatMap enc).drop (i * k + k))
  | [], _, _, h => by simp at h
  | y :: l, 0, x, _ => by simp [he y, List.drop_append]
  | y :: l, i + 1, x, h => by
    have ih := flat_set he l i x (by simpa using h)
    simp only [List.set_cons_succ, List.flatMap_cons, ih]
    have e1 : (enc y ++ l.flatMap enc).take ((i + 1) * k) = enc y ++ (l.flatMap enc).take (i * k) := by
      rw [List.take_append, he, Nat.add_mul, Nat.one_mul, List.take_of_length_le (by rw [he]; omega)]; congr 2; omega
    have e2 : (enc y ++ l.flatMap enc).drop ((i + 1) * k + k) = (l.flatMap enc).drop (i * k + k) := by
      rw [List.drop_append, he, Nat.add_mul, Nat.one_mul, List.drop_of_length_le (by rw [he]; omega), List.nil_append]; congr 1; omega
    rw [e1, e2, List.append_assoc]
/-- Part of an element is stored: from its cell r on. -/
theorem wrRow {α : Type} {v : Value} {T k : Nat} {enc : α → List Value} {l : List α} (he : ∀ a, (enc a).length = k) {i : Nat} {x : α} (hi : l[i]? = some x) (r : Nat) (x' : α) {vs : List Value} (h : (enc x).take r ++ (vs ++ (enc x).drop (r + vs.length)) = enc x') (hr : Nat.ble r k = true) :
    WrAt (rRows true v T k enc l) (blkN v) (offN v + i * k + r) vs (rRows true v T k enc (l.set i x')) := by
  refine ⟨rfl, fun w hf => ?_⟩
  have hil : i < l.length := (List.getElem?_eq_some_iff.1 hi).1
  have hrl : r + vs.length ≤ k := by
    have h1 := congrArg List.length h
    have h2 : (enc x).length = k := he x
    have h3 : (enc x').length = k := he x'
    simp only [List.length_append, List.length_take, List.length_drop] at h1
    have := Nat.le_of_ble_eq_true hr
    omega
  have hik : (i + 1) * k ≤ l.length * k := Nat.mul_le_mul_right _ hil
  rw [Nat.add_mul, Nat.one_mul] at hik
  obtain ⟨h1, ⟨rfl, h2⟩ | ⟨g, off, cap, cs, rfl, hb, h2, h3, h4, h5, _⟩⟩ := hf
  · have : l.length = 0 := h2
    omega
  have hck : l.length * k ≤ cap * k := Nat.mul_le_mul_right _ h2
  show (∀ j, j < vs.length → (w.cell? ⟨g, off + i * k + r + j, none⟩).isSome = true ∧ w.frozen? ⟨g, off + i * k + r + j, none⟩ = false) ∧ SliceAt (w.setCells g (off + i * k + r) vs) (.slice (some ⟨g, off, none⟩) l.length cap) T k (l.set i x').length ((l.set i x').flatMap enc) _ ∧ _ ∧ _
  refine ⟨fun j hj => ⟨?_, free_of hb _⟩, ?_, rfl, fun _ e => e⟩
  · rw [cell_of hb]; simp; omega
  obtain ⟨cs', e1, e2, e3⟩ := setCells_get vs (off + i * k + r) hb (by omega)
  rw [List.length_set]
  refine ⟨by rw [flat_len enc he]; simp, .inr ⟨g, off, cap, cs', rfl, e1, h2, h3, by rw [e2]; exact h4, fun j u hj => ?_, rfl⟩⟩
  rw [flat_set he l i x' hil] at hj
  rw [e3]
  have hlx : (l.flatMap enc).length = l.length * k := flat_len enc he l
  rw [List.getElem?_append, List.length_take, hlx, Nat.min_eq_left (by omega)] at hj
  by_cases c1 : j < i * k
  · rw [if_pos c1, List.getElem?_take, if_pos c1] at hj
    rw [if_neg (by omega)]
    exact h5 j u hj
  · rw [if_neg c1, List.getElem?_append, he x'] at hj
    by_cases c2 : j - i * k < k
    · rw [if_pos c2, ← h, List.getElem?_append, List.length_take, he x, Nat.min_eq_left (by omega)] at hj
      by_cases c3 : j - i * k < r
      · rw [if_pos c3, List.getElem?_take, if_pos c3] at hj
        rw [if_neg (by omega)]
        refine h5 j u ?_
        rw [← hj, show j = i * k + (j - i * k) by omega, flat_get enc he l i (j - i * k) x hi c2]
        simp
      · rw [if_neg c3, List.getElem?_append] at hj
        by_cases c4 : j - i * k - r < vs.length
        · rw [if_pos c4] at hj
          rw [if_pos (by omega), ← hj]
          congr 1; omega
        · rw [if_neg c4, List.getElem?_drop] at hj
          rw [if_neg (by omega)]
          refine h5 j u ?_
          rw [← hj, show j = i * k + (j - i * k) by omega, flat_get enc he l i (j - i * k) x hi c2]
          congr 1; omega
    · rw [if_neg c2, List.getElem?_drop] at hj
      rw [if_neg (by omega)]
      refine h5 j u ?_
      rw [← hj]; congr 1; omega
section
variable {P : Program} {a : Act} {w w0 : World} {E : Ent} {L : List Res} {K : Act → World → Prop} {Q : Exit → Act → World → Prop} {ops : Array Oper} {rest : List Oper}

/-! ### What yields where L is owned -/
def Gives (P : Program) (w0 : World) (E : Ent) (L : List Res) (o : Oper) (a : Act) (v : Value) : Prop := ∀ w, Own w0 E L w → (execOp a.eval o).run P w = .ok (.value v) w
theorem g_pure {o : Oper} {v : Value} (hv : ∀ w, (execOp a.eval o).run P w = .ok (.value v) w) : Gives P w0 E L o a v := fun w _ => hv w
theorem g_eq {o : Oper} {v v' : Value} (h : Gives P w0 E L o a v) (e : v = v') : Gives P w0 E L o a v' := e ▸ h
/-- A load of a cell of a block. -/
theorem g_ld {dst : Option Tmp} {T : TypeId} {x : Operand} {ty : TypeId} {pos : String} {after : Array Edge} {g : Option (Nat × Bool)} {wr : Bool} {b : Nat} {cs : List Value} {T' : TypeId} (off : Nat) (vs : List Value) (v : Value)
    (hx : (a.eval x, ldv P T vs, (cs.drop off).take vs.length) = (.pointer (some ⟨b, off, none⟩), some v, vs)) (i : Nat) (hi : L[i]? = some (rCell wr b cs T')) : Gives P w0 E L ⟨dst, .load T x, ty, pos, after, g⟩ a v := fun w h => by
  obtain ⟨h1, h2, h3⟩ : a.eval x = _ ∧ ldv P T vs = _ ∧ (cs.drop off).take vs.length = vs := by simpa using hx
  have hl := run_loadVarV (P := P) (w := w) h2 (rdCell off h3 w (h.fact i hi))
  simp only [execOp, Instr.loadAt, h1, Instr.sureAddr, Sem.run_bind, Sem.run_pure, Result.andThen_ok, hl]
/-- A load of what a resource tells. -/
theorem g_ldr {dst : Option Tmp} {T : TypeId} {x : Operand} {ty : TypeId} {pos : String} {after : Array Edge} {g : Option (Nat × Bool)} {r : Res} {b : Nat} (off : Nat) (vs : List Value) (v : Value)
    (hx : (a.eval x, ldv P T vs) = (.pointer (some ⟨b, off, none⟩), some v)) (i : Nat) (hi : L[i]? = some r) (hr : RdAt r b off vs) : Gives P w0 E L ⟨dst, .load T x, ty, pos, after, g⟩ a v := fun w h => by
  obtain ⟨h1, h2⟩ : a.eval x = _ ∧ ldv P T vs = _ := by simpa using hx
  have hl := run_loadVarV (P := P) (w := w) h2 (hr w (h.fact i hi))
  simp only [execOp, Instr.loadAt, h1, Instr.sureAddr, Sem.run_bind, Sem.run_pure, Result.andThen_ok, hl]
theorem SliceAt.val {w : World} {v : Value} {T k n : Nat} {xs : List Value} {S : Nat → Prop} (h : SliceAt w v T k n xs S) : ∃ ad cap, v = .slice ad n cap ∧ n ≤ cap ∧ (∀ i, i < n → ad = some ⟨blkN v, offN v, none⟩) := by
  obtain ⟨h1, ⟨rfl, h2⟩ | ⟨g, off, cap, cs, rfl, hb, h2, h3, h4, h5, _⟩⟩ := h
  · exact ⟨none, 0, by rw [h2], by omega, fun i hi => by omega⟩
  · exact ⟨_, cap, rfl, h2, fun _ _ => rfl⟩
/-- len of a slice. -/
theorem g_len {dst : Option Tmp} {T : TypeId} {x : Operand} {ty : TypeId} {pos : String} {after : Array Edge} {g : Option (Nat × Bool)} {wr : Bool} {v : Value} {d k n : Nat} {xs : List Value} (hx : (a.eval x, P.underlying T) = (v, some (.slice d))) (i : Nat) (hi : L[i]? = some (rSl wr v d k n xs)) :
    Gives P w0 E L ⟨dst, .call { callee := .builtin .len, args := #[x], argTypes := #[T] }, ty, pos, after, g⟩ a (.int .i64 n) := fun w h => by
  obtain ⟨h1, h2⟩ : a.eval x = v ∧ P.underlying T = _ := by simpa using hx
  obtain ⟨ad, cap, e, _, _⟩ := (h.fact i hi : SliceAt _ _ _ _ _ _ _).val
  subst e
  simp [execOp, resolve, invoke, builtin, Builtin.len_, h1, Sem.run_bind, run_underlying h2, goInt]
/-- The address of an element of a slice. -/
theorem g_idx {dst : Option Tmp} {T : TypeId} {x y : Operand} {ty : TypeId} {pos : String} {after : Array Edge} {g : Option (Nat × Bool)} {wr : Bool} {v : Value} {d k n : Nat} {xs : List Value} (j : Nat) (hx : (a.eval x, a.eval y, P.underlying T, (P.info? d).map (·.size)) = (v, .int .i64 (j : Int), some (.slice d), some k)) (hj : j < n) (i : Nat) (hi : L[i]? = some (rSl wr v d k n xs)) :
    Gives P w0 E L ⟨dst, .indexAddr T x y, ty, pos, after, g⟩ a (.pointer (some ⟨blkN v, offN v + j * k, none⟩)) := fun w h => by
  obtain ⟨h1, h2, h3, h4⟩ : a.eval x = v ∧ a.eval y = _ ∧ P.underlying T = _ ∧ (P.info? d).map (·.size) = some k := by simpa using hx
  obtain ⟨ad, cap, e, _, hp⟩ := (h.fact i hi : SliceAt _ _ _ _ _ _ _).val
  obtain rfl := hp j hj
  obtain ⟨B, hB⟩ : ∃ B, B = blkN v := ⟨_, rfl⟩
  obtain ⟨O, hO⟩ : ∃ O, O = offN v := ⟨_, rfl⟩
  rw [← hB, ← hO] at e ⊢
  subst e
  have hz := sizeOf_run (w := w) h4
  have hi1 : (0 : Int) ≤ (j : Int) ∧ (j : Int) < (n : Int) := by omega
  simp only [execOp, Instr.indexAt, h1, h2, asIntOf, Sem.run_bind, Sem.run_pure, Result.andThen_ok, run_underlying h3]
  simp only [Sem.run_ite, hi1, and_self, if_true, Sem.run_bind, hz, Result.andThen_ok, Sem.run_pure, Int.toNat_natCast, Addr.add_lit]

theorem g_idxI {dst : Option Tmp} {T : TypeId} {x y : Operand} {ty : TypeId} {pos : String} {after : Array Edge} {g : Option (Nat × Bool)} {wr : Bool} {v : Value} {d k n : Nat} {xs : List Value} (j : Nat) {z : Int} (hz : z = (j : Int)) (hx : (a.eval x, a.eval y, P.underlying T, (P.info? d).map (·.size)) = (v, .int .i64 z, some (.slice d), some k)) (hj : j < n) (i : Nat) (hi : L[i]? = some (rSl wr v d k n xs)) :
    Gives P w0 E L ⟨dst, .indexAddr T x y, ty, pos, after, g⟩ a (.pointer (some ⟨blkN v, offN v + j * k, none⟩)) := g_idx j (hz ▸ hx) hj i hi

/-! ### One operation, in the text's order -/
/-- wpList, Code.wp, wpAnyO, wpAny, shut: no tactic looks into them. -/
structure LW (P : Program) (ops : Array Oper) (Q : Exit → Act → World → Prop) (l : List Oper) (a : Act) (w : World) : Prop where
  out : wpList P ops Q l a w
structure CW (P : Program) (c : Code) (Q : Exit → Act → World → Prop) (a : Act) (w : World) : Prop where
  out : c.wp P Q a w
structure DW (P : Program) (ops : Array Oper) (Q : Exit → Act → World → Prop) (w0 : World) (E : Ent) (br : Nat → Bool) (fuel : Nat) (listed : Array Bool) (L : List Res) (a : Act) (w : World) : Prop where
  out : wpAnyO P .any ops Q w0 E br fuel listed L a w
structure AW (P : Program) (ops : Array Oper) (Q : Exit → Act → World → Prop) (fuel : Nat) (listed : Array Bool) (a : Act) (w : World) : Prop where
  out : wpAny P .any ops Q fuel listed a w
theorem lnil {ops : Array Oper} (h : Q .normal a w) : LW P ops Q [] a w := ⟨h⟩
theorem sn {ops : Array Oper} {o : Oper} {rest : List Oper} (hg : Region.wanted o (yielded ops a.tmps) = false) (h : LW P ops Q rest (a.put o.dst undef) w) : LW P ops Q (o :: rest) a w := ⟨sqn hg h.out⟩
theorem sq_q {o : Oper} {v : Value} (hg : Region.wanted o (yielded ops a.tmps) = true) (h : Own w0 E L w) (hv : Gives P w0 E L o a v) (hK : LW P ops Q rest (a.put o.dst v) w) : LW P ops Q (o :: rest) a w := ⟨sqg hg (by unfold Oper.wp; rw [hv w h]; exact hK.out)⟩
theorem sq_p {o : Oper} (v : Value) (hg : Region.wanted o (yielded ops a.tmps) = true) (hv : ∀ w, (execOp a.eval o).run P w = .ok (.value v) w) (hK : LW P ops Q rest (a.put o.dst v) w) : LW P ops Q (o :: rest) a w := ⟨sqg hg (by unfold Oper.wp; rw [hv w]; exact hK.out)⟩
/-- Guarded: carried out where B is so. -/
theorem sq_m1 {o : Oper} {v : Value} (B : Bool) (hg : Region.wanted o (yielded ops a.tmps) = B) (h : Own w0 E L w) (hv : B = true → Gives P w0 E L o a v) (hK : LW P ops Q rest (a.put o.dst (if B = true then v else undef)) w) : LW P ops Q (o :: rest) a w := by
  obtain ⟨hK⟩ := hK
  cases B
  · exact ⟨sqn hg hK⟩
  · exact ⟨sqg hg (by unfold Oper.wp; rw [hv rfl w h]; exact hK)⟩
theorem sq_m0 {o : Oper} {v : Value} (B : Bool) (hg : Region.wanted o (yielded ops a.tmps) = !B) (h : Own w0 E L w) (hv : B = false → Gives P w0 E L o a v) (hK : LW P ops Q rest (a.put o.dst (if B = false then v else undef)) w) : LW P ops Q (o :: rest) a w := by
  obtain ⟨hK⟩ := hK
  cases B
  · exact ⟨sqg hg (by unfold Oper.wp; rw [hv rfl w h]; exact hK)⟩
  · exact ⟨sqn hg hK⟩
theorem sq_new {o : Oper} (hg : Region.wanted o (yielded ops a.tmps) = true) (mk : Nat → Value) (cs : List Value) (T : TypeId) (hrun : ∀ w, (execOp a.eval o).run P w = .ok (.value (mk w.heap.size)) (w.alloc (.cells cs.toArray T)))
    (h : Own w0 E L w) (hK : ∀ b w', Own w0 E (rCell true b cs T :: L) w' → LW P ops Q rest (a.put o.dst (mk b)) w') : LW P ops Q (o :: rest) a w := ⟨sqg hg (op_new mk cs T hrun h fun b w' h => (hK b w' h).out)⟩
/-- A store into a block. -/
theorem op_st {dst : Option Tmp} {T : TypeId} {x y : Operand} {ty : TypeId} {pos : String} {after : Array Edge} {g : Option (Nat × Bool)} {b : Nat} (off : Nat) (vs cs' : List Value) {cs : List Value} {T' : TypeId} (h : Own w0 E L w) (i : Nat) (hi : L[i]? = some (rCell true b cs T'))
    (hx : (a.eval x, (a.eval y).cells, (P.info? T).map (·.size), Nat.ble (off + vs.length) cs.length, vs.all (·.oneCell'), cs.take off ++ (vs ++ cs.drop (off + vs.length))) = (.pointer (some ⟨b, off, none⟩), vs.toArray, some vs.length, true, true, cs'))
    (hK : ∀ w', Own w0 E (L.set i (rCell true b cs' T')) w' → K (a.put dst undef) w') : Oper.wp P ⟨dst, .store T x y, ty, pos, after, g⟩ a w K Q := by
  simp only [Prod.mk.injEq] at hx
  obtain ⟨h1, h2, h3, h4, h5, h6⟩ := hx
  exact op_store h1 h2 h3 (List.all_eq_true.1 h5) h i hi (wrCell off vs (Nat.le_of_ble_eq_true h4) h6) hK
theorem op_str {dst : Option Tmp} {T : TypeId} {x y : Operand} {ty : TypeId} {pos : String} {after : Array Edge} {g : Option (Nat × Bool)} {b : Nat} (off : Nat) (vs : List Value) {r r' : Res} (h : Own w0 E L w) (i : Nat) (hi : L[i]? = some r)
    (hx : (a.eval x, (a.eval y).cells, (P.info? T).map (·.size), vs.all (·.oneCell')) = (.pointer (some ⟨b, off, none⟩), vs.toArray, some vs.length, true)) (hr : WrAt r b off vs r')
    (hK : ∀ w', Own w0 E (L.set i r') w' → K (a.put dst undef) w') : Oper.wp P ⟨dst, .store T x y, ty, pos, after, g⟩ a w K Q := by
  simp only [Prod.mk.injEq] at hx
  obtain ⟨h1, h2, h3, h4⟩ := hx
  exact op_store h1 h2 h3 (List.all_eq_true.1 h4) h i hi hr hK
def okInfo (P : Program) (d size : Nat) : Bool := match P.info? d with
  | some i => (match i.zero with | some z => z.cells.size == size | none => false) && (i.size == size && (Nat.ble i.bytes 1000 && Nat.ble 1 size))
  | none => false
theorem okInfo_spec {d size : Nat} (h : okInfo P d size = true) : ∃ z bytes, (P.info? d).map (fun i => (i.zero, i.size, i.bytes)) = some (some z, size, bytes) ∧ z.cells.size = size ∧ bytes ≤ 1000 ∧ 0 < size := by
  unfold okInfo at h
  cases hi : P.info? d with
  | none => rw [hi] at h; cases h
  | some i =>
    rw [hi] at h
    simp only [Bool.and_eq_true, beq_iff_eq] at h
    obtain ⟨h1, h2, h3, h4⟩ := h
    cases hz : i.zero with
    | none => rw [hz] at h1; cases h1
    | some z =>
      rw [hz] at h1
      exact ⟨z, i.bytes, by simp [hz, h2], by simpa using h1, Nat.le_of_ble_eq_true h3, Nat.le_of_ble_eq_true h4⟩
/-- A value of one cell. -/
def OneV (v : Value) : Prop := v.cells = #[v] ∧ v.oneCell' = true
theorem Own.slv {wr : Bool} {v : Value} {T k n : Nat} {xs : List Value} (h : Own w0 E L w) (i : Nat) (hi : L[i]? = some (rSl wr v T k n xs)) : OneV v := by
  obtain ⟨ad, cap, e, _, _⟩ := (h.fact i hi : SliceAt _ _ _ _ _ _ _).val
  rw [e]; exact ⟨rfl, rfl⟩
theorem op_sto {dst : Option Tmp} {T : TypeId} {x y : Operand} {ty : TypeId} {pos : String} {after : Array Edge} {g : Option (Nat × Bool)} {b : Nat} {v : Value} (hv : OneV v) (off : Nat) (cs' : List Value) {cs : List Value} {T' : TypeId} (h : Own w0 E L w) (i : Nat) (hi : L[i]? = some (rCell true b cs T'))
    (hx : (a.eval x, a.eval y, (P.info? T).map (·.size), Nat.ble (off + 1) cs.length, cs.take off ++ (v :: cs.drop (off + 1))) = (.pointer (some ⟨b, off, none⟩), v, some 1, true, cs'))
    (hK : ∀ w', Own w0 E (L.set i (rCell true b cs' T')) w' → K (a.put dst undef) w') : Oper.wp P ⟨dst, .store T x y, ty, pos, after, g⟩ a w K Q := by
  simp only [Prod.mk.injEq] at hx
  obtain ⟨h1, h2, h3, h4, h6⟩ := hx
  exact op_store (vs := [v]) h1 (by rw [h2]; exact hv.1) h3 (fun u hu => by rw [List.mem_singleton.1 hu]; exact hv.2) h i hi (wrCell off [v] (Nat.le_of_ble_eq_true h4) h6) hK
theorem sq_sto {dst : Option Tmp} {T : TypeId} {x y : Operand} {ty : TypeId} {pos : String} {after : Array Edge} {g : Option (Nat × Bool)} {b : Nat} {v : Value} (hg : Region.wanted ⟨dst, .store T x y, ty, pos, after, g⟩ (yielded ops a.tmps) = true) (hv : OneV v) (off : Nat) (cs' : List Value) {cs : List Value} {T' : TypeId} (h : Own w0 E L w) (i : Nat) (hi : L[i]? = some (rCell true b cs T'))
    (hx : (a.eval x, a.eval y, (P.info? T).map (·.size), Nat.ble (off + 1) cs.length, cs.take off ++ (v :: cs.drop (off + 1))) = (.pointer (some ⟨b, off, none⟩), v, some 1, true, cs'))
    (hK : ∀ w', Own w0 E (L.set i (rCell true b cs' T')) w' → LW P ops Q rest (a.put dst undef) w') : LW P ops Q (⟨dst, .store T x y, ty, pos, after, g⟩ :: rest) a w := ⟨sqg hg (op_sto hv off cs' h i hi hx fun w' h => (hK w' h).out)⟩
/-- One element is appended. -/
theorem op_app {α : Type} {enc : α → List Value} {l : List α} {dst : Option Tmp} {T : TypeId} {s x : Operand} {ty : TypeId} {pos : String} {after : Array Edge} {g : Option (Nat × Bool)} {v : Value} {b o size : Nat} {d : TypeId} {r : Res} (c : Nat) (e : α)
    (hx : (a.eval s, a.eval x, P.underlying T, okInfo P d size, (enc e).length, (enc e).all (·.oneCell')) = (v, .slice (some ⟨b, o, none⟩) 1 c, some (.slice d), true, size, true))
    (h : Own w0 E L w) (i : Nat) (hi : L[i]? = some (rRows true v d size enc l)) (j : Nat) (hj : L[j]? = some r) (hr : RdAt r b o (enc e)) (hb : l.length < 100000000000)
    (hK : ∀ v' w', Own w0 E (L.set i (rRows true v' d size enc (l ++ [e]))) w' → K (a.put dst v') w') : Oper.wp P ⟨dst, .call { callee := .builtin .append, args := #[s, x], argTypes := #[T, T] }, ty, pos, after, g⟩ a w K Q := by
  simp only [Prod.mk.injEq] at hx
  obtain ⟨h1, h2, h3, h4', h6, h7⟩ := hx
  obtain ⟨z, bytes, h4, h5, hby, h8⟩ := okInfo_spec h4'
  obtain ⟨v', w', S', hrun, hs, hc, hg⟩ := run_appendS (P := P) (ty := ty) (c := c) h3 h4 h5 h8 (h.fact i hi : SliceAt _ _ _ _ _ _ _) (a := ⟨b, o, none⟩) (m := 1) (news := enc e) (by omega)
    (fun j u hu => by rw [Addr.add_lit]; exact hr w (h.fact _ hj) j u hu) (fun u hu => List.all_eq_true.1 h7 u hu) (by unfold maxLen; omega) (by
      have : (l.length + 1) * bytes ≤ 100000000000 * 1000 := Nat.mul_le_mul (by omega) hby
      omega)
  obtain ⟨hs1, hs2⟩ := hs.own
  unfold Oper.wp
  simp [execOp, resolve, invoke, builtin, h1, h2, hrun, Result.andThen, Oper.upon]
  refine hK _ _ (h.upd i hi rfl hc ?_ (fun b hb => ?_))
  · have : (l ++ [e]).flatMap enc = l.flatMap enc ++ enc e := by simp
    show SliceAt w' v' d size (l ++ [e]).length ((l ++ [e]).flatMap enc) _
    rw [this, List.length_append]
    exact hs1
  · rcases hg b (hs2 b hb) with h | h
    · exact .inl h
    · exact .inr h.1
theorem sq_call {o : Oper} {f : FuncId} (args : Array Value) (is : List Nat) {Φ : Value → List Res → Prop} (hg : Region.wanted o (yielded ops a.tmps) = true) (hs : Spec P f args (pk is L) Φ) (hrun : ∀ w, (execOp a.eval o).run P w = .ok (.enter f args) w)
    (h : Own w0 E L w) (hK : ∀ v Lp w', Φ v Lp → Own w0 E (Lp ++ rs is L) w' → LW P ops Q rest (a.put o.dst v) w') : LW P ops Q (o :: rest) a w := ⟨sqg hg (op_call is hs hrun h fun v Lp w' hΦ h => (hK v Lp w' hΦ h).out)⟩
theorem sq_st {dst : Option Tmp} {T : TypeId} {x y : Operand} {ty : TypeId} {pos : String} {after : Array Edge} {g : Option (Nat × Bool)} {b : Nat} (hg : Region.wanted ⟨dst, .store T x y, ty, pos, after, g⟩ (yielded ops a.tmps) = true) (off : Nat) (vs cs' : List Value) {cs : List Value} {T' : TypeId} (h : Own w0 E L w) (i : Nat) (hi : L[i]? = some (rCell true b cs T'))
    (hx : (a.eval x, (a.eval y).cells, (P.info? T).map (·.size), Nat.ble (off + vs.length) cs.length, vs.all (·.oneCell'), cs.take off ++ (vs ++ cs.drop (off + vs.length))) = (.pointer (some ⟨b, off, none⟩), vs.toArray, some vs.length, true, true, cs'))
    (hK : ∀ w', Own w0 E (L.set i (rCell true b cs' T')) w' → LW P ops Q rest (a.put dst undef) w') : LW P ops Q (⟨dst, .store T x y, ty, pos, after, g⟩ :: rest) a w := ⟨sqg hg (op_st off vs cs' h i hi hx fun w' h => (hK w' h).out)⟩
theorem sq_str {dst : Option Tmp} {T : TypeId} {x y : Operand} {ty : TypeId} {pos : String} {after : Array Edge} {g : Option (Nat × Bool)} {b : Nat} (hg : Region.wanted ⟨dst, .store T x y, ty, pos, after, g⟩ (yielded ops a.tmps) = true) (off : Nat) (vs : List Value) {r r' : Res} (h : Own w0 E L w) (i : Nat) (hi : L[i]? = some r)
    (hx : (a.eval x, (a.eval y).cells, (P.info? T).map (·.size), vs.all (·.oneCell')) = (.pointer (some ⟨b, off, none⟩), vs.toArray, some vs.length, true)) (hr : WrAt r b off vs r')
    (hK : ∀ w', Own w0 E (L.set i r') w' → LW P ops Q rest (a.put dst undef) w') : LW P ops Q (⟨dst, .store T x y, ty, pos, after, g⟩ :: rest) a w := ⟨sqg hg (op_str off vs h i hi hx hr fun w' h => (hK w' h).out)⟩
theorem sq_app {α : Type} {enc : α → List Value} {l : List α} {dst : Option Tmp} {T : TypeId} {s x : Operand} {ty : TypeId} {pos : String} {after : Array Edge} {g : Option (Nat × Bool)} {v : Value} {b o size : Nat} {d : TypeId} {r : Res} (hg : Region.wanted ⟨dst, .call { callee := .builtin .append, args := #[s, x], argTypes := #[T, T] }, ty, pos, after, g⟩ (yielded ops a.tmps) = true) (c : Nat) (e : α)
    (hx : (a.eval s, a.eval x, P.underlying T, okInfo P d size, (enc e).length, (enc e).all (·.oneCell')) = (v, .slice (some ⟨b, o, none⟩) 1 c, some (.slice d), true, size, true))
    (h : Own w0 E L w) (i : Nat) (hi : L[i]? = some (rRows true v d size enc l)) (j : Nat) (hj : L[j]? = some r) (hr : RdAt r b o (enc e)) (hb : l.length < 100000000000)
    (hK : ∀ v' w', Own w0 E (L.set i (rRows true v' d size enc (l ++ [e]))) w' → LW P ops Q rest (a.put dst v') w') : LW P ops Q (⟨dst, .call { callee := .builtin .append, args := #[s, x], argTypes := #[T, T] }, ty, pos, after, g⟩ :: rest) a w := ⟨sqg hg (op_app c e hx h i hi j hj hr hb fun v' w' h => (hK v' w' h).out)⟩
/-- An empty slice is owned at no cost. -/
theorem Own.nilSl (h : Own w0 E L w) (T k : Nat) : Own w0 E (rSl true (.slice none 0 0) T k 0 [] :: L) w := h.push (Chg.refl _ _) (rSl_nil _ _ _ _) (fun b hb => (hb : False).elim)
theorem Own.nilRows {α : Type} (h : Own w0 E L w) (T k : Nat) (enc : α → List Value) : Own w0 E (rRows true (.slice none 0 0) T k enc [] :: L) w := h.nilSl T k

/-! ### In whatever order -/
theorem yq {o : Oper} {v : Value} (hg : Region.wanted o (yielded ops a.tmps) = true) (hv : Gives P w0 E L o a v) : YieldsIf P ops (Own w0 E L) o v a := .inl ⟨hg, hv⟩
theorem ym1 {o : Oper} {v : Value} (B : Bool) (hg : Region.wanted o (yielded ops a.tmps) = B) (hv : B = true → Gives P w0 E L o a v) : YieldsIf P ops (Own w0 E L) o (if B = true then v else undef) a := by
  cases B
  · exact .inr ⟨hg, rfl⟩
  · exact .inl ⟨hg, hv rfl⟩
theorem ym0 {o : Oper} {v : Value} (B : Bool) (hg : Region.wanted o (yielded ops a.tmps) = !B) (hv : B = false → Gives P w0 E L o a v) : YieldsIf P ops (Own w0 E L) o (if B = false then v else undef) a := by
  cases B
  · exact .inl ⟨hg, hv rfl⟩
  · exact .inr ⟨hg, rfl⟩

/-! ### Cuts, the beginning, the end -/
theorem loop_end' {X : Type} {A : X → Act} {R : X → List Res} {G : X → Prop} {μ : X → Nat} {x : X} {a : Act} {w : World} (f : (Nat → Value) → X) (hG : G (f fun n => a.tmps.getD n undef) ∧ μ (f fun n => a.tmps.getD n undef) < μ x) (ha : a = A (f fun n => a.tmps.getD n undef)) (is : List Nat) (hR : R (f fun n => a.tmps.getD n undef) = pk is L) (h : Own w0 E L w) :
    ∃ x', (G x' ∧ μ x' < μ x) ∧ a = A x' ∧ Own w0 E (R x') w := ⟨_, hG, ha, hR ▸ h.pick is⟩
theorem mid_end {X : Type} {A : X → Act} {R : X → List Res} {G : X → Prop} {a : Act} {w : World} (f : (Nat → Value) → X) (hG : G (f fun n => a.tmps.getD n undef)) (ha : a = A (f fun n => a.tmps.getD n undef)) (is : List Nat) (hR : R (f fun n => a.tmps.getD n undef) = pk is L) (h : Own w0 E L w) :
    ∃ x', G x' ∧ a = A x' ∧ Own w0 E (R x') w := ⟨_, hG, ha, hR ▸ h.pick is⟩
/-- Behind a piece of code, if it ends, M is so. -/
def Mid (M : Act → World → Prop) (Q : Exit → Act → World → Prop) : Exit → Act → World → Prop
  | .normal, a, w => M a w
  | e, a, w => Q e a w
theorem c_mid {c : Code} (M : Act → World → Prop) (h : CW P c (Mid M Q) a w) (hM : ∀ a w, M a w → Q .normal a w) : CW P c Q a w :=
  ⟨wp_mono h.out fun e a w hq => by cases e <;> first | exact hM _ _ hq | exact hq⟩
/-- Code behind code. -/
def Thn (P : Program) (y : Code) (Q : Exit → Act → World → Prop) : Exit → Act → World → Prop
  | .normal, a, w => CW P y Q a w
  | e, a, w => Q e a w
theorem c_seq {x y : Code} (h : CW P x (Thn P y Q) a w) : CW P (.seq x y) Q a w := ⟨wp_seq (wp_mono h.out fun e a w hq => by cases e <;> first | exact hq.out | exact hq)⟩
theorem c_skip (h : Q .normal a w) : CW P .skip Q a w := ⟨wp_skip h⟩
theorem c_ret (h : Q .ret a w) : CW P .ret Q a w := ⟨wp_ret h⟩
theorem c_exit {id : Nat} (h : Q (.exit id) a w) : CW P (.exit id) Q a w := ⟨wp_exit h⟩
theorem c_block {id : Nat} {c : Code} (h : CW P c (Exit.inBlock id Q) a w) : CW P (.block id c) Q a w := ⟨wp_block h.out⟩
theorem c_true {c : Operand} {x y : Code} (hc : a.eval c = .bool true) (h : CW P x Q a w) : CW P (.cond c x y) Q a w := ⟨wp_cond_true hc h.out⟩
theorem c_false {c : Operand} {x y : Code} (hc : a.eval c = .bool false) (h : CW P y Q a w) : CW P (.cond c x y) Q a w := ⟨wp_cond_false hc h.out⟩
theorem c_cond {c : Operand} {x y : Code} (t : Bool) (hc : a.eval c = .bool t) (ht : t = true → CW P x Q a w) (hf : t = false → CW P y Q a w) : CW P (.cond c x y) Q a w := ⟨wp_cond_split hc (fun e => (ht e).out) (fun e => (hf e).out)⟩
theorem c_reg {id : Nat} {l : List Oper} (h : LW P l.toArray Q l a w) : CW P (.region id l.toArray false) Q a w := ⟨wp_region_lit h.out⟩
/-- A loop: x tells what changes from round to round. -/
def Rnd {X : Type} (w0 : World) (E : Ent) (A : X → Act) (R : X → List Res) (G : X → Prop) (μ : X → Nat) (x : X) (Q : Exit → Act → World → Prop) : Exit → Act → World → Prop
  | .normal, a, w => ∃ x', (G x' ∧ μ x' < μ x) ∧ a = A x' ∧ Own w0 E (R x') w
  | e, a, w => Q e a w
theorem c_loop {X : Type} {body : Code} (A : X → Act) (R : X → List Res) (G : X → Prop) (μ : X → Nat) (x0 : X) (h0 : G x0) (ha : A x0 = a) (is : List Nat) (hR : R x0 = pk is L) (h : Own w0 E L w)
    (round : ∀ x w, G x → Own w0 E (R x) w → CW P body (Rnd w0 E A R G μ x Q) (A x) w) : CW P (.loop body) Q a w :=
  ⟨wp_loopO A R G μ x0 h0 ha is hR h fun x w hG hO => wp_mono (round x w hG hO).out fun e a w hq => by cases e <;> exact hq⟩
theorem rnd_e {X : Type} {A : X → Act} {R : X → List Res} {G : X → Prop} {μ : X → Nat} {x : X} {id : Nat} (h : Q (.exit id) a w) : Rnd w0 E A R G μ x Q (.exit id) a w := h
theorem rnd_r {X : Type} {A : X → Act} {R : X → List Res} {G : X → Prop} {μ : X → Nat} {x : X} (h : Q .ret a w) : Rnd w0 E A R G μ x Q .ret a w := h
theorem thn_n {y : Code} (h : CW P y Q a w) : Thn P y Q .normal a w := h
theorem thn_e {y : Code} {id : Nat} (h : Q (.exit id) a w) : Thn P y Q (.exit id) a w := h
theorem thn_r {y : Code} (h : Q .ret a w) : Thn P y Q .ret a w := h
theorem mid_n {M : Act → World → Prop} (h : M a w) : Mid M Q .normal a w := h
theorem mid_e {M : Act → World → Prop} {id : Nat} (h : Q (.exit id) a w) : Mid M Q (.exit id) a w := h
theorem mid_r {M : Act → World → Prop} (h : Q .ret a w) : Mid M Q .ret a w := h
theorem loop_end {X : Type} {A : X → Act} {R : X → List Res} {G : X → Prop} {μ : X → Nat} {x : X} {a : Act} {w : World} (f : (Nat → Value) → X) (hG : G (f fun n => a.tmps.getD n undef) ∧ μ (f fun n => a.tmps.getD n undef) < μ x) (ha : a = A (f fun n => a.tmps.getD n undef)) (is : List Nat) (hR : R (f fun n => a.tmps.getD n undef) = pk is L) (h : Own w0 E L w) :
    Rnd w0 E A R G μ x Q .normal a w := ⟨_, hG, ha, hR ▸ h.pick is⟩
theorem spec_of {f : FuncId} {fn : Func} {c : Code} {args : Array Value} {Φ : Value → List Res → Prop} (tm : Array Value) (hf : P.funcs[f]? = some fn) (hb : fn.body = some c) (ht : args ++ Array.replicate (fn.ntmps - args.size) undef = tm)
    (h : ∀ E w0 w, Own w0 E L w → CW P c (bodyPost P fn fun e w' => ∃ v L', Φ v L' ∧ e = .returned v ∧ Own w0 E L' w') ⟨tm, []⟩ w) : Spec P f args L Φ := fun E w0 w ho =>
  calls_of_wp hf hb (by rw [ht]; exact (h E w0 w ho).out)
/-- A contract of the elder kind that turns nothing. -/
theorem spec_quiet {f : FuncId} {args : Array Value} {v : Value} (h : ∀ w, Calls P f args w fun e w' => e = .returned v ∧ Chg Nil w w') : Spec P f args [] fun u L => u = v ∧ L = [] := fun E w0 w ho =>
  (h w).mono fun e w' ⟨he, hc⟩ => ⟨v, [], ⟨rfl, rfl⟩, he, ho.quiet hc⟩
theorem ret_end {fn : Func} {Φ : Value → List Res → Prop} {a : Act} (vs : List Value) (is : List Nat) (h : Own w0 E L w) (hd : a.defers = []) (hr : resV P L a.tmps fn.results.toList vs) (hΦ : Φ (retV vs) (pk is L)) :
    bodyPost P fn (fun e w' => ∃ v L', Φ v L' ∧ e = .returned v ∧ Own w0 E L' w') .ret a w := by
  obtain ⟨tm, ds⟩ := a
  obtain rfl : ds = [] := hd
  exact ret_O vs h hr ⟨_, _, hΦ, rfl, h.pick is⟩
theorem res_n {tm : Array Value} : resV P L tm [] [] := rfl
theorem res_t {tm : Array Value} {t : Tmp} {l : List ResultVar} {v : Value} {vs : List Value} (hv : tm.getD t undef = v) (h : resV P L tm l vs) : resV P L tm (.tmp t :: l) (v :: vs) := ⟨v, vs, rfl, hv, h⟩
theorem res_c {tm : Array Value} {p : Tmp} {T : TypeId} {l : List ResultVar} {vs : List Value} {wr : Bool} {b : Nat} {cs : List Value} {T' : TypeId} (off : Nat) (us : List Value) (v : Value) (i : Nat) (hi : L[i]? = some (rCell wr b cs T'))
    (hx : (tm.getD p undef, ldv P T us, (cs.drop off).take us.length) = (.pointer (some ⟨b, off, none⟩), some v, us)) (h : resV P L tm l vs) : resV P L tm (.cell p T :: l) (v :: vs) := by
  simp only [Prod.mk.injEq] at hx
  exact ⟨v, vs, b, off, us, _, rfl, hx.1, hx.2.1, List.mem_of_getElem? hi, rdCell off hx.2.2, h⟩
def resT (tm : Array Value) : ResultVar → Option Value
  | .tmp t => some (tm.getD t undef)
  | _ => none
/-- One result, several: all in temporaries. -/
theorem ret_t {fn : Func} {Φ : Value → List Res → Prop} {a : Act} (vs : List Value) (is : List Nat) (h : Own w0 E L w) (hr : (a.defers, fn.results.toList.map (resT a.tmps)) = ([], vs.map some)) (hΦ : Φ (retV vs) (pk is L)) :
    bodyPost P fn (fun e w' => ∃ v L', Φ v L' ∧ e = .returned v ∧ Own w0 E L' w') .ret a w := by
  obtain ⟨tm, ds⟩ := a
  simp only [Prod.mk.injEq] at hr
  obtain ⟨rfl, hr⟩ := hr
  refine ret_end vs is h rfl ?_ hΦ
  have : ∀ (l : List ResultVar) (vs : List Value), l.map (resT tm) = vs.map some → resV P L tm l vs := by
    intro l
    induction l with
    | nil => intro vs h; simpa [resV] using h.symm
    | cons x l ih =>
      intro vs h
      cases vs with
      | nil => simp at h
      | cons v vs =>
        simp only [List.map_cons, List.cons.injEq] at h
        cases x with
        | tmp t => exact ⟨v, vs, rfl, Option.some.inj h.1, ih vs h.2⟩
        | cell p T => cases h.1
  exact this _ _ hr
end

/- A region that draws its order, by what is owned. Over any program, no condition. -/

/-- What follows a panic does not hang on the frame's temporaries. -/
def QP (Q : Exit → Act → World → Prop) : Prop := ∀ c a d v w, Q (.panic c) (Act.put a d v) w → Q (.panic c) a w
section
variable {P : Program} {a : Act} {w w0 : World} {E : Ent} {L : List Res} {K : Act → World → Prop} {Q : Exit → Act → World → Prop} {ops : Array Oper} {br br' : Nat → Bool} {fuel : Nat} {listed : Array Bool}
theorem qp_thn {y : Code} (h : QP Q) : QP (Thn P y Q) := fun c a d v w hq => h c a d v w hq
theorem qp_blk {id : Nat} (h : QP Q) : QP (Exit.inBlock id Q) := fun c a d v w hq => h c a d v w hq
theorem qp_mid {M : Act → World → Prop} (h : QP Q) : QP (Mid M Q) := fun c a d v w hq => h c a d v w hq
theorem qp_rnd {X : Type} {A : X → Act} {R : X → List Res} {G : X → Prop} {μ : X → Nat} {x : X} (h : QP Q) : QP (Rnd w0 E A R G μ x Q) := fun c a d v w hq => h c a d v w hq
theorem qp_body {fn : Func} {R : Ending → World → Prop} : QP (bodyPost P fn R) := fun c a d v w hq => by
  refine ⟨?_, hq.2⟩
  have := hq.1
  cases d <;> exact this
theorem Own.sub {M : List Res} (h : Own w0 E M w) (js : List Nat) (e : pk js M = L) : Own w0 E L w := e ▸ h.pick js
theorem d_start {M : List Res} {id : Nat} {l : List Oper} (n : Nat) (js : List Nat) (hn : (l.toArray.size, P.follows .mixedOrders) = (n, true)) (h : Own w0 E M w) (hK : ∀ w', Own w0 E M w' → DW P l.toArray Q w0 E (Nat.testBit 0) n (Array.replicate n false) (pk js M) a w') : CW P (.region id l.toArray true) Q a w := by
  simp only [Prod.mk.injEq] at hn
  obtain ⟨rfl, hm⟩ := hn
  exact ⟨wp_region_any hm (wpAny_of_O _ _ _ _ _ (hK _ h.drew).out)⟩
theorem d_take {M : List Res} (i c : Nat) (js : List Nat) {oi : Oper} (hi : ops[i]? = some oi) {v : Value} (ht : (Region.noSelect ops && takeO .any ops br listed i c) = true) (hQ : QP Q) (hy : YieldsIf P ops (Own w0 E L) oi v a) (h : Own w0 E M w) (e : pk js M = L)
    (hK : DW P ops Q w0 E br fuel (listed.setIfInBounds i true) L (a.put oi.dst v) w) : DW P ops Q w0 E br (fuel + 1) listed L a w := by
  rw [Bool.and_eq_true] at ht
  exact ⟨wpAnyO_take i c hi ht.1 ht.2 (fun c a w h => hQ c a _ _ w h) hy (h.sub js e) hK.out⟩
theorem d_done (hr : Region.ready .any ops listed = []) (h : Q .normal a w) : DW P ops Q w0 E br fuel listed L a w := ⟨wpAnyO_done hr h fuel⟩
/-- More is held from here on. -/
theorem d_more (L' : List Res) (ks : List Nat) (e : pk ks L' = L) (h : DW P ops Q w0 E br fuel listed L' a w) : DW P ops Q w0 E br fuel listed L a w := ⟨wpAnyO_mono (fun w h => e ▸ h.pick ks) fuel listed a w h.out⟩
structure AllD (P : Program) (ops : Array Oper) (Q : Exit → Act → World → Prop) (w0 : World) (E : Ent) (br : Nat → Bool) (fuel : Nat) (listed : Array Bool) (L : List Res) (a : Act) (w : World) (is : List Nat) : Prop where
  out : AllO P .any ops Q w0 E br fuel listed L a w is
theorem d_ready (is : List Nat) (hr : Region.ready .any ops listed = is) (hne : is.isEmpty = false) (h : AllD P ops Q w0 E br fuel listed L a w is) : DW P ops Q w0 E br (fuel + 1) listed L a w := ⟨wpAnyO_ready is hr (fun e => by rw [e] at hne; cases hne) h.out⟩
theorem ad_nil : AllD P ops Q w0 E br fuel listed L a w [] := ⟨AllO.nil⟩
variable {M : List Res} {i : Nat} {is : List Nat}
/-- It makes a block. -/
theorem ad_new {o : Oper} (js : List Nat) (hi : ops[i]? = some o) (hb : (br i, Region.wanted o (yielded ops a.tmps)) = (false, true)) (mk : Nat → Value) (cs : List Value) (T : TypeId) (hrun : ∀ w, (execOp a.eval o).run P w = .ok (.value (mk w.heap.size)) (w.alloc (.cells cs.toArray T)))
    (h : Own w0 E M w) (hK : ∀ b w', Own w0 E (rCell true b cs T :: M) w' → pk js (rCell true b cs T :: M) = L ∧ DW P ops Q w0 E br fuel (listed.setIfInBounds i true) L (a.put o.dst (mk b)) w') (hs : AllD P ops Q w0 E br fuel listed L a w is) : AllD P ops Q w0 E br fuel listed L a w (i :: is) := by
  simp only [Prod.mk.injEq] at hb
  exact ⟨AllO.cons hi hb.1 hb.2 (op_new mk cs T hrun h fun b w' h' => ⟨h'.sub js (hK b w' h').1, (hK b w' h').2.out⟩) hs.out⟩
/-- It yields what it yields where M is owned. -/
theorem ad_q {o : Oper} {v : Value} (js : List Nat) (hi : ops[i]? = some o) (hb : (br i, Region.wanted o (yielded ops a.tmps)) = (false, true)) (hv : Gives P w0 E M o a v) (h : Own w0 E M w) (e : pk js M = L)
    (hK : DW P ops Q w0 E br fuel (listed.setIfInBounds i true) L (a.put o.dst v) w) (hs : AllD P ops Q w0 E br fuel listed L a w is) : AllD P ops Q w0 E br fuel listed L a w (i :: is) := by
  simp only [Prod.mk.injEq] at hb
  exact ⟨AllO.cons hi hb.1 hb.2 (by unfold Oper.wp; rw [hv w h]; exact ⟨h.sub js e, hK.out⟩) hs.out⟩
/-- A call. -/
theorem ad_call {o : Oper} {f : FuncId} (args : Array Value) (us : List Nat) (js : List Nat) {Φ : Value → List Res → Prop} (hi : ops[i]? = some o) (hb : (br i, Region.wanted o (yielded ops a.tmps)) = (false, true)) (hsp : Spec P f args (pk us M) Φ) (hrun : ∀ w, (execOp a.eval o).run P w = .ok (.enter f args) w)
    (h : Own w0 E M w) (hK : ∀ v Lp w', Φ v Lp → Own w0 E (Lp ++ rs us M) w' → pk js (Lp ++ rs us M) = L ∧ DW P ops Q w0 E br fuel (listed.setIfInBounds i true) L (a.put o.dst v) w') (hs : AllD P ops Q w0 E br fuel listed L a w is) : AllD P ops Q w0 E br fuel listed L a w (i :: is) := by
  simp only [Prod.mk.injEq] at hb
  exact ⟨AllO.cons hi hb.1 hb.2 (op_call us hsp hrun h fun v Lp w' hΦ h' => ⟨h'.sub js (hK v Lp w' hΦ h').1, (hK v Lp w' hΦ h').2.out⟩) hs.out⟩
/-- A store. -/
theorem ad_st {dst : Option Tmp} {T : TypeId} {x y : Operand} {ty : TypeId} {pos : String} {after : Array Edge} {g : Option (Nat × Bool)} {b : Nat} (js : List Nat) (hi : ops[i]? = some ⟨dst, .store T x y, ty, pos, after, g⟩) (hb : (br i, Region.wanted ⟨dst, .store T x y, ty, pos, after, g⟩ (yielded ops a.tmps)) = (false, true)) (off : Nat) (vs cs' : List Value) {cs : List Value} {T' : TypeId} (h : Own w0 E M w) (j : Nat) (hj : M[j]? = some (rCell true b cs T'))
    (hx : (a.eval x, (a.eval y).cells, (P.info? T).map (·.size), Nat.ble (off + vs.length) cs.length, vs.all (·.oneCell'), cs.take off ++ (vs ++ cs.drop (off + vs.length))) = (.pointer (some ⟨b, off, none⟩), vs.toArray, some vs.length, true, true, cs'))
    (hK : ∀ w', Own w0 E (M.set j (rCell true b cs' T')) w' → pk js (M.set j (rCell true b cs' T')) = L ∧ DW P ops Q w0 E br fuel (listed.setIfInBounds i true) L (a.put dst undef) w') (hs : AllD P ops Q w0 E br fuel listed L a w is) : AllD P ops Q w0 E br fuel listed L a w (i :: is) := by
  simp only [Prod.mk.injEq] at hb
  exact ⟨AllO.cons hi hb.1 hb.2 (op_st off vs cs' h j hj hx fun w' h' => ⟨h'.sub js (hK w' h').1, (hK w' h').2.out⟩) hs.out⟩
theorem ad_sto {dst : Option Tmp} {T : TypeId} {x y : Operand} {ty : TypeId} {pos : String} {after : Array Edge} {g : Option (Nat × Bool)} {b : Nat} {v : Value} (js : List Nat) (hi : ops[i]? = some ⟨dst, .store T x y, ty, pos, after, g⟩) (hb : (br i, Region.wanted ⟨dst, .store T x y, ty, pos, after, g⟩ (yielded ops a.tmps)) = (false, true)) (hv : OneV v) (off : Nat) (cs' : List Value) {cs : List Value} {T' : TypeId} (h : Own w0 E M w) (j : Nat) (hj : M[j]? = some (rCell true b cs T'))
    (hx : (a.eval x, a.eval y, (P.info? T).map (·.size), Nat.ble (off + 1) cs.length, cs.take off ++ (v :: cs.drop (off + 1))) = (.pointer (some ⟨b, off, none⟩), v, some 1, true, cs'))
    (hK : ∀ w', Own w0 E (M.set j (rCell true b cs' T')) w' → pk js (M.set j (rCell true b cs' T')) = L ∧ DW P ops Q w0 E br fuel (listed.setIfInBounds i true) L (a.put dst undef) w') (hs : AllD P ops Q w0 E br fuel listed L a w is) : AllD P ops Q w0 E br fuel listed L a w (i :: is) := by
  simp only [Prod.mk.injEq] at hb
  exact ⟨AllO.cons hi hb.1 hb.2 (op_sto hv off cs' h j hj hx fun w' h' => ⟨h'.sub js (hK w' h').1, (hK w' h').2.out⟩) hs.out⟩
theorem ad_str {dst : Option Tmp} {T : TypeId} {x y : Operand} {ty : TypeId} {pos : String} {after : Array Edge} {g : Option (Nat × Bool)} {b : Nat} (js : List Nat) (hi : ops[i]? = some ⟨dst, .store T x y, ty, pos, after, g⟩) (hb : (br i, Region.wanted ⟨dst, .store T x y, ty, pos, after, g⟩ (yielded ops a.tmps)) = (false, true)) (off : Nat) (vs : List Value) {r r' : Res} (h : Own w0 E M w) (j : Nat) (hj : M[j]? = some r)
    (hx : (a.eval x, (a.eval y).cells, (P.info? T).map (·.size), vs.all (·.oneCell')) = (.pointer (some ⟨b, off, none⟩), vs.toArray, some vs.length, true)) (hr : WrAt r b off vs r')
    (hK : ∀ w', Own w0 E (M.set j r') w' → pk js (M.set j r') = L ∧ DW P ops Q w0 E br fuel (listed.setIfInBounds i true) L (a.put dst undef) w') (hs : AllD P ops Q w0 E br fuel listed L a w is) : AllD P ops Q w0 E br fuel listed L a w (i :: is) := by
  simp only [Prod.mk.injEq] at hb
  exact ⟨AllO.cons hi hb.1 hb.2 (op_str off vs h j hj hx hr fun w' h' => ⟨h'.sub js (hK w' h').1, (hK w' h').2.out⟩) hs.out⟩
/-- One element is appended. -/
theorem ad_app {α : Type} {enc : α → List Value} {l : List α} {dst : Option Tmp} {T : TypeId} {s x : Operand} {ty : TypeId} {pos : String} {after : Array Edge} {g : Option (Nat × Bool)} {v : Value} {b o size : Nat} {d : TypeId} {r : Res} (js : List Nat) (hi : ops[i]? = some ⟨dst, .call { callee := .builtin .append, args := #[s, x], argTypes := #[T, T] }, ty, pos, after, g⟩) (hb : (br i, Region.wanted ⟨dst, .call { callee := .builtin .append, args := #[s, x], argTypes := #[T, T] }, ty, pos, after, g⟩ (yielded ops a.tmps)) = (false, true)) (c : Nat) (e : α)
    (hx : (a.eval s, a.eval x, P.underlying T, okInfo P d size, (enc e).length, (enc e).all (·.oneCell')) = (v, .slice (some ⟨b, o, none⟩) 1 c, some (.slice d), true, size, true))
    (h : Own w0 E M w) (j : Nat) (hj : M[j]? = some (rRows true v d size enc l)) (k : Nat) (hk : M[k]? = some r) (hr : RdAt r b o (enc e)) (hlen : l.length < 100000000000)
    (hK : ∀ v' w', Own w0 E (M.set j (rRows true v' d size enc (l ++ [e]))) w' → pk js (M.set j (rRows true v' d size enc (l ++ [e]))) = L ∧ DW P ops Q w0 E br fuel (listed.setIfInBounds i true) L (a.put dst v') w') (hs : AllD P ops Q w0 E br fuel listed L a w is) : AllD P ops Q w0 E br fuel listed L a w (i :: is) := by
  simp only [Prod.mk.injEq] at hb
  exact ⟨AllO.cons hi hb.1 hb.2 (op_app c e hx h j hj k hk hr hlen fun v' w' h' => ⟨h'.sub js (hK v' w' h').1, (hK v' w' h').2.out⟩) hs.out⟩
end

/- The errors of package api by number: where they lie, what a walk may know of them; out of what a row lists. -/

/-- The variable of error number c. -/
def gl : Nat → Nat
  | 1 => 1
  | 2 => 0
  | 3 => 4
  | 4 => 5
  | 5 => 6
  | 6 => 7
  | 7 => 8
  | 8 => 9
  | 9 => 2
  | 10 => 10
  | 11 => 11
  | 12 => 12
  | 13 => 13
  | 14 => 14
  | 15 => 3
  | _ => 0

/-- The value of error number c (0: nil); ad: where the errors lie. -/
def errV (ad : Nat → Addr) (c : Nat) : Value := if c = 0 then .nilIface else .iface 171 (.pointer (some (ad c)))
theorem errV_pos {ad : Nat → Addr} {c : Nat} (h : c ≠ 0) : errV ad c = .iface 171 (.pointer (some (ad c))) := if_neg h
theorem errV_zero {ad : Nat → Addr} : errV ad 0 = .nilIface := rfl

/-- The errors cs as they lie below block B. -/
structure Env (B : Nat) (ad : Nat → Addr) (cs : List Nat) (w : World) : Prop where
  size : B ≤ w.heap.size
  glob : ∀ c ∈ cs, w.cell? ⟨gl c, 0, none⟩ = some (.iface 171 (.pointer (some (ad c)))) ∧ gl c < B
  row : ∀ c ∈ cs, (∃ s, w.cell? (ad c) = some (.string s)) ∧ (∃ x t, w.heap[(ad c).block]? = some (.cells x t (0, 0))) ∧ (ad c).block < B
  dist : ∀ c ∈ cs, ∀ d ∈ cs, c ≠ d → ad c ≠ ad d

theorem Env.keep {B : Nat} {ad : Nat → Addr} {cs : List Nat} {S : Nat → Prop} {w w' : World} (h : Env B ad cs w) (c : Chg S w w') (hS : ∀ x, S x → B ≤ x) : Env B ad cs w' := by
  obtain ⟨h1, h2, h3, h4⟩ := h
  refine ⟨Nat.le_trans h1 c.size, fun x hx => ?_, fun x hx => ?_, h4⟩
  · obtain ⟨a, b⟩ := h2 x hx
    exact ⟨(c.cell (p := ⟨gl x, 0, none⟩) (Nat.lt_of_lt_of_le b h1) (fun s => by have := hS _ s; simp at this; omega)).trans a, b⟩
  · obtain ⟨⟨s, a⟩, ⟨y, t, b⟩, d⟩ := h3 x hx
    exact ⟨⟨s, (c.cell (Nat.lt_of_lt_of_le d h1) (fun s => by have := hS _ s; omega)).trans a⟩, ⟨y, t, c.keep b (fun s => by have := hS _ s; omega)⟩, d⟩
theorem Env.keepN {B : Nat} {ad : Nat → Addr} {cs : List Nat} {w w' : World} (h : Env B ad cs w) (c : Chg Nil w w') : Env B ad cs w' := h.keep c (fun _ f => f.elim)
theorem Env.alloc {B : Nat} {ad : Nat → Addr} {cs : List Nat} {w : World} (h : Env B ad cs w) (o : Obj) : Env B ad cs (w.alloc o) := h.keepN ((Chg.refl Nil w).alloc o)
theorem Env.sub {B : Nat} {ad : Nat → Addr} {cs ds : List Nat} {w : World} (h : Env B ad cs w) (hd : ∀ c ∈ ds, c ∈ cs) : Env B ad ds w :=
  ⟨h.size, fun c hc => h.glob c (hd c hc), fun c hc => h.row c (hd c hc), fun c hc d hd' => h.dist c (hd c hc) d (hd d hd')⟩
theorem Env.get {B : Nat} {ad : Nat → Addr} {cs : List Nat} {w : World} (h : Env B ad cs w) {c : Nat} (hc : c ∈ cs) : w.cell? ⟨gl c, 0, none⟩ = some (.iface 171 (.pointer (some (ad c)))) ∧ gl c < w.heap.size :=
  ⟨(h.glob c hc).1, Nat.lt_of_lt_of_le (h.glob c hc).2 h.size⟩

/-! ### Out of what a row lists -/
def sentD {H : Type} (text : List UInt8) : DataW H := .iface "*errors.errorString" (.ptr (.agg [.lit (.string text)]))
theorem star_err : "*errors.errorString" = "*" ++ "errors.errorString" := by decide
theorem typeName_err (u : TypeId) (h : Tryz.prog.typeName? 3 u = some "*errors.errorString") : u = 171 :=
  typeName_ptr_named (nm := "errors.errorString") (by rw [← star_err]; kernel_rfl) (by kernel_rfl) (by decide) u (by rw [← star_err]; exact h)
theorem cells_str : Tryz.prog.cellsOf 9 = 1 := by kernel_rfl
theorem cells_errStr : Tryz.prog.cellsOf 173 = 1 := by kernel_rfl

def errType (x : String) : Prop := ∀ g, Tryz.prog.globalNamed x = some g → (Tryz.prog.globals[g]?).map (·.type) = some 27
theorem sents_of_laid {W : World} : ∀ (l : List (String × List UInt8)) (ps : List MemPlace),
    DataW.LaidVars Tryz.prog W (l.map fun x => (x.1, sentD x.2)) ps → ps.Nodup →
    (∀ b off, MemPlace.cell b off ∈ ps → (∃ c t, W.heap[b]? = some (.cells c t (0, 0))) ∧ ∀ u v, W.cell? ⟨b, off, none⟩ = some (.iface u v) → Value.okWide Tryz.prog W .any 0 u v) →
    (∀ x ∈ l, errType x.1) →
    ∃ ads : List Addr, ads.length = l.length ∧ ads.Nodup ∧ (∀ a ∈ ads, MemPlace.cell a.block a.off ∈ ps ∧ a.spot = none) ∧
      ∀ (i : Nat) x a, l[i]? = some x → ads[i]? = some a → W.var? Tryz.prog x.1 = some #[.iface 171 (.pointer (some a))] ∧ (∃ s : ByteArray, W.cell? a = some (.string s) ∧ s.data.toList = x.2) ∧ ∃ c t, W.heap[a.block]? = some (.cells c t (0, 0))
  | [], ps, h, _, _, _ => ⟨[], rfl, List.nodup_nil, fun a h => (by cases h), fun i x a h => (by cases h)⟩
  | (n, text) :: l, ps, h, hnd, hrows, hty => by
    obtain ⟨g, t, cs, fuel, p, q, hg, ht, hv, hd, hr, e⟩ := h
    subst e
    have ht' := hty (n, text) (List.mem_cons_self ..) g hg
    obtain rfl := Option.some.inj (ht'.symm.trans ht)
    obtain ⟨l0⟩ := cs
    have ok0 : ∀ u v, l0 = [.iface u v] → Value.okWide Tryz.prog W .any 0 u v := fun u v e => by
      subst e
      exact (hrows g 0 (by simp [MemPlace.row])).2 u v (by simpa using World.var?_cell hg hv 0)
    obtain ⟨a, s, rfl, hc0, hs0, hz0, rfl⟩ := errorString_of_trod Tryz.underlying27 typeName_err Tryz.underlying171 Tryz.underlying173 rfl rfl Tryz.underlying9 cells_errStr cells_str hd ok0
    have hsp : a.spot = none := World.cell?_spot hc0
    rw [List.append_assoc] at hnd
    have hnd2 := (List.nodup_append.1 hnd).2.1
    obtain ⟨hn1, hn2, hn3⟩ := List.nodup_append.1 hnd2
    obtain ⟨ads, h1, h2, h3, h4⟩ := sents_of_laid l q hr hn2 (fun b off hm => hrows b off (by simp [hm])) (fun x hx => hty x (List.mem_cons_of_mem _ hx))
    have hma : MemPlace.cell a.block a.off ∈ MemPlace.row a 1 := by simp [MemPlace.row]
    refine ⟨a :: ads, by simp [h1], List.nodup_cons.2 ⟨fun hm => ?_, h2⟩, fun b hb => ?_, fun i x b hx hb => ?_⟩
    · exact hn3 _ hma _ (h3 a hm).1 rfl
    · rcases List.mem_cons.1 hb with rfl | hb
      · exact ⟨by simp [hma], hsp⟩
      · exact ⟨by simp [(h3 b hb).1], (h3 b hb).2⟩
    · cases i with
      | zero =>
        simp only [List.getElem?_cons_zero, Option.some.injEq] at hx hb
        subst hx; subst hb
        exact ⟨hv, ⟨s, hc0, hs0⟩, (hrows a.block a.off (by simp [hma])).1⟩
      | succ i => exact h4 i x b (by simpa using hx) (by simpa using hb)

def errName : Nat → String
  | 1 => "pigeonholes/api.ErrText" | 2 => "pigeonholes/api.ErrBound" | 3 => "pigeonholes/api.ErrShape" | 4 => "pigeonholes/api.ErrName" | 5 => "pigeonholes/api.ErrNone"
  | 6 => "pigeonholes/api.ErrExist" | 7 => "pigeonholes/api.ErrDir" | 8 => "pigeonholes/api.ErrFile" | 9 => "pigeonholes/api.ErrFull" | 10 => "pigeonholes/api.ErrStale"
  | 11 => "pigeonholes/api.ErrHeld" | 12 => "pigeonholes/api.ErrSeq" | 13 => "pigeonholes/api.ErrOld" | 14 => "pigeonholes/api.ErrGrace" | _ => "pigeonholes/api.ErrPower"
/-- The word behind the head of error number c's text. -/
def errWord : Nat → List UInt8
  | 1 => [116, 101, 120, 116] | 2 => [98, 111, 117, 110, 100] | 3 => [115, 104, 97, 112, 101] | 4 => [110, 97, 109, 101] | 5 => [110, 111, 110, 101]
  | 6 => [101, 120, 105, 115, 116] | 7 => [100, 105, 114] | 8 => [102, 105, 108, 101] | 9 => [102, 117, 108, 108] | 10 => [115, 116, 97, 108, 101]
  | 11 => [104, 101, 108, 100] | 12 => [115, 101, 113] | 13 => [111, 108, 100] | 14 => [103, 114, 97, 99, 101] | _ => [112, 111, 119, 101, 114]
def errText (c : Nat) : List UInt8 := [112, 105, 103, 101, 111, 110, 104, 111, 108, 101, 115, 58, 32] ++ errWord c
/-- What a row lists of the errors cs. -/
def errLaid (cs : List Nat) : List (String × DataW Unit) := cs.map fun c => (errName c, sentD (errText c))
/-- Number c's variable is known by its name. -/
def errKnown (c : Nat) : Prop := Tryz.prog.globalNamed (errName c) = some (gl c) ∧ (Tryz.prog.globals[gl c]?).map (·.type) = some 27

theorem env_of_laid {W : World} {cs : List Nat} (h : laidMet Tryz.prog (errLaid cs) W) (hk : ∀ c ∈ cs, errKnown c) :
    ∃ ad, Env W.heap.size ad cs W ∧ ∀ c ∈ cs, ∃ s : ByteArray, W.cell? (ad c) = some (.string s) ∧ s.data.toList = errText c := by
  obtain ⟨ps, hv, hnd, hrows⟩ := h
  have hk' : ∀ c ∈ cs, Tryz.prog.globalNamed (errName c) = some (gl c) ∧ (Tryz.prog.globals[gl c]?).map (·.type) = some 27 := hk
  have e : errLaid cs = (cs.map fun c => (errName c, errText c)).map fun x => (x.1, sentD x.2) := by simp [errLaid]
  rw [e] at hv
  obtain ⟨ads, h1, h2, h3, h4⟩ := sents_of_laid _ ps hv hnd hrows (fun x hx g hg => by
    obtain ⟨c, hc, rfl⟩ := List.mem_map.1 hx
    obtain ⟨a, b⟩ := hk' c hc
    obtain rfl := Option.some.inj (a.symm.trans hg)
    exact b)
  simp only [List.length_map] at h1
  have get : ∀ c ∈ cs, ∃ a, ads[cs.idxOf c]? = some a ∧ W.var? Tryz.prog (errName c) = some #[.iface 171 (.pointer (some a))] ∧ (∃ s : ByteArray, W.cell? a = some (.string s) ∧ s.data.toList = errText c) ∧ ∃ x t, W.heap[a.block]? = some (.cells x t (0, 0)) := fun c hc => by
    have hi : cs.idxOf c < cs.length := List.idxOf_lt_length_of_mem hc
    obtain ⟨a, ha⟩ : ∃ a, ads[cs.idxOf c]? = some a := ⟨ads[cs.idxOf c]'(by omega), List.getElem?_eq_getElem _⟩
    have hx : (cs.map fun c => (errName c, errText c))[cs.idxOf c]? = some (errName c, errText c) := by simp [hi]
    exact ⟨a, ha, h4 _ _ a hx ha⟩
  refine ⟨fun c => (ads[cs.idxOf c]?).getD default, ⟨Nat.le_refl _, fun c hc => ?_, fun c hc => ?_, fun c hc d hd hne he => ?_⟩, fun c hc => ?_⟩
  · obtain ⟨a, ha, hv, _⟩ := get c hc
    simp only [ha, Option.getD_some]
    have hcell : W.cell? ⟨gl c, 0, none⟩ = some (.iface 171 (.pointer (some a))) := by simpa using World.var?_cell (hk' c hc).1 hv 0
    exact ⟨hcell, World.block_lt_of_cell? _ _ hcell⟩
  · obtain ⟨a, ha, _, ⟨s, hs, _⟩, y, t, hr⟩ := get c hc
    simp only [ha, Option.getD_some]
    exact ⟨⟨s, hs⟩, ⟨y, t, hr⟩, lt_of_block hr⟩
  · obtain ⟨a, ha, _⟩ := get c hc
    obtain ⟨b, hb, _⟩ := get d hd
    simp only [ha, hb, Option.getD_some] at he
    subst he
    have hi := (List.getElem?_eq_some_iff.1 ha)
    have hj := (List.getElem?_eq_some_iff.1 hb)
    obtain ⟨i1, i2⟩ := hi
    obtain ⟨j1, j2⟩ := hj
    have hpw := List.pairwise_iff_getElem.1 h2
    have : cs.idxOf c = cs.idxOf d := by
      rcases Nat.lt_trichotomy (cs.idxOf c) (cs.idxOf d) with h | h | h
      · exact absurd (i2.trans j2.symm) (hpw _ _ i1 j1 h)
      · exact h
      · exact absurd (j2.trans i2.symm) (hpw _ _ j1 i1 h)
    have e1 : cs[cs.idxOf c]? = some c := by simp [List.idxOf_lt_length_of_mem hc]
    have e2 : cs[cs.idxOf d]? = some d := by simp [List.idxOf_lt_length_of_mem hd]
    rw [this, e2] at e1
    exact hne (Option.some.inj e1).symm
  · obtain ⟨a, ha, _, ⟨s, hs, hs2⟩, _⟩ := get c hc
    simp only [ha, Option.getD_some]
    exact ⟨s, hs, hs2⟩

/- Resources: the errors of package api (rEnv). Contracts of the elder kind as contracts by what is owned. No condition. -/

/-- The errors cs, below block B. -/
def rEnv (B : Nat) (ad : Nat → Addr) (cs : List Nat) : Res :=
  ⟨false, fun b => ∃ c ∈ cs, b = gl c ∨ b = (ad c).block, fun w => Env B ad cs w, fun w w' h hs hb => by
    obtain ⟨h1, h2, h3, h4⟩ := h
    refine ⟨Nat.le_trans h1 hs, fun c hc => ⟨?_, (h2 c hc).2⟩, fun c hc => ⟨?_, ?_, (h3 c hc).2.2⟩, h4⟩
    · rw [World.cell?_of_block (w := w) (hb (gl c) ⟨c, hc, .inl rfl⟩)]; exact (h2 c hc).1
    · obtain ⟨s, e⟩ := (h3 c hc).1
      exact ⟨s, by rw [World.cell?_of_block (w := w) (hb (ad c).block ⟨c, hc, .inr rfl⟩)]; exact e⟩
    · obtain ⟨x, t, e⟩ := (h3 c hc).2.1
      exact ⟨x, t, by rw [hb (ad c).block ⟨c, hc, .inr rfl⟩]; exact e⟩,
   fun w b h hb => by
    obtain ⟨c, hc, rfl | rfl⟩ := hb
    · exact (h.get hc).2
    · exact Nat.lt_of_lt_of_le (h.row c hc).2.2 h.size⟩
theorem rdEnv {B : Nat} {ad : Nat → Addr} {cs : List Nat} {c : Nat} (hc : c ∈ cs) (h0 : Nat.beq c 0 = false) : RdAt (rEnv B ad cs) (gl c) 0 [errV ad c] := fun w h j u hj => by
  have h1 : c ≠ 0 := Nat.ne_of_beq_eq_false h0
  cases j with
  | zero =>
    simp only [List.getElem?_cons_zero, Option.some.injEq] at hj
    rw [← hj, errV_pos h1]
    exact ((h : Env B ad cs w).get hc).1
  | succ j => simp at hj

theorem errV_one (ad : Nat → Addr) (c : Nat) : OneV (errV ad c) := by unfold errV; split <;> exact ⟨rfl, rfl⟩
theorem pw_of {α : Type} {R : α → α → Prop} : ∀ {L : List α}, (∀ r ∈ L, ∀ s ∈ L, R r s) → L.Pairwise R
  | [], _ => List.Pairwise.nil
  | r :: L, h => List.pairwise_cons.2 ⟨fun s hs => h r (by simp) s (by simp [hs]), pw_of fun a ha b hb => h a (by simp [ha]) b (by simp [hb])⟩
section
variable {P : Program} {f : FuncId} {args : Array Value}
/-- A contract over what is only read, as one of the elder kind. -/
theorem Spec.reads {L : List Res} {Φ : Value → List Res → Prop} (hs : Spec P f args L Φ) {w : World} (hro : L.all (fun r => !r.wr) = true) (hf : ∀ r ∈ L, r.fact w) : Calls P f args w fun e w' => ∃ u L', Φ u L' ∧ e = .returned u ∧ Chg Nil w w' := by
  have hr : ∀ r ∈ L, r.wr = false := fun r h => by simpa using List.all_eq_true.1 hro r h
  have hp : L.Pairwise (fun r s => r.wr = true ∨ s.wr = true → ∀ b, r.foot b → ¬ s.foot b) := by
    refine pw_of fun r h1 s h2 hc => ?_
    rw [hr r h1, hr s h2] at hc
    rcases hc with e | e <;> cases e
  have ho : Own w (entOf L) L w := ⟨Chg.refl _ _, fun b ⟨r, h, hb, _⟩ => ⟨r, h, hb, fun e => by cases e⟩, hf, hp, fun r h b hb => .inl ⟨r, h, hb, fun e => e⟩⟩
  refine (hs _ w w ho).mono ?_
  rintro e w' ⟨u, L', h1, h2, h3⟩
  exact ⟨u, L', h1, h2, h3.chg.mono fun x _ ⟨r, h, _, hw⟩ => by have := hw rfl; rw [hr r h] at this; cases this⟩
/-- It makes a slice of what it reads. -/
theorem spec_fresh {wr : Bool} {v : Value} {T k n T' k' n' : Nat} {xs xs' : List Value} (h : ∀ w, SliceAt w v T k n xs (blkOf v) → Calls P f args w fun e w' => ∃ v' S', e = .returned v' ∧ SliceAt w' v' T' k' n' xs' S' ∧ Chg Nil w w' ∧ Grow Nil S' w w') :
    Spec P f args [rSl wr v T k n xs] fun u L => ∃ v', u = v' ∧ L = [rSl true v' T' k' n' xs', rSl wr v T k n xs] := fun E w0 w ho =>
  (h w (ho.fact 0 rfl)).mono fun e w' ⟨v', S', he, hs, hc, hg⟩ => by
    obtain ⟨h1, h2⟩ := hs.own
    refine ⟨v', _, ⟨v', rfl, rfl⟩, he, ho.push hc h1 fun b hb => ?_⟩
    rcases hg b (h2 b hb) with f | f
    · exact f.elim
    · exact f.1
/-- It turns a slice where it lies. -/
theorem spec_turn {X : Type} {v : Value} {T k n : Nat} {xs : List Value} {r : X → Value} {n' : X → Nat} {xs' : X → List Value} {u : X → Value} {G : X → Prop} (h : ∀ w, SliceAt w v T k n xs (blkOf v) → Calls P f args w fun e w' => ∃ x, G x ∧ e = .returned (u x) ∧ SliceAt w' (r x) T k (n' x) (xs' x) (blkOf v) ∧ Chg (blkOf v) w w') :
    Spec P f args [rSl true v T k n xs] fun z L => ∃ x, G x ∧ z = u x ∧ L = [rSl true (r x) T k (n' x) (xs' x)] := fun E w0 w ho =>
  (h w (ho.fact 0 rfl)).mono fun e w' ⟨x, hG, he, hs, hc⟩ => by
    obtain ⟨h1, h2⟩ := hs.own
    exact ⟨_, _, ⟨x, hG, rfl, rfl⟩, he, ho.upd 0 rfl rfl hc h1 fun b hb => .inl (h2 b hb)⟩
end

/- Slices of structs among a law's arguments: opened. -/

theorem list_choice {α : Type} {Q : Nat → α → Prop} : ∀ (n : Nat), (∀ i, i < n → ∃ x, Q i x) → ∃ l : List α, l.length = n ∧ ∀ (i : Nat) x, l[i]? = some x → Q i x
  | 0, _ => ⟨[], rfl, fun i x h => by cases h⟩
  | n + 1, h => by
    obtain ⟨l, h1, h2⟩ := list_choice n (fun i hi => h i (by omega))
    obtain ⟨x, hx⟩ := h n (by omega)
    refine ⟨l ++ [x], by simp [h1], fun i y hy => ?_⟩
    rcases Nat.lt_or_ge i n with hi | hi
    · rw [List.getElem?_append_left (by omega)] at hy; exact h2 i y hy
    · rw [List.getElem?_append_right (by omega)] at hy
      have hin : i = n := by
        have := (List.getElem?_eq_some_iff.1 hy).1
        simp at this; omega
      subst hin
      simp [h1] at hy; subst hy; exact hx

/-- The cells of a row, one by one. -/
theorem cells_at {w : World} {base : Nat} {a : Addr} : ∀ {n : Nat} {cs : List Value}, w.cells? base a n = some cs → cs.length = n ∧ ∀ (r : Nat) u, cs[r]? = some u → w.cell? (a.add r) = some u := by
  intro n cs h
  unfold World.cells? at h
  split at h
  · have key : ∀ (l : List Nat) (cs : List Value), l.mapM (fun i => w.cell? (a.add i)) = some cs → cs.length = l.length ∧ ∀ (r : Nat) u, cs[r]? = some u → ∃ i : Nat, l[r]? = some i ∧ w.cell? (a.add i) = some u := by
      intro l
      induction l with
      | nil => intro cs h; simp at h; subst h; exact ⟨rfl, fun r u h => by cases h⟩
      | cons x l ih =>
        intro cs h
        simp only [List.mapM_cons, Option.bind_eq_bind, Option.bind_eq_some_iff] at h
        obtain ⟨v, hv, vs, hvs, hcs⟩ := h
        cases hcs
        obtain ⟨h1, h2⟩ := ih vs hvs
        refine ⟨by simp [h1], fun r u hu => ?_⟩
        cases r with
        | zero => simp at hu; subst hu; exact ⟨x, rfl, hv⟩
        | succ r => obtain ⟨i, hi, hc⟩ := h2 r u (by simpa using hu); exact ⟨i, by simpa using hi, hc⟩
    obtain ⟨h1, h2⟩ := key _ cs h
    refine ⟨by simpa using h1, fun r u hu => ?_⟩
    obtain ⟨i, hi, hc⟩ := h2 r u hu
    obtain ⟨hr, e⟩ := List.getElem?_eq_some_iff.1 hi
    simp at e; subst e; exact hc
  · cases h

/-- A slice's elements, each told by its cells: what each element's reading gives is asked of the caller. -/
theorem open_elems {H : Type} {P : Program} {enc : TypeId × Value → H} {W : World} {T E size fuel : Nat} {a0 : Option Addr} {len cap : Nat} {x : DataW H × List MemPlace} {α : Type} {encC : α → List Value}
    (ht : P.underlying T = some (.slice E)) (hsz : P.cellsOf E = size) (hs0 : 0 < size) (he : ∀ a, (encC a).length = size)
    (h : DataW.trod enc P W 0 (fun _ => true) true fuel T [.slice a0 len cap] = some x)
    (elem : ∀ (n : Nat) (cs : List Value) y, DataW.trod enc P W 0 (fun _ => true) true n E cs = some y → ∃ a, cs = encC a) :
    ∃ l : List α, l.length = len ∧ len ≤ cap ∧ cap ≤ maxLen ∧ ∀ (i : Nat) x, l[i]? = some x → ∃ g off, a0 = some ⟨g, off, none⟩ ∧ g < W.heap.size ∧ ∀ r u, (encC x)[r]? = some u → W.cell? ⟨g, off + i * size + r, none⟩ = some u := by
  rcases Go.Deep.open_slice ht h with ⟨hcs, _⟩ | ⟨a, len', cap', m, n, D, Pl, hcs, _, hl, hm, hmm, _, hx⟩
  · simp at hcs
    obtain ⟨rfl, rfl, rfl⟩ := hcs
    exact ⟨[], rfl, Nat.le_refl _, Nat.zero_le _, fun i x h => by cases h⟩
  · simp at hcs
    obtain ⟨rfl, rfl, rfl⟩ := hcs
    simp only [if_true] at hmm
    obtain ⟨l, h1, h2⟩ := list_choice (Q := fun i (x : α) => ∃ g off, (some a : Option Addr) = some ⟨g, off, none⟩ ∧ g < W.heap.size ∧ ∀ r u, (encC x)[r]? = some u → W.cell? ⟨g, off + i * size + r, none⟩ = some u) len (fun i hi => by
      obtain ⟨cs', hc, hd⟩ := hx i (by omega)
      obtain ⟨y, rfl⟩ := elem _ _ _ hd
      rw [hsz] at hc
      obtain ⟨c1, c2⟩ := cells_at hc
      obtain ⟨g, off, sp⟩ := a
      have h0 := c2 0 ((encC y)[0]'(by rw [he]; omega)) (List.getElem?_eq_getElem _)
      have hsp : sp = none := by
        have := World.cell?_spot h0
        rcases Nat.eq_zero_or_pos (i * size) with hz | hz
        · rw [hz] at this; simpa [Addr.add] using this
        · obtain ⟨cs0, hc0, hd0⟩ := hx 0 (by omega)
          obtain ⟨y0, rfl⟩ := elem _ _ _ hd0
          rw [hsz, Nat.zero_mul] at hc0
          obtain ⟨_, e2⟩ := cells_at hc0
          have := World.cell?_spot (e2 0 ((encC y0)[0]'(by rw [he]; omega)) (List.getElem?_eq_getElem _))
          simpa [Addr.add] using this
      subst hsp
      refine ⟨y, g, off, rfl, ?_, fun r u hu => ?_⟩
      · have := World.block_lt_of_cell? _ _ h0
        simpa [Addr.add_lit] using this
      · have := c2 r u hu
        rwa [Addr.add_lit, Addr.add_lit] at this)
    exact ⟨l, h1, hl, hm, h2⟩

end Go.Proofs.YtemnibnlgimpkaaGreatDoor
/- Arguments of any shape (numbers, texts, bools, structs, slices, one within another) opened at once, over any program. No condition. -/
namespace Go.Proofs.YtemnibnlgimpkaaGreatDoor
open Go.RowKit Go.ChangeShapes Go.WideShapes
set_option linter.unusedVariables false
set_option linter.unusedSimpArgs false

/-- Shapes: a struct is a chain of 'and's that ends in 'unit'. -/
inductive Sh where
  | int | str | bool | unit
  | and (a b : Sh)
  | slice (s : Sh)

namespace Sh
def D : Sh → Type
  | int => Int
  | str => ByteArray
  | bool => Bool
  | unit => Unit
  | and a b => a.D × b.D
  | slice s => Option Addr × Nat × List s.D
def size : Sh → Nat
  | unit => 0
  | and a b => a.size + b.size
  | _ => 1
def cells : (s : Sh) → s.D → List Value
  | int, d => [.int .i64 d]
  | str, d => [.string d]
  | bool, d => [.bool d]
  | unit, _ => []
  | and a b, d => a.cells d.1 ++ b.cells d.2
  | slice _, d => [.slice d.1 d.2.2.length d.2.1]
def val : (s : Sh) → s.D → Value
  | int, d => .int .i64 d
  | str, d => .string d
  | bool, d => .bool d
  | unit, d => .agg #[]
  | and a b, d => .agg (a.cells d.1 ++ b.cells d.2).toArray
  | slice _, d => .slice d.1 d.2.2.length d.2.1
/-- What is known of such data, below block B. -/
def At (W : World) (B : Nat) : (s : Sh) → s.D → Prop
  | int, d => -9223372036854775808 ≤ (show Int from d) ∧ (show Int from d) ≤ 9223372036854775807
  | str, d => (show ByteArray from d).size ≤ 9223372036854775807
  | and a b, d => a.At W B d.1 ∧ b.At W B d.2
  | slice s, d => d.2.2.length ≤ d.2.1 ∧ d.2.1 ≤ 9223372036854775807 ∧ ∀ (i : Nat) x, d.2.2[i]? = some x → s.At W B x ∧
      ∃ g off, d.1 = some ⟨g, off, none⟩ ∧ g < B ∧ ∀ (r : Nat) u, (s.cells x)[r]? = some u → W.cell? ⟨g, off + i * s.size + r, none⟩ = some u
  | _, _ => True

/-- So many bytes an element has at least. -/
def bytes : Sh → Nat
  | int => 8
  | str => 16
  | bool => 1
  | unit => 0
  | and a b => a.bytes + b.bytes
  | slice _ => 24
/-- What the weights tell of such data. -/
def Sz : (s : Sh) → s.D → Prop
  | and a b, d => a.Sz d.1 ∧ b.Sz d.2
  | slice s, d => d.2.1 * s.bytes ≤ 140737488355327 ∧ ∀ (i : Nat) x, d.2.2[i]? = some x → s.Sz x
  | str, d => (show ByteArray from d).size ≤ 140737488355327
  | _, _ => True

theorem cells_len : ∀ (s : Sh) (d : s.D), (s.cells d).length = s.size
  | int, _ => rfl
  | str, _ => rfl
  | bool, _ => rfl
  | unit, _ => rfl
  | and a b, d => by simp [cells, size, cells_len a, cells_len b]
  | slice _, _ => rfl

theorem At.keep {S : Nat → Prop} {W W' : World} {B : Nat} (c : Chg S W W') (hB : B ≤ W.heap.size) (hS : ∀ x, S x → B ≤ x) : ∀ (s : Sh) (d : s.D), s.At W B d → s.At W' B d
  | int, _, h => h
  | str, _, h => h
  | bool, _, h => h
  | unit, _, h => h
  | and a b, d, h => ⟨At.keep c hB hS a d.1 h.1, At.keep c hB hS b d.2 h.2⟩
  | slice s, d, h => ⟨h.1, h.2.1, fun i x hx => by
      obtain ⟨h1, g, off, e, hg, h2⟩ := h.2.2 i x hx
      exact ⟨At.keep c hB hS s x h1, g, off, e, hg, fun r u hu => (c.cell (p := ⟨g, off + i * s.size + r, none⟩) (Nat.lt_of_lt_of_le hg hB) (fun s => by have := hS _ s; simp at this; omega)).trans (h2 r u hu)⟩⟩

def fitsAll (P : Program) (ok : TypeId → Sh → Bool) : List Field → Nat → Sh → Bool
  | [], _, unit => true
  | f :: fs, off, and a b => ok f.type a && f.offset == off && P.cellsOf f.type == a.size && fitsAll P ok fs (off + a.size) b
  | _, _, _ => false
/-- Is a type of a shape? -/
def fits (P : Program) : Nat → TypeId → Sh → Bool
  | 0, _, _ => false
  | n + 1, t, int => match P.underlying t with | some (.int .i64) => true | _ => false
  | n + 1, t, str => match P.underlying t with | some .string => true | _ => false
  | n + 1, t, bool => match P.underlying t with | some .bool => true | _ => false
  | n + 1, t, slice s => match P.underlying t with | some (.slice e) => fits P n e s && P.cellsOf e == s.size && decide (0 < s.size) && decide (s.bytes ≤ P.bytesOf e) | _ => false
  | n + 1, t, s => match P.underlying t with | some (.struct fs) => fitsAll P (fits P n) fs.toList 0 s && P.cellsOf t == s.size | _ => false

theorem open_all {H : Type} {P : Program} {enc : TypeId × Value → H} {W : World} {m : Nat} {Z : Prop} (ok : TypeId → Sh → Bool)
    (hok : ∀ (t : TypeId) (s : Sh) (cs : List Value) (x : DataW H × List MemPlace), ok t s = true → DataW.trod enc P W 0 (fun _ => true) true m t cs = some x → ∃ d : s.D, cs = s.cells d ∧ s.At W W.heap.size d ∧ ((∀ n ∈ x.1.weights P t, n ≤ reachBytes) → s.Sz d)) :
    ∀ (fs : List Field) (off : Nat) (s : Sh) (cs : List Value), fitsAll P ok fs off s = true → cs.length = off + s.size →
      (∀ (i : Nat) (f : Field), fs[i]? = some f → ∃ x, DataW.trod enc P W 0 (fun _ => true) true m f.type ((cs.drop f.offset).take (P.cellsOf f.type)) = some x ∧ (Z → ∀ n ∈ x.1.weights P f.type, n ≤ reachBytes)) →
      ∃ d : s.D, cs.drop off = s.cells d ∧ s.At W W.heap.size d ∧ (Z → s.Sz d)
  | [], off, unit, cs, _, hl, _ => ⟨(), by simp [cells, size] at hl ⊢; omega, trivial, fun _ => trivial⟩
  | f :: fs, off, and a b, cs, hf, hl, hx => by
    simp only [fitsAll, Bool.and_eq_true, beq_iff_eq] at hf
    obtain ⟨⟨⟨h1, h2⟩, h3⟩, h4⟩ := hf
    obtain ⟨x, hx0, hz0⟩ := hx 0 f rfl
    rw [h2, h3] at hx0
    obtain ⟨d1, e1, a1, z1⟩ := hok f.type a _ x h1 hx0
    obtain ⟨d2, e2, a2, z2⟩ := open_all ok hok fs (off + a.size) b cs h4 (by rw [hl]; simp [size]; omega) (fun i f' hf' => hx (i + 1) f' (by simpa using hf'))
    refine ⟨(d1, d2), ?_, ⟨a1, a2⟩, fun z => ⟨z1 (hz0 z), z2 z⟩⟩
    show cs.drop off = a.cells d1 ++ b.cells d2
    rw [← e1, ← e2, ← List.drop_drop, List.take_append_drop]
  | [], _, int, _, h, _, _ => by simp [fitsAll] at h
  | [], _, str, _, h, _, _ => by simp [fitsAll] at h
  | [], _, bool, _, h, _, _ => by simp [fitsAll] at h
  | [], _, and _ _, _, h, _, _ => by simp [fitsAll] at h
  | [], _, slice _, _, h, _, _ => by simp [fitsAll] at h
  | _ :: _, _, int, _, h, _, _ => by simp [fitsAll] at h
  | _ :: _, _, str, _, h, _, _ => by simp [fitsAll] at h
  | _ :: _, _, bool, _, h, _, _ => by simp [fitsAll] at h
  | _ :: _, _, unit, _, h, _, _ => by simp [fitsAll] at h
  | _ :: _, _, slice _, _, h, _, _ => by simp [fitsAll] at h

theorem open_struct {H : Type} {P : Program} {enc : TypeId × Value → H} {W : World} {n m : Nat} {t : TypeId} {s : Sh} {cs : List Value} {x : DataW H × List MemPlace}
    (hok : ∀ (t : TypeId) (s : Sh) (m : Nat) (cs : List Value) (x : DataW H × List MemPlace), fits P n t s = true → DataW.trod enc P W 0 (fun _ => true) true m t cs = some x → ∃ d : s.D, cs = s.cells d ∧ s.At W W.heap.size d ∧ ((∀ n ∈ x.1.weights P t, n ≤ reachBytes) → s.Sz d))
    (hf : (match P.underlying t with | some (.struct fs) => fitsAll P (fits P n) fs.toList 0 s && P.cellsOf t == s.size | _ => false) = true)
    (h : DataW.trod enc P W 0 (fun _ => true) true m t cs = some x) : ∃ d : s.D, cs = s.cells d ∧ s.At W W.heap.size d ∧ ((∀ n ∈ x.1.weights P t, n ≤ reachBytes) → s.Sz d) := by
  split at hf
  · rename_i fs hu
    simp only [Bool.and_eq_true, beq_iff_eq] at hf
    obtain ⟨xs, m', _, hxe, hl, hlen, hfs⟩ := DataW.trod_struct hu h
    obtain ⟨d, e, ha, hz⟩ := open_all (Z := ∀ n ∈ x.1.weights P t, n ≤ reachBytes) (fits P n) (fun t s cs x hf h => hok t s m' cs x hf h) fs.toList 0 s cs hf.1 (by rw [hl, hf.2]; omega) (fun i f hi => by
      have hi' : fs[i]? = some f := by simpa using hi
      have hlt : i < xs.length := by rw [hlen]; exact (Array.getElem?_eq_some_iff.1 hi').1
      refine ⟨xs[i], (hfs i f hi').trans (List.getElem?_eq_getElem hlt), fun z n hn => z n ?_⟩
      rw [hxe]
      simp only [DataW.weights, hu]
      exact DataW.weights_mem_each (j := i) (t := f.type) (d := xs[i].1) (by simp [hi']) (by simp [List.getElem?_eq_getElem hlt]) n hn)
    exact ⟨d, by simpa using e, ha, hz⟩
  · cases hf

theorem mem_weightsAll {H : Type} {P : Program} {e : TypeId} : ∀ {ds : List (DataW H)} {d : DataW H}, d ∈ ds → ∀ n ∈ d.weights P e, n ∈ DataW.weightsAll P e ds
  | d0 :: ds, d, hd, n, hn => by
    simp only [DataW.weightsAll, List.mem_append]
    rcases List.mem_cons.1 hd with rfl | hd
    · exact .inl hn
    · exact .inr (mem_weightsAll hd n hn)

theorem open_sh {H : Type} {P : Program} {enc : TypeId × Value → H} {W : World} : ∀ (n : Nat) (t : TypeId) (s : Sh) (m : Nat) (cs : List Value) (x : DataW H × List MemPlace),
    fits P n t s = true → DataW.trod enc P W 0 (fun _ => true) true m t cs = some x → ∃ d : s.D, cs = s.cells d ∧ s.At W W.heap.size d ∧ ((∀ n ∈ x.1.weights P t, n ≤ reachBytes) → s.Sz d)
  | 0, t, s, _, _, _, hf, _ => by simp [fits] at hf
  | n + 1, t, int, m, cs, x, hf, h => by
    unfold fits at hf
    split at hf
    · rename_i hu
      obtain ⟨k, e, _, wf⟩ := DataW.trod_int hu h
      simp only [Lit.wf, Bool.and_eq_true, decide_eq_true_eq] at wf
      exact ⟨k, e, ⟨by simpa [IntKind.min, IntKind.signed, IntKind.bits] using wf.1, by simpa [IntKind.max, IntKind.signed, IntKind.bits] using wf.2⟩, fun _ => trivial⟩
    · cases hf
  | n + 1, t, str, m, cs, x, hf, h => by
    unfold fits at hf
    split at hf
    · rename_i hu
      obtain ⟨k, e, hx, wf⟩ := DataW.trod_string hu h
      refine ⟨k, e, by unfold maxLen at wf; simp only [At]; omega, fun hz => ?_⟩
      have := hz k.data.toList.length (by rw [hx]; simp [DataW.weights])
      have h2 : k.data.toList.length = k.size := Array.length_toList
      rw [h2] at this
      exact Nat.le_trans this (Nat.le_of_lt_succ reachBytes_lt)
    · cases hf
  | n + 1, t, bool, m, cs, x, hf, h => by
    unfold fits at hf
    split at hf
    · rename_i hu
      obtain ⟨k, e, _⟩ := DataW.trod_bool hu h
      exact ⟨k, e, trivial, fun _ => trivial⟩
    · cases hf
  | n + 1, t, slice s, m, cs, x, hf, h => by
    unfold fits at hf
    split at hf
    · rename_i e hu
      simp only [Bool.and_eq_true, beq_iff_eq, decide_eq_true_eq] at hf
      obtain ⟨⟨⟨hf1, hsz⟩, hs0⟩, hby⟩ := hf
      rcases Go.Deep.open_slice hu h with ⟨rfl, _⟩ | ⟨a, len, cap, mm, n', D', Pl, rfl, _, hl, hm, hmm, hxe, hx⟩
      · exact ⟨(none, 0, []), rfl, ⟨Nat.le_refl _, by simp, fun i x h => by cases h⟩, fun _ => ⟨by simp, fun i x h => by cases h⟩⟩
      · simp only [if_true] at hmm
        obtain ⟨l, h1, h2⟩ := list_choice (Q := fun i (y : s.D) => s.At W W.heap.size y ∧ ((∀ n ∈ x.1.weights P t, n ≤ reachBytes) → s.Sz y) ∧ ∃ g off, (some a : Option Addr) = some ⟨g, off, none⟩ ∧ g < W.heap.size ∧ ∀ (r : Nat) u, (s.cells y)[r]? = some u → W.cell? ⟨g, off + i * s.size + r, none⟩ = some u) len (fun i hi => by
          obtain ⟨cs', hc, hd⟩ := hx i (by omega)
          obtain ⟨y, rfl, hy, hyz⟩ := open_sh n e s _ _ _ hf1 hd
          rw [hsz] at hc
          obtain ⟨c1, c2⟩ := cells_at hc
          obtain ⟨g, off, sp⟩ := a
          have hlen := cells_len s y
          have h0 := c2 0 ((s.cells y)[0]'(by omega)) (List.getElem?_eq_getElem _)
          have hsp : sp = none := by
            have := World.cell?_spot h0
            rcases Nat.eq_zero_or_pos (i * s.size) with hz | hz
            · rw [hz] at this; simpa [Addr.add] using this
            · obtain ⟨cs0, hc0, hd0⟩ := hx 0 (by omega)
              obtain ⟨y0, rfl, _⟩ := open_sh n e s _ _ _ hf1 hd0
              rw [hsz, Nat.zero_mul] at hc0
              obtain ⟨_, e2⟩ := cells_at hc0
              have hlen0 := cells_len s y0
              have := World.cell?_spot (e2 0 ((s.cells y0)[0]'(by omega)) (List.getElem?_eq_getElem _))
              simpa [Addr.add] using this
          subst hsp
          refine ⟨y, hy, fun hz => hyz (fun k hk => hz k ?_), g, off, rfl, ?_, fun r u hu => ?_⟩
          · rw [hxe]
            simp only [DataW.weights, hu, List.mem_cons, List.mem_append]
            exact .inr (.inl (mem_weightsAll (List.mem_map.2 ⟨i, List.mem_range.2 hi, rfl⟩) k hk))
          · have := World.block_lt_of_cell? _ _ h0
            simpa [Addr.add_lit] using this
          · have := c2 r u hu
            rwa [Addr.add_lit, Addr.add_lit] at this)
        refine ⟨(some a, cap, l), by simp [cells, h1], ⟨by simpa [h1] using hl, by unfold maxLen at hm; simp only; omega, fun i x hx => ⟨(h2 i x hx).1, (h2 i x hx).2.2⟩⟩, fun hz => ⟨?_, fun i x hx => (h2 i x hx).2.1 hz⟩⟩
        have := hz (cap * P.bytesOf e) (by
          rw [hxe]
          simp only [DataW.weights, hu, List.mem_cons, List.length_map, List.length_range]
          refine .inl ?_
          rw [hmm, Nat.add_sub_cancel' hl])
        have h3 := Nat.mul_le_mul_left cap hby
        have h4 := reachBytes_lt
        show cap * s.bytes ≤ _
        omega
    · cases hf
  | n + 1, t, unit, m, cs, x, hf, h => open_struct (fun t s m cs x hf h => open_sh n t s m cs x hf h) hf h
  | n + 1, t, and a b, m, cs, x, hf, h => open_struct (fun t s m cs x hf h => open_sh n t s m cs x hf h) hf h

/-- An argument of a shape, with what its weights tell. -/
theorem open_val2 {H : Type} {P : Program} {enc : TypeId × Value → H} {W : World} {r : Reach} {b0 : Nat} {v : Value} {dd : DataW H} {p : List MemPlace} (n : Nat) (t : TypeId) (s : Sh) (hf : fits P n t s = true)
    (hv : Value.okWide P W r b0 t v) (h : DataW.Trod enc P W 0 (fun _ => true) true t v dd p) : ∃ d : s.D, v = s.val d ∧ s.At W W.heap.size d ∧ ((∀ n ∈ dd.weights P t, n ≤ reachBytes) → s.Sz d) := by
  obtain ⟨fuel, hh⟩ := h
  obtain ⟨d, e, ha, hz⟩ := open_sh n t s _ _ _ hf hh
  refine ⟨d, ?_, ha, hz⟩
  cases n with
  | zero => simp [fits] at hf
  | succ n =>
    have struct : ∀ s : Sh, ∀ d : s.D, v.cells.toList = s.cells d → (match P.underlying t with | some (.struct fs) => fitsAll P (fits P n) fs.toList 0 s && P.cellsOf t == s.size | _ => false) = true → v = .agg (s.cells d).toArray := fun s d e hf => by
      split at hf
      · rename_i hu
        obtain ⟨cs, rfl, _⟩ := okWide_struct hu hv
        rw [← e]; simp [Value.cells]
      · cases hf
    cases s with
    | int =>
      unfold fits at hf
      split at hf
      · rename_i hu
        obtain ⟨k, rfl⟩ := okWide_int hu hv
        simpa [Value.cells, cells, val] using e
      · cases hf
    | str =>
      unfold fits at hf
      split at hf
      · rename_i hu
        obtain ⟨k, rfl⟩ := okWide_string hu hv
        simpa [Value.cells, cells, val] using e
      · cases hf
    | bool =>
      unfold fits at hf
      split at hf
      · rename_i hu
        obtain ⟨k, rfl⟩ := okWide_bool hu hv
        simpa [Value.cells, cells, val] using e
      · cases hf
    | slice s =>
      unfold fits at hf
      split at hf
      · rename_i hu
        obtain ⟨a, l, c, rfl⟩ := okWide_slice hu hv
        simpa [Value.cells, cells, val] using e
      · cases hf
    | unit => exact struct _ d e hf
    | and a b => exact struct _ d e hf
/-- An argument of a shape. -/
theorem open_val {H : Type} {P : Program} {enc : TypeId × Value → H} {W : World} {r : Reach} {b0 : Nat} {v : Value} {dd : DataW H} {p : List MemPlace} (n : Nat) (t : TypeId) (s : Sh) (hf : fits P n t s = true)
    (hv : Value.okWide P W r b0 t v) (h : DataW.Trod enc P W 0 (fun _ => true) true t v dd p) : ∃ d : s.D, v = s.val d ∧ s.At W W.heap.size d := by
  obtain ⟨d, h1, h2, _⟩ := open_val2 n t s hf hv h
  exact ⟨d, h1, h2⟩
theorem weights_le {H : Type} {P : Program} {ts : List TypeId} {ds : List (DataW H)} (h : (DataW.weightsEach P ts ds).all (· ≤ reachBytes) = true) {j : Nat} {t : TypeId} {d : DataW H} (ht : ts[j]? = some t) (hd : ds[j]? = some d) :
    ∀ n ∈ d.weights P t, n ≤ reachBytes := fun n hn => of_decide_eq_true (List.all_eq_true.1 h n (DataW.weights_mem_each ht hd n hn))
end Sh
end Go.Proofs.YtemnibnlgimpkaaGreatDoor

namespace Go.Proofs.YtemnibnlgimpkaaGreatDoor
open Go.RowKit
/- An argument that is a slice, told by its elements and only read (rArg). Over any program, no condition. -/

/-- A slice whose elements are l, each as enc tells (k cells); it is only read. -/
def rArg {α : Type} (v : Value) (k : Nat) (enc : α → List Value) (l : List α) : Res :=
  ⟨false, fun b => b = blkN v ∧ ∃ (i : Nat) (x : α) (r : Nat) (u : Value), l[i]? = some x ∧ (enc x)[r]? = some u,
   fun w => (∃ ad cap, v = .slice ad l.length cap ∧ cap ≤ 9223372036854775807 ∧ l.length ≤ cap ∧ (∀ i, i < l.length → ad = some ⟨blkN v, offN v, none⟩)) ∧ ∀ (i : Nat) x, l[i]? = some x → ∀ (r : Nat) u, (enc x)[r]? = some u → w.cell? ⟨blkN v, offN v + i * k + r, none⟩ = some u,
   fun w w' h _ hb => ⟨h.1, fun i x hx r u hu => by rw [World.cell?_of_block (w := w) (hb (blkN v) ⟨rfl, i, x, r, u, hx, hu⟩)]; exact h.2 i x hx r u hu⟩,
   fun w b h ⟨hb, i, x, r, u, hx, hu⟩ => by rw [hb]; exact World.block_lt_of_cell? w _ (h.2 i x hx r u hu)⟩
theorem arg_of_sh {W : World} {s : Sh} {a0 : Option Addr} {cap : Nat} {l : List s.D} (h : (Sh.slice s).At W W.heap.size (a0, cap, l)) : (rArg (.slice a0 l.length cap) s.size s.cells l).fact W := by
  obtain ⟨h1, h2, h3⟩ := h
  refine ⟨⟨a0, cap, rfl, h2, h1, fun i hi => ?_⟩, fun i x hx r u hu => ?_⟩
  · obtain ⟨_, g, off, e, _⟩ := h3 i l[i] (List.getElem?_eq_getElem hi)
    have e' : a0 = _ := e
    rw [e']; rfl
  · obtain ⟨_, g, off, e, _, hc⟩ := h3 i x hx
    have e' : a0 = _ := e
    subst e'
    exact hc r u hu
theorem rdArg {α : Type} {v : Value} {k : Nat} {enc : α → List Value} {l : List α} {i : Nat} {x : α} (hi : l[i]? = some x) (r : Nat) {vs : List Value} (h : ((enc x).drop r).take vs.length = vs) :
    RdAt (rArg v k enc l) (blkN v) (offN v + i * k + r) vs := fun w hf j u hj => by
  have hl := (List.getElem?_eq_some_iff.1 hj).1
  have h2 := congrArg (fun l => l[j]?) h
  simp only [List.getElem?_take, List.getElem?_drop, if_pos hl] at h2
  rw [Nat.add_assoc]
  exact hf.2 i x hi (r + j) u (by rw [h2]; exact hj)
theorem rdArg0 {α : Type} {v : Value} {k : Nat} {enc : α → List Value} {l : List α} {i : Nat} {x : α} (hi : l[i]? = some x) {vs : List Value} (h : (enc x).take vs.length = vs) :
    RdAt (rArg v k enc l) (blkN v) (offN v + i * k) vs := rdArg (r := 0) hi h
section
variable {P : Program} {a : Act} {w w0 : World} {E : Ent} {L : List Res}
theorem g_lenA {α : Type} {enc : α → List Value} {l : List α} {k : Nat} {dst : Option Tmp} {T : TypeId} {x : Operand} {ty : TypeId} {pos : String} {after : Array Edge} {g : Option (Nat × Bool)} {v : Value} (d : TypeId) (hx : (a.eval x, P.underlying T) = (v, some (.slice d))) (i : Nat) (hi : L[i]? = some (rArg v k enc l)) :
    Gives P w0 E L ⟨dst, .call { callee := .builtin .len, args := #[x], argTypes := #[T] }, ty, pos, after, g⟩ a (.int .i64 l.length) := fun w h => by
  obtain ⟨h1, h2⟩ : a.eval x = v ∧ P.underlying T = _ := by simpa using hx
  obtain ⟨⟨ad, cap, e, _⟩, _⟩ := h.fact i hi
  rw [e] at h1
  simp [execOp, resolve, invoke, builtin, Builtin.len_, h1, Sem.run_bind, run_underlying h2, goInt]
theorem g_idxA {α : Type} {enc : α → List Value} {l : List α} {k : Nat} {dst : Option Tmp} {T : TypeId} {x y : Operand} {ty : TypeId} {pos : String} {after : Array Edge} {g : Option (Nat × Bool)} {v : Value} (d : TypeId) (j : Nat) (hx : (a.eval x, a.eval y, P.underlying T, (P.info? d).map (·.size)) = (v, .int .i64 (j : Int), some (.slice d), some k)) (hj : j < l.length) (i : Nat) (hi : L[i]? = some (rArg v k enc l)) :
    Gives P w0 E L ⟨dst, .indexAddr T x y, ty, pos, after, g⟩ a (.pointer (some ⟨blkN v, offN v + j * k, none⟩)) := fun w h => by
  obtain ⟨h1, h2, h3, h4⟩ : a.eval x = v ∧ a.eval y = _ ∧ P.underlying T = _ ∧ (P.info? d).map (·.size) = some k := by simpa using hx
  obtain ⟨⟨ad, cap, e, _, _, hp⟩, _⟩ := h.fact i hi
  obtain rfl := hp j hj
  obtain ⟨B, hB⟩ : ∃ B, B = blkN v := ⟨_, rfl⟩
  obtain ⟨O, hO⟩ : ∃ O, O = offN v := ⟨_, rfl⟩
  rw [← hB, ← hO] at e ⊢
  subst e
  have hz := sizeOf_run (w := w) h4
  have hi1 : (0 : Int) ≤ (j : Int) ∧ (j : Int) < (l.length : Int) := by omega
  simp only [execOp, Instr.indexAt, h1, h2, asIntOf, Sem.run_bind, Sem.run_pure, Result.andThen_ok, run_underlying h3]
  simp only [Sem.run_ite, hi1, and_self, if_true, Sem.run_bind, hz, Result.andThen_ok, Sem.run_pure, Int.toNat_natCast, Addr.add_lit]
end

/- The operations' laws by what is owned: a part of a slice, a slice appended to a slice. Over any program, no condition. -/

/-- v[lo:hi], each element k cells. -/
def subV (k : Nat) (v : Value) (lo hi : Nat) : Value := match v with
  | .slice a _ cap => .slice (if cap = lo then a else a.map (·.add (lo * k))) (hi - lo) (cap - lo)
  | v => v
/-- What a slice's value is, whoever owns it: n elements; the cells xs from its beginning on. -/
def SlRd (r : Res) (v : Value) (n : Nat) (xs : List Value) : Prop := ∀ w, r.fact w → (∃ ad cap, v = .slice ad n cap ∧ n ≤ cap ∧ cap ≤ 9223372036854775807 ∧ ∀ i, i < n → ad = some ⟨blkN v, offN v, none⟩) ∧ ∀ j u, xs[j]? = some u → w.cell? ⟨blkN v, offN v + j, none⟩ = some u
theorem slRd_sl {wr : Bool} {v : Value} {T k n : Nat} {xs : List Value} : SlRd (rSl wr v T k n xs) v n xs := fun w hf => by
  refine ⟨?_, fun j u hj => ?_⟩
  · obtain ⟨h1, ⟨rfl, h2⟩ | ⟨g, off, cap, cs, rfl, hb, h2, h3, h4, h5, _⟩⟩ := hf
    · exact ⟨none, 0, by rw [h2], by omega, by omega, fun i hi => by omega⟩
    · exact ⟨_, cap, rfl, h2, by unfold maxLen at h3; omega, fun _ _ => rfl⟩
  · have := rdSl (wr := wr) (v := v) (T := T) (k := k) (n := n) (xs := xs) 0 (vs := xs) (fun j u h => by rw [Nat.zero_add]; exact h) w hf j u hj
    simpa using this
theorem slRd_arg {α : Type} {v : Value} {k : Nat} {enc : α → List Value} {l : List α} (he : ∀ a, (enc a).length = k) (hk : 0 < k) : SlRd (rArg v k enc l) v l.length (l.flatMap enc) := fun w hf => by
  obtain ⟨⟨ad, cap, e, h2, h1, h3⟩, h4⟩ := hf
  refine ⟨⟨ad, cap, e, h1, h2, h3⟩, fun j u hj => ?_⟩
  have hjl := (List.getElem?_eq_some_iff.1 hj).1
  rw [flat_len enc he] at hjl
  have hi : j / k < l.length := Nat.div_lt_of_lt_mul (by rw [Nat.mul_comm]; exact hjl)
  obtain ⟨x, hx⟩ : ∃ x, l[j / k]? = some x := ⟨_, List.getElem?_eq_getElem hi⟩
  have hjm : j = j / k * k + j % k := by rw [Nat.mul_comm]; exact (Nat.div_add_mod j k).symm
  have := h4 (j / k) x hx (j % k) u (by rw [← flat_get enc he l (j / k) (j % k) x hx (Nat.mod_lt _ hk), ← hjm]; exact hj)
  rw [Nat.add_assoc, ← hjm] at this
  exact this
section
variable {P : Program} {a : Act} {w w0 : World} {E : Ent} {L M : List Res} {K : Act → World → Prop} {Q : Exit → Act → World → Prop} {ops : Array Oper} {rest : List Oper}
def boundOf (d : Int) : Option Value → Option Int
  | none => some d
  | some (.int _ i) => some i
  | _ => none
theorem bound_some {d : Int} {V : Option Value} {z : Int} (h : boundOf d V = some z) : (V = none ∧ z = d) ∨ ∃ k, V = some (.int k z) := by
  cases V with
  | none => exact .inl ⟨rfl, by simpa [boundOf] using h.symm⟩
  | some v => cases v <;> simp [boundOf] at h; subst h; exact .inr ⟨_, rfl⟩
theorem sliceBounds_run {LV HV : Option Value} {l h n cap : Nat} (hlo : boundOf 0 LV = some (l : Int)) (hhi : boundOf (n : Int) HV = some (h : Int)) (hlh : l ≤ h) (hn : h ≤ n) (hc : n ≤ cap) : (Instr.sliceBounds true n cap LV HV none).run P w = .ok (l, h, cap) w := by
  have e1 : (0 : Int) ≤ (l : Int) ∧ (l : Int) ≤ (h : Int) := by omega
  have e2 : (0 : Int) ≤ (h : Int) ∧ (h : Int) ≤ (cap : Int) := by omega
  have e3 : (l : Int).toNat = l := Int.toNat_natCast l
  have e4 : (h : Int).toNat = h := Int.toNat_natCast h
  have hhc : h ≤ cap := by omega
  rcases bound_some hlo with ⟨rfl, hl⟩ | ⟨kl, rfl⟩ <;> rcases bound_some hhi with ⟨rfl, hh⟩ | ⟨kh, rfl⟩
  · obtain rfl : l = 0 := by omega
    obtain rfl : h = n := by omega
    rfl
  · obtain rfl : l = 0 := by omega
    simp only [Instr.sliceBounds, Instr.sliceBound, asIntOf, Sem.run_bind, Sem.run_pure, Result.andThen_ok]
    simp [e2, hhc, hlh]
  · obtain rfl : h = n := by omega
    simp [Instr.sliceBounds, Instr.sliceBound, asIntOf, e1, hlh, hhc]
  · simp [Instr.sliceBounds, Instr.sliceBound, asIntOf, e1, e2, hlh, hhc]
/-- v[lo:hi]. -/
theorem g_sub {r : Res} {dst : Option Tmp} {T : TypeId} {x : Operand} {lo hi : Option Operand} {ty : TypeId} {pos : String} {after : Array Edge} {g : Option (Nat × Bool)} {v : Value} {n k : Nat} {xs : List Value} {d : TypeId} (l h : Nat)
    (hx : (a.eval x, P.underlying T, (P.info? d).map (·.size)) = (v, some (.slice d), some k)) (hlo : boundOf 0 (lo.map a.eval) = some (l : Int)) (hhi : boundOf (n : Int) (hi.map a.eval) = some (h : Int)) (hlh : l ≤ h) (hn : h ≤ n) (i : Nat) (hi' : L[i]? = some r) (hr : SlRd r v n xs) :
    Gives P w0 E L ⟨dst, .slice T x lo hi none, ty, pos, after, g⟩ a (subV k v l h) := fun w ho => by
  obtain ⟨h1, h3, h4⟩ : a.eval x = v ∧ P.underlying T = _ ∧ (P.info? d).map (·.size) = some k := by simpa using hx
  obtain ⟨⟨ad, cap, e, hc1, hc2, _⟩, _⟩ := hr w (ho.fact i hi')
  have hz := sizeOf_run (w := w) h4
  have hb := sliceBounds_run (P := P) (w := w) hlo hhi hlh hn hc1
  rw [e] at h1
  simp only [execOp, Instr.sliceAt, h1, Option.map_none, Sem.run_bind, run_underlying h3, Result.andThen_ok, Instr.slice, hb, hz, Sem.run_pure]
  rw [e]
  rfl
theorem bnd {d t : Int} {l : Nat} {k : IntKind} (h : t = (l : Int)) : boundOf d (some (.int k t)) = some (l : Int) := by subst h; rfl
theorem g_sub2 {r : Res} {dst : Option Tmp} {T : TypeId} {x : Operand} {lo hi : Option Operand} {ty : TypeId} {pos : String} {after : Array Edge} {g : Option (Nat × Bool)} {v : Value} {n k : Nat} {xs : List Value} {d : TypeId} {LV HV : Option Value} (l h : Nat)
    (hx : (a.eval x, P.underlying T, (P.info? d).map (·.size), lo.map a.eval, hi.map a.eval) = (v, some (.slice d), some k, LV, HV)) (hlo : boundOf 0 LV = some (l : Int)) (hhi : boundOf (n : Int) HV = some (h : Int)) (hlh : l ≤ h) (hn : h ≤ n) (i : Nat) (hi' : L[i]? = some r) (hr : SlRd r v n xs) :
    Gives P w0 E L ⟨dst, .slice T x lo hi none, ty, pos, after, g⟩ a (subV k v l h) := by
  simp only [Prod.mk.injEq] at hx
  obtain ⟨e1, e2, e3, e4, e5⟩ := hx
  exact g_sub l h (by rw [e1, e2, e3]) (by rw [e4]; exact hlo) (by rw [e5]; exact hhi) hlh hn i hi' hr
theorem flat_sub {α : Type} {enc : α → List Value} {k : Nat} (he : ∀ a, (enc a).length = k) {l : List α} {lo hi : Nat} (hlo : lo ≤ hi) (hhi : hi ≤ l.length) {j : Nat} {u : Value} (h : (((l.take hi).drop lo).flatMap enc)[j]? = some u) : (l.flatMap enc)[lo * k + j]? = some u := by
  have e1 : l = l.take lo ++ ((l.take hi).drop lo ++ l.drop hi) := by
    rw [← List.append_assoc, show l.take lo = (l.take hi).take lo by rw [List.take_take, Nat.min_eq_left hlo], List.take_append_drop, List.take_append_drop]
  have hl : ((l.take lo).flatMap enc).length = lo * k := by rw [flat_len enc he, List.length_take, Nat.min_eq_left (by omega)]
  have hj := (List.getElem?_eq_some_iff.1 h).1
  rw [e1, List.flatMap_append, List.flatMap_append, List.getElem?_append_right (by omega), hl, Nat.add_sub_cancel_left, List.getElem?_append_left hj]
  exact h
/-- append of nothing. -/
theorem run_append_none {T ty E : TypeId} {i : TypeInfo} (ht : P.underlying T = some (.slice E)) (hi : P.info? E = some i) {v : Value} {n c k : Nat} {xs : List Value} {S : Nat → Prop} (h : SliceAt w v E k n xs S) :
    (Builtin.append_ #[T, T] ty #[v, .slice none 0 c]).run P w = .ok v w := by
  obtain ⟨hlen, ⟨rfl, rfl⟩ | ⟨g, off, cap, cs, rfl, hbk, hnc, hcm, hoff, hcells, hS⟩⟩ := h
  · simp [Builtin.append_, run_underlying ht, sizeOf, typeInfo, hi, Builtin.lenOf, Builtin.firstCells]
  · simp [Builtin.append_, run_underlying ht, sizeOf, typeInfo, hi, Builtin.lenOf, Builtin.firstCells, hnc, storeCells]
theorem op_apps {α : Type} {enc : α → List Value} {l l2 : List α} {dst : Option Tmp} {T : TypeId} {s x : Operand} {ty : TypeId} {pos : String} {after : Array Edge} {g : Option (Nat × Bool)} {v v2 : Value} {size : Nat} {d : TypeId} {r : Res} (lo hi : Nat)
    (hx : (a.eval s, a.eval x, P.underlying T, okInfo P d size) = (v, subV size v2 lo hi, some (.slice d), true)) (he : ∀ x, (enc x).length = size) (h1 : ∀ x, (enc x).all (·.oneCell') = true) (hlo : lo ≤ hi) (hhi : hi ≤ l2.length)
    (h : Own w0 E L w) (i : Nat) (hi' : L[i]? = some (rRows true v d size enc l)) (j : Nat) (hj : L[j]? = some r) (hr : SlRd r v2 l2.length (l2.flatMap enc)) (hb : l.length + (hi - lo) < 100000000000)
    (hK : ∀ v' w', Own w0 E (L.set i (rRows true v' d size enc (l ++ (l2.take hi).drop lo))) w' → K (a.put dst v') w') : Oper.wp P ⟨dst, .call { callee := .builtin .append, args := #[s, x], argTypes := #[T, T] }, ty, pos, after, g⟩ a w K Q := by
  simp only [Prod.mk.injEq] at hx
  obtain ⟨hs, hx, h3, h4'⟩ := hx
  obtain ⟨z, bytes, h4, h5, hby, h8⟩ := okInfo_spec h4'
  obtain ⟨⟨ad, cap, rfl, hnc, hcm, had⟩, hcells⟩ := hr w (h.fact j hj)
  have hlen : ((l2.take hi).drop lo).length = hi - lo := by rw [List.length_drop, List.length_take]; omega
  have key : ∃ v' w' S', (Builtin.append_ #[T, T] ty #[v, a.eval x]).run P w = .ok v' w' ∧ SliceAt w' v' d size (l.length + (hi - lo)) (l.flatMap enc ++ ((l2.take hi).drop lo).flatMap enc) S' ∧ Chg (blkOf v) w w' ∧ Grow (blkOf v) S' w w' := by
    have hf : SliceAt w v d size l.length (l.flatMap enc) (blkOf v) := h.fact i hi'
    have go : ∀ (q : Addr) (c : Nat), a.eval x = .slice (some q) (hi - lo) c → (∀ jj u, (((l2.take hi).drop lo).flatMap enc)[jj]? = some u → w.cell? (q.add jj) = some u) → ∃ v' w' S', (Builtin.append_ #[T, T] ty #[v, a.eval x]).run P w = .ok v' w' ∧ SliceAt w' v' d size (l.length + (hi - lo)) (l.flatMap enc ++ ((l2.take hi).drop lo).flatMap enc) S' ∧ Chg (blkOf v) w w' ∧ Grow (blkOf v) S' w w' := fun q c e hq => by
      rw [e]
      refine run_appendS (P := P) (ty := ty) (c := c) h3 h4 h5 h8 hf (a := q) (m := hi - lo) (news := ((l2.take hi).drop lo).flatMap enc) (by rw [flat_len enc he, hlen]) hq (fun u hu => ?_) (by unfold maxLen; omega) ?_
      · obtain ⟨y, _, hy⟩ := List.mem_flatMap.1 hu
        exact List.all_eq_true.1 (h1 y) u hy
      · have : (l.length + (hi - lo)) * bytes ≤ 100000000000 * 1000 := Nat.mul_le_mul (by omega) hby
        omega
    by_cases h0 : hi - lo = 0
    · have hnil : (l2.take hi).drop lo = [] := List.length_eq_zero_iff.1 (by rw [hlen]; exact h0)
      cases hq : (if cap = lo then ad else ad.map (·.add (lo * size))) with
      | some q =>
        refine go q (cap - lo) (by rw [hx]; simp only [subV, hq]) (fun jj u hj => ?_)
        rw [hnil] at hj; simp at hj
      | none =>
        obtain ⟨ii, hii, _⟩ := info_parts h4
        refine ⟨v, w, blkOf v, ?_, ?_, Chg.refl _ _, Grow.refl _ _ _⟩
        · rw [hx]
          simp only [subV, hq, h0]
          exact run_append_none h3 hii hf
        · rw [hnil, h0]; simpa using hf
    · have hal := had 0 (by omega)
      refine go ⟨blkN (.slice ad l2.length cap), offN (.slice ad l2.length cap) + lo * size, none⟩ (cap - lo) ?_ (fun jj u hj => ?_)
      · rw [hx]
        simp only [subV]
        rw [if_neg (by omega)]
        conv => lhs; rw [hal]
        simp only [Option.map_some, Addr.add_lit]
      · rw [Addr.add_lit]
        have := hcells (lo * size + jj) u (flat_sub he hlo hhi hj)
        rw [← Nat.add_assoc] at this
        exact this
  obtain ⟨v', w', S', hrun, hs', hc, hg⟩ := key
  obtain ⟨hs1, hs2⟩ := hs'.own
  unfold Oper.wp
  simp [execOp, resolve, invoke, builtin, hs, hrun, Result.andThen, Oper.upon]
  refine hK _ _ (h.upd i hi' rfl hc ?_ (fun b hb => ?_))
  · show SliceAt w' v' d size (l ++ (l2.take hi).drop lo).length ((l ++ (l2.take hi).drop lo).flatMap enc) _
    rw [List.flatMap_append, List.length_append, hlen]
    exact hs1
  · rcases hg b (hs2 b hb) with h | h
    · exact .inl h
    · exact .inr h.1
variable {fuel : Nat}
theorem sq_apps {α : Type} {enc : α → List Value} {l l2 : List α} {dst : Option Tmp} {T : TypeId} {s x : Operand} {ty : TypeId} {pos : String} {after : Array Edge} {g : Option (Nat × Bool)} {v v2 : Value} {size : Nat} {d : TypeId} {r : Res} (hg : Region.wanted ⟨dst, .call { callee := .builtin .append, args := #[s, x], argTypes := #[T, T] }, ty, pos, after, g⟩ (yielded ops a.tmps) = true) (lo hi : Nat)
    (hx : (a.eval s, a.eval x, P.underlying T, okInfo P d size) = (v, subV size v2 lo hi, some (.slice d), true)) (he : ∀ x, (enc x).length = size) (h1 : ∀ x, (enc x).all (·.oneCell') = true) (hlo : lo ≤ hi) (hhi : hi ≤ l2.length)
    (h : Own w0 E L w) (i : Nat) (hi' : L[i]? = some (rRows true v d size enc l)) (j : Nat) (hj : L[j]? = some r) (hr : SlRd r v2 l2.length (l2.flatMap enc)) (hb : l.length + (hi - lo) < 100000000000)
    (hK : ∀ v' w', Own w0 E (L.set i (rRows true v' d size enc (l ++ (l2.take hi).drop lo))) w' → LW P ops Q rest (a.put dst v') w') : LW P ops Q (⟨dst, .call { callee := .builtin .append, args := #[s, x], argTypes := #[T, T] }, ty, pos, after, g⟩ :: rest) a w := ⟨sqg hg (op_apps lo hi hx he h1 hlo hhi h i hi' j hj hr hb fun v' w' h => (hK v' w' h).out)⟩
/-- The slice that a call owns, as it is read. -/
theorem slRd_rows {α : Type} {enc : α → List Value} {wr : Bool} {v : Value} {T k : Nat} {l : List α} : SlRd (rRows wr v T k enc l) v l.length (l.flatMap enc) := slRd_sl

/-! ### Two resources turned at once: a table's cell and its slice -/
theorem Own.turn2 {w' : World} {r s r' s' : Res} {M : List Res} (h : Own w0 E (r :: s :: M) w) (hr : r.wr = true) (hs : s.wr = true) (c : Chg (fun x => r.foot x ∨ s.foot x) w w') (f1 : r'.fact w') (f2 : s'.fact w') (d : ∀ x, r'.foot x → ¬ s'.foot x)
    (g1 : ∀ x, r'.foot x → (r.foot x ∨ s.foot x) ∨ w.heap.size ≤ x) (g2 : ∀ x, s'.foot x → (r.foot x ∨ s.foot x) ∨ w.heap.size ≤ x) : Own w0 E (r' :: s' :: M) w' := by
  have he : ∀ t x, r.foot x ∨ s.foot x → entOf [r, s] t x := fun t x hx => by
    rcases hx with hx | hx
    · exact ⟨r, by simp, hx, fun _ => hr⟩
    · exact ⟨s, by simp, hx, fun _ => hs⟩
  refine Own.unfocus (L := [r, s]) (L' := [r', s']) (M := M) h ⟨c.mono fun x _ hx => he _ x hx, fun b ⟨q, h1, h2, _⟩ => ⟨q, h1, h2, fun e => by cases e⟩, ?_, ?_, ?_⟩
  · intro q hq
    simp only [List.mem_cons, List.mem_nil_iff, or_false] at hq
    rcases hq with rfl | rfl
    · exact f1
    · exact f2
  · refine List.pairwise_cons.2 ⟨fun q hq _ x hx hy => ?_, List.pairwise_singleton _ _⟩
    rw [List.mem_singleton.1 hq] at hy
    exact d x hx hy
  · intro q hq x hx
    simp only [List.mem_cons, List.mem_nil_iff, or_false] at hq
    rcases hq with rfl | rfl
    · exact (g1 x hx).imp (he _ x) id
    · exact (g2 x hx).imp (he _ x) id
end

/- Maps by what is owned: a map told by its entries in the order of their laying (rMap): made, asked, stored into, deleted from, its length. Over any program, no condition. -/

/-- Block r is a map with just these entries. -/
def rMap {α : Type} (wr : Bool) (r : Nat) (f : α → Value) (kv : List (α × Value)) : Res :=
  ⟨wr, (· = r), fun w => MapA w r f kv, fun w w' h _ hb => by
    obtain ⟨es, clock, h1, h2⟩ := h
    exact ⟨es, clock, (hb r rfl).trans h1, h2⟩, fun w b h e => by
    have : b = r := e
    obtain ⟨es, clock, h1, h2⟩ := h
    rw [this]; exact lt_of_block h1⟩
section
variable {α : Type} [DecidableEq α] {P : Program} {a : Act} {w w0 : World} {En : Ent} {L M : List Res} {Ka : Act → World → Prop} {Q : Exit → Act → World → Prop} {ops : Array Oper} {rest : List Oper} {K E : TypeId} {f : α → Value} {kv : List (α × Value)}
variable {dst : Option Tmp} {m x v : Operand} {T ty : TypeId} {pos : String} {after : Array Edge} {g : Option (Nat × Bool)} {r : Nat}
/-- m[k]; with ok: whether it is there. -/
theorem g_look {wr ok : Bool} {z : Value} (F : KeyFn P K f) (k : α) (hx : (a.eval m, a.eval x, P.underlying T) = (.map (some r), f k, some (.map K E))) (hz : ∀ w, (zeroValue E).run P w = .ok z w) (i : Nat) (hi : L[i]? = some (rMap wr r f kv)) :
    Gives P w0 En L ⟨dst, .lookup T m x ok, ty, pos, after, g⟩ a (if ok then .tuple #[(aget kv k).getD z, .bool (aget kv k).isSome] else (aget kv k).getD z) := fun w ho => by
  simp only [Prod.mk.injEq] at hx
  have h : MapA w r f kv := ho.fact i hi
  simp [execOp, hx.1, hx.2.1, h.run_lookup F hx.2.2 (hz w) k ok, Result.andThen]
/-- The zero map asked. -/
theorem g_look0 {ok : Bool} {z : Value} (F : KeyFn P K f) (k : α) (hx : (a.eval m, a.eval x, P.underlying T) = (.map none, f k, some (.map K E))) (hz : ∀ w, (zeroValue E).run P w = .ok z w) :
    Gives P w0 En L ⟨dst, .lookup T m x ok, ty, pos, after, g⟩ a (if ok then .tuple #[z, .bool false] else z) := fun w ho => by
  simp only [Prod.mk.injEq] at hx
  simp [execOp, hx.1, hx.2.1, run_lookup_nilmap F hx.2.2 (hz w) k ok, Result.andThen]
theorem op_mapu (F : KeyFn P K f) (k : α) (u : Value) (hx : (a.eval m, a.eval x, a.eval v, P.underlying T) = (.map (some r), f k, u, some (.map K E))) (h : Own w0 En L w) (i : Nat) (hi : L[i]? = some (rMap true r f kv))
    (hK : ∀ w', Own w0 En (L.set i (rMap true r f (aput kv k u))) w' → Ka (a.put dst undef) w') : Oper.wp P ⟨dst, .mapUpdate T m x v, ty, pos, after, g⟩ a w Ka Q := by
  simp only [Prod.mk.injEq] at hx
  have hm : MapA w r f kv := h.fact i hi
  obtain ⟨w', hr, h1, h2, h3⟩ := hm.run_update F hx.2.2.2 k u
  unfold Oper.wp
  simp [execOp, hx.1, hx.2.1, hx.2.2.1, hr, Result.andThen, Oper.upon]
  exact hK _ (h.upd i hi rfl h2 h1 fun b hb => .inl hb)
theorem op_mapd {Kt : TypeId} (F : KeyFn P K f) (k : α) (hx : (a.eval m, a.eval x, P.underlying T) = (.map (some r), f k, some (.map K E))) (h : Own w0 En L w) (i : Nat) (hi : L[i]? = some (rMap true r f kv))
    (hK : ∀ w', Own w0 En (L.set i (rMap true r f (adel kv k))) w' → Ka (a.put dst (.tuple #[])) w') : Oper.wp P ⟨dst, .call { callee := .builtin .delete, args := #[m, x], argTypes := #[T, Kt] }, ty, pos, after, g⟩ a w Ka Q := by
  simp only [Prod.mk.injEq] at hx
  have hm : MapA w r f kv := h.fact i hi
  obtain ⟨w', hr, h1, h2, h3⟩ := hm.run_delete (Kt := Kt) (ty := ty) F hx.2.2 k
  unfold Oper.wp
  simp [execOp, resolve, invoke, builtin, hx.1, hx.2.1, hr, Result.andThen, Oper.upon]
  exact hK _ (h.upd i hi rfl h2 h1 fun b hb => .inl hb)
/-- A map made. -/
theorem op_newm {o : Oper} (f : α → Value) (hrun : ∀ w, (execOp a.eval o).run P w = .ok (.value (.map (some w.heap.size))) (w.alloc (.map #[] 0)))
    (h : Own w0 En L w) (hK : ∀ b w', Own w0 En (rMap true b f [] :: L) w' → Ka (a.put o.dst (.map (some b))) w') : o.wp P a w Ka Q := by
  unfold Oper.wp; rw [hrun]
  exact hK _ _ (h.push ((Chg.refl Nil w).alloc _) (mapA_made w f) (fun b hb => by have : b = w.heap.size := hb; omega))
theorem sq_newm {o : Oper} (hg : Region.wanted o (yielded ops a.tmps) = true) (f : α → Value) (hrun : ∀ w, (execOp a.eval o).run P w = .ok (.value (.map (some w.heap.size))) (w.alloc (.map #[] 0)))
    (h : Own w0 En L w) (hK : ∀ b w', Own w0 En (rMap true b f [] :: L) w' → LW P ops Q rest (a.put o.dst (.map (some b))) w') : LW P ops Q (o :: rest) a w := ⟨sqg hg (op_newm f hrun h fun b w' h => (hK b w' h).out)⟩
theorem sq_mapu (hg : Region.wanted ⟨dst, .mapUpdate T m x v, ty, pos, after, g⟩ (yielded ops a.tmps) = true) (F : KeyFn P K f) (k : α) (u : Value) (hx : (a.eval m, a.eval x, a.eval v, P.underlying T) = (.map (some r), f k, u, some (.map K E))) (h : Own w0 En L w) (i : Nat) (hi : L[i]? = some (rMap true r f kv))
    (hK : ∀ w', Own w0 En (L.set i (rMap true r f (aput kv k u))) w' → LW P ops Q rest (a.put dst undef) w') : LW P ops Q (⟨dst, .mapUpdate T m x v, ty, pos, after, g⟩ :: rest) a w := ⟨sqg hg (op_mapu F k u hx h i hi fun w' h => (hK w' h).out)⟩
theorem sq_mapd {Kt : TypeId} (hg : Region.wanted ⟨dst, .call { callee := .builtin .delete, args := #[m, x], argTypes := #[T, Kt] }, ty, pos, after, g⟩ (yielded ops a.tmps) = true) (F : KeyFn P K f) (k : α) (hx : (a.eval m, a.eval x, P.underlying T) = (.map (some r), f k, some (.map K E))) (h : Own w0 En L w) (i : Nat) (hi : L[i]? = some (rMap true r f kv))
    (hK : ∀ w', Own w0 En (L.set i (rMap true r f (adel kv k))) w' → LW P ops Q rest (a.put dst (.tuple #[])) w') : LW P ops Q (⟨dst, .call { callee := .builtin .delete, args := #[m, x], argTypes := #[T, Kt] }, ty, pos, after, g⟩ :: rest) a w := ⟨sqg hg (op_mapd F k hx h i hi fun w' h => (hK w' h).out)⟩
theorem g_lenm {wr : Bool} (hx : (a.eval x, P.underlying T) = (.map (some r), some (.map K E))) (i : Nat) (hi : L[i]? = some (rMap wr r f kv)) :
    Gives P w0 En L ⟨dst, .call { callee := .builtin .len, args := #[x], argTypes := #[T] }, ty, pos, after, g⟩ a (.int .i64 (kv.length : Int)) := fun w ho => by
  simp only [Prod.mk.injEq] at hx
  have h : MapA w r f kv := ho.fact i hi
  have hr := MapV.run_len (ty := ty) hx.2 (.inr ⟨r, rfl, h⟩)
  simp [execOp, resolve, invoke, builtin, hx.1, hr, Result.andThen]
variable {br : Nat → Bool} {fuel i : Nat} {listed : Array Bool} {is : List Nat}
theorem ad_newm {o : Oper} (js : List Nat) (hi : ops[i]? = some o) (hb : (br i, Region.wanted o (yielded ops a.tmps)) = (false, true)) (f : α → Value) (hrun : ∀ w, (execOp a.eval o).run P w = .ok (.value (.map (some w.heap.size))) (w.alloc (.map #[] 0)))
    (h : Own w0 En M w) (hK : ∀ b w', Own w0 En (rMap true b f [] :: M) w' → pk js (rMap true b f [] :: M) = L ∧ DW P ops Q w0 En br fuel (listed.setIfInBounds i true) L (a.put o.dst (.map (some b))) w') (hs : AllD P ops Q w0 En br fuel listed L a w is) : AllD P ops Q w0 En br fuel listed L a w (i :: is) := by
  simp only [Prod.mk.injEq] at hb
  exact ⟨AllO.cons hi hb.1 hb.2 (op_newm f hrun h fun b w' h' => ⟨h'.sub js (hK b w' h').1, (hK b w' h').2.out⟩) hs.out⟩
theorem ad_mapu (js : List Nat) (hi : ops[i]? = some ⟨dst, .mapUpdate T m x v, ty, pos, after, g⟩) (hb : (br i, Region.wanted ⟨dst, .mapUpdate T m x v, ty, pos, after, g⟩ (yielded ops a.tmps)) = (false, true)) (F : KeyFn P K f) (k : α) (u : Value) (hx : (a.eval m, a.eval x, a.eval v, P.underlying T) = (.map (some r), f k, u, some (.map K E))) (h : Own w0 En M w) (j : Nat) (hj : M[j]? = some (rMap true r f kv))
    (hK : ∀ w', Own w0 En (M.set j (rMap true r f (aput kv k u))) w' → pk js (M.set j (rMap true r f (aput kv k u))) = L ∧ DW P ops Q w0 En br fuel (listed.setIfInBounds i true) L (a.put dst undef) w') (hs : AllD P ops Q w0 En br fuel listed L a w is) : AllD P ops Q w0 En br fuel listed L a w (i :: is) := by
  simp only [Prod.mk.injEq] at hb
  exact ⟨AllO.cons hi hb.1 hb.2 (op_mapu F k u hx h j hj fun w' h' => ⟨h'.sub js (hK w' h').1, (hK w' h').2.out⟩) hs.out⟩
theorem ad_mapd {Kt : TypeId} (js : List Nat) (hi : ops[i]? = some ⟨dst, .call { callee := .builtin .delete, args := #[m, x], argTypes := #[T, Kt] }, ty, pos, after, g⟩) (hb : (br i, Region.wanted ⟨dst, .call { callee := .builtin .delete, args := #[m, x], argTypes := #[T, Kt] }, ty, pos, after, g⟩ (yielded ops a.tmps)) = (false, true)) (F : KeyFn P K f) (k : α) (hx : (a.eval m, a.eval x, P.underlying T) = (.map (some r), f k, some (.map K E))) (h : Own w0 En M w) (j : Nat) (hj : M[j]? = some (rMap true r f kv))
    (hK : ∀ w', Own w0 En (M.set j (rMap true r f (adel kv k))) w' → pk js (M.set j (rMap true r f (adel kv k))) = L ∧ DW P ops Q w0 En br fuel (listed.setIfInBounds i true) L (a.put dst (.tuple #[])) w') (hs : AllD P ops Q w0 En br fuel listed L a w is) : AllD P ops Q w0 En br fuel listed L a w (i :: is) := by
  simp only [Prod.mk.injEq] at hb
  exact ⟨AllO.cons hi hb.1 hb.2 (op_mapd F k hx h j hj fun w' h' => ⟨h'.sub js (hK w' h').1, (hK w' h').2.out⟩) hs.out⟩
end

section
/- Structs compared, by value. -/
open Go.RowKit Go.MapKept
theorem beqB (x y : ByteArray) : (x.toList == y.toList) = decide (x = y) := by
  rw [← beq_toListBytes, Bool.eq_iff_iff, bytes_beq]; simp
theorem beqS {x y : ByteArray} : Value.bool (x.toList == y.toList) = Value.bool (decide (x = y)) := by rw [beqB]
theorem bneS {x y : ByteArray} : Value.bool (!(x.toList == y.toList)) = Value.bool (!decide (x = y)) := by rw [beqB]
section
variable {P : Program} {a : Act} {w w0 : World} {E : Ent} {L : List Res} {dst : Option Tmp} {x y : Operand} {T T2 ty : TypeId} {pos : String} {after : Array Edge} {g : Option (Nat × Bool)}
theorem g_eq_of {v1 v2 : Value} {b : Bool} (hx : (a.eval x, a.eval y) = (v1, v2)) (h1 : ∀ w, (eqGuard .eql T x y v1 v2).run P w = .ok () w) (h2 : ∀ w, (Op.equal T v1 v2).run P w = .ok b w) (h3 : binOp .eql T v1 v2 = do pure (.bool (← Op.equal T v1 v2))) :
    Gives P w0 E L ⟨dst, .binOp .eql T x y T2, ty, pos, after, g⟩ a (.bool b) := fun w _ => by
  simp only [Prod.mk.injEq] at hx
  simp only [execOp, hx.1, hx.2, h3, Sem.run_bind, h1, h2, Result.andThen_ok, Sem.run_pure]
theorem g_ne_of {v1 v2 : Value} {b : Bool} (hx : (a.eval x, a.eval y) = (v1, v2)) (h1 : ∀ w, (eqGuard .neq T x y v1 v2).run P w = .ok () w) (h2 : ∀ w, (Op.equal T v1 v2).run P w = .ok b w) (h3 : binOp .neq T v1 v2 = do pure (.bool (!(← Op.equal T v1 v2)))) :
    Gives P w0 E L ⟨dst, .binOp .neq T x y T2, ty, pos, after, g⟩ a (.bool (!b)) := fun w _ => by
  simp only [Prod.mk.injEq] at hx
  simp only [execOp, hx.1, hx.2, h3, Sem.run_bind, h1, h2, Result.andThen_ok, Sem.run_pure]
end

end
/- The operations' laws by what is owned: a slice compared with nil, an empty row, a whole slice appended. Over any program, no condition. -/
/-- Is it the zero slice? -/
def nilS : Value → Bool
  | .slice none _ _ => true
  | _ => false
section
variable {P : Program} {a : Act} {w w0 : World} {E : Ent} {L M : List Res} {K : Act → World → Prop} {Q : Exit → Act → World → Prop} {ops : Array Oper} {rest : List Oper}
variable {dst : Option Tmp} {x y : Operand} {T T2 ty : TypeId} {pos : String} {after : Array Edge} {g : Option (Nat × Bool)} {v : Value} {d k n : Nat} {xs : List Value}
theorem nil_shape {r : Res} (hr : SlRd r v n xs) (hf : r.fact w) : ∃ ad c, v = .slice ad n c := by
  obtain ⟨⟨ad, cap, e, _⟩, _⟩ := hr w hf
  exact ⟨ad, cap, e⟩
theorem equal_nil {el : TypeId} (hT : P.underlying T = some (.slice el)) (ad : Option Addr) (n c : Nat) (w : World) : (Op.equal T (.slice ad n c) (.slice none 0 0)).run P w = .ok (nilS (.slice ad n c)) w := by
  have key : ∀ m, (Op.equalIn (m + 1) T (.slice ad n c) (.slice none 0 0)).run P w = .ok (nilS (.slice ad n c)) w := fun m => by
    unfold Op.equalIn
    simp only [Sem.run_bind, run_underlying hT, Result.andThen_ok]
    cases ad <;> rfl
  exact key 9999
theorem g_eqnil {el : TypeId} {r : Res} (hx : (a.eval x, a.eval y, P.underlying T) = (v, .slice none 0 0, some (.slice el))) (hg : ∀ ad n c w, (eqGuard .eql T x y (.slice ad n c) (.slice none 0 0)).run P w = .ok () w) (i : Nat) (hi : L[i]? = some r) (hr : SlRd r v n xs) :
    Gives P w0 E L ⟨dst, .binOp .eql T x y T2, ty, pos, after, g⟩ a (.bool (nilS v)) := fun w ho => by
  simp only [Prod.mk.injEq] at hx
  obtain ⟨ad, c, e⟩ := nil_shape hr (ho.fact i hi)
  subst e
  have h3 : binOp .eql T (.slice ad n c) (.slice none 0 0) = (do pure (.bool (← Op.equal T (.slice ad n c) (.slice none 0 0)))) := rfl
  simp only [execOp, hx.1, hx.2.1, h3, Sem.run_bind, hg, equal_nil hx.2.2, Result.andThen_ok, Sem.run_pure]
theorem g_nenil {el : TypeId} {r : Res} (hx : (a.eval x, a.eval y, P.underlying T) = (v, .slice none 0 0, some (.slice el))) (hg : ∀ ad n c w, (eqGuard .neq T x y (.slice ad n c) (.slice none 0 0)).run P w = .ok () w) (i : Nat) (hi : L[i]? = some r) (hr : SlRd r v n xs) :
    Gives P w0 E L ⟨dst, .binOp .neq T x y T2, ty, pos, after, g⟩ a (.bool (!nilS v)) := fun w ho => by
  simp only [Prod.mk.injEq] at hx
  obtain ⟨ad, c, e⟩ := nil_shape hr (ho.fact i hi)
  subst e
  have h3 : binOp .neq T (.slice ad n c) (.slice none 0 0) = (do pure (.bool (!(← Op.equal T (.slice ad n c) (.slice none 0 0))))) := rfl
  simp only [execOp, hx.1, hx.2.1, h3, Sem.run_bind, hg, equal_nil hx.2.2, Result.andThen_ok, Sem.run_pure]
/-- The zero slice has no elements. -/
theorem Own.nilLen {α : Type} {wr : Bool} {enc : α → List Value} {l : List α} (h : Own w0 E L w) (i : Nat) (hi : L[i]? = some (rRows wr v d k enc l)) (hn : nilS v = true) : l = [] := by
  obtain ⟨_, ⟨_, h2⟩ | ⟨g, off, cap, cs, rfl, _⟩⟩ := (h.fact i hi : SliceAt _ _ _ _ _ _ _)
  · exact List.length_eq_zero_iff.1 h2
  · cases hn
theorem Own.nilLenA {α : Type} {enc : α → List Value} {l : List α} (h : Own w0 E L w) (i : Nat) (hi : L[i]? = some (rArg v k enc l)) (hn : nilS v = true) : l = [] := by
  obtain ⟨⟨ad, cap, e, _, _, had⟩, _⟩ := h.fact i hi
  rcases Nat.eq_zero_or_pos l.length with h0 | h0
  · exact List.length_eq_zero_iff.1 h0
  · rw [e, had 0 h0] at hn; cases hn
/-- A block of no cells as an empty row. -/
theorem Own.cellRows {α : Type} {b : Nat} {d : TypeId} (h : Own w0 E (rCell true b [] d :: M) w) (k : Nat) (enc : α → List Value) : Own w0 E (rRows true (.slice (some ⟨b, 0, none⟩) 0 0) d k enc [] :: M) w :=
  h.upd (i := 0) (r := rCell true b [] d) rfl rfl (Chg.refl _ _) ⟨by simp, .inr ⟨b, 0, 0, #[], rfl, h.fact 0 rfl, Nat.le_refl _, Nat.zero_le _, by simp, fun j u hj => by simp at hj, rfl⟩⟩ fun y hy => .inl hy
theorem addr_add0 (a : Addr) : a.add 0 = a := by
  obtain ⟨b, o, s⟩ := a
  unfold Addr.add
  split <;> simp_all
theorem subV_zero {k n m cap : Nat} {ad : Option Addr} : subV k (.slice ad n cap) 0 m = .slice ad m cap := by
  have e : ad.map (·.add (0 * k)) = ad := by
    cases ad with
    | none => rfl
    | some a => simp [addr_add0]
  show Value.slice (if cap = 0 then ad else ad.map (·.add (0 * k))) (m - 0) (cap - 0) = _
  rw [e]; simp
theorem op_appw {α : Type} {enc : α → List Value} {l l2 : List α} {s : Operand} {v2 : Value} {size : Nat} {d : TypeId} {r : Res}
    (hx : (a.eval s, a.eval x, P.underlying T, okInfo P d size) = (v, v2, some (.slice d), true)) (he : ∀ x, (enc x).length = size) (h1 : ∀ x, (enc x).all (·.oneCell') = true)
    (h : Own w0 E L w) (i : Nat) (hi' : L[i]? = some (rRows true v d size enc l)) (j : Nat) (hj : L[j]? = some r) (hr : SlRd r v2 l2.length (l2.flatMap enc)) (hb : l.length + l2.length < 100000000000)
    (hK : ∀ v' w', Own w0 E (L.set i (rRows true v' d size enc (l ++ l2))) w' → K (a.put dst v') w') : Oper.wp P ⟨dst, .call { callee := .builtin .append, args := #[s, x], argTypes := #[T, T] }, ty, pos, after, g⟩ a w K Q := by
  simp only [Prod.mk.injEq] at hx
  obtain ⟨hs, hx2, h3, h4'⟩ := hx
  rcases Nat.eq_zero_or_pos l2.length with h0 | h0
  · have hnil : l2 = [] := List.length_eq_zero_iff.1 h0
    subst hnil
    obtain ⟨z, bytes, h4, h5, hby, h8⟩ := okInfo_spec h4'
    obtain ⟨⟨ad, cap, e, _, _, _⟩, _⟩ := hr w (h.fact j hj)
    have hf : SliceAt w v d size l.length (l.flatMap enc) (blkOf v) := h.fact i hi'
    cases ad with
    | none =>
      obtain ⟨ii, hii, _⟩ := info_parts h4
      have hrun := run_append_none (ty := ty) (c := cap) h3 hii hf
      unfold Oper.wp
      subst e
      simp only [List.length_nil] at hx2
      simp [execOp, resolve, invoke, builtin, hs, hx2, hrun, Result.andThen, Oper.upon]
      refine hK v w ?_
      have e2 : L.set i (rRows true v d size enc (l ++ [])) = L := by
        rw [List.append_nil]
        apply List.ext_getElem?
        intro j
        rw [List.getElem?_set]
        split
        · subst_vars; split
          · exact hi'.symm
          · rename_i hh; rw [List.getElem?_eq_none (by omega)]
        · rfl
      rw [e2]; exact h
    | some q =>
      obtain ⟨v', w', S', hrun, hs', hc, hg⟩ := run_appendS (P := P) (ty := ty) (c := cap) h3 h4 h5 h8 hf (a := q) (m := 0) (news := []) (by simp) (fun jj u hu => by simp at hu) (fun u hu => by simp at hu) (by unfold maxLen; omega) (by
        have : (l.length + 0) * bytes ≤ 100000000000 * 1000 := Nat.mul_le_mul (by simp at hb; omega) hby
        omega)
      obtain ⟨hs1, hs2⟩ := hs'.own
      unfold Oper.wp
      subst e
      simp only [List.length_nil] at hx2
      simp [execOp, resolve, invoke, builtin, hs, hx2, hrun, Result.andThen, Oper.upon]
      refine hK _ _ (h.upd i hi' rfl hc ?_ (fun b hb => ?_))
      · show SliceAt w' v' d size (l ++ []).length ((l ++ []).flatMap enc) (blkOf v')
        rw [List.append_nil]; simpa using hs1
      · rcases hg b (hs2 b hb) with h | h
        · exact .inl h
        · exact .inr h.1
  · obtain ⟨⟨ad, cap, e, _, _, had⟩, _⟩ := hr w (h.fact j hj)
    have hv : subV size v2 0 l2.length = v2 := by
      rw [e]; exact subV_zero
    refine op_apps (l2 := l2) 0 l2.length (by rw [hs, hx2, h3, h4', hv]) he h1 (Nat.zero_le _) (Nat.le_refl _) h i hi' j hj hr (by omega) fun v' w' h' => hK v' w' ?_
    rw [List.take_length, List.drop_zero] at h'
    exact h'
theorem sq_appw {α : Type} {enc : α → List Value} {l l2 : List α} {s : Operand} {v2 : Value} {size : Nat} {d : TypeId} {r : Res} (hg : Region.wanted ⟨dst, .call { callee := .builtin .append, args := #[s, x], argTypes := #[T, T] }, ty, pos, after, g⟩ (yielded ops a.tmps) = true)
    (hx : (a.eval s, a.eval x, P.underlying T, okInfo P d size) = (v, v2, some (.slice d), true)) (he : ∀ x, (enc x).length = size) (h1 : ∀ x, (enc x).all (·.oneCell') = true)
    (h : Own w0 E L w) (i : Nat) (hi' : L[i]? = some (rRows true v d size enc l)) (j : Nat) (hj : L[j]? = some r) (hr : SlRd r v2 l2.length (l2.flatMap enc)) (hb : l.length + l2.length < 100000000000)
    (hK : ∀ v' w', Own w0 E (L.set i (rRows true v' d size enc (l ++ l2))) w' → LW P ops Q rest (a.put dst v') w') : LW P ops Q (⟨dst, .call { callee := .builtin .append, args := #[s, x], argTypes := #[T, T] }, ty, pos, after, g⟩ :: rest) a w :=
  ⟨sqg hg (op_appw hx he h1 h i hi' j hj hr hb fun v' w' h => (hK v' w' h).out)⟩
end

/- make of one-cell elements, and slices made so, over any program. -/

theorem info_u8 : (Tryz.prog.info? 5).map (fun i => (i.zero, i.size, i.bytes)) = some (some (.int .u8 0), 1, 1) := by kernel_rfl
theorem slice_len' {w : World} {a : Option Addr} {n cap E size m : Nat} {xs : List Value} {S : Nat → Prop} (hn : SliceAt w (.slice a n cap) E size m xs S) : n = m := by
  obtain ⟨_, ⟨e, h⟩ | ⟨g', off', cap', cs, e, _⟩⟩ := hn
  · cases e; omega
  · cases e; rfl
theorem madeCells_one (z : Value) (n : Nat) (hz : z.cells = #[z]) : madeCells z.cells n = (List.replicate n z).toArray := by
  rw [hz]
  apply Array.ext
  · simp [madeCells]
  · intro i h1 h2
    simp [madeCells, Nat.mod_one]
theorem mk_one {P : Program} {T E : TypeId} {z : Value} {bytes : Nat} (ht : P.underlying T = some (.slice E)) (hinfo : (P.info? E).map (fun i => (i.zero, i.size, i.bytes)) = some (some z, 1, bytes)) (hz : z.cells = #[z]) (w : World) (n : Nat) (hb : bytes * n ≤ 281474976710656) (hn : n ≤ 9223372036854775807) :
    (Instr.makeSlice T (.int .i64 (n : Int)) (.int .i64 (n : Int))).run P w = .ok (.slice (some ⟨w.heap.size, 0, none⟩) n n) (w.alloc (.cells (List.replicate n z).toArray E)) := by
  obtain ⟨i, hi, hz0, hz1, hz2⟩ := info_parts hinfo
  have h := run_make (P := P) w T E i z ht hi hz0 .i64 .i64 n n (by omega) (by omega) (by rw [hz2]; have := Int.ofNat_le.2 hb; simpa using this) (by omega)
  rw [h, hz1, Nat.mul_one, madeCells_one z _ hz, Int.toNat_natCast]
theorem rep_flat {α : Type} (c : α → Value) (n : Nat) (a : α) : (List.replicate n a).flatMap (fun x => [c x]) = List.replicate n (c a) := by
  induction n with
  | zero => rfl
  | succ n ih => rw [List.replicate_succ, List.flatMap_cons, ih, List.replicate_succ]; rfl
theorem sliceAt_made' {w : World} {g n E : Nat} {z : Value} (hn : n ≤ 9223372036854775807) (hb : w.heap[g]? = some (.cells (List.replicate n z).toArray E (0, 0))) : SliceAt w (.slice (some ⟨g, 0, none⟩) n n) E 1 n (List.replicate n z) (· = g) := by
  refine ⟨by simp, .inr ⟨g, 0, n, _, rfl, hb, Nat.le_refl _, by unfold maxLen; omega, by simp, fun j u hj => ?_, rfl⟩⟩
  rw [Nat.zero_add, List.getElem?_toArray]; exact hj
theorem chg_at (w : World) (b i : Nat) (v : Value) : Chg (· = b) w (w.setCell ⟨b, i, none⟩ v) := (Chg.refl (· = b) w).setCell (p := ⟨b, i, none⟩) (.inr rfl) v

/- package pigeonholesref1: Byte by contract. -/

def byteOf (n : Int) : UInt8 := UInt8.ofNat (n % 256).toNat

theorem conv_one (n : Int) (w : World) : (convert 72 9 (.slice (some ⟨w.heap.size, 0, none⟩) 1 1)).run Tryz.prog (w.alloc (.cells #[.int .u8 (n % 256)] 5)) =
    .ok (.string ⟨#[byteOf n]⟩) (w.alloc (.cells #[.int .u8 (n % 256)] 5)) := by
  have := run_convert_bytes_arg (P := Tryz.prog) (w.alloc (.cells #[.int .u8 (n % 256)] 5)) 72 5 Tryz.underlying72 Tryz.underlying5 w.heap.size 0 1 1 [n % 256] rfl (fun i hi => by
    obtain rfl : i = 0 := by omega
    simp) 9 Tryz.underlying9
  rw [this]; rfl


/- package xdr, numbers: number (the program) and Big (the reference) by contract over one plain list of bytes. -/

/-- So many bytes of a number, the highest first. -/
def bigL : Nat → Nat → List UInt8
  | 0, _ => []
  | k + 1, n => bigL k (n / 256) ++ [byteOf ((n % 256 : Nat) : Int)]
theorem bigL_len : ∀ k n, (bigL k n).length = k
  | 0, _ => rfl
  | k + 1, n => by simp [bigL, bigL_len k]
theorem bigL_step : ∀ (k n : Nat), byteOf ((n / 256 ^ k % 256 : Nat) : Int) :: bigL k n = bigL (k + 1) n
  | 0, n => by simp [bigL]
  | k + 1, n => by
    have h := bigL_step k (n / 256)
    rw [Nat.div_div_eq_div_mul, ← Nat.pow_succ'] at h
    conv => lhs; rw [bigL, ← List.cons_append, h]
    rfl
def bigB (k n : Nat) : ByteArray := ⟨(bigL k n).toArray⟩
theorem bigB_size (k n : Nat) : (bigB k n).size = k := by simp [bigB, ByteArray.size, bigL_len]

def RelBig (n m : Nat) (w : World) (v out i : Value) (wr : World) : Prop := ∃ k : Nat, k ≤ m ∧ v = .int .i64 ((n / 256 ^ k : Nat) : Int) ∧ out = .string (bigB k n) ∧ i = .int .i64 k ∧ Chg Nil w wr
def u8c (x : Int) : UInt8 := UInt8.ofNat x.toNat
theorem byteOf_mod (m : Nat) : byteOf ((m % 256 : Nat) : Int) = u8c ((m : Int) % 256) := by
  unfold byteOf u8c
  congr 1
  omega
theorem bigB_4 (n : Nat) : bigB 4 n = ⟨#[u8c ((n : Int) / 16777216 % 256), u8c ((n : Int) / 65536 % 256), u8c ((n : Int) / 256 % 256), u8c ((n : Int) % 256)]⟩ := by
  unfold bigB
  simp only [bigL, List.nil_append, List.cons_append, byteOf_mod, Nat.div_div_eq_div_mul, Nat.reduceMul, Int.natCast_ediv]
  rfl
theorem bigB_8 (n : Nat) : bigB 8 n = ⟨#[u8c ((n : Int) / 72057594037927936 % 256), u8c ((n : Int) / 281474976710656 % 256), u8c ((n : Int) / 1099511627776 % 256), u8c ((n : Int) / 4294967296 % 256), u8c ((n : Int) / 16777216 % 256), u8c ((n : Int) / 65536 % 256), u8c ((n : Int) / 256 % 256), u8c ((n : Int) % 256)]⟩ := by
  unfold bigB
  simp only [bigL, List.nil_append, List.cons_append, byteOf_mod, Nat.div_div_eq_div_mul, Nat.reduceMul, Int.natCast_ediv]
  rfl
theorem conv4 (n : Nat) (w : World) : (convert 72 9 (.slice (some ⟨w.heap.size, 0, none⟩) 4 4)).run Tryz.prog (w.alloc (.cells #[.int .u8 ((n : Int) / 16777216 % 256), .int .u8 ((n : Int) / 65536 % 256), .int .u8 ((n : Int) / 256 % 256), .int .u8 ((n : Int) % 256)] 5)) = .ok (.string (bigB 4 n)) (w.alloc (.cells #[.int .u8 ((n : Int) / 16777216 % 256), .int .u8 ((n : Int) / 65536 % 256), .int .u8 ((n : Int) / 256 % 256), .int .u8 ((n : Int) % 256)] 5)) := by
  have := run_convert_bytes_arg (P := Tryz.prog) (w.alloc (.cells #[.int .u8 ((n : Int) / 16777216 % 256), .int .u8 ((n : Int) / 65536 % 256), .int .u8 ((n : Int) / 256 % 256), .int .u8 ((n : Int) % 256)] 5)) 72 5 Tryz.underlying72 Tryz.underlying5 w.heap.size 0 4 4 [(n : Int) / 16777216 % 256, (n : Int) / 65536 % 256, (n : Int) / 256 % 256, (n : Int) % 256] rfl (fun i hi => by
    have hi' : i < 4 := hi
    rw [cell_of (block_alloc w _)]
    match i, hi' with
    | 0, _ => rfl
    | 1, _ => rfl
    | 2, _ => rfl
    | 3, _ => rfl) 9 Tryz.underlying9
  rw [this, bigB_4]; rfl
theorem conv8 (n : Nat) (w : World) : (convert 72 9 (.slice (some ⟨w.heap.size, 0, none⟩) 8 8)).run Tryz.prog (w.alloc (.cells #[.int .u8 ((n : Int) / 72057594037927936 % 256), .int .u8 ((n : Int) / 281474976710656 % 256), .int .u8 ((n : Int) / 1099511627776 % 256), .int .u8 ((n : Int) / 4294967296 % 256), .int .u8 ((n : Int) / 16777216 % 256), .int .u8 ((n : Int) / 65536 % 256), .int .u8 ((n : Int) / 256 % 256), .int .u8 ((n : Int) % 256)] 5)) = .ok (.string (bigB 8 n)) (w.alloc (.cells #[.int .u8 ((n : Int) / 72057594037927936 % 256), .int .u8 ((n : Int) / 281474976710656 % 256), .int .u8 ((n : Int) / 1099511627776 % 256), .int .u8 ((n : Int) / 4294967296 % 256), .int .u8 ((n : Int) / 16777216 % 256), .int .u8 ((n : Int) / 65536 % 256), .int .u8 ((n : Int) / 256 % 256), .int .u8 ((n : Int) % 256)] 5)) := by
  have := run_convert_bytes_arg (P := Tryz.prog) (w.alloc (.cells #[.int .u8 ((n : Int) / 72057594037927936 % 256), .int .u8 ((n : Int) / 281474976710656 % 256), .int .u8 ((n : Int) / 1099511627776 % 256), .int .u8 ((n : Int) / 4294967296 % 256), .int .u8 ((n : Int) / 16777216 % 256), .int .u8 ((n : Int) / 65536 % 256), .int .u8 ((n : Int) / 256 % 256), .int .u8 ((n : Int) % 256)] 5)) 72 5 Tryz.underlying72 Tryz.underlying5 w.heap.size 0 8 8 [(n : Int) / 72057594037927936 % 256, (n : Int) / 281474976710656 % 256, (n : Int) / 1099511627776 % 256, (n : Int) / 4294967296 % 256, (n : Int) / 16777216 % 256, (n : Int) / 65536 % 256, (n : Int) / 256 % 256, (n : Int) % 256] rfl (fun i hi => by
    have hi' : i < 8 := hi
    rw [cell_of (block_alloc w _)]
    match i, hi' with
    | 0, _ => rfl
    | 1, _ => rfl
    | 2, _ => rfl
    | 3, _ => rfl
    | 4, _ => rfl
    | 5, _ => rfl
    | 6, _ => rfl
    | 7, _ => rfl) 9 Tryz.underlying9
  rw [this, bigB_8]; rfl

/- Appends, a map's stores and deletes inside a region that draws its order; a slice without its first element. -/
section
variable {P : Program} {w : World} {ops : Array Oper} {o : Oper} {a : Act} {K : Act → World → Prop} {Q : Exit → Act → World → Prop} {Eo : Prop}
theorem step_appendS (hg : o.guard = none) (s x : Operand) (T : TypeId) (hop : o.op = .call { callee := .builtin .append, args := #[s, x], argTypes := #[T, T] })
    {E : TypeId} {z : Value} {size bytes : Nat} (ht : P.underlying T = some (.slice E)) (hinfo : (P.info? E).map (fun i => (i.zero, i.size, i.bytes)) = some (some z, size, bytes)) (hzs : z.cells.size = size) (hsz : 0 < size)
    {v : Value} (hv : a.eval s = v) {n : Nat} {xs : List Value} {S : Nat → Prop} (h : SliceAt w v E size n xs S) {ad : Addr} {m c : Nat} (hx : a.eval x = .slice (some ad) m c) (news : List Value) (hl : news.length = m * size) (hnews : ∀ j u, news[j]? = some u → w.cell? (ad.add j) = some u) (h1 : ∀ u ∈ news, u.oneCell' = true)
    (h63 : n + m ≤ maxLen) (hb : (n + m) * bytes ≤ 140737488355328)
    (hK : ∀ v' w' S', SliceAt w' v' E size (n + m) (xs ++ news) S' → Chg S w w' → Grow S S' w w' → K (a.put o.dst v') w') :
    if Region.wanted o (yielded ops a.tmps) = true then Oper.wp P o a w K Q else Eo := by
  have hw : Region.wanted o (yielded ops a.tmps) = true := by simp [Region.wanted, hg]
  rw [if_pos hw]
  obtain ⟨v', w', S', r, h2, h3, h4⟩ := run_appendS (ty := o.type) (c := c) ht hinfo hzs hsz h hl hnews h1 h63 hb
  unfold Oper.wp
  simp [execOp, hop, resolve, invoke, builtin, hv, hx, r, Result.andThen]
  exact hK v' w' S' h2 h3 h4
variable {α : Type} [DecidableEq α] {Kt E : TypeId} {f : α → Value} {kv : List (α × Value)}
theorem upon_mapUpdateA {next : Act → World → Prop} {T : TypeId} (ht : P.underlying T = some (.map Kt E)) (F : KeyFn P Kt f)
    {r : Nat} (hM : MapA w r f kv) (k : α) {x val : Value} (hx : x = f k)
    (hK : ∀ w', MapA w' r f (aput kv k val) → Chg (· = r) w w' → w'.heap.size = w.heap.size → next (a.put o.dst undef) w') :
    Oper.upon P o a next Q (((Instr.mapUpdate T (.map (some r)) x val).run P w).andThen fun _ w' => .ok .skip w') := by
  subst hx
  obtain ⟨w', hr, h1, h2, h3⟩ := hM.run_update F ht k val
  rw [hr]
  exact hK w' h1 h2 h3
theorem step_deleteA (hg : o.guard = none) (m x : Operand) (T Ky : TypeId) (hop : o.op = Op.call { callee := .builtin .delete, args := #[m, x], argTypes := #[T, Ky] }) (ht : P.underlying T = some (.map Kt E)) (F : KeyFn P Kt f)
    (r : Nat) (hm : a.eval m = .map (some r)) (hM : MapA w r f kv) (k : α) (hx : a.eval x = f k)
    (hK : ∀ w', MapA w' r f (adel kv k) → Chg (· = r) w w' → w'.heap.size = w.heap.size → K (a.put o.dst (.tuple #[])) w') :
    if Region.wanted o (yielded ops a.tmps) = true then Oper.wp P o a w K Q else Eo := by
  have hw : Region.wanted o (yielded ops a.tmps) = true := by simp [Region.wanted, hg]
  rw [if_pos hw]
  obtain ⟨w', hr, h1, h2, h3⟩ := hM.run_delete (Kt := Ky) (ty := o.type) F ht k
  unfold Oper.wp
  simp [execOp, hop, resolve, invoke, builtin, hm, hx, hr, Result.andThen]
  exact hK w' h1 h2 h3
end

/-- A slice without its first element. -/
theorem SliceAt.tail {α : Type} {enc : α → List Value} {w : World} {g off n cap E size : Nat} {l : List α} {S : Nat → Prop} (he : ∀ a, (enc a).length = size) (hn : 1 ≤ n)
    (h : SliceAt w (.slice (some ⟨g, off, none⟩) n cap) E size n (l.flatMap enc) S) : SliceAt w (.slice (some ⟨g, off + size, none⟩) (n - 1) (cap - 1)) E size (n - 1) (l.tail.flatMap enc) S := by
  obtain ⟨h1, ⟨e, _⟩ | ⟨g', off', cap', cs, e, hb, h2, h3, h4, h5, h6⟩⟩ := h
  · cases e
  cases e
  have hle : 1 * size ≤ n * size := Nat.mul_le_mul_right _ hn
  have hle2 : n * size ≤ cap * size := Nat.mul_le_mul_right _ h2
  match l, h1, h5 with
  | [], h1, h5 =>
    simp only [List.flatMap_nil, List.length_nil, Nat.one_mul] at h1 hle
    have hs0 : size = 0 := by omega
    subst hs0
    exact ⟨by simp, .inr ⟨g, off, cap - 1, cs, rfl, hb, by omega, by omega, by omega, fun j u hj => (by cases hj), h6⟩⟩
  | x :: l, h1, h5 =>
    simp only [List.flatMap_cons, List.length_append, he] at h1
    refine ⟨by simp only [List.tail_cons, Nat.sub_mul]; omega, .inr ⟨g, off + size, cap - 1, cs, rfl, hb, by omega, by omega, by rw [Nat.sub_mul]; omega, fun j u hj => ?_, h6⟩⟩
    have := h5 (size + j) u (by
      simp only [List.flatMap_cons]
      rw [List.getElem?_append_right (by rw [he]; omega), he, Nat.add_sub_cancel_left]; exact hj)
    rw [Nat.add_assoc]; exact this

section
/- package xdr: the Writer by contract over a plain text. -/
open Go.RowKit Go.Lib

/-- A row of bytes that is owned from its head on; its block lies in S. -/
def OwnAt (w : World) (v : Value) (E n : Nat) (xs : List Value) (S : Nat → Prop) : Prop := w.ownsRow 0 E 1 v n xs ∧ ∀ x, v.ownBlock = some x → S x
theorem OwnAt.lt {w : World} {v : Value} {E n : Nat} {xs : List Value} {S : Nat → Prop} (h : OwnAt w v E n xs S) : ∀ x, v.ownBlock = some x → x < w.heap.size := by
  obtain ⟨⟨_, ⟨rfl, _⟩ | ⟨g, cap, cur, rfl, _, hg, _⟩⟩, _⟩ := h
  · intro x e; cases e
  · intro x e; cases e; exact lt_of_block hg
theorem OwnAt.keep {w w' : World} {v : Value} {E n : Nat} {xs : List Value} {S U : Nat → Prop} (h : OwnAt w v E n xs S) (c : Chg U w w') (hd : ∀ x, S x → ¬ U x) : OwnAt w' v E n xs S := by
  obtain ⟨⟨h1, h2 | ⟨g, cap, cur, e, h3, hg, h4⟩⟩, h5⟩ := h
  · exact ⟨⟨h1, .inl h2⟩, h5⟩
  · exact ⟨⟨h1, .inr ⟨g, cap, cur, e, h3, c.keep hg (hd g (h5 g (by rw [e]; rfl))), h4⟩⟩, h5⟩
theorem ownAt_nil (w : World) (E : Nat) (S : Nat → Prop) : OwnAt w (.slice none 0 0) E 0 [] S := ⟨World.ownsRow_nil w 0 E 1, fun x e => by cases e⟩
theorem OwnAt.shape {w : World} {v : Value} {E n : Nat} {xs : List Value} {S : Nat → Prop} (h : OwnAt w v E n xs S) : ∃ a cap, v = .slice a n cap := by
  obtain ⟨⟨_, ⟨rfl, rfl⟩ | ⟨g, cap, cur, e, _⟩⟩, _⟩ := h
  · exact ⟨none, 0, rfl⟩
  · exact ⟨_, cap, e⟩
theorem run_appendT {P : Program} {w : World} {t u ty E : TypeId} (ht : P.underlying t = some (.slice E)) (hu : P.underlying u = some .string) (hinfo : (P.info? E).map (fun i => (i.zero, i.size, i.bytes)) = some (some (.int .u8 0), 1, 1))
    {v : Value} {n : Nat} {xs : List Value} {S : Nat → Prop} (h : OwnAt w v E n xs S) (s : ByteArray) (hb : n + s.size ≤ 140737488355328) :
    ∃ v' w' S', (Builtin.append_ #[t, u] ty #[v, .string s]).run P w = .ok v' w' ∧ OwnAt w' v' E (n + s.size) (xs ++ strCells s) S' ∧ Chg S w w' ∧ Grow S S' w w' := by
  obtain ⟨i, hi, hz0, hz1, hz2⟩ := info_parts hinfo
  obtain ⟨v', w', r, ho, hg, _⟩ := run_append_own_string (P := P) w 0 t u ty E i ht hu hi hz0 hz1 hz2 v n xs h.1 s (by unfold maxLen; omega) hb (Nat.zero_le _)
  have hc : Chg S w w' := ⟨hg.os, hg.tape, hg.output, hg.size, fun k hk hs => hg.block k hk (fun e => hs (h.2 k e.symm))⟩
  have hown' : OwnAt w' v' E (n + s.size) (xs ++ strCells s) (fun x => v'.ownBlock = some x) := ⟨ho, fun x e => e⟩
  have fin : (∀ x, v'.ownBlock = some x → S x ∨ w.heap.size ≤ x) → ∃ v' w' S', (Builtin.append_ #[t, u] ty #[v, .string s]).run P w = .ok v' w' ∧ OwnAt w' v' E (n + s.size) (xs ++ strCells s) S' ∧ Chg S w w' ∧ Grow S S' w w' := fun hx =>
    ⟨v', w', fun x => v'.ownBlock = some x, r, hown', hc, fun x e => (hx x e).imp id (fun q => ⟨q, hown'.lt x e⟩)⟩
  obtain ⟨⟨hl, hcase⟩, hS⟩ := h
  rcases hcase with ⟨rfl, rfl⟩ | ⟨g, cap, cur, rfl, hbg, hgk, hnc, hcm, hcs, htake⟩
  · obtain ⟨v2, w2, r2, ho2, _, _⟩ := run_append_own_string (P := P) w w.heap.size t u ty E i ht hu hi hz0 hz1 hz2 (.slice none 0 0) 0 xs ⟨hl, .inl ⟨rfl, rfl⟩⟩ s (by unfold maxLen; omega) hb (Nat.le_refl _)
    rw [r] at r2
    cases r2
    refine fin fun x e => .inr ?_
    obtain ⟨_, ⟨e2, _⟩ | ⟨g2, cap2, cur2, e2, hb2, _⟩⟩ := ho2
    · rw [e2] at e; cases e
    · rw [e2] at e; cases e; exact hb2
  · by_cases hroom : n + s.size ≤ cap
    · have hr := run_append_room_string (P := P) w t u ty E i ht hu hi hz1 g n cap cur hgk s hroom (by simp at hcs; omega)
      rw [r] at hr
      cases hr
      exact fin fun x e => .inl (hS x e)
    · have hxl : xs.length = n := by simpa using hl
      have holds : ∀ j u, xs[j]? = some u → w.cell? ((⟨g, 0, none⟩ : Addr).add j) = some u := World.ownsRow.cells (w := w) (base := 0) (e := E) (size := 1) (n := n) ⟨hl, .inr ⟨g, cap, cur, rfl, hbg, hgk, hnc, hcm, hcs, htake⟩⟩ (g := g) rfl
      have hr := run_append_grow_string (P := P) w t u ty E i (.int .u8 0) ht hu hi hz0 ⟨g, 0, none⟩ n cap xs (by rw [hz1]; simpa using hxl) holds s (by omega) (by omega) (by rw [hz2]; exact growslice_fits (by omega) (by omega))
      rw [r] at hr
      cases hr
      exact fin fun x e => by cases e; exact .inr (Nat.le_refl _)
theorem wpList_appendT {P : Program} {w : World} {ops : Array Oper} {rest : List Oper} {o : Oper} {a : Act} {Q : Exit → Act → World → Prop} (hg : o.guard = none) (s x : Operand) (T U : TypeId) (hop : o.op = .call { callee := .builtin .append, args := #[s, x], argTypes := #[T, U] })
    {E : TypeId} (ht : P.underlying T = some (.slice E)) (hu : P.underlying U = some .string) (hinfo : (P.info? E).map (fun i => (i.zero, i.size, i.bytes)) = some (some (.int .u8 0), 1, 1))
    {v : Value} (hv : a.eval s = v) {n : Nat} {xs : List Value} {S : Nat → Prop} (h : OwnAt w v E n xs S) (str : ByteArray) (hx : a.eval x = .string str) (hb : n + str.size ≤ 140737488355328)
    (hK : ∀ v' w' S', OwnAt w' v' E (n + str.size) (xs ++ strCells str) S' → Chg S w w' → Grow S S' w w' → wpList P ops Q rest (a.put o.dst v') w') : wpList P ops Q (o :: rest) a w := by
  refine wpList_plain hg fun K' hK' => ?_
  obtain ⟨v', w', S', r, h2, h3, h4⟩ := run_appendT (ty := o.type) ht hu hinfo h str hb
  unfold Oper.wp
  simp [execOp, hop, resolve, invoke, builtin, hv, hx, r, Result.andThen]
  exact hK' _ _ (hK v' w' S' h2 h3 h4)

def txtC (t : List UInt8) : List Value := t.map fun b => Value.int .u8 b.toNat
theorem txtC_len (t : List UInt8) : (txtC t).length = t.length := by simp [txtC]
theorem txtC_app (t : List UInt8) (s : ByteArray) : txtC t ++ strCells s = txtC (t ++ s.data.toList) := by simp [txtC, strCells]
/-- The writer at block b holds the text t. -/
def WrTx (w : World) (b : Nat) (t : List UInt8) (S : Nat → Prop) : Prop :=
  ∃ v T Ss, w.heap[b]? = some (.cells #[v] T (0, 0)) ∧ OwnAt w v 5 t.length (txtC t) Ss ∧ ¬ Ss b ∧ (∀ x, Ss x → S x) ∧ S b ∧ ∀ x, S x → x < w.heap.size
theorem WrTx.keep {w w' : World} {b : Nat} {t : List UInt8} {S U : Nat → Prop} (h : WrTx w b t S) (c : Chg U w w') (hd : ∀ x, S x → ¬ U x) : WrTx w' b t S := by
  obtain ⟨v, T, Ss, h1, h2, h3, h4, h5, h6⟩ := h
  exact ⟨v, T, Ss, c.keep h1 (hd b h5), h2.keep c (fun x hx => hd x (h4 x hx)), h3, h4, h5, fun x hx => Nat.lt_of_lt_of_le (h6 x hx) c.size⟩
def WrPost (S : Nat → Prop) (w : World) (b : Nat) (t : List UInt8) (w' : World) : Prop := Chg S w w' ∧ ∃ S', WrTx w' b t S' ∧ Grow S S' w w'
theorem wr_same {S : Nat → Prop} {w w' : World} {b : Nat} {t : List UInt8} (h : WrTx w b t S) (c : Chg Nil w w') : WrPost S w b t w' := ⟨c.nil, S, h.keep c (fun _ _ f => f), Grow.refl _ _ _⟩
def wPut (t : List UInt8) (s : ByteArray) : List UInt8 × Nat := if 4000 < t.length + s.size then (t, 9) else (t ++ s.data.toList, 0)


end
/- Maps told by their entries: what they hold, mapped; kept. Over any program, no condition. -/
theorem aget_map {α β γ : Type} [DecidableEq α] (g : β → γ) : ∀ (kv : List (α × β)) (k : α), aget (kv.map fun p => (p.1, g p.2)) k = (aget kv k).map g
  | [], _ => rfl
  | p :: r, k => by
    simp only [List.map_cons, aget]
    split
    · rfl
    · exact aget_map g r k
theorem aput_map {α β γ : Type} [DecidableEq α] (g : β → γ) : ∀ (kv : List (α × β)) (k : α) (v : β), aput (kv.map fun p => (p.1, g p.2)) k (g v) = (aput kv k v).map fun p => (p.1, g p.2)
  | [], _, _ => rfl
  | p :: r, k, v => by
    simp only [List.map_cons, aput]
    split
    · rfl
    · simp [aput_map g r k v]
theorem adel_map {α β γ : Type} [DecidableEq α] (g : β → γ) : ∀ (kv : List (α × β)) (k : α), adel (kv.map fun p => (p.1, g p.2)) k = (adel kv k).map fun p => (p.1, g p.2)
  | [], _ => rfl
  | p :: r, k => by
    simp only [List.map_cons, adel]
    split
    · rfl
    · simp [adel_map g r k]

theorem MapV.keep {α : Type} [DecidableEq α] {S : Nat → Prop} {w w' : World} {mv : Value} {f : α → Value} {kv : List (α × Value)} (h : MapV w mv f kv) (c : Chg S w w') (hs : ∀ r, mv = .map (some r) → ¬ S r) : MapV w' mv f kv := by
  rcases h with h | ⟨r, rfl, h⟩
  · exact .inl h
  · exact .inr ⟨r, rfl, h.keep c (hs r rfl)⟩

theorem aget_mem {α β : Type} [DecidableEq α] : ∀ {kv : List (α × β)} {k : α} {v : β}, aget kv k = some v → (k, v) ∈ kv
  | [], _, _, h => by cases h
  | p :: r, k, v, h => by
    unfold aget at h
    split at h
    · rename_i c; cases h; subst c; exact List.mem_cons_self ..
    · exact List.mem_cons_of_mem _ (aget_mem h)


section
/- Whole arrays stored into a block that is known whole, and loaded out of it; loops over a map told by its entries. Over any program. -/
open Go.RowKit Go.MapKept

theorem rangeAt_of {w : World} {b : Nat} {cs : List Value} {t : TypeId} {f : Nat × Nat} (h : w.heap[b]? = some (.cells cs.toArray t f)) : w.rangeAt b 0 cs := fun j v hv => by
  rw [cell_of h]; simpa using hv
theorem there_of {w : World} {b : Nat} {c : Array Value} {t : TypeId} (h : w.heap[b]? = some (.cells c t (0, 0))) : w.there b 0 c.size := fun j hj => by
  rw [cell_of h, free_of h]
  simp [hj]

theorem block_setAll {w : World} {b : Nat} {c0 : Array Value} {t : TypeId} {cs : List Value} (hb : w.heap[b]? = some (.cells c0 t (0, 0))) (hc0 : c0.size = cs.length) : (w.setCells b 0 cs).heap[b]? = some (.cells cs.toArray t (0, 0)) := by
  obtain ⟨cs', e1, e2, e3, _⟩ := block_setCells cs 0 w c0 hb
  have e : cs' = cs.toArray := by
    apply Array.ext_getElem?
    intro j
    rcases Nat.lt_or_ge j cs.length with hj | hj
    · have := e3 j hj (by omega)
      rw [Nat.zero_add] at this
      rw [this]; simp
    · rw [Array.getElem?_eq_none (by omega), Array.getElem?_eq_none (by simpa using hj)]
  rw [← e]; exact e1
/-- The tail of a row set anew. -/
theorem block_setTail {w : World} {b r : Nat} {cs vs : List Value} {t : TypeId} (hb : w.heap[b]? = some (.cells cs.toArray t (0, 0))) (hr : r + vs.length = cs.length) : (w.setCells b r vs).heap[b]? = some (.cells (cs.take r ++ vs).toArray t (0, 0)) := by
  obtain ⟨cs', e1, e2, e3, e4⟩ := block_setCells vs r w cs.toArray hb
  have e : cs' = (cs.take r ++ vs).toArray := by
    apply Array.ext_getElem?
    intro j
    simp only [List.size_toArray] at e2 e3
    rw [show ((cs.take r ++ vs).toArray)[j]? = (cs.take r ++ vs)[j]? by simp]
    rcases Nat.lt_or_ge j r with hj | hj
    · rw [e4 j (.inl hj), List.getElem?_append_left (by rw [List.length_take]; omega), List.getElem?_take, if_pos hj]; simp
    · obtain ⟨i, rfl⟩ : ∃ i, j = r + i := ⟨j - r, by omega⟩
      have hl : (cs.take r).length = r := by rw [List.length_take]; omega
      rw [List.getElem?_append_right (by omega), hl, Nat.add_sub_cancel_left]
      rcases Nat.lt_or_ge i vs.length with hi | hi
      · exact e3 i hi (by omega)
      · rw [Array.getElem?_eq_none (by omega), List.getElem?_eq_none (by omega)]
  rw [← e]; exact e1

section
variable {P : Program} {ops : Array Oper} {rest : List Oper} {op : Oper} {a : Act} {w : World} {Q : Exit → Act → World → Prop}
theorem wpList_storeB (hgd : op.guard = none) (ty : TypeId) (x y : Operand) (ho : op.op = .store ty x y) (b : Nat) (cs : List Value) (n : Nat) (hx : a.eval x = .pointer (some ⟨b, 0, none⟩)) (hy : a.eval y = .agg cs.toArray)
    {c0 : Array Value} {t : TypeId} (hb : w.heap[b]? = some (.cells c0 t (0, 0))) (hc0 : c0.size = n) (hi : (P.info? ty).map (·.size) = some n) (hn : cs.length = n) (h1 : ∀ v ∈ cs, v.oneCell' = true)
    (h : ∀ w', w'.heap[b]? = some (.cells cs.toArray t (0, 0)) → Chg (· = b) w w' → w'.heap.size = w.heap.size → wpList P ops Q rest (a.put op.dst undef) w') : wpList P ops Q (op :: rest) a w := by
  subst hn
  have ht := there_of hb
  rw [hc0] at ht
  obtain ⟨cs', e1, e2, e3, _⟩ := block_setCells cs 0 w c0 hb
  have e : cs' = cs.toArray := by
    apply Array.ext_getElem?
    intro j
    rcases Nat.lt_or_ge j cs.length with hj | hj
    · have := e3 j hj (by omega)
      rw [Nat.zero_add] at this
      rw [this]; simp
    · rw [Array.getElem?_eq_none (by omega), Array.getElem?_eq_none (by simpa using hj)]
  subst e
  exact wpList_store_mid hgd ty x y ho b 0 cs.toArray hx hy (by simpa using ht) (by simpa using hi) (all_oneCell_toArray h1) (h _ e1 (chg_setCells _ _ _) (size_setCells' _ _ _))
theorem wpList_loadB (hgd : op.guard = none) (ty : TypeId) (x : Operand) (ho : op.op = .load ty x) (b : Nat) (cs : List Value) (n : Nat) (d : TypeDesc) (hx : a.eval x = .pointer (some ⟨b, 0, none⟩))
    {t : TypeId} {f : Nat × Nat} (hb : w.heap[b]? = some (.cells cs.toArray t f)) (hu : P.underlying ty = some d) (hd : d.isRow = true) (hi : (P.info? ty).map (·.size) = some n) (hn : cs.length = n)
    (h : wpList P ops Q rest (a.put op.dst (.agg cs.toArray)) w) : wpList P ops Q (op :: rest) a w :=
  wpList_load_mid hgd ty x ho b 0 hx cs d (rangeAt_of hb) hu hd (by rw [hn]; exact hi) h
end

/-! ### A loop over a map -/
section
variable {α : Type} [DecidableEq α] {f : α → Value} {kv : List (α × Value)} {w : World}
/-- Block r is an iterator over the map at block b, whose entries are kv; vis: the keys that have come. -/
def IterA (w : World) (b r : Nat) (f : α → Value) (kv : List (α × Value)) (vis : α → Bool) : Prop :=
  ∃ es clock since seen c0, w.heap[b]? = some (.map es clock) ∧ es.toList.map (fun e => (e.key, e.val)) = kv.map (fun p => (f p.1, p.2)) ∧ Stamped es clock ∧
    w.heap[r]? = some (.mapIter (some b) since seen c0) ∧ (∀ x ∈ es.toList, x.born < since) ∧ since ≤ c0 ∧ since ≤ clock ∧ ∀ x ∈ es.toList, ∀ k, x.key = f k → vis k = seen.contains x.born
theorem IterA.map {b r : Nat} {vis : α → Bool} (h : IterA w b r f kv vis) : MapA w b f kv := by
  obtain ⟨es, clock, _, _, _, h1, h2, h3, _⟩ := h
  exact ⟨es, clock, h1, h2, h3⟩
theorem IterA.keep {S : Nat → Prop} {w' : World} {b r : Nat} {vis : α → Bool} (h : IterA w b r f kv vis) (c : Chg S w w') (hb : ¬ S b) (hr : ¬ S r) : IterA w' b r f kv vis := by
  obtain ⟨es, clock, since, seen, c0, h1, h2, h3, h4, rest⟩ := h
  exact ⟨es, clock, since, seen, c0, c.keep h1 hb, h2, h3, c.keep h4 hr, rest⟩
theorem IterA.lt {b r : Nat} {vis : α → Bool} (h : IterA w b r f kv vis) : b < w.heap.size ∧ r < w.heap.size ∧ b ≠ r := by
  obtain ⟨es, clock, since, seen, c0, h1, h2, h3, h4, _⟩ := h
  refine ⟨lt_of_block h1, lt_of_block h4, fun e => ?_⟩
  subst e; rw [h1] at h4; cases h4

variable {P : Program} {K E : TypeId}
theorem run_rangeA {b : Nat} {T : TypeId} (ht : P.underlying T = some (.map K E)) (h : MapA w b f kv) :
    ∃ w', (Instr.range T (.map (some b))).run P w = .ok (.pointer (some ⟨w.heap.size, 0, none⟩)) w' ∧ IterA w' b w.heap.size f kv (fun _ => false) ∧ Chg Nil w w' ∧ w'.heap.size = w.heap.size + 1 := by
  obtain ⟨es, clock, hb, he, hs⟩ := h
  refine ⟨_, run_range_map w T K E b es clock ht hb, ⟨es, clock, clock, #[], clock, block_alloc_old hb _, he, hs, block_alloc _ _, hs.1, Nat.le_refl _, Nat.le_refl _, fun x _ k _ => by simp⟩, (Chg.refl Nil w).alloc _, by simp⟩

theorem run_nextA {b r : Nat} {vis : α → Bool} (h : IterA w b r f kv vis) (inj : ∀ a b, f a = f b → a = b) (ty : TypeId) :
    ((∀ p ∈ kv, vis p.1 = true) ∧ (Instr.next (.pointer (some ⟨r, 0, none⟩)) false ty).run P w = .ok (.tuple #[.bool false]) w) ∨
    ∃ k v w', (k, v) ∈ kv ∧ vis k = false ∧ (Instr.next (.pointer (some ⟨r, 0, none⟩)) false ty).run P w = .ok (.tuple #[.bool true, f k, v]) w' ∧
      IterA w' b r f kv (fun x => vis x || decide (x = k)) ∧ Chg (· = r) w w' ∧ w'.heap.size = w.heap.size ∧ (Instr.entry (.pointer (some ⟨r, 0, none⟩))).run P w' = .ok (.tuple #[f k, v]) w' := by
  have hne := h.lt.2.2
  obtain ⟨es, clock, since, seen, c0, hb, he, hs, hr, hold, hsc, hsk, hvis⟩ := h
  have hst := (stamped_iff es clock).1 hs
  have memkv : ∀ x ∈ es.toList, ∃ k, (k, x.val) ∈ kv ∧ x.key = f k := fun x hx => by
    have : (x.key, x.val) ∈ kv.map (fun p => (f p.1, p.2)) := by rw [← he]; exact List.mem_map.2 ⟨x, hx, rfl⟩
    obtain ⟨p, hp, e⟩ := List.mem_map.1 this
    simp only [Prod.mk.injEq] at e
    exact ⟨p.1, by rw [← e.2]; exact hp, e.1.symm⟩
  rcases run_next_at (P := P) w ty r b since c0 seen es clock hr hb hold hsc with ⟨h0, hrun⟩ | ⟨e, hem', w1, hal, hrun⟩
  · left
    refine ⟨fun p hp => ?_, hrun⟩
    have : (f p.1, p.2) ∈ es.toList.map (fun e => (e.key, e.val)) := by rw [he]; exact List.mem_map.2 ⟨p, hp, rfl⟩
    obtain ⟨x, hx, ex⟩ := List.mem_map.1 this
    simp only [Prod.mk.injEq] at ex
    rw [hvis x hx p.1 ex.1]
    exact all_seen es seen h0 x hx
  · right
    obtain ⟨hem, hes⟩ := mem_left hem'
    obtain ⟨k, hk, hkey⟩ := memkv e hem
    have hr1 : w1.heap[r]? = some (.mapIter (some b) since seen c0) := by rcases hal with rfl | rfl <;> exact hr
    have hb1 : w1.heap[b]? = some (.map es clock) := by rcases hal with rfl | rfl <;> exact hb
    have hset := heap_set (o' := .mapIter (some b) since (seen.push e.born) clock) hr1
    have hb' : (ChangeMaps.setBlock w1 r (.mapIter (some b) since (seen.push e.born) clock)).heap[b]? = some (.map es clock) := (hset.2 b (fun e1 => hne e1)).trans hb1
    refine ⟨k, e.val, _, hk, by rw [hvis e hem k hkey]; exact hes, by rw [← hkey]; exact hrun,
      ⟨es, clock, since, seen.push e.born, clock, hb', he, hs, hset.1, hold, hsk, hsk, fun x hx j hj => ?_⟩, ?_, ?_, by rw [← hkey]; exact run_entry_at _ r b since seen es clock e hset.1 hb' hem hst.2.1⟩
    · show (vis j || decide (j = k)) = _
      rw [hvis x hx j hj, contains_push]
      congr 1
      by_cases hbe : x.born = e.born
      · have := born_inj hst.2.1 hx hem hbe
        subst this
        have : j = k := inj _ _ (hj.symm.trans hkey)
        simp [this]
      · have hjk : j ≠ k := fun ejk => by
          subst ejk
          have := entry_eq_of_key hst.2.2 hx hem (hj.trans hkey.symm)
          subst this
          exact hbe rfl
        simp [hbe, hjk]
    · rcases hal with rfl | rfl <;> exact ⟨rfl, rfl, rfl, by simp [ChangeMaps.setBlock], fun i _ hi => hset.2 i (fun e1 => hi e1)⟩
    · rcases hal with rfl | rfl <;> simp [ChangeMaps.setBlock]

theorem run_deleteIter {b r : Nat} {vis : α → Bool} {T Kt ty : TypeId} (F : KeyFn P K f) (ht : P.underlying T = some (.map K E)) (h : IterA w b r f kv vis) (a : α) :
    ∃ w', (Builtin.delete_ #[T, Kt] ty #[.map (some b), f a]).run P w = .ok (.tuple #[]) w' ∧ IterA w' b r f (adel kv a) vis ∧ Chg (· = b) w w' ∧ w'.heap.size = w.heap.size := by
  have hne := h.lt.2.2
  obtain ⟨es, clock, since, seen, c0, hb, he, hs, hr, hold, hsc, hsk, hvis⟩ := h
  have hch : ∀ o : Obj, Chg (· = b) w { w with heap := w.heap.setIfInBounds b o } := fun o =>
    ⟨rfl, rfl, rfl, by simp, fun k _ hk => (heap_set (o' := o) hb).2 k hk⟩
  have hfd := F.find a es.toList kv w he
  cases hf : findA kv a 0 with
  | none =>
    obtain ⟨_, _, h3, _⟩ := findA_none hf
    have hr' : (Builtin.delete_ #[T, Kt] ty #[.map (some b), f a]).run P w = .ok (.tuple #[]) { w with heap := w.heap.setIfInBounds b (.map es clock) } := by
      simp only [Builtin.delete_, List.getElem?_toArray, List.getElem?_cons_zero, List.getElem?_cons_succ, Sem.run_bind, run_underlying ht, Result.andThen_ok, MapKept.run_getObj_map hb, F.chk, Sem.run_pure]
      rw [hfd, hf]
      simp only [Result.andThen_ok, Sem.run_bind]
      rw [MapKept.run_setObj_map _ hb]
      rfl
    exact ⟨_, hr', ⟨es, clock, since, seen, c0, (heap_set hb).1, by rw [h3]; exact he, hs, ((heap_set hb).2 r (Ne.symm hne)).trans hr, hold, hsc, hsk, hvis⟩, hch _, by simp⟩
  | some p =>
    obtain ⟨j, u⟩ := p
    obtain ⟨n, e0, h1, h2, _, h3⟩ := findA_some hf
    have e0' : j = n := by omega
    subst e0'
    have hl : es.size = kv.length := by simpa using congrArg List.length he
    have hj : j < es.size := by rw [hl]; exact (List.getElem?_eq_some_iff.1 h1).1
    have hsub : (es.eraseIdxIfInBounds j).toList = es.toList.eraseIdx j := by
      simp only [Array.eraseIdxIfInBounds, hj, dite_true, Array.toList_eraseIdx]
    have hr' : (Builtin.delete_ #[T, Kt] ty #[.map (some b), f a]).run P w = .ok (.tuple #[]) { w with heap := w.heap.setIfInBounds b (.map (es.eraseIdxIfInBounds j) clock) } := by
      simp only [Builtin.delete_, List.getElem?_toArray, List.getElem?_cons_zero, List.getElem?_cons_succ, Sem.run_bind, run_underlying ht, Result.andThen_ok, MapKept.run_getObj_map hb, F.chk, Sem.run_pure]
      rw [hfd, hf]
      simp only [Result.andThen_ok, Sem.run_bind]
      rw [MapKept.run_setObj_map _ hb]
      rfl
    have hmem : ∀ x ∈ (es.eraseIdxIfInBounds j).toList, x ∈ es.toList := fun x hx => by rw [hsub] at hx; exact (List.eraseIdx_sublist _ _).subset hx
    refine ⟨_, hr', ⟨es.eraseIdxIfInBounds j, clock, since, seen, c0, (heap_set hb).1, ?_, stamped_erase hs j, ((heap_set hb).2 r (Ne.symm hne)).trans hr, fun x hx => hold x (hmem x hx), hsc, hsk, fun x hx => hvis x (hmem x hx)⟩, hch _, by simp⟩
    rw [h3, hsub, map_erase, map_erase, he]

/-! ### At the operations -/
variable {ops : Array Oper} {rest : List Oper} {o : Oper} {a : Act} {Q : Exit → Act → World → Prop}
theorem wpList_rangeA (hg : o.guard = none) (m : Operand) (T : TypeId) (hop : o.op = Op.range T m) (K E : TypeId) (ht : P.underlying T = some (.map K E)) (b : Nat) (hm : a.eval m = .map (some b)) (h : MapA w b f kv)
    (hK : ∀ w', IterA w' b w.heap.size f kv (fun _ => false) → Chg Nil w w' → w'.heap.size = w.heap.size + 1 → wpList P ops Q rest (a.put o.dst (.pointer (some ⟨w.heap.size, 0, none⟩))) w') : wpList P ops Q (o :: rest) a w := by
  refine wpList_plain hg fun K' hK' => ?_
  obtain ⟨w', hrun, r1, r2, r3⟩ := run_rangeA ht h
  unfold Oper.wp
  simp [execOp, hop, hm, hrun, Result.andThen]
  exact hK' _ _ (hK w' r1 r2 r3)
theorem wpList_nextA (hg : o.guard = none) (it : Operand) (hop : o.op = Op.next it false) (b r : Nat) (hit : a.eval it = .pointer (some ⟨r, 0, none⟩)) (vis : α → Bool) (h : IterA w b r f kv vis) (inj : ∀ a b, f a = f b → a = b)
    (hDone : (∀ p ∈ kv, vis p.1 = true) → wpList P ops Q rest (a.put o.dst (.tuple #[.bool false])) w)
    (hMore : ∀ k v w', (k, v) ∈ kv → vis k = false → IterA w' b r f kv (fun x => vis x || decide (x = k)) → Chg (· = r) w w' → w'.heap.size = w.heap.size →
      (Instr.entry (.pointer (some ⟨r, 0, none⟩))).run P w' = .ok (.tuple #[f k, v]) w' → wpList P ops Q rest (a.put o.dst (.tuple #[.bool true, f k, v])) w') : wpList P ops Q (o :: rest) a w := by
  refine wpList_plain hg fun K' hK' => ?_
  unfold Oper.wp
  rcases run_nextA (P := P) h inj o.type with ⟨h0, hrun⟩ | ⟨k, v, w', hk, hv, hrun, hi, hc, hz, hen⟩
  · simp [execOp, hop, hit, hrun, Result.andThen]
    exact hK' _ _ (hDone h0)
  · simp [execOp, hop, hit, hrun, Result.andThen]
    exact hK' _ _ (hMore k v w' hk hv hi hc hz hen)
theorem wpList_deleteIter (hg : o.guard = none) (m x : Operand) (T Kt : TypeId) (hop : o.op = Op.call { callee := .builtin .delete, args := #[m, x], argTypes := #[T, Kt] }) (K E : TypeId) (ht : P.underlying T = some (.map K E)) (F : KeyFn P K f)
    (b r : Nat) (hm : a.eval m = .map (some b)) (vis : α → Bool) (h : IterA w b r f kv vis) (k : α) (hx : a.eval x = f k)
    (hK : ∀ w', IterA w' b r f (adel kv k) vis → Chg (· = b) w w' → w'.heap.size = w.heap.size → wpList P ops Q rest (a.put o.dst (.tuple #[])) w') : wpList P ops Q (o :: rest) a w := by
  refine wpList_plain hg fun K' hK' => ?_
  obtain ⟨w', hr, h1, h2, h3⟩ := run_deleteIter (Kt := Kt) (ty := o.type) F ht h k
  unfold Oper.wp
  simp [execOp, hop, resolve, invoke, builtin, hm, hx, hr, Result.andThen]
  exact hK' _ _ (hK w' h1 h2 h3)
end

end
/- package data: Write by contract over a plain list of blocks. No condition but that the data is one. -/

/-! ### The plain data -/
abbrev Blks := List (Int × List UInt8)
structure PData where
  size : Nat
  kv : Blks
def blkC (l : List UInt8) : List Value := l.map fun c => .int .u8 c.toNat
def blkV (l : List UInt8) : Value := .agg (blkC l).toArray
def blkM (kv : Blks) : List (Int × Value) := kv.map fun p => (p.1, blkV p.2)
def zero64 : List UInt8 := List.replicate 64 0
def dget (kv : Blks) (q : Nat) : List UInt8 := (aget kv (q : Int)).getD zero64
def dput (kv : Blks) (i : Nat) (c : UInt8) : Blks := aput kv ((i / 64 : Nat) : Int) ((dget kv (i / 64)).set (i % 64) c)
def dputs (kv : Blks) (i : Nat) : List UInt8 → Blks
  | [] => kv
  | c :: s => dputs (dput kv i c) (i + 1) s
theorem dputs_snoc (kv : Blks) (i : Nat) (c : UInt8) : ∀ (l : List UInt8) (kv : Blks) (i : Nat), dputs kv i (l ++ [c]) = dput (dputs kv i l) (i + l.length) c
  | [], _, _ => rfl
  | d :: l, kv, i => by
    simp only [List.cons_append, dputs, dputs_snoc kv i c l, List.length_cons]
    congr 1; omega
def Full (kv : Blks) : Prop := ∀ p ∈ kv, p.2.length = 64 ∧ 0 ≤ p.1 ∧ p.1 < 64
theorem dget_len {kv : Blks} (h : Full kv) (q : Nat) : (dget kv q).length = 64 := by
  unfold dget
  cases hg : aget kv (q : Int) with
  | none => simp [zero64]
  | some l => exact (h _ (aget_mem hg)).1
theorem aput_full {kv : Blks} (h : Full kv) (k : Int) {l : List UInt8} (hl : l.length = 64) (hk : 0 ≤ k ∧ k < 64) : Full (aput kv k l) := by
  induction kv with
  | nil => intro p hp; simp only [aput, List.mem_singleton] at hp; subst hp; exact ⟨hl, hk⟩
  | cons q r ih =>
    intro p hp
    unfold aput at hp
    split at hp
    · rename_i c
      rcases List.mem_cons.1 hp with rfl | hp
      · exact ⟨hl, by rw [← c]; exact hk⟩
      · exact h p (List.mem_cons_of_mem _ hp)
    · rcases List.mem_cons.1 hp with rfl | hp
      · exact h p (List.mem_cons_self ..)
      · exact ih (fun p hp => h p (List.mem_cons_of_mem _ hp)) p hp
theorem dput_full {kv : Blks} (h : Full kv) (i : Nat) (hi : i < 4096) (c : UInt8) : Full (dput kv i c) := aput_full h _ (by simp [dget_len h]) (by omega)
theorem dputs_full : ∀ (s : List UInt8) {kv : Blks} (i : Nat), i + s.length ≤ 4096 → Full kv → Full (dputs kv i s)
  | [], _, _, _, h => h
  | c :: s, kv, i, hi, h => by
    simp only [List.length_cons] at hi
    exact dputs_full s (i + 1) (by omega) (dput_full h i (by omega) c)

theorem blkC_len (l : List UInt8) : (blkC l).length = l.length := by simp [blkC]
theorem blkC_one (l : List UInt8) : ∀ v ∈ blkC l, v.oneCell' = true := by
  intro v hv
  obtain ⟨c, _, rfl⟩ := List.mem_map.1 hv
  rfl
theorem blkC_set (l : List UInt8) (r : Nat) (c : UInt8) : (blkC l).toArray.setIfInBounds r (.int .u8 c.toNat) = (blkC (l.set r c)).toArray := by
  simp [blkC, List.map_set]
theorem blkM_put (kv : Blks) (k : Int) (l : List UInt8) : aput (blkM kv) k (blkV l) = blkM (aput kv k l) := aput_map blkV kv k l
theorem un64 : ∃ d, Tryz.prog.underlying 194 = some d ∧ d.isRow = true := by
  refine ⟨_, Tryz.underlying194, rfl⟩
theorem info64 : (Tryz.prog.info? 194).map (·.size) = some 64 := by kernel_rfl
theorem zero_blk (w : World) : (zeroValue 194).run Tryz.prog w = .ok (blkV zero64) w := by kernel_rfl

/-- Data at block b. -/
structure DataAt (w : World) (b : Nat) (d : PData) (S : Nat → Prop) : Prop where
  at_ : ∃ mv T, w.heap[b]? = some (.cells #[.int .i64 d.size, mv] T (0, 0)) ∧ MapV w mv ik (blkM d.kv) ∧ ∀ r, mv = .map (some r) → S r
  own : S b
  lt : ∀ x, S x → x < w.heap.size
  small : d.size ≤ 4096
  full : Full d.kv
theorem DataAt.keep {S T : Nat → Prop} {w w' : World} {b : Nat} {d : PData} (h : DataAt w b d S) (c : Chg T w w') (hd : ∀ x, S x → ¬ T x) : DataAt w' b d S := by
  obtain ⟨⟨mv, E, h1, h2, h3⟩, h4, h5, h6, h7⟩ := h
  exact ⟨⟨mv, E, c.keep h1 (hd b h4), h2.keep c (fun r hr => hd r (h3 r hr)), h3⟩, h4, fun x hx => Nat.lt_of_lt_of_le (h5 x hx) c.size, h6, h7⟩

theorem law_blk : KeyFn Tryz.prog 3 ik := keyInt Tryz.underlying3
/-- The block that is to be laid, before it is laid. -/
theorem dw_mid {wr w1 : World} {b rm r : Nat} {o ob : Obj} {M : List (Int × Value)} {l : List UInt8} {c : UInt8} {T : TypeId} (hM : MapA wr rm ik M) (hC1 : Chg (· = wr.heap.size) (wr.alloc o) w1) (hb : w1.heap[b]? = some ob) (hbl : b < wr.heap.size)
    (hb1 : w1.heap[wr.heap.size]? = some (.cells (blkC l).toArray T (0, 0))) :
    (w1.setCell ⟨wr.heap.size, r, none⟩ (.int .u8 c.toNat)).heap[wr.heap.size]? = some (.cells (blkC (l.set r c)).toArray T (0, 0)) ∧ MapA (w1.setCell ⟨wr.heap.size, r, none⟩ (.int .u8 c.toNat)) rm ik M ∧
      (w1.setCell ⟨wr.heap.size, r, none⟩ (.int .u8 c.toNat)).heap[b]? = some ob ∧ Chg Nil wr (w1.setCell ⟨wr.heap.size, r, none⟩ (.int .u8 c.toNat)) := by
  have h1 := block_setCell hb1 r (.int .u8 c.toNat)
  rw [blkC_set] at h1
  have hml := hM.lt
  have hset : Chg (· = wr.heap.size) w1 (w1.setCell ⟨wr.heap.size, r, none⟩ (.int .u8 c.toNat)) := (Chg.refl (· = wr.heap.size) w1).setCell (p := ⟨wr.heap.size, r, none⟩) (.inr rfl) _
  have hC : Chg Nil wr (w1.setCell ⟨wr.heap.size, r, none⟩ (.int .u8 c.toNat)) := (((Chg.refl Nil wr).alloc o).trans hC1 (fun x hx e => by omega)).trans hset (fun x hx e => by omega)
  exact ⟨h1, hM.keep hC (fun f => f), hset.keep hb (by omega), hC⟩

theorem take_byte (s : ByteArray) (k : Nat) (h : k < s.size) : s.data.toList.take (k + 1) = s.data.toList.take k ++ [s[k]] := by
  rw [List.take_succ_eq_append_getElem (by simpa using h)]; rfl
/-- Behind k bytes of a write. -/
def RelW (kv : Blks) (p n : Nat) (s : List UInt8) (b rm sz : Nat) (T : TypeId) (S : Nat → Prop) (w : World) (i : Value) (wr : World) : Prop :=
  ∃ k : Nat, k ≤ n ∧ i = .int .i64 k ∧ Chg S w wr ∧ wr.heap[b]? = some (.cells #[.int .i64 sz, .map (some rm)] T (0, 0)) ∧ MapA wr rm ik (blkM (dputs kv p (s.take k)))
theorem relW_step {kv : Blks} {p k : Nat} {s : ByteArray} {b rm q r : Nat} {S : Nat → Prop} {w wr w3 W X : World} {kv' : Blks} {nl : List UInt8} {ob : Obj} (hk : k < s.size) (hCw : Chg S w wr) (hb : wr.heap[b]? = some ob) (hne : b ≠ rm) (hR : S rm ∨ w.heap.size ≤ rm)
    (hC2 : Chg Nil wr W) (hX : Chg (· = rm) W X) (hC3 : Chg (· = rm) X w3) (hA3 : MapA w3 rm ik (aput (blkM kv') q (blkV nl))) (hkv : kv' = dputs kv p (s.data.toList.take k)) (hnl : nl = (dget kv' q).set r s[k]) (hq : q = (p + k) / 64) (hr : r = (p + k) % 64) :
    Chg S w w3 ∧ w3.heap[b]? = some ob ∧ MapA w3 rm ik (blkM (dputs kv p (s.data.toList.take (k + 1)))) := by
  have hz := hCw.size
  have c1 := hX.then hC3
  have c2 : Chg (· = rm) wr w3 := (hC2.nil).then c1
  refine ⟨hCw.trans c2 (fun x hx e => by have : x = rm := e; subst this; rcases hR with h | h; exact h; omega), c2.keep hb hne, ?_⟩
  rw [take_byte s k hk, dputs_snoc kv p, ← hkv]
  rw [blkM_put] at hA3
  have hlen : (s.data.toList.take k).length = k := by
    rw [List.length_take, Array.length_toList]
    have : s.data.size = s.size := rfl
    omega
  rw [hlen]
  unfold dput
  rw [← hq, ← hr, ← hnl]
  exact hA3


def dWrite (d : PData) (p : Int) (s : ByteArray) : PData × Nat :=
  if p < 0 ∨ 4096 < p ∨ 4096 - p < s.size then (d, 2) else if s.size = 0 then (d, 0) else (⟨max d.size (p.toNat + s.size), dputs d.kv p.toNat s.data.toList⟩, 0)

theorem empty_of_size {s : ByteArray} (h : s.size = 0) : s = ⟨#[]⟩ := by
  obtain ⟨a⟩ := s
  have : a = #[] := Array.eq_empty_of_size_eq_zero h
  subst this; rfl
theorem isEmpty_of_size {s : ByteArray} (h : 0 < s.size) : s.toList.isEmpty = false := by
  cases hl : s.toList with
  | nil =>
    rw [ByteArray.toList_eq] at hl
    have h0 : s.data.size = 0 := by rw [← Array.length_toList, hl]; rfl
    have h1 : s.size = s.data.size := rfl
    omega
  | cons a l => rfl

/-- What the loop leaves, and the size stored. -/
theorem dw_done {w wr : World} {b rm n : Nat} {v : Int} {kv : Blks} {S : Nat → Prop} {T : TypeId} {z : Value} (hS : S b) (hlt : ∀ x, S x → x < w.heap.size) (hC : Chg S w wr) (hb : wr.heap[b]? = some (.cells #[z, .map (some rm)] T (0, 0)))
    (hM : MapA wr rm ik (blkM kv)) (hrm : S rm ∨ w.heap.size ≤ rm) (hv : v = n) (hsm : n ≤ 4096) (hf : Full kv) :
    Chg S w (wr.setCell ⟨b, 0, none⟩ (.int .i64 v)) ∧ ∃ S', DataAt (wr.setCell ⟨b, 0, none⟩ (.int .i64 v)) b ⟨n, kv⟩ S' ∧ Grow S S' w (wr.setCell ⟨b, 0, none⟩ (.int .i64 v)) := by
  subst hv
  have hbl := hlt b hS
  have hz := hC.size
  have hml := hM.lt
  have hne : rm ≠ b := fun e => by
    subst e
    obtain ⟨es, clock, h, _⟩ := hM
    rw [hb] at h; cases h
  have hb2 := block_setCell hb 0 (.int .i64 n)
  simp at hb2
  have hset : Chg (· = b) wr (wr.setCell ⟨b, 0, none⟩ (.int .i64 n)) := (Chg.refl (· = b) wr).setCell (p := ⟨b, 0, none⟩) (.inr rfl) _
  refine ⟨hC.setCell (.inr hS) _, fun x => S x ∨ x = rm, ⟨⟨_, T, hb2, .inr ⟨rm, rfl, hM.keep hset hne⟩, fun r hr => by cases hr; exact .inr rfl⟩, .inl hS, ?_, hsm, hf⟩, ?_⟩
  · rintro x (h | rfl)
    · have := hlt x h; simp; omega
    · have := hM.lt; simpa using this
  · rintro x (h | rfl)
    · exact .inl h
    · rcases hrm with h | h
      · exact .inl h
      · right; simp; omega

theorem b_ne {w : World} {b rm : Nat} {cs : Array Value} {T : TypeId} {f : Nat × Nat} {M : List (Int × Value)} (hb : w.heap[b]? = some (.cells cs T f)) (hM : MapA w rm ik M) : b ≠ rm := fun e => by
  subst e
  obtain ⟨es, clock, h, _⟩ := hM
  rw [hb] at h; cases h


/- Operations under a name of the caller's choice: min and max of two ints. Over any program. -/
section
variable {P : Program} {w : World} {ops : Array Oper} {rest : List Oper} {o : Oper} {a : Act} {Q : Exit → Act → World → Prop}
theorem wpList_maxI (hg : o.guard = none) (x y : Operand) (T : TypeId) (hop : o.op = .call { callee := .builtin .max, args := #[x, y], argTypes := #[T, T] }) (u v z : Int) (hx : a.eval x = .int .i64 u) (hy : a.eval y = .int .i64 v) (hz : z = max u v)
    (hK : wpList P ops Q rest (a.put o.dst (.int .i64 z)) w) : wpList P ops Q (o :: rest) a w := by
  refine wpList_plain hg fun K' hK' => ?_
  have e : (if v > u then v else u) = z := by rw [hz]; split <;> omega
  unfold Oper.wp
  simp [execOp, hop, resolve, invoke, builtin, hx, hy, Builtin.max_, Builtin.max2, Result.andThen, -gt_iff_lt]
  rw [e]
  exact hK' _ _ hK
theorem wpList_minI (hg : o.guard = none) (x y : Operand) (T : TypeId) (hop : o.op = .call { callee := .builtin .min, args := #[x, y], argTypes := #[T, T] }) (u v z : Int) (hx : a.eval x = .int .i64 u) (hy : a.eval y = .int .i64 v) (hz : z = min u v)
    (hK : wpList P ops Q rest (a.put o.dst (.int .i64 z)) w) : wpList P ops Q (o :: rest) a w := by
  refine wpList_plain hg fun K' hK' => ?_
  have e : (if v < u then v else u) = z := by rw [hz]; split <;> omega
  unfold Oper.wp
  simp [execOp, hop, resolve, invoke, builtin, hx, hy, Builtin.min_, Builtin.min2, Result.andThen]
  rw [e]
  exact hK' _ _ hK
end

/- package data: Read by contract. -/

def dbyte (kv : Blks) (j : Nat) : UInt8 := ((dget kv (j / 64))[j % 64]?).getD 0
def rdBytes (kv : Blks) (p m : Nat) : List UInt8 := (List.range m).map fun i => dbyte kv (p + i)
def manyOf (sz : Nat) (p n : Int) : Nat := (max 0 (min n (sz - p))).toNat
def dRead (d : PData) (p n : Int) : ByteArray × Bool × Nat :=
  if p < 0 ∨ n < 0 then (⟨#[]⟩, false, 2) else (⟨(rdBytes d.kv p.toNat (manyOf d.size p n)).toArray⟩, decide ((d.size : Int) - manyOf d.size p n ≤ p), 0)

theorem blkC_rep (m : Nat) : (blkC (List.replicate m 0)).toArray = Array.replicate m (.int .u8 0) := by
  simp [blkC]
theorem mk_bytes (w : World) (m : Nat) (hm : m ≤ 281474976710656) :
    (Instr.makeSlice 72 (.int .i64 (m : Int)) (.int .i64 (m : Int))).run Tryz.prog w = .ok (.slice (some ⟨w.heap.size, 0, none⟩) m m) (w.alloc (.cells (blkC (List.replicate m 0)).toArray 5)) := by
  obtain ⟨i, hi, hz0, hz1, hz2⟩ := info_parts (show (Tryz.prog.info? 5).map (fun i => (i.zero, i.size, i.bytes)) = some (some (.int .u8 0), 1, 1) by kernel_rfl)
  have h := run_make (P := Tryz.prog) w 72 5 i (.int .u8 0) Tryz.underlying72 hi hz0 .i64 .i64 m m (by omega) (by omega) (by rw [hz2]; omega) (by omega)
  rw [h]
  have e : madeCells (Value.cells (.int .u8 0)) ((m : Int).toNat * i.size) = (blkC (List.replicate m 0)).toArray := by
    rw [hz1, blkC_rep]
    apply Array.ext
    · simp [madeCells]
    · intro i h1 h2
      simp [madeCells, Value.cells, Nat.mod_one]
  rw [e]; simp
theorem rd_step (kv : Blks) (p m k : Nat) (hk : k < m) : (rdBytes kv p k ++ List.replicate (m - k) 0).set k (dbyte kv (p + k)) = rdBytes kv p (k + 1) ++ List.replicate (m - (k + 1)) 0 := by
  have hl : (rdBytes kv p k).length = k := by simp [rdBytes]
  obtain ⟨j, rfl⟩ : ∃ j, m = k + 1 + j := ⟨m - (k + 1), by omega⟩
  rw [show k + 1 + j - k = j + 1 by omega, show k + 1 + j - (k + 1) = j by omega, List.set_append_right _ _ (by omega), hl, Nat.sub_self]
  simp [rdBytes, List.range_succ, List.replicate_succ]

theorem dRead_empty_le (d : PData) (p n : Int) : manyOf d.size p n ≤ d.size ∨ p < 0 := by
  unfold manyOf; omega

/-- Behind m bytes of a read. -/
def RelR (kv : Blks) (p m : Nat) (w : World) (i : Value) (wr : World) : Prop :=
  ∃ k : Nat, k ≤ m ∧ i = .int .i64 k ∧ Chg Nil w wr ∧ wr.heap[w.heap.size]? = some (.cells (blkC (rdBytes kv p k ++ List.replicate (m - k) 0)).toArray 5 (0, 0))
theorem relR_step {kv : Blks} {p m k q r : Nat} {w wr w1 : World} {c : UInt8} {o : Obj} (hk : k < m) (hC : Chg Nil w wr) (hb : wr.heap[w.heap.size]? = some (.cells (blkC (rdBytes kv p k ++ List.replicate (m - k) 0)).toArray 5 (0, 0))) (hC1 : Chg (· = wr.heap.size) (wr.alloc o) w1)
    (hq : q = (p + k) / 64) (hr : r = (p + k) % 64) (hc : (dget kv q)[r]? = some c) :
    Chg Nil w (w1.setCell ⟨w.heap.size, k, none⟩ (.int .u8 c.toNat)) ∧ (w1.setCell ⟨w.heap.size, k, none⟩ (.int .u8 c.toNat)).heap[w.heap.size]? = some (.cells (blkC (rdBytes kv p (k + 1) ++ List.replicate (m - (k + 1)) 0)).toArray 5 (0, 0)) := by
  have hbl := lt_of_block hb
  have hz := hC.size
  have hb1 := hC1.keep (block_alloc_old hb o) (by omega)
  have h1 := block_setCell hb1 k (.int .u8 c.toNat)
  have e : c = dbyte kv (p + k) := by unfold dbyte; rw [← hq, ← hr, hc]; rfl
  rw [blkC_set, e, rd_step kv p m k hk, ← e] at h1
  have hset : Chg (· = w.heap.size) w1 (w1.setCell ⟨w.heap.size, k, none⟩ (.int .u8 c.toNat)) := (Chg.refl (· = w.heap.size) w1).setCell (p := ⟨w.heap.size, k, none⟩) (.inr rfl) _
  exact ⟨((hC.alloc o).trans hC1 (fun x hx e => by omega)).trans hset (fun x hx e => by omega), h1⟩


/- package data: Size by contract. -/


/- package data: Resize, Size by contract. -/

def zeros64 : Array Value := #[.int .u8 0, .int .u8 0, .int .u8 0, .int .u8 0, .int .u8 0, .int .u8 0, .int .u8 0, .int .u8 0, .int .u8 0, .int .u8 0, .int .u8 0, .int .u8 0, .int .u8 0, .int .u8 0, .int .u8 0, .int .u8 0, .int .u8 0, .int .u8 0, .int .u8 0, .int .u8 0, .int .u8 0, .int .u8 0, .int .u8 0, .int .u8 0, .int .u8 0, .int .u8 0, .int .u8 0, .int .u8 0, .int .u8 0, .int .u8 0, .int .u8 0, .int .u8 0, .int .u8 0, .int .u8 0, .int .u8 0, .int .u8 0, .int .u8 0, .int .u8 0, .int .u8 0, .int .u8 0, .int .u8 0, .int .u8 0, .int .u8 0, .int .u8 0, .int .u8 0, .int .u8 0, .int .u8 0, .int .u8 0, .int .u8 0, .int .u8 0, .int .u8 0, .int .u8 0, .int .u8 0, .int .u8 0, .int .u8 0, .int .u8 0, .int .u8 0, .int .u8 0, .int .u8 0, .int .u8 0, .int .u8 0, .int .u8 0, .int .u8 0, .int .u8 0]
theorem Chg.setCells {S : Nat → Prop} {a w : World} (h : Chg S a w) {b : Nat} (hp : a.heap.size ≤ b ∨ S b) (o : Nat) (vs : List Value) : Chg S a (w.setCells b o vs) :=
  h.trans (chg_setCells vs o w) (fun x hx e => by have : x = b := e; subst this; rcases hp with hp | hp; omega; exact hp)

/-! ### maps.DeleteFunc at this question -/
def cut1 (n : Int) (vis : Int → Bool) (kv : Blks) : Blks := kv.filter fun p => !(vis p.1 && decide (n ≤ p.1 * 64))
theorem cut1_none (n : Int) (kv : Blks) : cut1 n (fun _ => false) kv = kv := by simp [cut1]
theorem cut1_mem {n : Int} {vis : Int → Bool} {kv : Blks} {p : Int × List UInt8} (h : p ∈ cut1 n vis kv) : p ∈ kv := (List.mem_filter.1 h).1
theorem cut1_stay {n k : Int} {vis : Int → Bool} {kv : Blks} (h : ¬ n ≤ k * 64) : cut1 n (fun x => vis x || decide (x = k)) kv = cut1 n vis kv := by
  unfold cut1
  refine List.filter_congr (fun p _ => ?_)
  by_cases e : p.1 = k
  · simp [e, h]
  · simp [e]
theorem adel_filter {α β : Type} [DecidableEq α] (k : α) (P : α × β → Bool) : ∀ (kv : List (α × β)), (kv.map (·.1)).Nodup → adel (kv.filter P) k = kv.filter fun p => P p && !decide (p.1 = k)
  | [], _ => rfl
  | p :: r, h => by
    simp only [List.map_cons, List.nodup_cons] at h
    by_cases e : p.1 = k
    · have hr : ∀ q ∈ r, ¬ q.1 = k := fun q hq e2 => h.1 (by rw [e, ← e2]; exact List.mem_map.2 ⟨q, hq, rfl⟩)
      have h1 : r.filter (fun p => P p && !decide (p.1 = k)) = r.filter P := List.filter_congr (fun q hq => by simp [hr q hq])
      have h2 : adel (r.filter P) k = r.filter P := by
        have : ∀ l : List (α × β), (∀ q ∈ l, ¬ q.1 = k) → adel l k = l := by
          intro l
          induction l with
          | nil => intro _; rfl
          | cons q l ih =>
            intro hl
            unfold adel
            rw [if_neg (fun e => hl q (List.mem_cons_self ..) e.symm), ih (fun q hq => hl q (List.mem_cons_of_mem _ hq))]
        exact this _ (fun q hq => hr q ((List.mem_filter.1 hq).1))
      by_cases hp : P p = true
      · simp [List.filter_cons, hp, e, adel, h1]
      · simp [List.filter_cons, hp, e, h1, h2]
    · have e' : ¬ k = p.1 := fun x => e x.symm
      by_cases hp : P p = true
      · simp [List.filter_cons, hp, e, adel, e', adel_filter k P r h.2]
      · simp [List.filter_cons, hp, e, adel_filter k P r h.2]
theorem cut1_struck {n k : Int} {vis : Int → Bool} {kv : Blks} (h : n ≤ k * 64) (hk : vis k = false) (hd : (kv.map (·.1)).Nodup) : adel (cut1 n vis kv) k = cut1 n (fun x => vis x || decide (x = k)) kv := by
  unfold cut1
  rw [adel_filter k _ kv hd]
  refine List.filter_congr (fun p _ => ?_)
  by_cases e : p.1 = k
  · simp [e, h]
  · simp [e]
theorem cut1_all {n : Int} {vis : Int → Bool} {kv : Blks} (h : ∀ p ∈ cut1 n vis kv, vis p.1 = true) : cut1 n vis kv = kv.filter fun p => !decide (n ≤ p.1 * 64) := by
  unfold cut1 at *
  refine List.filter_congr (fun p hp => ?_)
  cases hv : vis p.1 with
  | true => simp
  | false =>
    have := h p (List.mem_filter.2 ⟨hp, by simp [hv]⟩)
    rw [hv] at this; cases this
theorem cut1_nodup {n : Int} {vis : Int → Bool} {kv : Blks} (hd : (kv.map (·.1)).Nodup) : ((cut1 n vis kv).map (·.1)).Nodup := (List.filter_sublist.map _).nodup hd
/-- How many are still to come. -/
def toCome (vis : Int → Bool) (kv : Blks) : Nat := (kv.filter fun p => !vis p.1).length
theorem toCome_lt {vis : Int → Bool} {k : Int} {l : List UInt8} : ∀ {kv : Blks}, (k, l) ∈ kv → vis k = false → toCome (fun x => vis x || decide (x = k)) kv < toCome vis kv
  | [], h, _ => by cases h
  | p :: r, h, hk => by
    have mono : ∀ kv : Blks, toCome (fun x => vis x || decide (x = k)) kv ≤ toCome vis kv := by
      intro kv
      unfold toCome
      rw [← List.countP_eq_length_filter, ← List.countP_eq_length_filter]
      exact List.countP_mono_left (fun p _ hp => by simp at hp ⊢; exact hp.1)
    rcases List.mem_cons.1 h with rfl | h
    · have := mono r
      simp only [toCome, List.filter_cons, hk, Bool.false_or, decide_true, Bool.not_true, Bool.not_false, if_true, Bool.false_eq_true, if_false, List.length_cons] at this ⊢
      omega
    · have := toCome_lt h hk
      unfold toCome at this ⊢
      simp only [List.filter_cons]
      cases hv : vis p.1 <;> by_cases e : p.1 = k <;> simp [e, hv] at this ⊢ <;> omega
theorem toCome_sub {vis : Int → Bool} {kv kv' : Blks} (h : kv'.Sublist kv) : toCome vis kv' ≤ toCome vis kv := (h.filter _).length_le

theorem cut1_sub {n k : Int} {vis : Int → Bool} {kv : Blks} : (cut1 n (fun x => vis x || decide (x = k)) kv).Sublist (cut1 n vis kv) := by
  have : cut1 n (fun x => vis x || decide (x = k)) kv = (cut1 n vis kv).filter (fun p => !(decide (p.1 = k) && decide (n ≤ p.1 * 64))) := by
    unfold cut1; rw [List.filter_filter]; refine List.filter_congr (fun p _ => ?_)
    show (!((vis p.1 || decide (p.1 = k)) && decide (n ≤ p.1 * 64))) = _
    cases vis p.1 <;> cases decide (p.1 = k) <;> cases decide (n ≤ p.1 * 64) <;> rfl
  rw [this]; exact List.filter_sublist

def RelD (kv : Blks) (n : Int) (rm r : Nat) (w : World) (g : Nat) (wr : World) : Prop :=
  ∃ vis, IterA wr rm r ik (blkM (cut1 n vis kv)) vis ∧ g = toCome vis (cut1 n vis kv) ∧ Chg (fun x => x = rm ∨ w.heap.size ≤ x) w wr
theorem blkM_nodup {w : World} {rm : Nat} {kv : Blks} (h : MapA w rm ik (blkM kv)) : (kv.map (·.1)).Nodup := by
  have := h.nodup
  simpa [blkM, List.map_map, Function.comp_def] using this
theorem blkM_mem {k : Int} {v : Value} {kv : Blks} (h : (k, v) ∈ blkM kv) : ∃ l, (k, l) ∈ kv ∧ v = blkV l := by
  obtain ⟨p, hp, e⟩ := List.mem_map.1 h
  simp only [Prod.mk.injEq] at e
  obtain ⟨rfl, rfl⟩ := e
  exact ⟨p.2, hp, rfl⟩

def dcut (kv : Blks) (n : Nat) : Blks := match aget kv ((n / 64 : Nat) : Int) with
  | none => kv
  | some l => aput kv ((n / 64 : Nat) : Int) (l.take (n % 64) ++ List.replicate (64 - n % 64) 0)
def dResize (d : PData) (n : Int) : PData × Nat :=
  if n < 0 ∨ 4096 < n then (d, 2) else if n < d.size then (⟨n.toNat, dcut (d.kv.filter fun p => !decide (n ≤ p.1 * 64)) n.toNat⟩, 0) else (⟨n.toNat, d.kv⟩, 0)
theorem zero_u8 (w : World) : (zeroValue 5).run Tryz.prog w = .ok (.int .u8 0) w := by kernel_rfl
theorem tail_slice (g r : Nat) (w : World) (hr : r < 64) : (Instr.sliceAt 194 (.pointer (some ⟨g, 0, none⟩)) (some (.int .i64 (r : Int))) none none).run Tryz.prog w = .ok (.slice (some ⟨g, r, none⟩) (64 - r) (64 - r)) w := by
  have hsz : (sizeOf 5).run Tryz.prog w = .ok 1 w := by kernel_rfl
  have hne : ¬ 64 = r := by omega
  simp [Instr.sliceAt, Instr.sliceBounds, run_underlying Tryz.underlying194, Instr.sureAddr, hsz, hne, Addr.add_lit, run_sliceBound (P := Tryz.prog) w .i64 (r : Int) 64 .sliceB (by omega) (by omega)]
theorem tail_clear (g r : Nat) (w : World) (cs : List Value) (hr : r < 64) (hb : w.heap[g]? = some (.cells cs.toArray 194 (0, 0))) (hl : cs.length = 64) (ty : TypeId) :
    (Builtin.clear_ #[72] ty #[.slice (some ⟨g, r, none⟩) (64 - r) (64 - r)]).run Tryz.prog w = .ok (.tuple #[]) (w.setCells g r (blkC (List.replicate (64 - r) 0))) := by
  have e : blkC (List.replicate (64 - r) 0) = List.replicate (64 - r) (.int .u8 0) := by simp [blkC]
  rw [e]
  exact Lib.run_clear_slice w 72 5 ty (.int .u8 0) Tryz.underlying72 zero_u8 rfl rfl g r (64 - r) (64 - r) (by omega) (fun j hj => by rw [cell_of hb]; simp [hl]; omega) (fun j hj => free_of hb _)

/-- The map's block, if there is one. -/
def InMap (mv : Value) : Nat → Prop := fun x => mv = .map (some x)
/-- What stands ahead of the question whether the last block is there. -/
structure Cutting (b n : Nat) (d : PData) (mv : Value) (T : TypeId) (S : Nat → Prop) (w w2 : World) (kv2 : Blks) : Prop where
  chg : Chg S w w2
  blk : w2.heap[b]? = some (.cells #[.int .i64 d.size, mv] T (0, 0))
  box : w2.heap[w.heap.size]? = some (.cells #[.int .i64 n] 3 (0, 0))
  map : MapV w2 mv ik (blkM kv2)
  full : Full kv2

theorem dw_doneV {w wr : World} {b n : Nat} {v : Int} {mv : Value} {kv : Blks} {S : Nat → Prop} {T : TypeId} {z : Value} (hS : S b) (hlt : ∀ x, S x → x < w.heap.size) (hmS : ∀ r, mv = .map (some r) → S r) (hC : Chg S w wr) (hb : wr.heap[b]? = some (.cells #[z, mv] T (0, 0)))
    (hM : MapV wr mv ik (blkM kv)) (hv : v = n) (hsm : n ≤ 4096) (hf : Full kv) :
    Chg S w (wr.setCell ⟨b, 0, none⟩ (.int .i64 v)) ∧ ∃ S', DataAt (wr.setCell ⟨b, 0, none⟩ (.int .i64 v)) b ⟨n, kv⟩ S' ∧ Grow S S' w (wr.setCell ⟨b, 0, none⟩ (.int .i64 v)) := by
  rcases hM with ⟨rfl, hkv⟩ | ⟨rm, rfl, hA⟩
  · subst hv
    have hb2 := block_setCell hb 0 (.int .i64 n)
    simp at hb2
    have hz := hC.size
    exact ⟨hC.setCell (.inr hS) _, S, ⟨⟨_, T, hb2, .inl ⟨rfl, hkv⟩, fun r h => by cases h⟩, hS, fun x hx => by have := hlt x hx; simp; omega, hsm, hf⟩, Grow.refl _ _ _⟩
  · exact dw_done hS hlt hC hb hA (.inl (hmS rm rfl)) hv hsm hf


/- The plain law of data: what stands at each place behind a write, a cut; what is read. No program in sight. -/

theorem aget_aput {α β : Type} [DecidableEq α] (k k' : α) (v : β) : ∀ (kv : List (α × β)), aget (aput kv k v) k' = if k' = k then some v else aget kv k'
  | [] => by simp [aput, aget]
  | p :: r => by
    unfold aput
    by_cases c : k = p.1
    · rw [if_pos c]
      unfold aget
      by_cases e : k' = p.1
      · simp [e, c]
      · have : ¬ k' = k := fun h => e (h.trans c)
        simp [e, this]
    · rw [if_neg c]
      unfold aget
      by_cases e : k' = p.1
      · have : ¬ p.1 = k := fun h => c h.symm
        simp [e, this]
      · simp [e, aget_aput k k' v r]
theorem aget_filter {α β : Type} [DecidableEq α] (k : α) (P : α → Bool) : ∀ (kv : List (α × β)), aget (kv.filter fun p => P p.1) k = if P k then aget kv k else none
  | [] => by simp [aget]
  | p :: r => by
    by_cases c : P p.1 = true
    · rw [List.filter_cons_of_pos (by simpa using c)]
      unfold aget
      by_cases e : k = p.1
      · simp [e, c]
      · simp [e, aget_filter k P r]
    · rw [List.filter_cons_of_neg (by simpa using c), aget_filter k P r]
      by_cases e : k = p.1
      · subst e; simp [c]
      · conv => rhs; unfold aget
        simp [e]

theorem dget_put (kv : Blks) (i : Nat) (c : UInt8) (q : Nat) : dget (dput kv i c) q = if q = i / 64 then (dget kv (i / 64)).set (i % 64) c else dget kv q := by
  unfold dput
  conv => lhs; unfold dget
  rw [aget_aput]
  by_cases h : q = i / 64
  · subst h; rw [if_pos rfl, if_pos rfl]; rfl
  · have : ¬ ((q : Int) = ((i / 64 : Nat) : Int)) := by omega
    rw [if_neg this, if_neg h]; rfl
theorem dbyte_put {kv : Blks} (h : Full kv) (i : Nat) (c : UInt8) (j : Nat) : dbyte (dput kv i c) j = if j = i then c else dbyte kv j := by
  unfold dbyte
  rw [dget_put]
  have hl := dget_len h (i / 64)
  by_cases e : j = i
  · subst e
    simp [hl, Nat.mod_lt]
  · rw [if_neg e]
    by_cases q : j / 64 = i / 64
    · have : ¬ i % 64 = j % 64 := by omega
      rw [if_pos q, q, List.getElem?_set_ne this]
    · rw [if_neg q]
theorem dbyte_puts : ∀ (s : List UInt8) {kv : Blks} (i : Nat), Full kv → i + s.length ≤ 4096 → ∀ j, dbyte (dputs kv i s) j = if i ≤ j ∧ j < i + s.length then (s[j - i]?).getD 0 else dbyte kv j
  | [], kv, i, h, _, j => by
    rw [if_neg (by simp only [List.length_nil]; omega)]; rfl
  | c :: s, kv, i, h, hl, j => by
    simp only [List.length_cons] at hl ⊢
    unfold dputs
    rw [dbyte_puts s (i + 1) (dput_full h i (by omega) c) (by omega) j, dbyte_put h]
    by_cases e : j = i
    · subst e
      rw [if_neg (by omega), if_pos rfl, if_pos (by omega)]; simp
    · by_cases e2 : i ≤ j ∧ j < i + (s.length + 1)
      · rw [if_pos (by omega), if_pos e2, show j - i = (j - (i + 1)) + 1 by omega]; rfl
      · rw [if_neg (by omega), if_neg e, if_neg e2]
theorem dbyte_cut {kv : Blks} (h : Full kv) (n j : Nat) : dbyte (dcut (kv.filter fun p => !decide ((n : Int) ≤ p.1 * 64)) n) j = if j < n then dbyte kv j else 0 := by
  have hf : ∀ q : Nat, aget (kv.filter fun p => !decide ((n : Int) ≤ p.1 * 64)) (q : Int) = if (n : Int) ≤ q * 64 then none else aget kv (q : Int) := fun q => by
    rw [aget_filter (q : Int) (fun k => !decide ((n : Int) ≤ k * 64)) kv]
    by_cases c : (n : Int) ≤ q * 64 <;> simp [c]
  have hz : ∀ r : Nat, (zero64[r]?).getD 0 = 0 := fun r => by
    unfold zero64; rw [List.getElem?_replicate]; split <;> rfl
  have hfb : ∀ i, dbyte (kv.filter fun p => !decide ((n : Int) ≤ p.1 * 64)) i = if n ≤ i / 64 * 64 then 0 else dbyte kv i := fun i => by
    unfold dbyte dget
    rw [hf]
    by_cases c : n ≤ i / 64 * 64
    · rw [if_pos (by omega), if_pos c]; exact hz _
    · rw [if_neg (by omega), if_neg c]
  unfold dcut
  have hf2 : aget (kv.filter fun p => !decide ((n : Int) ≤ p.1 * 64)) ((n / 64 : Nat) : Int) = if (n : Int) ≤ (n / 64 : Nat) * 64 then none else aget kv ((n / 64 : Nat) : Int) := hf (n / 64)
  cases hg : aget (kv.filter fun p => !decide ((n : Int) ≤ p.1 * 64)) ((n / 64 : Nat) : Int) with
  | none =>
    simp only [hfb]
    by_cases c : j < n
    · rw [if_neg (by omega), if_pos c]
    · rw [if_neg c]
      by_cases c2 : n ≤ j / 64 * 64
      · rw [if_pos c2]
      · rw [if_neg c2]
        have hq : j / 64 = n / 64 := by omega
        rw [hg] at hf2
        unfold dbyte dget
        rw [hq]
        by_cases c3 : (n : Int) ≤ ((n / 64 : Nat) : Int) * 64
        · exfalso; omega
        · rw [if_neg c3] at hf2
          rw [← hf2]; exact hz _
  | some l =>
    have hc3 : ¬ (n : Int) ≤ ((n / 64 : Nat) : Int) * 64 := fun c => by rw [if_pos c] at hf2; rw [hg] at hf2; cases hf2
    rw [if_neg hc3, hg] at hf2
    have hl : l.length = 64 := (h _ (aget_mem hf2.symm)).1
    show ((dget (aput (kv.filter fun p => !decide ((n : Int) ≤ p.1 * 64)) ((n / 64 : Nat) : Int) (l.take (n % 64) ++ List.replicate (64 - n % 64) 0)) (j / 64))[j % 64]?).getD 0 = _
    unfold dget
    rw [aget_aput]
    by_cases hq : j / 64 = n / 64
    · rw [if_pos (by omega)]
      simp only [Option.getD_some]
      by_cases c : j < n
      · rw [if_pos c, List.getElem?_append_left (by rw [List.length_take]; omega), List.getElem?_take, if_pos (by omega)]
        unfold dbyte dget
        rw [hq, ← hf2]; rfl
      · rw [if_neg c, List.getElem?_append_right (by rw [List.length_take]; omega), List.getElem?_replicate]
        split <;> rfl
    · rw [if_neg (by omega)]
      have := hfb j
      unfold dbyte dget at this
      rw [this]
      by_cases c : j < n
      · rw [if_neg (by omega), if_pos c]; rfl
      · rw [if_neg c, if_pos (by omega)]

/-! ### Files: data and what it holds -/
/-- The data d holds the bytes s, and nothing but noughts beyond. -/
structure Holds (d : PData) (s : List UInt8) : Prop where
  size : d.size = s.length
  bytes : ∀ j, dbyte d.kv j = (s[j]?).getD 0
  full : Full d.kv
  small : d.size ≤ 4096
theorem Holds.read {d : PData} {s : List UInt8} (h : Holds d s) (p m : Nat) (hm : p + m ≤ s.length) : rdBytes d.kv p m = (s.drop p).take m := by
  apply List.ext_getElem?
  intro i
  rw [List.getElem?_take]
  unfold rdBytes
  rw [List.getElem?_map, List.getElem?_drop]
  by_cases c : i < m
  · rw [List.getElem?_range c, if_pos c, Option.map_some, h.bytes, List.getElem?_eq_getElem (by omega)]; rfl
  · rw [if_neg c, List.getElem?_eq_none (by simpa using c)]; rfl
theorem holds_nil : Holds ⟨0, []⟩ [] where
  size := rfl
  bytes := fun j => by
    unfold dbyte dget aget
    simp only [Option.getD_none, List.getElem?_nil]
    unfold zero64; rw [List.getElem?_replicate]; split <;> rfl
  full := fun p h => by cases h
  small := Nat.zero_le _
/-- Behind a write. -/
def wroteL (s : List UInt8) (p : Nat) (t : List UInt8) : List UInt8 := (s ++ List.replicate (p - s.length) 0).take p ++ t ++ s.drop (p + t.length)
theorem wroteL_len (s : List UInt8) (p : Nat) (t : List UInt8) : (wroteL s p t).length = max s.length (p + t.length) := by
  simp [wroteL]; omega
theorem wroteL_get (s : List UInt8) (p : Nat) (t : List UInt8) (j : Nat) : ((wroteL s p t)[j]?).getD 0 = if p ≤ j ∧ j < p + t.length then (t[j - p]?).getD 0 else (s[j]?).getD 0 := by
  have hl : ((s ++ List.replicate (p - s.length) 0).take p).length = p := by simp; omega
  unfold wroteL
  rw [List.append_assoc]
  by_cases c : j < p
  · rw [List.getElem?_append_left (by omega), if_neg (by omega), List.getElem?_take, if_pos c]
    by_cases c2 : j < s.length
    · rw [List.getElem?_append_left c2]
    · rw [List.getElem?_append_right (by omega), List.getElem?_replicate, List.getElem?_eq_none (by omega)]
      split <;> rfl
  · rw [List.getElem?_append_right (by omega), hl]
    by_cases c2 : j < p + t.length
    · rw [List.getElem?_append_left (by omega), if_pos (by omega)]
    · rw [List.getElem?_append_right (by omega), if_neg (by omega), List.getElem?_drop, show p + t.length + (j - p - t.length) = j by omega]
theorem Holds.write {d : PData} {s : List UInt8} (h : Holds d s) (p : Nat) (t : ByteArray) (h1 : p ≤ 4096) (h2 : t.size ≤ 4096 - p) (h3 : 0 < t.size) : (dWrite d p t).2 = 0 ∧ Holds (dWrite d p t).1 (wroteL s p t.data.toList) := by
  have hl : t.data.toList.length = t.size := Array.length_toList
  have e : dWrite d p t = (⟨max d.size (p + t.size), dputs d.kv p t.data.toList⟩, 0) := by rw [dWrite, if_neg (by omega), if_neg (by omega)]; rfl
  rw [e]
  refine ⟨rfl, by rw [wroteL_len, hl, h.size], fun j => ?_, dputs_full _ _ (by rw [hl]; omega) h.full, by have := h.small; simp only; omega⟩
  show dbyte (dputs d.kv p t.data.toList) j = _
  rw [dbyte_puts _ _ h.full (by rw [hl]; omega), wroteL_get, h.bytes]
/-- Behind another size. -/
def sizedL (s : List UInt8) (n : Nat) : List UInt8 := s.take n ++ List.replicate (n - s.length) 0
theorem sizedL_len (s : List UInt8) (n : Nat) : (sizedL s n).length = n := by simp [sizedL]; omega
theorem sizedL_get (s : List UInt8) (n j : Nat) : ((sizedL s n)[j]?).getD 0 = if j < n then (s[j]?).getD 0 else 0 := by
  unfold sizedL
  by_cases c : j < (s.take n).length
  · rw [List.getElem?_append_left c, List.getElem?_take]
    simp only [List.length_take] at c
    rw [if_pos (by omega), if_pos (by omega)]
  · simp only [List.length_take] at c
    rw [List.getElem?_append_right (by simp; omega), List.getElem?_replicate]
    by_cases c2 : j < n
    · rw [if_pos c2, List.getElem?_eq_none (by omega)]; split <;> rfl
    · rw [if_neg c2]; split <;> rfl
theorem Holds.resize {d : PData} {s : List UInt8} (h : Holds d s) (n : Nat) (h1 : n ≤ 4096) : (dResize d n).2 = 0 ∧ Holds (dResize d n).1 (sizedL s n) := by
  by_cases c : n < d.size
  · have e : dResize d n = (⟨n, dcut (d.kv.filter fun p => !decide ((n : Int) ≤ p.1 * 64)) n⟩, 0) := by rw [dResize, if_neg (by omega), if_pos (by omega)]; simp
    rw [e]
    refine ⟨rfl, (sizedL_len s n).symm, fun j => ?_, ?_, h1⟩
    · show dbyte (dcut (d.kv.filter fun p => !decide ((n : Int) ≤ p.1 * 64)) n) j = _
      rw [dbyte_cut h.full, sizedL_get, h.bytes]
    · show Full (dcut _ n)
      have hf : Full (d.kv.filter fun p => !decide ((n : Int) ≤ p.1 * 64)) := fun p hp => h.full p (List.mem_filter.1 hp).1
      unfold dcut
      split
      · exact hf
      · rename_i l hg
        have hl := (hf _ (aget_mem hg)).1
        simp only at hl
        exact aput_full hf _ (by simp [hl]; omega) (by have := h.small; omega)
  · have e : dResize d n = (⟨n, d.kv⟩, 0) := by rw [dResize, if_neg (by omega), if_neg (by omega)]; simp
    rw [e]
    refine ⟨rfl, (sizedL_len s n).symm, fun j => ?_, h.full, h1⟩
    show dbyte d.kv j = _
    rw [h.bytes, sizedL_get]
    by_cases c2 : j < n
    · rw [if_pos c2]
    · rw [if_neg c2, List.getElem?_eq_none (by have := h.size; omega)]; rfl

/- package data: Blocks by contract; the closed fact 'one' of package pigeonholeslaw1. -/

theorem dataAt_new (w : World) (T : TypeId) : DataAt (w.alloc (.cells #[.int .i64 0, .map none] T)) w.heap.size ⟨0, []⟩ (· = w.heap.size) :=
  ⟨⟨.map none, T, block_alloc _ _, .inl ⟨rfl, rfl⟩, fun r h => (by cases h)⟩, rfl, fun x e => (by subst e; simp), Nat.zero_le _, fun p h => (by cases h)⟩

def oneD : PData := (dWrite ⟨0, []⟩ 1 ⟨#[120]⟩).1


/- The walk of law DataKeeps. -/

/-- Behind a write of any length. -/
def wrote (s : List UInt8) (p : Nat) (t : ByteArray) : List UInt8 := if t.size = 0 then s else wroteL s p t.data.toList
theorem Holds.write' {d : PData} {s : List UInt8} (h : Holds d s) (p : Nat) (t : ByteArray) (h1 : p ≤ 4096) (h2 : t.size ≤ 4096 - p) : (dWrite d p t).2 = 0 ∧ Holds (dWrite d p t).1 (wrote s p t) := by
  unfold wrote
  by_cases c : t.size = 0
  · have e : dWrite d p t = (d, 0) := by rw [dWrite, if_neg (by omega), if_pos c]
    rw [e, if_pos c]; exact ⟨rfl, h⟩
  · rw [if_neg c]; exact h.write p t h1 h2 (by omega)
theorem wrote_len (s : List UInt8) (p : Nat) (t : ByteArray) : (wrote s p t).length = if t.size = 0 then s.length else max s.length (p + t.size) := by
  unfold wrote
  have hl : t.data.toList.length = t.size := Array.length_toList
  split
  · rfl
  · rw [wroteL_len, hl]
theorem wrote_get (s : List UInt8) (p : Nat) (t : ByteArray) (j : Nat) : ((wrote s p t)[j]?).getD 0 = if p ≤ j ∧ j < p + t.size then (t.data.toList[j - p]?).getD 0 else (s[j]?).getD 0 := by
  unfold wrote
  have hl : t.data.toList.length = t.size := Array.length_toList
  split
  · rw [if_neg (by omega)]
  · rw [wroteL_get, hl]
theorem Holds.dRead {d : PData} {s : List UInt8} (h : Holds d s) (p n : Nat) (hp : n = 0 ∨ p + n ≤ s.length) : ∃ e, dRead d p n = (⟨((s.drop p).take n).toArray⟩, e, 0) := by
  have hm : manyOf d.size p n = n := by unfold manyOf; have := h.size; omega
  refine ⟨decide ((d.size : Int) - n ≤ p), ?_⟩
  unfold Go.Proofs.YtemnibnlgimpkaaGreatDoor.dRead
  rw [if_neg (by omega), hm]
  have : rdBytes d.kv ((p : Int).toNat) n = (s.drop p).take n := by
    rcases hp with hp | hp
    · subst hp; simp [rdBytes]
    · rw [Int.toNat_natCast]; exact h.read p n hp
  rw [this]
theorem Holds.whole {d : PData} {s : List UInt8} (h : Holds d s) (n : Nat) (hn : s.length ≤ n) : Go.Proofs.YtemnibnlgimpkaaGreatDoor.dRead d 0 n = (⟨s.toArray⟩, true, 0) := by
  have hm : manyOf d.size 0 n = s.length := by unfold manyOf; have := h.size; omega
  unfold Go.Proofs.YtemnibnlgimpkaaGreatDoor.dRead
  rw [if_neg (by omega), hm]
  have : rdBytes d.kv ((0 : Int).toNat) s.length = s := by
    have := h.read 0 s.length (by omega)
    simpa using this
  rw [this, h.size]; simp
theorem wrote_self (s : List UInt8) (p : Nat) (t : ByteArray) (hp : t.size = 0 ∨ p + t.size ≤ (wrote s p t).length) : (⟨(((wrote s p t).drop p).take t.size).toArray⟩ : ByteArray) = t := by
  have hl : t.data.toList.length = t.size := Array.length_toList
  have key : ((wrote s p t).drop p).take t.size = t.data.toList := by
    apply List.ext_getElem?
    intro i
    rw [List.getElem?_take]
    by_cases c : i < t.size
    · rw [if_pos c, List.getElem?_drop]
      have h1 := wrote_get s p t (p + i)
      rw [if_pos (by omega), Nat.add_sub_cancel_left] at h1
      have h2 : p + i < (wrote s p t).length := by omega
      rw [List.getElem?_eq_getElem h2, List.getElem?_eq_getElem (show i < t.data.toList.length by omega)] at h1
      rw [List.getElem?_eq_getElem h2, List.getElem?_eq_getElem (show i < t.data.toList.length by omega)]
      simpa using h1
    · rw [if_neg c, List.getElem?_eq_none (by omega)]
  rw [key]
/-- A byte of a text by its list. -/
theorem byte_of (l : List UInt8) (k : Nat) (t : ByteArray) (ht : t = ⟨l.toArray⟩) (h : k < t.size) : t[k] = (l[k]?).getD 0 := by
  subst ht
  have h' : k < l.length := by simpa [ByteArray.size] using h
  rw [List.getElem?_eq_getElem h']
  rfl
theorem byte_list (t : ByteArray) (k : Nat) (h : k < t.size) : t[k] = (t.data.toList[k]?).getD 0 := byte_of _ k t (by simp) h
theorem u8_eq {x y : UInt8} (h : x = y) : (((x.toNat : Nat) : Int) != ((y.toNat : Nat) : Int)) = false := by subst h; simp

/-- A loop that only reads. -/
def RelI (n : Nat) (w : World) (i : Value) (wr : World) : Prop := ∃ k : Nat, k ≤ n ∧ i = .int .i64 k ∧ Chg Nil w wr


/- pigeonholesref1: Zeros, and Bytes.Write, Read, Resize, Blocks by contracts over the text that is held and the list of holes. -/

def zerosB (n : Nat) : ByteArray := ⟨(List.replicate n (0 : UInt8)).toArray⟩
theorem zerosB_size (n : Nat) : (zerosB n).size = n := by simp [zerosB, ByteArray.size]

/-! ### The reference's file -/
def holeC (b : Bool) : List Value := [.bool b]
theorem holeC_len (b : Bool) : (holeC b).length = 1 := rfl
theorem info_bool : (Tryz.prog.info? 4).map (fun i => (i.zero, i.size, i.bytes)) = some (some (.bool false), 1, 1) := by kernel_rfl
structure BytesAt (w : World) (b : Nat) (s : ByteArray) (h : List Bool) (S : Nat → Prop) : Prop where
  at_ : ∃ v T Ss, w.heap[b]? = some (.cells #[.string s, v] T (0, 0)) ∧ SliceAt w v 4 1 h.length (h.flatMap holeC) Ss ∧ ¬ Ss b ∧ ∀ x, Ss x → S x
  own : S b
  lt : ∀ x, S x → x < w.heap.size
  small : s.size ≤ 4096
  few : h.length ≤ 64
theorem BytesAt.keep {S T : Nat → Prop} {w w' : World} {b : Nat} {s : ByteArray} {h : List Bool} (ht : BytesAt w b s h S) (c : Chg T w w') (hd : ∀ x, S x → ¬ T x) : BytesAt w' b s h S := by
  obtain ⟨⟨v, E, Ss, h1, h2, h3, h6⟩, h4, h5, h7, h8⟩ := ht
  exact ⟨⟨v, E, Ss, c.keep h1 (hd b h4), h2.keep c (fun x hx => hd x (h6 x hx)), h3, h6⟩, h4, fun x hx => Nat.lt_of_lt_of_le (h5 x hx) c.size, h7, h8⟩
def markH (h : List Bool) (k : Nat) : List Bool := (h ++ List.replicate (k + 1 - h.length) true).set k false
def marks (h : List Bool) (k : Nat) : Nat → List Bool
  | 0 => h
  | j + 1 => markH (marks h k j) (k + j)
theorem markH_len (h : List Bool) (k : Nat) : (markH h k).length = max h.length (k + 1) := by simp [markH]; omega
theorem marks_len (h : List Bool) (k : Nat) : ∀ j, (marks h k j).length ≤ max h.length (k + j)
  | 0 => by simp [marks]; omega
  | j + 1 => by
    have := marks_len h k j
    simp only [marks, markH_len]; omega
def BytesPost (S : Nat → Prop) (w : World) (b : Nat) (s : ByteArray) (h : List Bool) (w' : World) : Prop := Chg S w w' ∧ ∃ S', BytesAt w' b s h S' ∧ Grow S S' w w'
theorem bytes_same {S : Nat → Prop} {w : World} {b : Nat} {s : ByteArray} {h : List Bool} (ht : BytesAt w b s h S) : BytesPost S w b s h w := ⟨Chg.refl _ _, S, ht, Grow.refl _ _ _⟩
theorem BytesPost.trans {S : Nat → Prop} {w w1 w2 : World} {b : Nat} {s s' : ByteArray} {h h' : List Bool} (hS : ∀ x, S x → x < w.heap.size) (p : BytesPost S w b s h w1) (q : ∀ S1, BytesAt w1 b s h S1 → BytesPost S1 w1 b s' h' w2) : BytesPost S w b s' h' w2 := by
  obtain ⟨c1, S1, a1, g1⟩ := p
  obtain ⟨c2, S2, a2, g2⟩ := q S1 a1
  have hz := c1.size
  have hz2 := c2.size
  refine ⟨c1.trans c2 (fun x hx h => by rcases g1 x h with h | h; exact h; omega), S2, a2, fun x hx => ?_⟩
  rcases g2 x hx with h | h
  · rcases g1 x h with h | h
    · exact .inl h
    · exact .inr ⟨h.1, by omega⟩
  · exact .inr ⟨by omega, h.2⟩
/-- The text stored anew. -/
theorem bytes_text {S : Nat → Prop} {w w1 : World} {b : Nat} {s s' : ByteArray} {h : List Bool} (ht : BytesAt w b s h S) (hc : Chg Nil w w1) (hs : s'.size ≤ 4096) : BytesPost S w b s' h (w1.setCell ⟨b, 0, none⟩ (.string s')) := by
  obtain ⟨⟨v, T, Ss, hb, hsl, hnb, hsub⟩, hS, hlt, _, hf⟩ := ht
  have hz := hc.size
  have hb2 := block_setCell (hc.keep hb (fun f => f)) 0 (.string s')
  simp at hb2
  refine ⟨hc.nil.setCell (.inr hS) _, S, ⟨⟨v, T, Ss, hb2, (hsl.keep hc (fun _ _ f => f)).keep ((Chg.refl (· = b) w1).setCell (p := ⟨b, 0, none⟩) (.inr rfl) _) (fun x hx e => hnb (by have : x = b := e; subst this; exact hx)), hnb, hsub⟩, hS, fun x hx => by have := hlt x hx; simp; omega, hs, hf⟩, Grow.refl _ _ _⟩

def lenOf : Value → Nat
  | .slice _ n _ => n
  | _ => 0
/-- The list of holes being made longer. -/
def RelP (h : List Bool) (b k : Nat) (o : Obj) (Ss : Nat → Prop) (w : World) (v : Value) (wr : World) : Prop :=
  ∃ m S9, (m = 0 ∨ h.length + m ≤ k + 1) ∧ SliceAt wr v 4 1 (h.length + m) ((h ++ List.replicate m true).flatMap holeC) S9 ∧ (∀ x, S9 x → Ss x ∨ (w.heap.size ≤ x ∧ x < wr.heap.size)) ∧ Chg Ss w wr ∧ wr.heap[b]? = some o
def RelM (s : ByteArray) (h : List Bool) (b k n : Nat) (S : Nat → Prop) (w : World) (i : Value) (wr : World) : Prop :=
  ∃ j : Nat, j ≤ n ∧ i = .int .i64 ((k + j : Nat) : Int) ∧ BytesPost S w b s (marks h k j) wr
theorem relP_step {h : List Bool} {b k m : Nat} {o o' : Obj} {Ss S9 S' : Nat → Prop} {w wr w2 : World} {v2 : Value} (hm : h.length + m ≤ k) (h9 : ∀ x, S9 x → Ss x ∨ (w.heap.size ≤ x ∧ x < wr.heap.size)) (hC : Chg Ss w wr) (hb : wr.heap[b]? = some o) (hnb : ¬ Ss b) (hbl : b < w.heap.size)
    (hs2 : SliceAt w2 v2 4 1 (h.length + m + 1) ((h ++ List.replicate m true).flatMap holeC ++ holeC true) S') (hc2 : Chg S9 (wr.alloc o') w2) (hg : Grow S9 S' (wr.alloc o') w2) : RelP h b k o Ss w v2 w2 := by
  have hz := hC.size
  have hz2 := hc2.size
  simp at hz2
  refine ⟨m + 1, S', .inr (by omega), ?_, fun x hx => ?_, ?_, ?_⟩
  · have : (h ++ List.replicate (m + 1) true).flatMap holeC = (h ++ List.replicate m true).flatMap holeC ++ holeC true := by
      rw [List.replicate_succ', ← List.append_assoc, List.flatMap_append]; simp
    rw [this]; exact hs2
  · rcases hg x hx with h | h
    · rcases h9 x h with h | h
      · exact .inl h
      · exact .inr ⟨h.1, by omega⟩
    · simp at h; exact .inr ⟨by omega, h.2⟩
  · exact (hC.alloc _).trans hc2 (fun x hx h => by rcases h9 x h with h | h; exact h; omega)
  · refine hc2.keep (block_alloc_old hb _) (fun h => ?_)
    rcases h9 b h with h | h
    · exact hnb h
    · omega
/-- A hole struck out, and the list stored back. -/
theorem bytes_mark {S Ss S9 : Nat → Prop} {w wr : World} {b k g off cap n : Nat} {s : ByteArray} {h L : List Bool} {T : TypeId} {old : Value} (hS : S b) (hlt : ∀ x, S x → x < w.heap.size) (hsub : ∀ x, Ss x → S x) (hnb : ¬ Ss b) (hsm : s.size ≤ 4096) (hk : k < 64) (hf : h.length ≤ 64)
    (hL : L = h ++ List.replicate (k + 1 - h.length) true) (hn : n = L.length) (hs : SliceAt wr (.slice (some ⟨g, off, none⟩) n cap) 4 1 n (L.flatMap holeC) S9) (h9 : ∀ x, S9 x → Ss x ∨ (w.heap.size ≤ x ∧ x < wr.heap.size)) (hC : Chg Ss w wr)
    (hb : wr.heap[b]? = some (.cells #[.string s, old] T (0, 0))) : BytesPost S w b s (markH h k) ((wr.setCell ⟨g, off + k, none⟩ (.bool false)).setCell ⟨b, 1, none⟩ (.slice (some ⟨g, off, none⟩) n cap)) := by
  have hbl := hlt b hS
  have hz := hC.size
  have hkL : k < L.length := by rw [hL]; simp; omega
  have hg9 : S9 g := by
    obtain ⟨_, _, _, _, e, _, _, _, _, _, h, _⟩ := hs.place (by omega)
    cases e; exact h
  have hgb : g ≠ b := fun e => by
    subst e
    rcases h9 g hg9 with h | h
    · exact hnb h
    · omega
  have hset := hs.setElem holeC_len hkL false
  have e1 : wr.setCells g (off + k * 1) (holeC false) = wr.setCell ⟨g, off + k, none⟩ (.bool false) := by rw [Nat.mul_one]; rfl
  rw [e1] at hset
  have c1 : Chg (· = g) wr (wr.setCell ⟨g, off + k, none⟩ (.bool false)) := (Chg.refl (· = g) wr).setCell (p := ⟨g, off + k, none⟩) (.inr rfl) _
  have hb2 := c1.keep hb (fun e => hgb e.symm)
  have hb3 := block_setCell hb2 1 (.slice (some ⟨g, off, none⟩) n cap)
  simp at hb3
  have c2 : Chg (· = b) (wr.setCell ⟨g, off + k, none⟩ (.bool false)) ((wr.setCell ⟨g, off + k, none⟩ (.bool false)).setCell ⟨b, 1, none⟩ (.slice (some ⟨g, off, none⟩) n cap)) := (Chg.refl (· = b) _).setCell (p := ⟨b, 1, none⟩) (.inr rfl) _
  have hn9 : ¬ S9 b := fun h => by
    rcases h9 b h with h | h
    · exact hnb h
    · omega
  have hm : markH h k = L.set k false := by rw [hL]; rfl
  have hlen : n = (markH h k).length := by rw [hn, hm, List.length_set]
  have hset2 := hset.keep c2 (fun x hx e => hn9 (by have : x = b := e; subst this; exact hx))
  rw [← hm] at hset2
  refine ⟨?_, fun x => S x ∨ S9 x, ⟨⟨_, T, S9, hb3, by rw [hlen] at hset2 ⊢; exact hset2, hn9, fun x h => .inr h⟩, .inl hS, ?_, hsm, by rw [markH_len]; omega⟩, ?_⟩
  · refine ((hC.mono (fun x _ h => hsub x h)).trans c1 (fun x hx e => ?_)).setCell (.inr hS) _
    have : x = g := e
    subst this
    rcases h9 x hg9 with h | h
    · exact hsub x h
    · omega
  · rintro x (h | h)
    · have := hlt x h; simp; omega
    · rcases h9 x h with h | h
      · have := hlt x (hsub x h); simp; omega
      · simp; omega
  · rintro x (h | h)
    · exact .inl h
    · rcases h9 x h with h | h
      · exact .inl (hsub x h)
      · right; simp; omega

/-! ### Texts cut and joined -/
theorem ba_ext {a b : ByteArray} (h : a.data.toList = b.data.toList) : a = b := by
  obtain ⟨⟨x⟩⟩ := a
  obtain ⟨⟨y⟩⟩ := b
  simp only at h
  subst h; rfl
theorem app_list (a b : ByteArray) : (a ++ b).data.toList = a.data.toList ++ b.data.toList := by simp
theorem ext_list (a : ByteArray) (i j : Nat) : (a.extract i j).data.toList = (a.data.toList.take j).drop i := by simp [List.drop_take]


end Go.Proofs.YtemnibnlgimpkaaGreatDoor
