/- The errors of package api by number: where they lie, what a walk may know of them; out of what a row lists. -/
import Derived.Test.YtgebinfbbopnlaaDoorBase
import Derived.LaidLaws
import Derived.LaidHandle
import Derived.FnData
namespace Go.Proofs.YtgebinfbbopnlaaDoor
open Go.RowKit
set_option linter.unusedVariables false
set_option linter.unusedSimpArgs false

/-- The variable of error number c. -/
def gl : Nat → Nat
  | 1 => 5
  | 2 => 0
  | 3 => 1
  | 4 => 6
  | 5 => 7
  | 6 => 8
  | 7 => 9
  | 8 => 3
  | 9 => 2
  | 10 => 10
  | 11 => 4
  | 12 => 11
  | 13 => 12
  | 14 => 13
  | 15 => 14
  | _ => 0

/-- The value of error number c (0: nil); ad: where the errors lie. -/
def errV (ad : Nat → Addr) (c : Nat) : Value := if c = 0 then .nilIface else .iface 187 (.pointer (some (ad c)))
theorem errV_pos {ad : Nat → Addr} {c : Nat} (h : c ≠ 0) : errV ad c = .iface 187 (.pointer (some (ad c))) := if_neg h
theorem errV_zero {ad : Nat → Addr} : errV ad 0 = .nilIface := rfl

/-- The errors cs as they lie below block B. -/
structure Env (B : Nat) (ad : Nat → Addr) (cs : List Nat) (w : World) : Prop where
  size : B ≤ w.heap.size
  glob : ∀ c ∈ cs, w.cell? ⟨gl c, 0, none⟩ = some (.iface 187 (.pointer (some (ad c)))) ∧ gl c < B
  row : ∀ c ∈ cs, (∃ s, w.cell? (ad c) = some (.string s)) ∧ (∃ x t, w.heap[(ad c).block]? = some (.cells x t (0, 0))) ∧ (ad c).block < B
  dist : ∀ c ∈ cs, ∀ d ∈ cs, c ≠ d → ad c ≠ ad d

theorem Env.keep {B : Nat} {ad : Nat → Addr} {cs : List Nat} {S : Nat → Prop} {w w' : World} (h : Env B ad cs w) (c : Chg S w w') (hS : ∀ x, S x → B ≤ x) : Env B ad cs w' := by
  obtain ⟨h1, h2, h3, h4⟩ := h
  refine ⟨Nat.le_trans h1 c.size, fun x hx => ?_, fun x hx => ?_, h4⟩
  · obtain ⟨a, b⟩ := h2 x hx
    exact ⟨(c.cell (p := ⟨gl x, 0, none⟩) (Nat.lt_of_lt_of_le b h1) (fun s => by have := hS _ s; simp at this; omega)).trans a, b⟩
  · obtain ⟨⟨s, a⟩, ⟨y, t, b⟩, d⟩ := h3 x hx
    exact ⟨⟨s, (c.cell (Nat.lt_of_lt_of_le d h1) (fun s => by have := hS _ s; omega)).trans a⟩, ⟨y, t, c.keep b (fun s => by have := hS _ s; omega)⟩, d⟩
theorem Env.keepN {B : Nat} {ad : Nat → Addr} {cs : List Nat} {w w' : World} (h : Env B ad cs w) (c : Chg Nil w w') : Env B ad cs w' := h.keep c (fun _ f => f.elim)
theorem Env.alloc {B : Nat} {ad : Nat → Addr} {cs : List Nat} {w : World} (h : Env B ad cs w) (o : Obj) : Env B ad cs (w.alloc o) := h.keepN ((Chg.refl Nil w).alloc o)
theorem Env.sub {B : Nat} {ad : Nat → Addr} {cs ds : List Nat} {w : World} (h : Env B ad cs w) (hd : ∀ c ∈ ds, c ∈ cs) : Env B ad ds w :=
  ⟨h.size, fun c hc => h.glob c (hd c hc), fun c hc => h.row c (hd c hc), fun c hc d hd' => h.dist c (hd c hc) d (hd d hd')⟩
theorem Env.get {B : Nat} {ad : Nat → Addr} {cs : List Nat} {w : World} (h : Env B ad cs w) {c : Nat} (hc : c ∈ cs) : w.cell? ⟨gl c, 0, none⟩ = some (.iface 187 (.pointer (some (ad c)))) ∧ gl c < w.heap.size :=
  ⟨(h.glob c hc).1, Nat.lt_of_lt_of_le (h.glob c hc).2 h.size⟩

/-! ### Out of what a row lists -/
def sentD {H : Type} (text : List UInt8) : DataW H := .iface "*errors.errorString" (.ptr (.agg [.lit (.string text)]))
theorem star_err : "*errors.errorString" = "*" ++ "errors.errorString" := by decide
theorem typeName_err (u : TypeId) (h : Tryd.prog.typeName? 3 u = some "*errors.errorString") : u = 187 :=
  typeName_ptr_named (nm := "errors.errorString") (by rw [← star_err]; kernel_rfl) (by kernel_rfl) (by decide) u (by rw [← star_err]; exact h)
theorem cells_str : Tryd.prog.cellsOf 9 = 1 := by kernel_rfl
theorem cells_errStr : Tryd.prog.cellsOf 207 = 1 := by kernel_rfl

def errType (x : String) : Prop := ∀ g, Tryd.prog.globalNamed x = some g → (Tryd.prog.globals[g]?).map (·.type) = some 26
set_option maxRecDepth 100000 in
theorem sents_of_laid {W : World} : ∀ (l : List (String × List UInt8)) (ps : List MemPlace),
    DataW.LaidVars Tryd.prog W (l.map fun x => (x.1, sentD x.2)) ps → ps.Nodup →
    (∀ b off, MemPlace.cell b off ∈ ps → (∃ c t, W.heap[b]? = some (.cells c t (0, 0))) ∧ ∀ u v, W.cell? ⟨b, off, none⟩ = some (.iface u v) → Value.okWide Tryd.prog W .any 0 u v) →
    (∀ x ∈ l, errType x.1) →
    ∃ ads : List Addr, ads.length = l.length ∧ ads.Nodup ∧ (∀ a ∈ ads, MemPlace.cell a.block a.off ∈ ps ∧ a.spot = none) ∧
      ∀ (i : Nat) x a, l[i]? = some x → ads[i]? = some a → W.var? Tryd.prog x.1 = some #[.iface 187 (.pointer (some a))] ∧ (∃ s : ByteArray, W.cell? a = some (.string s) ∧ s.data.toList = x.2) ∧ ∃ c t, W.heap[a.block]? = some (.cells c t (0, 0))
  | [], ps, h, _, _, _ => ⟨[], rfl, List.nodup_nil, fun a h => (by cases h), fun i x a h => (by cases h)⟩
  | (n, text) :: l, ps, h, hnd, hrows, hty => by
    obtain ⟨g, t, cs, fuel, p, q, hg, ht, hv, hd, hr, e⟩ := h
    subst e
    have ht' := hty (n, text) (List.mem_cons_self ..) g hg
    obtain rfl := Option.some.inj (ht'.symm.trans ht)
    obtain ⟨l0⟩ := cs
    have ok0 : ∀ u v, l0 = [.iface u v] → Value.okWide Tryd.prog W .any 0 u v := fun u v e => by
      subst e
      exact (hrows g 0 (by simp [MemPlace.row])).2 u v (by simpa using World.var?_cell hg hv 0)
    obtain ⟨a, s, rfl, hc0, hs0, hz0, rfl⟩ := errorString_of_trod Tryd.underlying26 typeName_err Tryd.underlying187 Tryd.underlying207 rfl rfl Tryd.underlying9 cells_errStr cells_str hd ok0
    have hsp : a.spot = none := World.cell?_spot hc0
    rw [List.append_assoc] at hnd
    have hnd2 := (List.nodup_append.1 hnd).2.1
    obtain ⟨hn1, hn2, hn3⟩ := List.nodup_append.1 hnd2
    obtain ⟨ads, h1, h2, h3, h4⟩ := sents_of_laid l q hr hn2 (fun b off hm => hrows b off (by simp [hm])) (fun x hx => hty x (List.mem_cons_of_mem _ hx))
    have hma : MemPlace.cell a.block a.off ∈ MemPlace.row a 1 := by simp [MemPlace.row]
    refine ⟨a :: ads, by simp [h1], List.nodup_cons.2 ⟨fun hm => ?_, h2⟩, fun b hb => ?_, fun i x b hx hb => ?_⟩
    · exact hn3 _ hma _ (h3 a hm).1 rfl
    · rcases List.mem_cons.1 hb with rfl | hb
      · exact ⟨by simp [hma], hsp⟩
      · exact ⟨by simp [(h3 b hb).1], (h3 b hb).2⟩
    · cases i with
      | zero =>
        simp only [List.getElem?_cons_zero, Option.some.injEq] at hx hb
        subst hx; subst hb
        exact ⟨hv, ⟨s, hc0, hs0⟩, (hrows a.block a.off (by simp [hma])).1⟩
      | succ i => exact h4 i x b (by simpa using hx) (by simpa using hb)

def errName : Nat → String
  | 1 => "pigeonholes/api.ErrText" | 2 => "pigeonholes/api.ErrBound" | 3 => "pigeonholes/api.ErrShape" | 4 => "pigeonholes/api.ErrName" | 5 => "pigeonholes/api.ErrNone"
  | 6 => "pigeonholes/api.ErrExist" | 7 => "pigeonholes/api.ErrDir" | 8 => "pigeonholes/api.ErrFile" | 9 => "pigeonholes/api.ErrFull" | 10 => "pigeonholes/api.ErrStale"
  | 11 => "pigeonholes/api.ErrHeld" | 12 => "pigeonholes/api.ErrSeq" | 13 => "pigeonholes/api.ErrOld" | 14 => "pigeonholes/api.ErrGrace" | _ => "pigeonholes/api.ErrPower"
/-- The word behind the head of error number c's text. -/
def errWord : Nat → List UInt8
  | 1 => [116, 101, 120, 116] | 2 => [98, 111, 117, 110, 100] | 3 => [115, 104, 97, 112, 101] | 4 => [110, 97, 109, 101] | 5 => [110, 111, 110, 101]
  | 6 => [101, 120, 105, 115, 116] | 7 => [100, 105, 114] | 8 => [102, 105, 108, 101] | 9 => [102, 117, 108, 108] | 10 => [115, 116, 97, 108, 101]
  | 11 => [104, 101, 108, 100] | 12 => [115, 101, 113] | 13 => [111, 108, 100] | 14 => [103, 114, 97, 99, 101] | _ => [112, 111, 119, 101, 114]
def errText (c : Nat) : List UInt8 := [112, 105, 103, 101, 111, 110, 104, 111, 108, 101, 115, 58, 32] ++ errWord c
/-- What a row lists of the errors cs. -/
def errLaid (cs : List Nat) : List (String × DataW Unit) := cs.map fun c => (errName c, sentD (errText c))
/-- Number c's variable is known by its name. -/
def errKnown (c : Nat) : Prop := Tryd.prog.globalNamed (errName c) = some (gl c) ∧ (Tryd.prog.globals[gl c]?).map (·.type) = some 26

theorem env_of_laid {W : World} {cs : List Nat} (h : laidMet Tryd.prog (errLaid cs) W) (hk : ∀ c ∈ cs, errKnown c) :
    ∃ ad, Env W.heap.size ad cs W ∧ ∀ c ∈ cs, ∃ s : ByteArray, W.cell? (ad c) = some (.string s) ∧ s.data.toList = errText c := by
  obtain ⟨ps, hv, hnd, hrows⟩ := h
  have hk' : ∀ c ∈ cs, Tryd.prog.globalNamed (errName c) = some (gl c) ∧ (Tryd.prog.globals[gl c]?).map (·.type) = some 26 := hk
  have e : errLaid cs = (cs.map fun c => (errName c, errText c)).map fun x => (x.1, sentD x.2) := by simp [errLaid]
  rw [e] at hv
  obtain ⟨ads, h1, h2, h3, h4⟩ := sents_of_laid _ ps hv hnd hrows (fun x hx g hg => by
    obtain ⟨c, hc, rfl⟩ := List.mem_map.1 hx
    obtain ⟨a, b⟩ := hk' c hc
    obtain rfl := Option.some.inj (a.symm.trans hg)
    exact b)
  simp only [List.length_map] at h1
  have get : ∀ c ∈ cs, ∃ a, ads[cs.idxOf c]? = some a ∧ W.var? Tryd.prog (errName c) = some #[.iface 187 (.pointer (some a))] ∧ (∃ s : ByteArray, W.cell? a = some (.string s) ∧ s.data.toList = errText c) ∧ ∃ x t, W.heap[a.block]? = some (.cells x t (0, 0)) := fun c hc => by
    have hi : cs.idxOf c < cs.length := List.idxOf_lt_length_of_mem hc
    obtain ⟨a, ha⟩ : ∃ a, ads[cs.idxOf c]? = some a := ⟨ads[cs.idxOf c]'(by omega), List.getElem?_eq_getElem _⟩
    have hx : (cs.map fun c => (errName c, errText c))[cs.idxOf c]? = some (errName c, errText c) := by simp [hi]
    exact ⟨a, ha, h4 _ _ a hx ha⟩
  refine ⟨fun c => (ads[cs.idxOf c]?).getD default, ⟨Nat.le_refl _, fun c hc => ?_, fun c hc => ?_, fun c hc d hd hne he => ?_⟩, fun c hc => ?_⟩
  · obtain ⟨a, ha, hv, _⟩ := get c hc
    simp only [ha, Option.getD_some]
    have hcell : W.cell? ⟨gl c, 0, none⟩ = some (.iface 187 (.pointer (some a))) := by simpa using World.var?_cell (hk' c hc).1 hv 0
    exact ⟨hcell, World.block_lt_of_cell? _ _ hcell⟩
  · obtain ⟨a, ha, _, ⟨s, hs, _⟩, y, t, hr⟩ := get c hc
    simp only [ha, Option.getD_some]
    exact ⟨⟨s, hs⟩, ⟨y, t, hr⟩, lt_of_block hr⟩
  · obtain ⟨a, ha, _⟩ := get c hc
    obtain ⟨b, hb, _⟩ := get d hd
    simp only [ha, hb, Option.getD_some] at he
    subst he
    have hi := (List.getElem?_eq_some_iff.1 ha)
    have hj := (List.getElem?_eq_some_iff.1 hb)
    obtain ⟨i1, i2⟩ := hi
    obtain ⟨j1, j2⟩ := hj
    have hpw := List.pairwise_iff_getElem.1 h2
    have : cs.idxOf c = cs.idxOf d := by
      rcases Nat.lt_trichotomy (cs.idxOf c) (cs.idxOf d) with h | h | h
      · exact absurd (i2.trans j2.symm) (hpw _ _ i1 j1 h)
      · exact h
      · exact absurd (j2.trans i2.symm) (hpw _ _ j1 i1 h)
    have e1 : cs[cs.idxOf c]? = some c := by simp [List.idxOf_lt_length_of_mem hc]
    have e2 : cs[cs.idxOf d]? = some d := by simp [List.idxOf_lt_length_of_mem hd]
    rw [this, e2] at e1
    exact hne (Option.some.inj e1).symm
  · obtain ⟨a, ha, _, ⟨s, hs, hs2⟩, _⟩ := get c hc
    simp only [ha, Option.getD_some]
    exact ⟨s, hs, hs2⟩
end Go.Proofs.YtgebinfbbopnlaaDoor
