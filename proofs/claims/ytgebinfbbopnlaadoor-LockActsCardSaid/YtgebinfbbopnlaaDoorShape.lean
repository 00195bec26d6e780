/- Arguments of any shape (numbers, texts, bools, structs, slices, one within another) opened at once, over any program. No condition. -/
import Derived.Test.YtgebinfbbopnlaaDoorBase
import Derived.Test.YtgebinfbbopnlaaDoorOpen
import Derived.SizedLaws
namespace Go.Proofs.YtgebinfbbopnlaaDoor
open Go.RowKit Go.ChangeShapes Go.WideShapes
set_option linter.unusedVariables false
set_option linter.unusedSimpArgs false

/-- Shapes: a struct is a chain of 'and's that ends in 'unit'. -/
inductive Sh where
  | int | str | bool | unit
  | and (a b : Sh)
  | slice (s : Sh)

namespace Sh
def D : Sh → Type
  | int => Int
  | str => ByteArray
  | bool => Bool
  | unit => Unit
  | and a b => a.D × b.D
  | slice s => Option Addr × Nat × List s.D
def size : Sh → Nat
  | unit => 0
  | and a b => a.size + b.size
  | _ => 1
def cells : (s : Sh) → s.D → List Value
  | int, d => [.int .i64 d]
  | str, d => [.string d]
  | bool, d => [.bool d]
  | unit, _ => []
  | and a b, d => a.cells d.1 ++ b.cells d.2
  | slice _, d => [.slice d.1 d.2.2.length d.2.1]
def val : (s : Sh) → s.D → Value
  | int, d => .int .i64 d
  | str, d => .string d
  | bool, d => .bool d
  | unit, d => .agg #[]
  | and a b, d => .agg (a.cells d.1 ++ b.cells d.2).toArray
  | slice _, d => .slice d.1 d.2.2.length d.2.1
/-- What is known of such data, below block B. -/
def At (W : World) (B : Nat) : (s : Sh) → s.D → Prop
  | int, d => -9223372036854775808 ≤ (show Int from d) ∧ (show Int from d) ≤ 9223372036854775807
  | str, d => (show ByteArray from d).size ≤ 9223372036854775807
  | and a b, d => a.At W B d.1 ∧ b.At W B d.2
  | slice s, d => d.2.2.length ≤ d.2.1 ∧ d.2.1 ≤ 9223372036854775807 ∧ ∀ (i : Nat) x, d.2.2[i]? = some x → s.At W B x ∧
      ∃ g off, d.1 = some ⟨g, off, none⟩ ∧ g < B ∧ ∀ (r : Nat) u, (s.cells x)[r]? = some u → W.cell? ⟨g, off + i * s.size + r, none⟩ = some u
  | _, _ => True

/-- So many bytes an element has at least. -/
def bytes : Sh → Nat
  | int => 8
  | str => 16
  | bool => 1
  | unit => 0
  | and a b => a.bytes + b.bytes
  | slice _ => 24
/-- What the weights tell of such data. -/
def Sz : (s : Sh) → s.D → Prop
  | and a b, d => a.Sz d.1 ∧ b.Sz d.2
  | slice s, d => d.2.1 * s.bytes ≤ 140737488355327 ∧ ∀ (i : Nat) x, d.2.2[i]? = some x → s.Sz x
  | str, d => (show ByteArray from d).size ≤ 140737488355327
  | _, _ => True

theorem cells_len : ∀ (s : Sh) (d : s.D), (s.cells d).length = s.size
  | int, _ => rfl
  | str, _ => rfl
  | bool, _ => rfl
  | unit, _ => rfl
  | and a b, d => by simp [cells, size, cells_len a, cells_len b]
  | slice _, _ => rfl

theorem At.keep {S : Nat → Prop} {W W' : World} {B : Nat} (c : Chg S W W') (hB : B ≤ W.heap.size) (hS : ∀ x, S x → B ≤ x) : ∀ (s : Sh) (d : s.D), s.At W B d → s.At W' B d
  | int, _, h => h
  | str, _, h => h
  | bool, _, h => h
  | unit, _, h => h
  | and a b, d, h => ⟨At.keep c hB hS a d.1 h.1, At.keep c hB hS b d.2 h.2⟩
  | slice s, d, h => ⟨h.1, h.2.1, fun i x hx => by
      obtain ⟨h1, g, off, e, hg, h2⟩ := h.2.2 i x hx
      exact ⟨At.keep c hB hS s x h1, g, off, e, hg, fun r u hu => (c.cell (p := ⟨g, off + i * s.size + r, none⟩) (Nat.lt_of_lt_of_le hg hB) (fun s => by have := hS _ s; simp at this; omega)).trans (h2 r u hu)⟩⟩

def fitsAll (P : Program) (ok : TypeId → Sh → Bool) : List Field → Nat → Sh → Bool
  | [], _, unit => true
  | f :: fs, off, and a b => ok f.type a && f.offset == off && P.cellsOf f.type == a.size && fitsAll P ok fs (off + a.size) b
  | _, _, _ => false
/-- Is a type of a shape? -/
def fits (P : Program) : Nat → TypeId → Sh → Bool
  | 0, _, _ => false
  | n + 1, t, int => match P.underlying t with | some (.int .i64) => true | _ => false
  | n + 1, t, str => match P.underlying t with | some .string => true | _ => false
  | n + 1, t, bool => match P.underlying t with | some .bool => true | _ => false
  | n + 1, t, slice s => match P.underlying t with | some (.slice e) => fits P n e s && P.cellsOf e == s.size && decide (0 < s.size) && decide (s.bytes ≤ P.bytesOf e) | _ => false
  | n + 1, t, s => match P.underlying t with | some (.struct fs) => fitsAll P (fits P n) fs.toList 0 s && P.cellsOf t == s.size | _ => false

theorem open_all {H : Type} {P : Program} {enc : TypeId × Value → H} {W : World} {m : Nat} {Z : Prop} (ok : TypeId → Sh → Bool)
    (hok : ∀ (t : TypeId) (s : Sh) (cs : List Value) (x : DataW H × List MemPlace), ok t s = true → DataW.trod enc P W 0 (fun _ => true) true m t cs = some x → ∃ d : s.D, cs = s.cells d ∧ s.At W W.heap.size d ∧ ((∀ n ∈ x.1.weights P t, n ≤ reachBytes) → s.Sz d)) :
    ∀ (fs : List Field) (off : Nat) (s : Sh) (cs : List Value), fitsAll P ok fs off s = true → cs.length = off + s.size →
      (∀ (i : Nat) (f : Field), fs[i]? = some f → ∃ x, DataW.trod enc P W 0 (fun _ => true) true m f.type ((cs.drop f.offset).take (P.cellsOf f.type)) = some x ∧ (Z → ∀ n ∈ x.1.weights P f.type, n ≤ reachBytes)) →
      ∃ d : s.D, cs.drop off = s.cells d ∧ s.At W W.heap.size d ∧ (Z → s.Sz d)
  | [], off, unit, cs, _, hl, _ => ⟨(), by simp [cells, size] at hl ⊢; omega, trivial, fun _ => trivial⟩
  | f :: fs, off, and a b, cs, hf, hl, hx => by
    simp only [fitsAll, Bool.and_eq_true, beq_iff_eq] at hf
    obtain ⟨⟨⟨h1, h2⟩, h3⟩, h4⟩ := hf
    obtain ⟨x, hx0, hz0⟩ := hx 0 f rfl
    rw [h2, h3] at hx0
    obtain ⟨d1, e1, a1, z1⟩ := hok f.type a _ x h1 hx0
    obtain ⟨d2, e2, a2, z2⟩ := open_all ok hok fs (off + a.size) b cs h4 (by rw [hl]; simp [size]; omega) (fun i f' hf' => hx (i + 1) f' (by simpa using hf'))
    refine ⟨(d1, d2), ?_, ⟨a1, a2⟩, fun z => ⟨z1 (hz0 z), z2 z⟩⟩
    show cs.drop off = a.cells d1 ++ b.cells d2
    rw [← e1, ← e2, ← List.drop_drop, List.take_append_drop]
  | [], _, int, _, h, _, _ => by simp [fitsAll] at h
  | [], _, str, _, h, _, _ => by simp [fitsAll] at h
  | [], _, bool, _, h, _, _ => by simp [fitsAll] at h
  | [], _, and _ _, _, h, _, _ => by simp [fitsAll] at h
  | [], _, slice _, _, h, _, _ => by simp [fitsAll] at h
  | _ :: _, _, int, _, h, _, _ => by simp [fitsAll] at h
  | _ :: _, _, str, _, h, _, _ => by simp [fitsAll] at h
  | _ :: _, _, bool, _, h, _, _ => by simp [fitsAll] at h
  | _ :: _, _, unit, _, h, _, _ => by simp [fitsAll] at h
  | _ :: _, _, slice _, _, h, _, _ => by simp [fitsAll] at h

theorem open_struct {H : Type} {P : Program} {enc : TypeId × Value → H} {W : World} {n m : Nat} {t : TypeId} {s : Sh} {cs : List Value} {x : DataW H × List MemPlace}
    (hok : ∀ (t : TypeId) (s : Sh) (m : Nat) (cs : List Value) (x : DataW H × List MemPlace), fits P n t s = true → DataW.trod enc P W 0 (fun _ => true) true m t cs = some x → ∃ d : s.D, cs = s.cells d ∧ s.At W W.heap.size d ∧ ((∀ n ∈ x.1.weights P t, n ≤ reachBytes) → s.Sz d))
    (hf : (match P.underlying t with | some (.struct fs) => fitsAll P (fits P n) fs.toList 0 s && P.cellsOf t == s.size | _ => false) = true)
    (h : DataW.trod enc P W 0 (fun _ => true) true m t cs = some x) : ∃ d : s.D, cs = s.cells d ∧ s.At W W.heap.size d ∧ ((∀ n ∈ x.1.weights P t, n ≤ reachBytes) → s.Sz d) := by
  split at hf
  · rename_i fs hu
    simp only [Bool.and_eq_true, beq_iff_eq] at hf
    obtain ⟨xs, m', _, hxe, hl, hlen, hfs⟩ := DataW.trod_struct hu h
    obtain ⟨d, e, ha, hz⟩ := open_all (Z := ∀ n ∈ x.1.weights P t, n ≤ reachBytes) (fits P n) (fun t s cs x hf h => hok t s m' cs x hf h) fs.toList 0 s cs hf.1 (by rw [hl, hf.2]; omega) (fun i f hi => by
      have hi' : fs[i]? = some f := by simpa using hi
      have hlt : i < xs.length := by rw [hlen]; exact (Array.getElem?_eq_some_iff.1 hi').1
      refine ⟨xs[i], (hfs i f hi').trans (List.getElem?_eq_getElem hlt), fun z n hn => z n ?_⟩
      rw [hxe]
      simp only [DataW.weights, hu]
      exact DataW.weights_mem_each (j := i) (t := f.type) (d := xs[i].1) (by simp [hi']) (by simp [List.getElem?_eq_getElem hlt]) n hn)
    exact ⟨d, by simpa using e, ha, hz⟩
  · cases hf

theorem mem_weightsAll {H : Type} {P : Program} {e : TypeId} : ∀ {ds : List (DataW H)} {d : DataW H}, d ∈ ds → ∀ n ∈ d.weights P e, n ∈ DataW.weightsAll P e ds
  | d0 :: ds, d, hd, n, hn => by
    simp only [DataW.weightsAll, List.mem_append]
    rcases List.mem_cons.1 hd with rfl | hd
    · exact .inl hn
    · exact .inr (mem_weightsAll hd n hn)

theorem open_sh {H : Type} {P : Program} {enc : TypeId × Value → H} {W : World} : ∀ (n : Nat) (t : TypeId) (s : Sh) (m : Nat) (cs : List Value) (x : DataW H × List MemPlace),
    fits P n t s = true → DataW.trod enc P W 0 (fun _ => true) true m t cs = some x → ∃ d : s.D, cs = s.cells d ∧ s.At W W.heap.size d ∧ ((∀ n ∈ x.1.weights P t, n ≤ reachBytes) → s.Sz d)
  | 0, t, s, _, _, _, hf, _ => by simp [fits] at hf
  | n + 1, t, int, m, cs, x, hf, h => by
    unfold fits at hf
    split at hf
    · rename_i hu
      obtain ⟨k, e, _, wf⟩ := DataW.trod_int hu h
      simp only [Lit.wf, Bool.and_eq_true, decide_eq_true_eq] at wf
      exact ⟨k, e, ⟨by simpa [IntKind.min, IntKind.signed, IntKind.bits] using wf.1, by simpa [IntKind.max, IntKind.signed, IntKind.bits] using wf.2⟩, fun _ => trivial⟩
    · cases hf
  | n + 1, t, str, m, cs, x, hf, h => by
    unfold fits at hf
    split at hf
    · rename_i hu
      obtain ⟨k, e, hx, wf⟩ := DataW.trod_string hu h
      refine ⟨k, e, by unfold maxLen at wf; simp only [At]; omega, fun hz => ?_⟩
      have := hz k.data.toList.length (by rw [hx]; simp [DataW.weights])
      have h2 : k.data.toList.length = k.size := Array.length_toList
      rw [h2] at this
      exact Nat.le_trans this (Nat.le_of_lt_succ reachBytes_lt)
    · cases hf
  | n + 1, t, bool, m, cs, x, hf, h => by
    unfold fits at hf
    split at hf
    · rename_i hu
      obtain ⟨k, e, _⟩ := DataW.trod_bool hu h
      exact ⟨k, e, trivial, fun _ => trivial⟩
    · cases hf
  | n + 1, t, slice s, m, cs, x, hf, h => by
    unfold fits at hf
    split at hf
    · rename_i e hu
      simp only [Bool.and_eq_true, beq_iff_eq, decide_eq_true_eq] at hf
      obtain ⟨⟨⟨hf1, hsz⟩, hs0⟩, hby⟩ := hf
      rcases Go.Deep.open_slice hu h with ⟨rfl, _⟩ | ⟨a, len, cap, mm, n', D', Pl, rfl, _, hl, hm, hmm, hxe, hx⟩
      · exact ⟨(none, 0, []), rfl, ⟨Nat.le_refl _, by simp, fun i x h => by cases h⟩, fun _ => ⟨by simp, fun i x h => by cases h⟩⟩
      · simp only [if_true] at hmm
        obtain ⟨l, h1, h2⟩ := list_choice (Q := fun i (y : s.D) => s.At W W.heap.size y ∧ ((∀ n ∈ x.1.weights P t, n ≤ reachBytes) → s.Sz y) ∧ ∃ g off, (some a : Option Addr) = some ⟨g, off, none⟩ ∧ g < W.heap.size ∧ ∀ (r : Nat) u, (s.cells y)[r]? = some u → W.cell? ⟨g, off + i * s.size + r, none⟩ = some u) len (fun i hi => by
          obtain ⟨cs', hc, hd⟩ := hx i (by omega)
          obtain ⟨y, rfl, hy, hyz⟩ := open_sh n e s _ _ _ hf1 hd
          rw [hsz] at hc
          obtain ⟨c1, c2⟩ := cells_at hc
          obtain ⟨g, off, sp⟩ := a
          have hlen := cells_len s y
          have h0 := c2 0 ((s.cells y)[0]'(by omega)) (List.getElem?_eq_getElem _)
          have hsp : sp = none := by
            have := World.cell?_spot h0
            rcases Nat.eq_zero_or_pos (i * s.size) with hz | hz
            · rw [hz] at this; simpa [Addr.add] using this
            · obtain ⟨cs0, hc0, hd0⟩ := hx 0 (by omega)
              obtain ⟨y0, rfl, _⟩ := open_sh n e s _ _ _ hf1 hd0
              rw [hsz, Nat.zero_mul] at hc0
              obtain ⟨_, e2⟩ := cells_at hc0
              have hlen0 := cells_len s y0
              have := World.cell?_spot (e2 0 ((s.cells y0)[0]'(by omega)) (List.getElem?_eq_getElem _))
              simpa [Addr.add] using this
          subst hsp
          refine ⟨y, hy, fun hz => hyz (fun k hk => hz k ?_), g, off, rfl, ?_, fun r u hu => ?_⟩
          · rw [hxe]
            simp only [DataW.weights, hu, List.mem_cons, List.mem_append]
            exact .inr (.inl (mem_weightsAll (List.mem_map.2 ⟨i, List.mem_range.2 hi, rfl⟩) k hk))
          · have := World.block_lt_of_cell? _ _ h0
            simpa [Addr.add_lit] using this
          · have := c2 r u hu
            rwa [Addr.add_lit, Addr.add_lit] at this)
        refine ⟨(some a, cap, l), by simp [cells, h1], ⟨by simpa [h1] using hl, by unfold maxLen at hm; simp only; omega, fun i x hx => ⟨(h2 i x hx).1, (h2 i x hx).2.2⟩⟩, fun hz => ⟨?_, fun i x hx => (h2 i x hx).2.1 hz⟩⟩
        have := hz (cap * P.bytesOf e) (by
          rw [hxe]
          simp only [DataW.weights, hu, List.mem_cons, List.length_map, List.length_range]
          refine .inl ?_
          rw [hmm, Nat.add_sub_cancel' hl])
        have h3 := Nat.mul_le_mul_left cap hby
        have h4 := reachBytes_lt
        show cap * s.bytes ≤ _
        omega
    · cases hf
  | n + 1, t, unit, m, cs, x, hf, h => open_struct (fun t s m cs x hf h => open_sh n t s m cs x hf h) hf h
  | n + 1, t, and a b, m, cs, x, hf, h => open_struct (fun t s m cs x hf h => open_sh n t s m cs x hf h) hf h

/-- An argument of a shape, with what its weights tell. -/
theorem open_val2 {H : Type} {P : Program} {enc : TypeId × Value → H} {W : World} {r : Reach} {b0 : Nat} {v : Value} {dd : DataW H} {p : List MemPlace} (n : Nat) (t : TypeId) (s : Sh) (hf : fits P n t s = true)
    (hv : Value.okWide P W r b0 t v) (h : DataW.Trod enc P W 0 (fun _ => true) true t v dd p) : ∃ d : s.D, v = s.val d ∧ s.At W W.heap.size d ∧ ((∀ n ∈ dd.weights P t, n ≤ reachBytes) → s.Sz d) := by
  obtain ⟨fuel, hh⟩ := h
  obtain ⟨d, e, ha, hz⟩ := open_sh n t s _ _ _ hf hh
  refine ⟨d, ?_, ha, hz⟩
  cases n with
  | zero => simp [fits] at hf
  | succ n =>
    have struct : ∀ s : Sh, ∀ d : s.D, v.cells.toList = s.cells d → (match P.underlying t with | some (.struct fs) => fitsAll P (fits P n) fs.toList 0 s && P.cellsOf t == s.size | _ => false) = true → v = .agg (s.cells d).toArray := fun s d e hf => by
      split at hf
      · rename_i hu
        obtain ⟨cs, rfl, _⟩ := okWide_struct hu hv
        rw [← e]; simp [Value.cells]
      · cases hf
    cases s with
    | int =>
      unfold fits at hf
      split at hf
      · rename_i hu
        obtain ⟨k, rfl⟩ := okWide_int hu hv
        simpa [Value.cells, cells, val] using e
      · cases hf
    | str =>
      unfold fits at hf
      split at hf
      · rename_i hu
        obtain ⟨k, rfl⟩ := okWide_string hu hv
        simpa [Value.cells, cells, val] using e
      · cases hf
    | bool =>
      unfold fits at hf
      split at hf
      · rename_i hu
        obtain ⟨k, rfl⟩ := okWide_bool hu hv
        simpa [Value.cells, cells, val] using e
      · cases hf
    | slice s =>
      unfold fits at hf
      split at hf
      · rename_i hu
        obtain ⟨a, l, c, rfl⟩ := okWide_slice hu hv
        simpa [Value.cells, cells, val] using e
      · cases hf
    | unit => exact struct _ d e hf
    | and a b => exact struct _ d e hf
/-- An argument of a shape. -/
theorem open_val {H : Type} {P : Program} {enc : TypeId × Value → H} {W : World} {r : Reach} {b0 : Nat} {v : Value} {dd : DataW H} {p : List MemPlace} (n : Nat) (t : TypeId) (s : Sh) (hf : fits P n t s = true)
    (hv : Value.okWide P W r b0 t v) (h : DataW.Trod enc P W 0 (fun _ => true) true t v dd p) : ∃ d : s.D, v = s.val d ∧ s.At W W.heap.size d := by
  obtain ⟨d, h1, h2, _⟩ := open_val2 n t s hf hv h
  exact ⟨d, h1, h2⟩
theorem weights_le {H : Type} {P : Program} {ts : List TypeId} {ds : List (DataW H)} (h : (DataW.weightsEach P ts ds).all (· ≤ reachBytes) = true) {j : Nat} {t : TypeId} {d : DataW H} (ht : ts[j]? = some t) (hd : ds[j]? = some d) :
    ∀ n ∈ d.weights P t, n ≤ reachBytes := fun n hn => of_decide_eq_true (List.all_eq_true.1 h n (DataW.weights_mem_each ht hd n hn))
end Sh
end Go.Proofs.YtgebinfbbopnlaaDoor
