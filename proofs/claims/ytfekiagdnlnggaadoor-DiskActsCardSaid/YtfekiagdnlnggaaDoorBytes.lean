/- pigeonholesref1: Zeros, and Bytes.Write, Read, Resize, Blocks by contracts over the text that is held and the list of holes. -/
import Derived.Test.YtfekiagdnlnggaaDoorDataKeeps
import Derived.Deep.RegionWith
namespace Go.Proofs.YtfekiagdnlnggaaDoor
open Go.RowKit
set_option linter.unusedVariables false
set_option linter.unusedSimpArgs false

def zerosB (n : Nat) : ByteArray := ⟨(List.replicate n (0 : UInt8)).toArray⟩
theorem zerosB_size (n : Nat) : (zerosB n).size = n := by simp [zerosB, ByteArray.size]

set_option maxHeartbeats 1000000 in
theorem zeros_any (n : Int) (w : World) (h0 : 0 ≤ n) (h1 : n ≤ 140737488355328) : Calls Tryd.prog 49 #[.int .i64 n] w fun e w' => e = .returned (.string (zerosB n.toNat)) ∧ Chg Nil w w' := by
  obtain ⟨m, rfl⟩ : ∃ m : Nat, n = m := ⟨n.toNat, by omega⟩
  rw [Int.toNat_natCast]
  have hmk := mk_bytes w m (by omega)
  have hcv : (convert 152 9 (.slice (some ⟨w.heap.size, 0, none⟩) m m)).run Tryd.prog (w.alloc (.cells (blkC (List.replicate m 0)).toArray 5)) = .ok (.string (zerosB m)) (w.alloc (.cells (blkC (List.replicate m 0)).toArray 5)) := by
    have := run_convert_bytes_back (P := Tryd.prog) (w.alloc (.cells (blkC (List.replicate m 0)).toArray 5)) 152 9 5 ⟨w.heap.size, 0, none⟩ m (List.replicate m 0) Tryd.underlying152 Tryd.underlying5 Tryd.underlying9 (fun j hj => by
      rw [Addr.add_lit, cell_of (block_alloc w _)]
      have hj' : j < m := by simpa using hj
      simp [blkC, hj'])
    simpa [zerosB] using this
  go_enter Tryd.func49, Tryd.ntmps49
  go_wp2_with fail
  go_ret
  exact ⟨rfl, (Chg.refl _ _).alloc _⟩

/-! ### The reference's file -/
def holeC (b : Bool) : List Value := [.bool b]
theorem holeC_len (b : Bool) : (holeC b).length = 1 := rfl
theorem info_bool : (Tryd.prog.info? 4).map (fun i => (i.zero, i.size, i.bytes)) = some (some (.bool false), 1, 1) := by kernel_rfl
structure BytesAt (w : World) (b : Nat) (s : ByteArray) (h : List Bool) (S : Nat → Prop) : Prop where
  at_ : ∃ v T Ss, w.heap[b]? = some (.cells #[.string s, v] T (0, 0)) ∧ SliceAt w v 4 1 h.length (h.flatMap holeC) Ss ∧ ¬ Ss b ∧ ∀ x, Ss x → S x
  own : S b
  lt : ∀ x, S x → x < w.heap.size
  small : s.size ≤ 4096
  few : h.length ≤ 64
theorem BytesAt.keep {S T : Nat → Prop} {w w' : World} {b : Nat} {s : ByteArray} {h : List Bool} (ht : BytesAt w b s h S) (c : Chg T w w') (hd : ∀ x, S x → ¬ T x) : BytesAt w' b s h S := by
  obtain ⟨⟨v, E, Ss, h1, h2, h3, h6⟩, h4, h5, h7, h8⟩ := ht
  exact ⟨⟨v, E, Ss, c.keep h1 (hd b h4), h2.keep c (fun x hx => hd x (h6 x hx)), h3, h6⟩, h4, fun x hx => Nat.lt_of_lt_of_le (h5 x hx) c.size, h7, h8⟩
def markH (h : List Bool) (k : Nat) : List Bool := (h ++ List.replicate (k + 1 - h.length) true).set k false
def marks (h : List Bool) (k : Nat) : Nat → List Bool
  | 0 => h
  | j + 1 => markH (marks h k j) (k + j)
theorem markH_len (h : List Bool) (k : Nat) : (markH h k).length = max h.length (k + 1) := by simp [markH]; omega
theorem marks_len (h : List Bool) (k : Nat) : ∀ j, (marks h k j).length ≤ max h.length (k + j)
  | 0 => by simp [marks]; omega
  | j + 1 => by
    have := marks_len h k j
    simp only [marks, markH_len]; omega
def BytesPost (S : Nat → Prop) (w : World) (b : Nat) (s : ByteArray) (h : List Bool) (w' : World) : Prop := Chg S w w' ∧ ∃ S', BytesAt w' b s h S' ∧ Grow S S' w w'
theorem bytes_same {S : Nat → Prop} {w : World} {b : Nat} {s : ByteArray} {h : List Bool} (ht : BytesAt w b s h S) : BytesPost S w b s h w := ⟨Chg.refl _ _, S, ht, Grow.refl _ _ _⟩
theorem BytesPost.trans {S : Nat → Prop} {w w1 w2 : World} {b : Nat} {s s' : ByteArray} {h h' : List Bool} (hS : ∀ x, S x → x < w.heap.size) (p : BytesPost S w b s h w1) (q : ∀ S1, BytesAt w1 b s h S1 → BytesPost S1 w1 b s' h' w2) : BytesPost S w b s' h' w2 := by
  obtain ⟨c1, S1, a1, g1⟩ := p
  obtain ⟨c2, S2, a2, g2⟩ := q S1 a1
  have hz := c1.size
  have hz2 := c2.size
  refine ⟨c1.trans c2 (fun x hx h => by rcases g1 x h with h | h; exact h; omega), S2, a2, fun x hx => ?_⟩
  rcases g2 x hx with h | h
  · rcases g1 x h with h | h
    · exact .inl h
    · exact .inr ⟨h.1, by omega⟩
  · exact .inr ⟨by omega, h.2⟩
/-- The text stored anew. -/
theorem bytes_text {S : Nat → Prop} {w w1 : World} {b : Nat} {s s' : ByteArray} {h : List Bool} (ht : BytesAt w b s h S) (hc : Chg Nil w w1) (hs : s'.size ≤ 4096) : BytesPost S w b s' h (w1.setCell ⟨b, 0, none⟩ (.string s')) := by
  obtain ⟨⟨v, T, Ss, hb, hsl, hnb, hsub⟩, hS, hlt, _, hf⟩ := ht
  have hz := hc.size
  have hb2 := block_setCell (hc.keep hb (fun f => f)) 0 (.string s')
  simp at hb2
  refine ⟨hc.nil.setCell (.inr hS) _, S, ⟨⟨v, T, Ss, hb2, (hsl.keep hc (fun _ _ f => f)).keep ((Chg.refl (· = b) w1).setCell (p := ⟨b, 0, none⟩) (.inr rfl) _) (fun x hx e => hnb (by have : x = b := e; subst this; exact hx)), hnb, hsub⟩, hS, fun x hx => by have := hlt x hx; simp; omega, hs, hf⟩, Grow.refl _ _ _⟩

def lenOf : Value → Nat
  | .slice _ n _ => n
  | _ => 0
/-- The list of holes being made longer. -/
def RelP (h : List Bool) (b k : Nat) (o : Obj) (Ss : Nat → Prop) (w : World) (v : Value) (wr : World) : Prop :=
  ∃ m S9, (m = 0 ∨ h.length + m ≤ k + 1) ∧ SliceAt wr v 4 1 (h.length + m) ((h ++ List.replicate m true).flatMap holeC) S9 ∧ (∀ x, S9 x → Ss x ∨ (w.heap.size ≤ x ∧ x < wr.heap.size)) ∧ Chg Ss w wr ∧ wr.heap[b]? = some o
def RelM (s : ByteArray) (h : List Bool) (b k n : Nat) (S : Nat → Prop) (w : World) (i : Value) (wr : World) : Prop :=
  ∃ j : Nat, j ≤ n ∧ i = .int .i64 ((k + j : Nat) : Int) ∧ BytesPost S w b s (marks h k j) wr
theorem relP_step {h : List Bool} {b k m : Nat} {o o' : Obj} {Ss S9 S' : Nat → Prop} {w wr w2 : World} {v2 : Value} (hm : h.length + m ≤ k) (h9 : ∀ x, S9 x → Ss x ∨ (w.heap.size ≤ x ∧ x < wr.heap.size)) (hC : Chg Ss w wr) (hb : wr.heap[b]? = some o) (hnb : ¬ Ss b) (hbl : b < w.heap.size)
    (hs2 : SliceAt w2 v2 4 1 (h.length + m + 1) ((h ++ List.replicate m true).flatMap holeC ++ holeC true) S') (hc2 : Chg S9 (wr.alloc o') w2) (hg : Grow S9 S' (wr.alloc o') w2) : RelP h b k o Ss w v2 w2 := by
  have hz := hC.size
  have hz2 := hc2.size
  simp at hz2
  refine ⟨m + 1, S', .inr (by omega), ?_, fun x hx => ?_, ?_, ?_⟩
  · have : (h ++ List.replicate (m + 1) true).flatMap holeC = (h ++ List.replicate m true).flatMap holeC ++ holeC true := by
      rw [List.replicate_succ', ← List.append_assoc, List.flatMap_append]; simp
    rw [this]; exact hs2
  · rcases hg x hx with h | h
    · rcases h9 x h with h | h
      · exact .inl h
      · exact .inr ⟨h.1, by omega⟩
    · simp at h; exact .inr ⟨by omega, h.2⟩
  · exact (hC.alloc _).trans hc2 (fun x hx h => by rcases h9 x h with h | h; exact h; omega)
  · refine hc2.keep (block_alloc_old hb _) (fun h => ?_)
    rcases h9 b h with h | h
    · exact hnb h
    · omega
/-- A hole struck out, and the list stored back. -/
theorem bytes_mark {S Ss S9 : Nat → Prop} {w wr : World} {b k g off cap n : Nat} {s : ByteArray} {h L : List Bool} {T : TypeId} {old : Value} (hS : S b) (hlt : ∀ x, S x → x < w.heap.size) (hsub : ∀ x, Ss x → S x) (hnb : ¬ Ss b) (hsm : s.size ≤ 4096) (hk : k < 64) (hf : h.length ≤ 64)
    (hL : L = h ++ List.replicate (k + 1 - h.length) true) (hn : n = L.length) (hs : SliceAt wr (.slice (some ⟨g, off, none⟩) n cap) 4 1 n (L.flatMap holeC) S9) (h9 : ∀ x, S9 x → Ss x ∨ (w.heap.size ≤ x ∧ x < wr.heap.size)) (hC : Chg Ss w wr)
    (hb : wr.heap[b]? = some (.cells #[.string s, old] T (0, 0))) : BytesPost S w b s (markH h k) ((wr.setCell ⟨g, off + k, none⟩ (.bool false)).setCell ⟨b, 1, none⟩ (.slice (some ⟨g, off, none⟩) n cap)) := by
  have hbl := hlt b hS
  have hz := hC.size
  have hkL : k < L.length := by rw [hL]; simp; omega
  have hg9 : S9 g := by
    obtain ⟨_, _, _, _, e, _, _, _, _, _, h, _⟩ := hs.place (by omega)
    cases e; exact h
  have hgb : g ≠ b := fun e => by
    subst e
    rcases h9 g hg9 with h | h
    · exact hnb h
    · omega
  have hset := hs.setElem holeC_len hkL false
  have e1 : wr.setCells g (off + k * 1) (holeC false) = wr.setCell ⟨g, off + k, none⟩ (.bool false) := by rw [Nat.mul_one]; rfl
  rw [e1] at hset
  have c1 : Chg (· = g) wr (wr.setCell ⟨g, off + k, none⟩ (.bool false)) := (Chg.refl (· = g) wr).setCell (p := ⟨g, off + k, none⟩) (.inr rfl) _
  have hb2 := c1.keep hb (fun e => hgb e.symm)
  have hb3 := block_setCell hb2 1 (.slice (some ⟨g, off, none⟩) n cap)
  simp at hb3
  have c2 : Chg (· = b) (wr.setCell ⟨g, off + k, none⟩ (.bool false)) ((wr.setCell ⟨g, off + k, none⟩ (.bool false)).setCell ⟨b, 1, none⟩ (.slice (some ⟨g, off, none⟩) n cap)) := (Chg.refl (· = b) _).setCell (p := ⟨b, 1, none⟩) (.inr rfl) _
  have hn9 : ¬ S9 b := fun h => by
    rcases h9 b h with h | h
    · exact hnb h
    · omega
  have hm : markH h k = L.set k false := by rw [hL]; rfl
  have hlen : n = (markH h k).length := by rw [hn, hm, List.length_set]
  have hset2 := hset.keep c2 (fun x hx e => hn9 (by have : x = b := e; subst this; exact hx))
  rw [← hm] at hset2
  refine ⟨?_, fun x => S x ∨ S9 x, ⟨⟨_, T, S9, hb3, by rw [hlen] at hset2 ⊢; exact hset2, hn9, fun x h => .inr h⟩, .inl hS, ?_, hsm, by rw [markH_len]; omega⟩, ?_⟩
  · refine ((hC.mono (fun x _ h => hsub x h)).trans c1 (fun x hx e => ?_)).setCell (.inr hS) _
    have : x = g := e
    subst this
    rcases h9 x hg9 with h | h
    · exact hsub x h
    · omega
  · rintro x (h | h)
    · have := hlt x h; simp; omega
    · rcases h9 x h with h | h
      · have := hlt x (hsub x h); simp; omega
      · simp; omega
  · rintro x (h | h)
    · exact .inl h
    · rcases h9 x h with h | h
      · exact .inl (hsub x h)
      · right; simp; omega

/-! ### Texts cut and joined -/
theorem ba_ext {a b : ByteArray} (h : a.data.toList = b.data.toList) : a = b := by
  obtain ⟨⟨x⟩⟩ := a
  obtain ⟨⟨y⟩⟩ := b
  simp only at h
  subst h; rfl
theorem app_list (a b : ByteArray) : (a ++ b).data.toList = a.data.toList ++ b.data.toList := by simp
theorem ext_list (a : ByteArray) (i j : Nat) : (a.extract i j).data.toList = (a.data.toList.take j).drop i := by simp [List.drop_take]
end Go.Proofs.YtfekiagdnlnggaaDoor
