/- package data: Write by contract over a plain list of blocks. No condition but that the data is one. -/
import Derived.Test.YtgebinfbbopnlaaDoorMaps
import Derived.Test.YtgebinfbbopnlaaDoorBlock
import Derived.Test.YtgebinfbbopnlaaDoorSteps
namespace Go.Proofs.YtgebinfbbopnlaaDoor
open Go.RowKit
set_option linter.unusedVariables false
set_option linter.unusedSimpArgs false

/-! ### The plain data -/
abbrev Blks := List (Int × List UInt8)
structure PData where
  size : Nat
  kv : Blks
def blkC (l : List UInt8) : List Value := l.map fun c => .int .u8 c.toNat
def blkV (l : List UInt8) : Value := .agg (blkC l).toArray
def blkM (kv : Blks) : List (Int × Value) := kv.map fun p => (p.1, blkV p.2)
def zero64 : List UInt8 := List.replicate 64 0
def dget (kv : Blks) (q : Nat) : List UInt8 := (aget kv (q : Int)).getD zero64
def dput (kv : Blks) (i : Nat) (c : UInt8) : Blks := aput kv ((i / 64 : Nat) : Int) ((dget kv (i / 64)).set (i % 64) c)
def dputs (kv : Blks) (i : Nat) : List UInt8 → Blks
  | [] => kv
  | c :: s => dputs (dput kv i c) (i + 1) s
theorem dputs_snoc (kv : Blks) (i : Nat) (c : UInt8) : ∀ (l : List UInt8) (kv : Blks) (i : Nat), dputs kv i (l ++ [c]) = dput (dputs kv i l) (i + l.length) c
  | [], _, _ => rfl
  | d :: l, kv, i => by
    simp only [List.cons_append, dputs, dputs_snoc kv i c l, List.length_cons]
    congr 1; omega
def Full (kv : Blks) : Prop := ∀ p ∈ kv, p.2.length = 64 ∧ 0 ≤ p.1 ∧ p.1 < 64
theorem dget_len {kv : Blks} (h : Full kv) (q : Nat) : (dget kv q).length = 64 := by
  unfold dget
  cases hg : aget kv (q : Int) with
  | none => simp [zero64]
  | some l => exact (h _ (aget_mem hg)).1
theorem aput_full {kv : Blks} (h : Full kv) (k : Int) {l : List UInt8} (hl : l.length = 64) (hk : 0 ≤ k ∧ k < 64) : Full (aput kv k l) := by
  induction kv with
  | nil => intro p hp; simp only [aput, List.mem_singleton] at hp; subst hp; exact ⟨hl, hk⟩
  | cons q r ih =>
    intro p hp
    unfold aput at hp
    split at hp
    · rename_i c
      rcases List.mem_cons.1 hp with rfl | hp
      · exact ⟨hl, by rw [← c]; exact hk⟩
      · exact h p (List.mem_cons_of_mem _ hp)
    · rcases List.mem_cons.1 hp with rfl | hp
      · exact h p (List.mem_cons_self ..)
      · exact ih (fun p hp => h p (List.mem_cons_of_mem _ hp)) p hp
theorem dput_full {kv : Blks} (h : Full kv) (i : Nat) (hi : i < 4096) (c : UInt8) : Full (dput kv i c) := aput_full h _ (by simp [dget_len h]) (by omega)
theorem dputs_full : ∀ (s : List UInt8) {kv : Blks} (i : Nat), i + s.length ≤ 4096 → Full kv → Full (dputs kv i s)
  | [], _, _, _, h => h
  | c :: s, kv, i, hi, h => by
    simp only [List.length_cons] at hi
    exact dputs_full s (i + 1) (by omega) (dput_full h i (by omega) c)

theorem blkC_len (l : List UInt8) : (blkC l).length = l.length := by simp [blkC]
theorem blkC_one (l : List UInt8) : ∀ v ∈ blkC l, v.oneCell' = true := by
  intro v hv
  obtain ⟨c, _, rfl⟩ := List.mem_map.1 hv
  rfl
theorem blkC_set (l : List UInt8) (r : Nat) (c : UInt8) : (blkC l).toArray.setIfInBounds r (.int .u8 c.toNat) = (blkC (l.set r c)).toArray := by
  simp [blkC, List.map_set]
theorem blkM_put (kv : Blks) (k : Int) (l : List UInt8) : aput (blkM kv) k (blkV l) = blkM (aput kv k l) := aput_map blkV kv k l
theorem un64 : ∃ d, Tryd.prog.underlying 97 = some d ∧ d.isRow = true := by
  refine ⟨_, Tryd.underlying97, rfl⟩
theorem info64 : (Tryd.prog.info? 97).map (·.size) = some 64 := by kernel_rfl
theorem zero_blk (w : World) : (zeroValue 97).run Tryd.prog w = .ok (blkV zero64) w := by kernel_rfl

/-- Data at block b. -/
structure DataAt (w : World) (b : Nat) (d : PData) (S : Nat → Prop) : Prop where
  at_ : ∃ mv T, w.heap[b]? = some (.cells #[.int .i64 d.size, mv] T (0, 0)) ∧ MapV w mv ik (blkM d.kv) ∧ ∀ r, mv = .map (some r) → S r
  own : S b
  lt : ∀ x, S x → x < w.heap.size
  small : d.size ≤ 4096
  full : Full d.kv
theorem DataAt.keep {S T : Nat → Prop} {w w' : World} {b : Nat} {d : PData} (h : DataAt w b d S) (c : Chg T w w') (hd : ∀ x, S x → ¬ T x) : DataAt w' b d S := by
  obtain ⟨⟨mv, E, h1, h2, h3⟩, h4, h5, h6, h7⟩ := h
  exact ⟨⟨mv, E, c.keep h1 (hd b h4), h2.keep c (fun r hr => hd r (h3 r hr)), h3⟩, h4, fun x hx => Nat.lt_of_lt_of_le (h5 x hx) c.size, h6, h7⟩

theorem law_blk : KeyFn Tryd.prog 3 ik := keyInt Tryd.underlying3
theorem dlook {w : World} {mv : Value} {kv : Blks} (h : MapV w mv ik (blkM kv)) (q : Nat) : (Instr.lookup 92 mv (.int .i64 q) false).run Tryd.prog w = .ok (.agg (blkC (dget kv q)).toArray) w := by
  have hk := h.run_lookup (T := 92) law_blk Tryd.underlying92 (zero_blk w) (q : Int) false
  rw [show (Value.int .i64 (q : Int)) = ik (q : Int) from rfl, hk]
  simp only [blkM, aget_map, Bool.false_eq_true, if_false, dget]
  cases aget kv (q : Int) <;> rfl

/-- The block that is to be laid, before it is laid. -/
theorem dw_mid {wr w1 : World} {b rm r : Nat} {o ob : Obj} {M : List (Int × Value)} {l : List UInt8} {c : UInt8} {T : TypeId} (hM : MapA wr rm ik M) (hC1 : Chg (· = wr.heap.size) (wr.alloc o) w1) (hb : w1.heap[b]? = some ob) (hbl : b < wr.heap.size)
    (hb1 : w1.heap[wr.heap.size]? = some (.cells (blkC l).toArray T (0, 0))) :
    (w1.setCell ⟨wr.heap.size, r, none⟩ (.int .u8 c.toNat)).heap[wr.heap.size]? = some (.cells (blkC (l.set r c)).toArray T (0, 0)) ∧ MapA (w1.setCell ⟨wr.heap.size, r, none⟩ (.int .u8 c.toNat)) rm ik M ∧
      (w1.setCell ⟨wr.heap.size, r, none⟩ (.int .u8 c.toNat)).heap[b]? = some ob ∧ Chg Nil wr (w1.setCell ⟨wr.heap.size, r, none⟩ (.int .u8 c.toNat)) := by
  have h1 := block_setCell hb1 r (.int .u8 c.toNat)
  rw [blkC_set] at h1
  have hml := hM.lt
  have hset : Chg (· = wr.heap.size) w1 (w1.setCell ⟨wr.heap.size, r, none⟩ (.int .u8 c.toNat)) := (Chg.refl (· = wr.heap.size) w1).setCell (p := ⟨wr.heap.size, r, none⟩) (.inr rfl) _
  have hC : Chg Nil wr (w1.setCell ⟨wr.heap.size, r, none⟩ (.int .u8 c.toNat)) := (((Chg.refl Nil wr).alloc o).trans hC1 (fun x hx e => by omega)).trans hset (fun x hx e => by omega)
  exact ⟨h1, hM.keep hC (fun f => f), hset.keep hb (by omega), hC⟩

theorem take_byte (s : ByteArray) (k : Nat) (h : k < s.size) : s.data.toList.take (k + 1) = s.data.toList.take k ++ [s[k]] := by
  rw [List.take_succ_eq_append_getElem (by simpa using h)]; rfl
/-- Behind k bytes of a write. -/
def RelW (kv : Blks) (p n : Nat) (s : List UInt8) (b rm sz : Nat) (T : TypeId) (S : Nat → Prop) (w : World) (i : Value) (wr : World) : Prop :=
  ∃ k : Nat, k ≤ n ∧ i = .int .i64 k ∧ Chg S w wr ∧ wr.heap[b]? = some (.cells #[.int .i64 sz, .map (some rm)] T (0, 0)) ∧ MapA wr rm ik (blkM (dputs kv p (s.take k)))
theorem relW_step {kv : Blks} {p k : Nat} {s : ByteArray} {b rm q r : Nat} {S : Nat → Prop} {w wr w3 W X : World} {kv' : Blks} {nl : List UInt8} {ob : Obj} (hk : k < s.size) (hCw : Chg S w wr) (hb : wr.heap[b]? = some ob) (hne : b ≠ rm) (hR : S rm ∨ w.heap.size ≤ rm)
    (hC2 : Chg Nil wr W) (hX : Chg (· = rm) W X) (hC3 : Chg (· = rm) X w3) (hA3 : MapA w3 rm ik (aput (blkM kv') q (blkV nl))) (hkv : kv' = dputs kv p (s.data.toList.take k)) (hnl : nl = (dget kv' q).set r s[k]) (hq : q = (p + k) / 64) (hr : r = (p + k) % 64) :
    Chg S w w3 ∧ w3.heap[b]? = some ob ∧ MapA w3 rm ik (blkM (dputs kv p (s.data.toList.take (k + 1)))) := by
  have hz := hCw.size
  have c1 := hX.then hC3
  have c2 : Chg (· = rm) wr w3 := (hC2.nil).then c1
  refine ⟨hCw.trans c2 (fun x hx e => by have : x = rm := e; subst this; rcases hR with h | h; exact h; omega), c2.keep hb hne, ?_⟩
  rw [take_byte s k hk, dputs_snoc kv p, ← hkv]
  rw [blkM_put] at hA3
  have hlen : (s.data.toList.take k).length = k := by
    rw [List.length_take, Array.length_toList]
    have : s.data.size = s.size := rfl
    omega
  rw [hlen]
  unfold dput
  rw [← hq, ← hr, ← hnl]
  exact hA3


def dWrite (d : PData) (p : Int) (s : ByteArray) : PData × Nat :=
  if p < 0 ∨ 4096 < p ∨ 4096 - p < s.size then (d, 2) else if s.size = 0 then (d, 0) else (⟨max d.size (p.toNat + s.size), dputs d.kv p.toNat s.data.toList⟩, 0)

theorem empty_of_size {s : ByteArray} (h : s.size = 0) : s = ⟨#[]⟩ := by
  obtain ⟨a⟩ := s
  have : a = #[] := Array.eq_empty_of_size_eq_zero h
  subst this; rfl
theorem isEmpty_of_size {s : ByteArray} (h : 0 < s.size) : s.toList.isEmpty = false := by
  cases hl : s.toList with
  | nil =>
    rw [ByteArray.toList_eq] at hl
    have h0 : s.data.size = 0 := by rw [← Array.length_toList, hl]; rfl
    have h1 : s.size = s.data.size := rfl
    omega
  | cons a l => rfl

/-- What the loop leaves, and the size stored. -/
theorem dw_done {w wr : World} {b rm n : Nat} {v : Int} {kv : Blks} {S : Nat → Prop} {T : TypeId} {z : Value} (hS : S b) (hlt : ∀ x, S x → x < w.heap.size) (hC : Chg S w wr) (hb : wr.heap[b]? = some (.cells #[z, .map (some rm)] T (0, 0)))
    (hM : MapA wr rm ik (blkM kv)) (hrm : S rm ∨ w.heap.size ≤ rm) (hv : v = n) (hsm : n ≤ 4096) (hf : Full kv) :
    Chg S w (wr.setCell ⟨b, 0, none⟩ (.int .i64 v)) ∧ ∃ S', DataAt (wr.setCell ⟨b, 0, none⟩ (.int .i64 v)) b ⟨n, kv⟩ S' ∧ Grow S S' w (wr.setCell ⟨b, 0, none⟩ (.int .i64 v)) := by
  subst hv
  have hbl := hlt b hS
  have hz := hC.size
  have hml := hM.lt
  have hne : rm ≠ b := fun e => by
    subst e
    obtain ⟨es, clock, h, _⟩ := hM
    rw [hb] at h; cases h
  have hb2 := block_setCell hb 0 (.int .i64 n)
  simp at hb2
  have hset : Chg (· = b) wr (wr.setCell ⟨b, 0, none⟩ (.int .i64 n)) := (Chg.refl (· = b) wr).setCell (p := ⟨b, 0, none⟩) (.inr rfl) _
  refine ⟨hC.setCell (.inr hS) _, fun x => S x ∨ x = rm, ⟨⟨_, T, hb2, .inr ⟨rm, rfl, hM.keep hset hne⟩, fun r hr => by cases hr; exact .inr rfl⟩, .inl hS, ?_, hsm, hf⟩, ?_⟩
  · rintro x (h | rfl)
    · have := hlt x h; simp; omega
    · have := hM.lt; simpa using this
  · rintro x (h | rfl)
    · exact .inl h
    · rcases hrm with h | h
      · exact .inl h
      · right; simp; omega

theorem b_ne {w : World} {b rm : Nat} {cs : Array Value} {T : TypeId} {f : Nat × Nat} {M : List (Int × Value)} (hb : w.heap[b]? = some (.cells cs T f)) (hM : MapA w rm ik M) : b ≠ rm := fun e => by
  subst e
  obtain ⟨es, clock, h, _⟩ := hM
  rw [hb] at h; cases h

set_option maxHeartbeats 2000000 in
set_option maxRecDepth 100000 in
theorem dwrite_any {B : Nat} (ad : Nat → Addr) (b : Nat) (p : Int) (s : ByteArray) (d : PData) (S : Nat → Prop) (w : World) (he : Env B ad [2] w) (ht : DataAt w b d S) :
    Calls Tryd.prog 14 #[.pointer (some ⟨b, 0, none⟩), .int .i64 p, .string s] w fun e w' =>
      e = .returned (errV ad (dWrite d p s).2) ∧ Chg S w w' ∧ ∃ S', DataAt w' b (dWrite d p s).1 S' ∧ Grow S S' w w' := by
  have HT := Lib.hid ht
  obtain ⟨h2, h2l⟩ := he.get (c := 2) (by simp)
  simp only [gl] at h2 h2l
  clear he
  by_cases hbad : p < 0 ∨ 4096 < p ∨ 4096 - p < s.size
  · have e1 : dWrite d p s = (d, 2) := if_pos hbad
    rw [e1]
    clear e1 ht
    have hgo : p < 0 ∨ ¬ p < 0 ∧ 4096 < p ∨ ¬ p < 0 ∧ p ≤ 4096 ∧ 4096 - p < s.size := by omega
    clear hbad
    rcases hgo with h | ⟨h, h'⟩ | ⟨h, h', h''⟩
    all_goals
      go_enter Tryd.func14, Tryd.ntmps14
      go_wp2_with fail
      go_ret
      exact ⟨rfl, Chg.refl _ _, S, HT.out, Grow.refl _ _ _⟩
  by_cases h0 : s.size = 0
  · have e1 : dWrite d p s = (d, 0) := by rw [dWrite, if_neg hbad, if_pos h0]
    obtain rfl := empty_of_size h0
    rw [e1]
    have g1 : ¬ p < 0 := by omega
    have g2 : p ≤ 4096 := by omega
    have g3 : ¬ (4096 - p < 0) := by omega
    clear e1 ht hbad h0
    go_enter Tryd.func14, Tryd.ntmps14
    go_wp2_with fail
    go_ret
    exact ⟨rfl, Chg.refl _ _, S, HT.out, Grow.refl _ _ _⟩
  obtain ⟨p, rfl⟩ : ∃ n : Nat, p = n := ⟨p.toNat, by omega⟩
  have e1 : dWrite d p s = (⟨max d.size (p + s.size), dputs d.kv p s.data.toList⟩, 0) := by rw [dWrite, if_neg hbad, if_neg h0]; rfl
  rw [e1]
  have g1 : ¬ ((p : Int) < 0) := by omega
  have g2 : (p : Int) ≤ 4096 := by omega
  have g3 : ¬ (4096 - (p : Int) < (s.size : Int)) := by omega
  have g4 := isEmpty_of_size (s := s) (by omega)
  have g5 : s.size ≤ 4096 - p := by omega
  have g6 : max d.size (p + s.size) ≤ 4096 := by have := ht.small; omega
  have hsml := ht.small
  have HF := Lib.hid ht.full
  clear hbad h0 e1
  obtain ⟨⟨mv, T, hb, hm, hmS⟩, hS, hlt, _, _⟩ := ht
  have hbl := lt_of_block hb
  have hc0 := cell_of hb 0
  have hc1 := cell_of hb 1
  have hf0 := free_of hb 1
  simp only [List.getElem?_toArray, List.getElem?_cons_zero, List.getElem?_cons_succ] at hc0 hc1
  rcases hm with ⟨rfl, hkv⟩ | ⟨rm, rfl, hA⟩
  -- no map yet
  have HB := Lib.hid hb
  have hmm := @run_makeMap Tryd.prog
  have hq := fun W => run_eql_map_nil (P := Tryd.prog) W 92 3 97 none Tryd.underlying92
  have hkv0 : d.kv = [] := by simpa [blkM] using hkv
  have HK := Lib.hid hkv0
  have HA0 : MapA ((w.setCell ⟨b, 1, none⟩ (.map (some w.heap.size))).alloc (.map #[] 0)) w.heap.size ik (blkM d.kv) := by
    rw [hkv0]
    have := mapA_made (w.setCell ⟨b, 1, none⟩ (.map (some w.heap.size))) ik
    rw [World.size_setCell] at this
    exact this
  have HB0 : ((w.setCell ⟨b, 1, none⟩ (.map (some w.heap.size))).alloc (.map #[] 0)).heap[b]? = some (.cells #[.int .i64 d.size, .map (some w.heap.size)] T (0, 0)) := by
    refine block_alloc_old ?_ _
    have := block_setCell hb 1 (.map (some w.heap.size))
    simpa using this
  have HC0 : Chg S w ((w.setCell ⟨b, 1, none⟩ (.map (some w.heap.size))).alloc (.map #[] 0)) := ((Chg.refl S w).setCell (p := ⟨b, 1, none⟩) (.inr hS) _).alloc _
  obtain ⟨rm, hrm⟩ : ∃ rm, rm = w.heap.size := ⟨_, rfl⟩
  obtain ⟨w0, hw0⟩ : ∃ w0, w0 = (w.setCell ⟨b, 1, none⟩ (.map (some w.heap.size))).alloc (.map #[] 0) := ⟨_, rfl⟩
  rw [← hw0] at HA0 HB0 HC0
  rw [← hrm] at HA0 HB0
  have HA := Lib.hid HA0
  have HB2 := Lib.hid HB0
  have HR : Hid (S rm ∨ w.heap.size ≤ rm) := Lib.hid (.inr (by rw [hrm]; exact Nat.le_refl _))
  have HW := Lib.hid hw0
  have HRM := Lib.hid hrm
  clear hb hkv hkv0 HA0 HB0 hw0 hrm hmS HK
  go_enter Tryd.func14, Tryd.ntmps14
  go_wp2_with fail
  rw [← HW.out]
  rotate_left
  -- there is one
  have hq := fun W => run_eql_map_nil (P := Tryd.prog) W 92 3 97 (some rm) Tryd.underlying92
  have HA := Lib.hid hA
  have HB2 := Lib.hid hb
  have HR : Hid (S rm ∨ w.heap.size ≤ rm) := Lib.hid (.inl (hmS rm rfl))
  have HC0 := Chg.refl S w
  clear hA hb hmS
  go_enter Tryd.func14, Tryd.ntmps14
  go_wp2_with fail
  rotate_left
  all_goals
    go_loopw [37] (fun i wr => RelW d.kv p s.size s.data.toList b rm d.size T S w i wr) (fun i _ => (s.size - intOf i).toNat)
    case atStart => exact ⟨0, Nat.zero_le _, rfl, HC0, HB2.out, by simpa [dputs] using HA.out⟩
    case round =>
      rename_i wr _
      obtain ⟨k, hk, rfl, hC, hbr, hM⟩ := hrel
      have hne := b_ne hbr hM
      have hbl2 := lt_of_block hbr
      by_cases hlt1 : k < s.size
      · have hf1 := dputs_full (s.data.toList.take k) p (by have := List.length_take_le k s.data.toList; omega) HF.out
        obtain ⟨kv', hkv⟩ : ∃ kv', kv' = dputs d.kv p (s.data.toList.take k) := ⟨_, rfl⟩
        rw [← hkv] at hM hf1
        obtain ⟨q, hq'⟩ : ∃ q : Nat, q = (p + k) / 64 := ⟨_, rfl⟩
        obtain ⟨r, hr'⟩ : ∃ r : Nat, r = (p + k) % 64 := ⟨_, rfl⟩
        have e1 : ((p : Int) + (k : Int)) / 64 = (q : Int) := by omega
        have e2 : ((p : Int) + (k : Int)) % 64 = (r : Int) := by omega
        have hr64 : r < 64 := by omega
        have hlk := dlook (.inr ⟨rm, rfl, hM⟩) q
        have hd64 := dget_len hf1 q
        have d1 := cell_of hbr 1
        simp only [List.getElem?_toArray, List.getElem?_cons_zero, List.getElem?_cons_succ] at d1
        have hml := hM.lt
        have HBR := Lib.hid hbr
        have HKV := Lib.hid hkv
        have HQ := Lib.hid hq'
        have HRM' := Lib.hid hr'
        have HD := Lib.hid hd64
        have HM := Lib.hid hM
        obtain ⟨x0, hx0⟩ : ∃ x0, (blkC (dget kv' q)).toArray[r]? = some x0 := ⟨(blkC (dget kv' q)).toArray[r]'(by simp [blkC_len, HD.out]; omega), Array.getElem?_eq_getElem _⟩
        have HX := Lib.hid hx0
        clear hbr hkv hq' hr' hd64 hM hx0
        go_wp2_with (refine wpList_storeB rfl 97 _ _ rfl wr.heap.size (blkC (dget kv' q)) 64 rfl rfl (block_alloc wr _) rfl info64 ((blkC_len _).trans HD.out) (blkC_one _) ?_; intro w1 hb1 hC1 hz1; have hx1 := (cell_of hb1 r).trans HX.out; have hf1 := free_of hb1 r; have HB1 := Lib.hid hb1; have HZ1 := Lib.hid hz1; have HBR1 := Lib.hid (hC1.keep (block_alloc_old HBR.out _) (by omega)); clear hb1 hz1)
        obtain ⟨m1, m2, m3, m4⟩ := dw_mid (r := r) (c := s[k]) HM.out hC1 HBR1.out hbl2 HB1.out
        obtain ⟨nl, hnl⟩ : ∃ nl, nl = (dget kv' q).set r s[k] := ⟨_, rfl⟩
        rw [← hnl] at m1
        have hn : (blkC nl).length = 64 := by rw [blkC_len, hnl]; simp [HD.out]
        have hu := Tryd.underlying97
        have hi : (Tryd.prog.info? 97).map (·.size) = some (blkC nl).length := by rw [hn]; exact info64
        have ho := blkC_one nl
        have HRg := Lib.hid (fun x (hx : Chg (· = rm) (w1.setCell ⟨wr.heap.size, r, none⟩ (.int .u8 s[k].toNat)) x) => And.intro (cell_of (hx.keep m3 hne) 1) (rangeAt_of (hx.keep m1 (by omega))))
        simp only [List.getElem?_toArray, List.getElem?_cons_zero, List.getElem?_cons_succ] at HRg
        have HM2 := Lib.hid m2
        have HC2 := Lib.hid m4
        have HNL := Lib.hid hnl
        clear m1 m2 m3 m4 hnl
        go_region_held3 (fun w' => w'.cell? ⟨b, 1, none⟩ = some (.map (some rm)) ∧ w'.rangeAt wr.heap.size 0 (blkC nl))
          (first | exact HK3.out.1 | (refine HRg.out _ ?_; repeat (first | exact Chg.refl _ _ | refine Chg.drew ?_ | refine Chg.drewsN ?_ _ | refine Chg.alloc ?_ _)))
          ((refine upon_mapUpdateA (val := blkV nl) Tryd.underlying92 law_blk (HM2.out.keep (S := Nil) (by repeat (first | exact Chg.refl _ _ | refine Chg.drew ?_ | refine Chg.drewsN ?_ _ | refine Chg.alloc ?_ _)) (fun f => f)) (q : Int) rfl ?_; intro w3 hA3 hC3 hz3; have HK3 := Lib.hid (And.intro (HRg.out _ (Chg.then (by repeat (first | exact Chg.refl _ _ | refine Chg.drew ?_ | refine Chg.drewsN ?_ _ | refine Chg.alloc ?_ _)) hC3)) (relW_step hlt1 hC HBR.out hne HR.out HC2.out (by repeat (first | exact Chg.refl _ _ | refine Chg.drew ?_ | refine Chg.drewsN ?_ _ | refine Chg.alloc ?_ _)) hC3 hA3 HKV.out HNL.out HQ.out HRM'.out))))
        go_wp2_with fail
        go_roundw
        case rel => exact ⟨k + 1, by omega, by go_num, HK3.out.2.1, HK3.out.2.2.1, HK3.out.2.2.2⟩
        case measure => simp [intOf]; omega
      · have hks : k = s.size := by omega
        have htk : s.data.toList.take k = s.data.toList := List.take_of_length_le (by rw [Array.length_toList, hks]; exact Nat.le_refl _)
        rw [htk] at hM
        have d0 := cell_of hbr 0
        have d2 := free_of hbr 0
        simp only [List.getElem?_toArray, List.getElem?_cons_zero, List.getElem?_cons_succ] at d0
        have HBR := Lib.hid hbr
        have HM := Lib.hid hM
        clear hks htk hbr hM
        by_cases hmx : (d.size : Int) < (p : Int) + (s.size : Int)
        all_goals
          go_wp2_with fail
          go_ret
          exact ⟨rfl, dw_done hS hlt hC HBR.out HM.out HR.out (by omega) g6 (dputs_full _ _ (by have e : s.data.toList.length = s.size := Array.length_toList; omega) HF.out)⟩
end Go.Proofs.YtgebinfbbopnlaaDoor
