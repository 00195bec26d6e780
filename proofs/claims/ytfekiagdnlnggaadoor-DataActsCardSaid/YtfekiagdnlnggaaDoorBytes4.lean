/- pigeonholesref1.Bytes: Resize by contract. -/
import Derived.Test.YtfekiagdnlnggaaDoorBytes2
import Derived.Test.YtfekiagdnlnggaaDoorBytes3
namespace Go.Proofs.YtfekiagdnlnggaaDoor
open Go.RowKit
set_option linter.unusedVariables false
set_option linter.unusedSimpArgs false

/-- Holes from a size on. -/
def cutH (h : List Bool) (n : Nat) : List Bool := h.mapIdx fun k x => if n ≤ k * 64 then true else x
def bResize (s : ByteArray) (h : List Bool) (n : Int) : ByteArray × List Bool × Nat :=
  if n < 0 ∨ 4096 < n then (s, h, 2) else if (s.size : Int) ≤ n then (s ++ zerosB (n.toNat - s.size), h, 0) else (s.extract 0 n.toNat, cutH h n.toNat, 0)
theorem cutH_len (h : List Bool) (n : Nat) : (cutH h n).length = h.length := by simp [cutH]
/-- Behind k places. -/
def cutTo (h : List Bool) (n k : Nat) : List Bool := h.mapIdx fun i x => if i < k ∧ n ≤ i * 64 then true else x
theorem cutTo_len (h : List Bool) (n k : Nat) : (cutTo h n k).length = h.length := by simp [cutTo]
theorem cutTo_zero (h : List Bool) (n : Nat) : cutTo h n 0 = h := by
  apply List.ext_getElem?
  intro i
  simp [cutTo]
theorem cutTo_all (h : List Bool) (n k : Nat) (hk : h.length ≤ k) : cutTo h n k = cutH h n := by
  apply List.ext_getElem?
  intro i
  simp only [cutTo, cutH, List.getElem?_mapIdx]
  cases hi : h[i]? with
  | none => rfl
  | some x =>
    have := (List.getElem?_eq_some_iff.1 hi).1
    simp only [Option.map_some]
    congr 1
    by_cases c : n ≤ i * 64
    · rw [if_pos ⟨by omega, c⟩, if_pos c]
    · rw [if_neg (fun h => c h.2), if_neg c]
theorem cutTo_in (h : List Bool) (n k : Nat) (hk : k < h.length) (hn : n ≤ k * 64) : (cutTo h n k).set k true = cutTo h n (k + 1) := by
  apply List.ext_getElem?
  intro i
  simp only [cutTo, List.getElem?_set, List.getElem?_mapIdx, List.length_mapIdx]
  by_cases c : k = i
  · subst c
    rw [if_pos rfl, if_pos hk, List.getElem?_eq_getElem hk, Option.map_some, if_pos ⟨by omega, hn⟩]
  · rw [if_neg c]
    cases hi : h[i]? with
    | none => rfl
    | some x =>
      simp only [Option.map_some]
      congr 1
      by_cases c2 : i < k ∧ n ≤ i * 64
      · rw [if_pos c2, if_pos ⟨by omega, c2.2⟩]
      · rw [if_neg c2, if_neg (fun h => c2 ⟨by omega, h.2⟩)]
theorem cutTo_out (h : List Bool) (n k : Nat) (hn : ¬ n ≤ k * 64) : cutTo h n k = cutTo h n (k + 1) := by
  apply List.ext_getElem?
  intro i
  simp only [cutTo, List.getElem?_mapIdx]
  cases hi : h[i]? with
  | none => rfl
  | some x =>
    simp only [Option.map_some]
    congr 1
    by_cases c2 : i < k ∧ n ≤ i * 64
    · rw [if_pos c2, if_pos ⟨by omega, c2.2⟩]
    · rw [if_neg c2, if_neg (fun h => by
        by_cases e : i = k
        · subst e; exact hn h.2
        · exact c2 ⟨by omega, h.2⟩)]
/-- A hole set in place. -/
theorem bytes_hole {S : Nat → Prop} {w : World} {b k g off cap : Nat} {s : ByteArray} {h : List Bool} {Ss : Nat → Prop} {T : TypeId} (hb : w.heap[b]? = some (.cells #[.string s, .slice (some ⟨g, off, none⟩) h.length cap] T (0, 0))) (hs : SliceAt w (.slice (some ⟨g, off, none⟩) h.length cap) 4 1 h.length (h.flatMap holeC) Ss)
    (hnb : ¬ Ss b) (hsub : ∀ x, Ss x → S x) (hS : S b) (hlt : ∀ x, S x → x < w.heap.size) (hsm : s.size ≤ 4096) (hf : h.length ≤ 64) (hk : k < h.length) (x : Bool) : BytesPost S w b s (h.set k x) (w.setCell ⟨g, off + k, none⟩ (.bool x)) := by
  have hg : Ss g := by
    obtain ⟨_, _, _, _, e, _, _, _, _, _, h, _⟩ := hs.place (by omega)
    cases e; exact h
  have hgb : b ≠ g := fun e => hnb (by rw [e]; exact hg)
  have hset := hs.setElem holeC_len hk x
  have e1 : w.setCells g (off + k * 1) (holeC x) = w.setCell ⟨g, off + k, none⟩ (.bool x) := by rw [Nat.mul_one]; rfl
  rw [e1] at hset
  have c1 : Chg (· = g) w (w.setCell ⟨g, off + k, none⟩ (.bool x)) := (Chg.refl (· = g) w).setCell (p := ⟨g, off + k, none⟩) (.inr rfl) _
  have hlen : (h.set k x).length = h.length := List.length_set
  exact ⟨c1.mono (fun y _ e => by have : y = g := e; subst this; exact hsub _ hg), S, ⟨⟨_, T, Ss, c1.keep hb hgb, by rw [hlen]; exact hset, hnb, hsub⟩, hS, fun y hy => by have := hlt y hy; simpa using this, hsm, by rw [hlen]; exact hf⟩, Grow.refl _ _ _⟩

def RelX (s : ByteArray) (h : List Bool) (b n : Nat) (S : Nat → Prop) (w : World) (i : Value) (wr : World) : Prop :=
  ∃ k : Nat, k ≤ h.length ∧ i = .int .i64 k ∧ BytesPost S w b s (cutTo h n k) wr

set_option maxHeartbeats 2000000 in
set_option maxRecDepth 100000 in
theorem bresize_any (b : Nat) (n : Int) (s : ByteArray) (h : List Bool) (S : Nat → Prop) (w : World) (ht : BytesAt w b s h S) :
    Calls Tryd.prog 52 #[.pointer (some ⟨b, 0, none⟩), .int .i64 n] w fun e w' =>
      e = .returned (.int .i64 (bResize s h n).2.2) ∧ BytesPost S w b (bResize s h n).1 (bResize s h n).2.1 w' := by
  have HS := Lib.hid (bytes_same ht)
  have HT := Lib.hid ht
  have hsm := ht.small
  have hf := ht.few
  by_cases hbad : n < 0 ∨ 4096 < n
  · have e1 : bResize s h n = (s, h, 2) := if_pos hbad
    rw [e1]
    clear e1 ht
    have hgo : n < 0 ∨ ¬ n < 0 ∧ 4096 < n := by omega
    clear hbad
    rcases hgo with h' | ⟨h', h2⟩
    all_goals
      go_enter Tryd.func52, Tryd.ntmps52
      go_wp2_with fail
      go_ret
      exact ⟨rfl, HS.out⟩
  obtain ⟨n, rfl⟩ : ∃ k : Nat, n = k := ⟨n.toNat, by omega⟩
  have g1 : ¬ (n : Int) < 0 := by omega
  have g2 : ¬ 4096 < (n : Int) := by omega
  obtain ⟨⟨v, T, Ss, hb, _, _, _⟩, _, hlt, _, _⟩ := ht
  have hc0 := cell_of hb 0
  have hf0 := free_of hb 0
  have hbl := lt_of_block hb
  simp only [List.getElem?_toArray, List.getElem?_cons_zero] at hc0
  have HLT := Lib.hid hlt
  clear hb hlt
  by_cases h1 : s.size ≤ n
  · obtain ⟨z, hz⟩ : ∃ z, z = n - s.size := ⟨_, rfl⟩
    have e1 : bResize s h n = (s ++ zerosB z, h, 0) := by rw [bResize, if_neg hbad, if_pos (by omega), hz]; rfl
    rw [e1]
    have hw1 : IntKind.i64.wrap ((n : Int) - (s.size : Int)) = (z : Int) := by rw [IntWalk.i64_in _ (by omega)]; omega
    have hz64 : z ≤ 4096 := by omega
    have hzb : (zerosB z).size ≤ 4096 := by rw [zerosB_size]; exact hz64
    have hsz : (s ++ zerosB z).size ≤ 4096 := by rw [ByteArray.size_append, zerosB_size]; omega
    have j1 : (s.size : Int) ≤ (n : Int) := by omega
    clear hz e1 hbad
    go_enter Tryd.func52, Tryd.ntmps52
    go_wp2_with fail
    go_region_with ((go_at_call 49; refine (zeros_nat z _ (by omega)).mono ?_; rintro e w2 ⟨rfl, hc2⟩; have c2 := (((Chg.refl Nil w).drew.then hc2).cell (p := ⟨b, 0, none⟩) hbl (fun f => f)).trans hc0; have f2 := (((Chg.refl Nil w).drew.then hc2).frozen (p := ⟨b, 0, none⟩) hbl (fun f => f)).trans hf0; have b2 := Nat.lt_of_lt_of_le hbl ((Chg.refl Nil w).drew.then hc2).size))
    all_goals
      go_wp2_with fail
      go_ret
      exact ⟨rfl, bytes_text HT.out (by first | exact (Chg.refl Nil w).drew.then hc2 | exact hc2) hsz⟩
  · have e1 : bResize s h n = (s.extract 0 n, cutH h n, 0) := by rw [bResize, if_neg hbad, if_neg (by omega)]; rfl
    rw [e1]
    have j1 : (n : Int) < (s.size : Int) := by omega
    have j2 : n ≤ s.size := by omega
    have hex : (s.extract 0 n).size ≤ 4096 := by rw [ByteArray.size_extract]; omega
    have HP0 := Lib.hid (bytes_text (s' := s.extract 0 n) HT.out (Chg.refl Nil w) hex)
    clear e1 hbad h1
    go_enter Tryd.func52, Tryd.ntmps52
    go_wp2_with fail
    clear hc0 hf0
    go_loopw [5] (fun i wr => RelX (s.extract 0 n) h b n S w i wr) (fun i _ => (h.length - intOf i).toNat)
    case atStart => exact ⟨0, Nat.zero_le _, rfl, by rw [cutTo_zero]; exact HP0.out⟩
    case round =>
      obtain ⟨k, hk, rfl, hP⟩ := hrel
      have HPR := Lib.hid hP
      obtain ⟨hCw, S4, ht4, hG4⟩ := hP
      have HG4 := Lib.hid hG4
      have hl4 := cutTo_len h n k
      obtain ⟨⟨v4, T4, Ss4, hb4, hs4, hnb4, hsub4⟩, hS4, hlt4, hsm4, hf4⟩ := ht4
      have d1 := cell_of hb4 1
      simp only [List.getElem?_toArray, List.getElem?_cons_zero, List.getElem?_cons_succ] at d1
      obtain ⟨a4, cap4, rfl⟩ := hs4.shape
      rw [hl4] at d1
      have HB4 := Lib.hid hb4
      have HS4 := Lib.hid hs4
      have HL4 := Lib.hid hl4
      have HSub4 := Lib.hid hsub4
      have HLt4 := Lib.hid hlt4
      clear hb4 hs4 hl4 hsub4 hlt4 hG4
      by_cases hlt1 : k < h.length
      · have j3 : (k : Int) < (h.length : Int) := by omega
        have j0 : (0 : Int) ≤ (k : Int) := by omega
        by_cases hin : n ≤ k * 64
        · have j4 : (n : Int) ≤ (k : Int) * 64 := by omega
          obtain ⟨g, off, cap', cs, e, hbg, _⟩ := HS4.out.place (by rw [HL4.out]; omega)
          cases e
          have z0 := HS4.out.elem holeC_len (k := k) (x := ((cutTo h n k)[k]'(by rw [HL4.out]; omega))) (List.getElem?_eq_getElem _) 0 _ rfl
          simp only [Nat.mul_one, Nat.add_zero] at z0
          obtain ⟨z1, z2, z3⟩ := z0
          have HFin := Lib.hid (bytes_next HLT.out hCw HG4.out (bytes_hole HB4.out HS4.out hnb4 HSub4.out hS4 HLt4.out hsm4 hf4 (by rw [HL4.out]; omega) true))
          rw [cutTo_in h n k hlt1 hin] at HFin
          clear hbg
          go_wp2_with fail
          go_roundw
          case rel => exact ⟨k + 1, by omega, by go_num, HFin.out⟩
          case measure => simp [intOf]; omega
        · have j4 : ¬ ((n : Int) ≤ (k : Int) * 64) := by omega
          have HFin := HPR
          rw [cutTo_out h n k hin] at HFin
          go_wp2_with fail
          go_roundw
          case rel => exact ⟨k + 1, by omega, by go_num, HFin.out⟩
          case measure => simp [intOf]; omega
      · have HFin := HPR
        rw [cutTo_all h n k (by omega)] at HFin
        go_wp2_with fail
        go_ret
        exact ⟨rfl, HFin.out⟩
end Go.Proofs.YtfekiagdnlnggaaDoor
