/- package xdr: the Reader's value by contract. -/
import Derived.Test.YtofhnglgebllbaaDoorXdr4
namespace Go.Proofs.YtofhnglgebllbaaDoor
open Go.RowKit Go.Lib
set_option linter.unusedVariables false
set_option linter.unusedSimpArgs false

/-- The number that so many bytes are, the highest first. -/
def numK (s : ByteArray) : Nat → Nat
  | 0 => 0
  | k + 1 => numK s k * 256 + ((s.data.toList[k]?).getD 0).toNat
theorem numK_lt (s : ByteArray) : ∀ k, numK s k < 256 ^ k
  | 0 => by simp [numK]
  | k + 1 => by
    have h := numK_lt s k
    have h2 := ((s.data.toList[k]?).getD 0).toNat_lt
    rw [numK, Nat.pow_succ]
    omega
theorem or8 (n b : Nat) (hn : n < 72057594037927936) (hb : b < 256) : bits .or .u64 ((n : Int) * 256) (b : Int) = ((n * 256 + b : Nat) : Int) := by
  have h1 : ((BitVec.ofInt 64 ((n : Int) * 256)) ||| (BitVec.ofInt 64 (b : Int))).toNat = n * 256 + b := by
    rw [BitVec.toNat_or, BitVec.toNat_ofInt, BitVec.toNat_ofInt]
    have e1 : (((n : Int) * 256) % ((2 ^ 64 : Nat) : Int)).toNat = 2 ^ 8 * n := by omega
    have e2 : ((b : Int) % ((2 ^ 64 : Nat) : Int)).toNat = b := by omega
    rw [e1, e2, ← Nat.two_pow_add_eq_or_of_lt (i := 8) (by omega) n]
    omega
  show IntKind.u64.wrap _ = _
  have h2 : (BitVec.ofInt IntKind.u64.bits ((n : Int) * 256) ||| BitVec.ofInt IntKind.u64.bits (b : Int)).toNat = n * 256 + b := h1
  rw [h2, IntWalk.u64_in _ (by omega)]
def RdAt (w : World) (b : Nat) (s : ByteArray) : Prop := ∃ T, w.heap[b]? = some (.cells #[.string s] T (0, 0))
theorem RdAt.keep {w w' : World} {b : Nat} {s : ByteArray} {U : Nat → Prop} (h : RdAt w b s) (c : Chg U w w') (hb : ¬ U b) : RdAt w' b s := by
  obtain ⟨T, h⟩ := h; exact ⟨T, c.keep h hb⟩
def RelVal (s : ByteArray) (m : Nat) (w : World) (v i : Value) (wr : World) : Prop := ∃ k : Nat, k ≤ m ∧ v = .int .u64 ((numK s k : Nat) : Int) ∧ i = .int .i64 k ∧ Chg Nil w wr
set_option maxHeartbeats 1000000 in
set_option maxRecDepth 100000 in
theorem value_any (b m : Nat) (s : ByteArray) (w : World) (ht : RdAt w b s) (hm : m ≤ 8) (hs : s.size ≤ 9223372036854775807) :
    Calls Tryd.prog 195 #[.pointer (some ⟨b, 0, none⟩), .int .i64 m] w fun e w' => e = .returned (.tuple #[.int .u64 ((if s.size < m then 0 else numK s m : Nat) : Int), .bool (decide (m ≤ s.size))]) ∧ Chg Nil w w' := by
  obtain ⟨T, ht⟩ := ht
  have e0 := cell_of ht 0
  simp at e0
  have HT := Lib.hid ht
  clear ht
  by_cases hf : s.size < m
  · have hfI : (s.size : Int) < (m : Int) := by omega
    have e1 : decide (m ≤ s.size) = false := by simp; omega
    rw [if_pos hf, e1]
    clear hf e1
    go_enter Tryd.func195, Tryd.ntmps195
    go_wp2_with fail
    go_ret2
    exact ⟨rfl, Chg.refl _ _⟩
  · have hfI : ¬ (s.size : Int) < (m : Int) := by omega
    have e1 : decide (m ≤ s.size) = true := by simp; omega
    rw [if_neg hf, e1]
    have hms : m ≤ s.size := by omega
    clear hf e1
    go_enter Tryd.func195, Tryd.ntmps195
    go_wp2_with fail
    go_loopw [4, 15] (fun v i wr => RelVal s m w v i wr) (fun _ i _ => (m - RowKit.intOf i).toNat)
    case atStart => exact ⟨0, Nat.zero_le _, rfl, rfl, Chg.refl _ _⟩
    case round =>
      obtain ⟨k, hk, rfl, rfl, hC⟩ := hrel
      have e0' := cell_of (hC.keep HT.out (fun f => f)) 0
      simp at e0'
      by_cases hlt : k < m
      · have j0 : (0 : Int) ≤ (k : Int) := by omega
        have j1 : (k : Int) < (s.size : Int) := by omega
        have j2 : (k : Int) < (m : Int) := by omega
        have hks : k < s.size := by omega
        have hb : (s.data.toList[k]?).getD 0 = s[k] := by
          have hkl : k < s.data.toList.length := by rw [Array.length_toList]; exact hks
          rw [List.getElem?_eq_getElem hkl]; rfl
        have hx := numK_lt s k
        have hx2 : numK s k < 72057594037927936 := Nat.lt_of_lt_of_le hx (Nat.pow_le_pow_right (by omega) (show k ≤ 7 by omega))
        have hor := or8 (numK s k) (s[k]).toNat hx2 (s[k]).toNat_lt
        have hst : numK s (k + 1) = numK s k * 256 + (s[k]).toNat := by rw [numK, hb]
        have HST := Lib.hid hst
        obtain ⟨q, hq⟩ : ∃ q, q = numK s k := ⟨_, rfl⟩
        rw [← hq] at hor hx2 HST ⊢
        clear hst hx hb hq
        go_wp2_with fail
        have hwr : IntKind.u64.wrap ((s[k].toNat : Nat) : Int) = ((s[k].toNat : Nat) : Int) := IntWalk.u64_in _ (by have := (s[k]).toNat_lt; omega)
        refine ⟨⟨k + 1, by omega, by rw [hwr, hor, HST.out], by go_num, hC⟩, by simp [RowKit.intOf]; omega⟩
      · obtain rfl : k = m := by omega
        go_wp2_with fail
        go_ret2
        exact ⟨rfl, hC⟩

theorem RdAt.new (w : World) (s : ByteArray) (T : TypeId) : RdAt (w.alloc (.cells #[.string s] T)) w.heap.size s := ⟨T, block_alloc w _⟩
theorem RdAt.put {w : World} {b : Nat} {s : ByteArray} (h : RdAt w b s) (s' : ByteArray) : RdAt (w.setCell ⟨b, 0, none⟩ (.string s')) b s' := by
  obtain ⟨T, h⟩ := h
  have := block_setCell h 0 (.string s')
  simp at this
  exact ⟨T, this⟩
/-- A number of so many bytes read: itself, what is left, the error. -/
def rdNum (s : ByteArray) (m : Nat) (ok : Nat → Bool) : Nat × ByteArray × Nat := if m ≤ s.size ∧ ok (numK s m) = true then (numK s m, s.extract m s.size, 0) else (0, s, 1)
set_option maxHeartbeats 1000000 in
theorem rend_any {B : Nat} (ad : Nat → Addr) (b : Nat) (s : ByteArray) (w : World) (he : Env B ad [1] w) (ht : RdAt w b s) :
    Calls Tryd.prog 155 #[.pointer (some ⟨b, 0, none⟩)] w fun e w' => e = .returned (errV ad (if s = ⟨#[]⟩ then 0 else 1)) ∧ Chg Nil w w' := by
  obtain ⟨q1, q1l⟩ := he.get (c := 1) (by simp)
  simp only [gl] at q1 q1l
  obtain ⟨T, h2⟩ := ht
  have c0 := cell_of h2 0
  simp at c0
  clear he h2
  by_cases hs : s = ⟨#[]⟩
  · subst hs
    go_enter Tryd.func155, Tryd.ntmps155
    go_wp2_with fail
    go_ret
    exact ⟨rfl, Chg.refl _ _⟩
  · rw [if_neg hs]
    have hne : (s.toList == []) = false := by
      rw [beq_eq_false_iff_ne]
      intro e
      apply hs
      have e2 : s.data.toList = [] := by rw [← e]; exact (ByteArray.toList_eq s).symm
      obtain ⟨d⟩ := s
      simp only at e2
      have : d = #[] := by apply Array.ext'; simpa using e2
      rw [this]
    clear hs
    go_enter Tryd.func155, Tryd.ntmps155
    go_wp2_with fail
    go_ret
    exact ⟨rfl, Chg.refl _ _⟩
end Go.Proofs.YtofhnglgebllbaaDoor
