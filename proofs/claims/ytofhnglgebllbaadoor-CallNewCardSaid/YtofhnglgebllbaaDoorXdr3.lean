/- package xdr: the Writer's calls by contract. -/
import Derived.Test.YtofhnglgebllbaaDoorXdr2
import Derived.Test.YtofhnglgebllbaaDoorNuls
namespace Go.Proofs.YtofhnglgebllbaaDoor
open Go.RowKit Go.Lib
set_option linter.unusedVariables false
set_option linter.unusedSimpArgs false

theorem and3 (n : Nat) (h : n ≤ 9223372036854775807) : bits .and .i64 (-(n : Int)) 3 = (((4 - n % 4) % 4 : Nat) : Int) := by
  have h1 : ((BitVec.ofInt 64 (-(n : Int))) &&& (3#64)).toNat = (4 - n % 4) % 4 := by
    rw [BitVec.toNat_and, show (3#64).toNat = 2 ^ 2 - 1 from rfl, Nat.and_two_pow_sub_one_eq_mod, BitVec.toNat_ofInt]
    omega
  show IntKind.i64.wrap _ = _
  have h2 : (BitVec.ofInt IntKind.i64.bits (-(n : Int)) &&& BitVec.ofInt IntKind.i64.bits 3).toNat = (4 - n % 4) % 4 := h1
  rw [h2, IntWalk.i64_in _ (by omega)]

def wInt (t : List UInt8) (n : Int) : List UInt8 × Nat := if n < 0 ∨ 4294967296 ≤ n then (t, 2) else wPut t (bigB 4 n.toNat)
def wLong (t : List UInt8) (n : Int) : List UInt8 × Nat := if n < 0 then (t, 2) else wPut t (bigB 8 n.toNat)
def itemB (s : ByteArray) : ByteArray := bigB 4 s.size ++ s ++ zerosB ((4 - s.size % 4) % 4)
theorem itemB_size (s : ByteArray) : (itemB s).size = 4 + s.size + (4 - s.size % 4) % 4 := by unfold itemB; rw [ByteArray.size_append, ByteArray.size_append, bigB_size, zerosB_size]
theorem WrPost.step {S : Nat → Prop} {w w1 w2 : World} {b : Nat} {t : List UInt8} (c : Chg Nil w w1) (p : WrPost S w1 b t w2) (hS : ∀ x, S x → x < w.heap.size) : WrPost S w b t w2 := by
  obtain ⟨c2, S2, h2, g2⟩ := p
  have := c.size
  exact ⟨c.nil.trans c2 (fun _ _ h => h), S2, h2, fun x hx => (g2 x hx).imp id (fun h => ⟨by omega, h.2⟩)⟩
theorem wr_lt {w : World} {b : Nat} {t : List UInt8} {S : Nat → Prop} (h : WrTx w b t S) : ∀ x, S x → x < w.heap.size := by obtain ⟨_, _, _, _, _, _, _, _, h⟩ := h; exact h
set_option maxHeartbeats 1000000 in
set_option maxRecDepth 100000 in
theorem wlong_any {B : Nat} (ad : Nat → Addr) (b : Nat) (n : Int) (t : List UInt8) (S : Nat → Prop) (w : World) (he : Env B ad [2, 9] w) (ht : WrTx w b t S) (h4 : t.length ≤ 4000) (hn : n ≤ 9223372036854775807) :
    Calls Tryd.prog 147 #[.pointer (some ⟨b, 0, none⟩), .int .i64 n] w fun e w' => e = .returned (errV ad (wLong t n).2) ∧ WrPost S w b (wLong t n).1 w' := by
  obtain ⟨q1, q1l⟩ := he.get (c := 2) (by simp)
  simp only [gl] at q1 q1l
  have HE := Lib.hid he
  have HT := Lib.hid ht
  clear he ht
  unfold wLong
  by_cases hbad : n < 0
  · rw [if_pos hbad]
    go_enter Tryd.func147, Tryd.ntmps147
    go_wp2_with fail
    go_ret
    exact ⟨rfl, wr_same HT.out (Chg.refl _ _)⟩
  rw [if_neg hbad]
  obtain ⟨k, rfl⟩ : ∃ k : Nat, n = k := ⟨n.toNat, by omega⟩
  rw [Int.toNat_natCast]
  go_enter Tryd.func147, Tryd.ntmps147
  go_wp2_with fail
  refine (number8 k w (by omega)).mono ?_
  rintro e w1 ⟨rfl, hc1⟩
  go_wp2_with fail
  refine (put_any (B := B) ad b (bigB 8 k) t S w1 ((HE.out.keepN hc1).sub (by decide)) (HT.out.keep hc1 (fun _ _ f => f)) h4 (by rw [bigB_size]; omega)).mono ?_
  rintro e w2 ⟨rfl, hp⟩
  go_wp2_with fail
  go_ret
  exact ⟨rfl, hp.step hc1 (wr_lt HT.out)⟩
def wBool (t : List UInt8) (x : Bool) : List UInt8 × Nat := wInt t (if x then 1 else 0)
def wBytes (t : List UInt8) (s : ByteArray) : List UInt8 × Nat := wPut t (itemB s)
set_option maxHeartbeats 1000000 in
set_option maxRecDepth 100000 in
theorem wbytes_any {B : Nat} (ad : Nat → Addr) (b : Nat) (s : ByteArray) (t : List UInt8) (S : Nat → Prop) (w : World) (he : Env B ad [2, 9] w) (ht : WrTx w b t S) (h4 : t.length ≤ 4000) (hs : s.size ≤ 1000000) :
    Calls Tryd.prog 148 #[.pointer (some ⟨b, 0, none⟩), .string s] w fun e w' => e = .returned (errV ad (wBytes t s).2) ∧ WrPost S w b (wBytes t s).1 w' := by
  have HE := Lib.hid he
  have HT := Lib.hid ht
  have ha := and3 s.size (by omega)
  have hw : IntKind.i64.wrap (-(s.size : Int)) = -(s.size : Int) := IntWalk.i64_in _ (by omega)
  have h1 : ¬ 9223372036854775807 < (bigB 4 s.size).size + s.size := by rw [bigB_size]; omega
  have h2 : ¬ 9223372036854775807 < (bigB 4 s.size ++ s).size + (zerosB ((4 - s.size % 4) % 4)).size := by rw [ByteArray.size_append, bigB_size, zerosB_size]; omega
  have h2' : ¬ 9223372036854775807 < (bigB 4 s.size).size + s.size + (zerosB ((4 - s.size % 4) % 4)).size := by rw [bigB_size, zerosB_size]; omega
  clear he ht
  go_enter Tryd.func148, Tryd.ntmps148
  go_wp2_with fail
  refine (number4 s.size w (by omega)).mono ?_
  rintro e w1 ⟨rfl, hc1⟩
  go_wp2_with fail
  refine (nuls_any ((4 - s.size % 4) % 4) w1 (by omega)).mono ?_
  rintro e w2 ⟨rfl, hc2⟩
  have hc := hc1.then hc2
  go_wp2_with fail
  refine (put_any (B := B) ad b (itemB s) t S w2 ((HE.out.keepN hc).sub (by decide)) (HT.out.keep hc (fun _ _ f => f)) h4 (by rw [itemB_size]; omega)).mono ?_
  rintro e w3 ⟨rfl, hp⟩
  go_wp2_with fail
  go_ret
  exact ⟨rfl, hp.step hc (wr_lt HT.out)⟩
end Go.Proofs.YtofhnglgebllbaaDoor
