/- package xdr, numbers: number (the program) and Big (the reference) by contract over one plain list of bytes. -/
import Derived.Test.YtofhnglgebllbaaDoorMake
import Derived.Test.YtofhnglgebllbaaDoorByte
import Derived.IntWalk
namespace Go.Proofs.YtofhnglgebllbaaDoor
open Go.RowKit
set_option linter.unusedVariables false
set_option linter.unusedSimpArgs false

/-- So many bytes of a number, the highest first. -/
def bigL : Nat → Nat → List UInt8
  | 0, _ => []
  | k + 1, n => bigL k (n / 256) ++ [byteOf ((n % 256 : Nat) : Int)]
theorem bigL_len : ∀ k n, (bigL k n).length = k
  | 0, _ => rfl
  | k + 1, n => by simp [bigL, bigL_len k]
theorem bigL_step : ∀ (k n : Nat), byteOf ((n / 256 ^ k % 256 : Nat) : Int) :: bigL k n = bigL (k + 1) n
  | 0, n => by simp [bigL]
  | k + 1, n => by
    have h := bigL_step k (n / 256)
    rw [Nat.div_div_eq_div_mul, ← Nat.pow_succ'] at h
    conv => lhs; rw [bigL, ← List.cons_append, h]
    rfl
def bigB (k n : Nat) : ByteArray := ⟨(bigL k n).toArray⟩
theorem bigB_size (k n : Nat) : (bigB k n).size = k := by simp [bigB, ByteArray.size, bigL_len]

def RelBig (n m : Nat) (w : World) (v out i : Value) (wr : World) : Prop := ∃ k : Nat, k ≤ m ∧ v = .int .i64 ((n / 256 ^ k : Nat) : Int) ∧ out = .string (bigB k n) ∧ i = .int .i64 k ∧ Chg Nil w wr
set_option maxHeartbeats 1000000 in
set_option maxRecDepth 100000 in
theorem big_any (n m : Nat) (w : World) (hn : n ≤ 9223372036854775807) (hm : m ≤ 8) : Calls Tryd.prog 150 #[.int .i64 n, .int .i64 m] w fun e w' => e = .returned (.string (bigB m n)) ∧ Chg Nil w w' := by
  go_enter Tryd.func150, Tryd.ntmps150
  go_wp2_with fail
  go_loopw [0, 5, 6] (fun v out i wr => RelBig n m w v out i wr) (fun _ _ i _ => (m - intOf i).toNat)
  case atStart => exact ⟨0, Nat.zero_le _, by simp, rfl, rfl, Chg.refl _ _⟩
  case round =>
    obtain ⟨k, hk, rfl, rfl, rfl, hC⟩ := hrel
    by_cases hlt : k < m
    · have j1 : (k : Int) < (m : Int) := by omega
      obtain ⟨q, hq⟩ : ∃ q, q = n / 256 ^ k := ⟨_, rfl⟩
      have hq2 : n / 256 ^ (k + 1) = q / 256 := by rw [Nat.pow_succ, ← Nat.div_div_eq_div_mul, hq]
      have hqn : q ≤ n := by rw [hq]; exact Nat.div_le_self _ _
      have hst : (⟨#[byteOf ((q : Int) % 256)]⟩ : ByteArray) ++ bigB k n = bigB (k + 1) n := by
        have h := bigL_step k n
        rw [← hq, Int.natCast_emod] at h
        unfold bigB
        rw [← h]
        apply ByteArray.ext
        simp [ByteArray.data_append]
      have hs1 : ¬ 9223372036854775807 < (⟨#[byteOf ((q : Int) % 256)]⟩ : ByteArray).size + (bigB k n).size := by rw [bigB_size]; simp [ByteArray.size]; omega
      have HST := Lib.hid hst
      have HQ2 := Lib.hid hq2
      rw [← hq]
      clear hst hq2 hq
      go_wp2_with fail
      refine (byte_any _ wr).mono ?_
      rintro e w2 ⟨rfl, hc2⟩
      go_wp2_with fail
      refine ⟨⟨k + 1, by omega, by rw [HQ2.out]; go_num, by rw [← HST.out], by go_num, hC.then hc2⟩, by simp [intOf]; omega⟩
    · obtain rfl : k = m := by omega
      go_wp2_with fail
      go_ret
      exact ⟨rfl, hC⟩

def u8c (x : Int) : UInt8 := UInt8.ofNat x.toNat
theorem byteOf_mod (m : Nat) : byteOf ((m % 256 : Nat) : Int) = u8c ((m : Int) % 256) := by
  unfold byteOf u8c
  congr 1
  omega
theorem bigB_4 (n : Nat) : bigB 4 n = ⟨#[u8c ((n : Int) / 16777216 % 256), u8c ((n : Int) / 65536 % 256), u8c ((n : Int) / 256 % 256), u8c ((n : Int) % 256)]⟩ := by
  unfold bigB
  simp only [bigL, List.nil_append, List.cons_append, byteOf_mod, Nat.div_div_eq_div_mul, Nat.reduceMul, Int.natCast_ediv]
  rfl
theorem bigB_8 (n : Nat) : bigB 8 n = ⟨#[u8c ((n : Int) / 72057594037927936 % 256), u8c ((n : Int) / 281474976710656 % 256), u8c ((n : Int) / 1099511627776 % 256), u8c ((n : Int) / 4294967296 % 256), u8c ((n : Int) / 16777216 % 256), u8c ((n : Int) / 65536 % 256), u8c ((n : Int) / 256 % 256), u8c ((n : Int) % 256)]⟩ := by
  unfold bigB
  simp only [bigL, List.nil_append, List.cons_append, byteOf_mod, Nat.div_div_eq_div_mul, Nat.reduceMul, Int.natCast_ediv]
  rfl
theorem conv4 (n : Nat) (w : World) : (convert 246 9 (.slice (some ⟨w.heap.size, 0, none⟩) 4 4)).run Tryd.prog (w.alloc (.cells #[.int .u8 ((n : Int) / 16777216 % 256), .int .u8 ((n : Int) / 65536 % 256), .int .u8 ((n : Int) / 256 % 256), .int .u8 ((n : Int) % 256)] 5)) = .ok (.string (bigB 4 n)) (w.alloc (.cells #[.int .u8 ((n : Int) / 16777216 % 256), .int .u8 ((n : Int) / 65536 % 256), .int .u8 ((n : Int) / 256 % 256), .int .u8 ((n : Int) % 256)] 5)) := by
  have := run_convert_bytes_arg (P := Tryd.prog) (w.alloc (.cells #[.int .u8 ((n : Int) / 16777216 % 256), .int .u8 ((n : Int) / 65536 % 256), .int .u8 ((n : Int) / 256 % 256), .int .u8 ((n : Int) % 256)] 5)) 246 5 Tryd.underlying246 Tryd.underlying5 w.heap.size 0 4 4 [(n : Int) / 16777216 % 256, (n : Int) / 65536 % 256, (n : Int) / 256 % 256, (n : Int) % 256] rfl (fun i hi => by
    have hi' : i < 4 := hi
    rw [cell_of (block_alloc w _)]
    match i, hi' with
    | 0, _ => rfl
    | 1, _ => rfl
    | 2, _ => rfl
    | 3, _ => rfl) 9 Tryd.underlying9
  rw [this, bigB_4]; rfl
set_option maxHeartbeats 1000000 in
set_option maxRecDepth 100000 in
theorem number4 (n : Nat) (w : World) (hn : n ≤ 9223372036854775807) : Calls Tryd.prog 192 #[.int .i64 n, .int .i64 4] w fun e w' => e = .returned (.string (bigB 4 n)) ∧ Chg Nil w w' := by
  have hmk : ∀ W, (Instr.makeSlice 246 (.int .i64 4) (.int .i64 4)).run Tryd.prog W = .ok (.slice (some ⟨W.heap.size, 0, none⟩) 4 4) (W.alloc (.cells #[.int .u8 0, .int .u8 0, .int .u8 0, .int .u8 0] 5)) := fun W => mk_one (P := Tryd.prog) (T := 246) Tryd.underlying246 info_u8 rfl W 4 (by omega) (by omega)
  have hcv := conv4 n w
  go_enter Tryd.func192, Tryd.ntmps192
  go_wp2_with fail
  go_rounds 5
  go_ret
  exact ⟨rfl, (Chg.refl _ _).alloc _⟩
theorem conv8 (n : Nat) (w : World) : (convert 246 9 (.slice (some ⟨w.heap.size, 0, none⟩) 8 8)).run Tryd.prog (w.alloc (.cells #[.int .u8 ((n : Int) / 72057594037927936 % 256), .int .u8 ((n : Int) / 281474976710656 % 256), .int .u8 ((n : Int) / 1099511627776 % 256), .int .u8 ((n : Int) / 4294967296 % 256), .int .u8 ((n : Int) / 16777216 % 256), .int .u8 ((n : Int) / 65536 % 256), .int .u8 ((n : Int) / 256 % 256), .int .u8 ((n : Int) % 256)] 5)) = .ok (.string (bigB 8 n)) (w.alloc (.cells #[.int .u8 ((n : Int) / 72057594037927936 % 256), .int .u8 ((n : Int) / 281474976710656 % 256), .int .u8 ((n : Int) / 1099511627776 % 256), .int .u8 ((n : Int) / 4294967296 % 256), .int .u8 ((n : Int) / 16777216 % 256), .int .u8 ((n : Int) / 65536 % 256), .int .u8 ((n : Int) / 256 % 256), .int .u8 ((n : Int) % 256)] 5)) := by
  have := run_convert_bytes_arg (P := Tryd.prog) (w.alloc (.cells #[.int .u8 ((n : Int) / 72057594037927936 % 256), .int .u8 ((n : Int) / 281474976710656 % 256), .int .u8 ((n : Int) / 1099511627776 % 256), .int .u8 ((n : Int) / 4294967296 % 256), .int .u8 ((n : Int) / 16777216 % 256), .int .u8 ((n : Int) / 65536 % 256), .int .u8 ((n : Int) / 256 % 256), .int .u8 ((n : Int) % 256)] 5)) 246 5 Tryd.underlying246 Tryd.underlying5 w.heap.size 0 8 8 [(n : Int) / 72057594037927936 % 256, (n : Int) / 281474976710656 % 256, (n : Int) / 1099511627776 % 256, (n : Int) / 4294967296 % 256, (n : Int) / 16777216 % 256, (n : Int) / 65536 % 256, (n : Int) / 256 % 256, (n : Int) % 256] rfl (fun i hi => by
    have hi' : i < 8 := hi
    rw [cell_of (block_alloc w _)]
    match i, hi' with
    | 0, _ => rfl
    | 1, _ => rfl
    | 2, _ => rfl
    | 3, _ => rfl
    | 4, _ => rfl
    | 5, _ => rfl
    | 6, _ => rfl
    | 7, _ => rfl) 9 Tryd.underlying9
  rw [this, bigB_8]; rfl
set_option maxHeartbeats 1000000 in
set_option maxRecDepth 100000 in
theorem number8 (n : Nat) (w : World) (hn : n ≤ 9223372036854775807) : Calls Tryd.prog 192 #[.int .i64 n, .int .i64 8] w fun e w' => e = .returned (.string (bigB 8 n)) ∧ Chg Nil w w' := by
  have hmk : ∀ W, (Instr.makeSlice 246 (.int .i64 8) (.int .i64 8)).run Tryd.prog W = .ok (.slice (some ⟨W.heap.size, 0, none⟩) 8 8) (W.alloc (.cells #[.int .u8 0, .int .u8 0, .int .u8 0, .int .u8 0, .int .u8 0, .int .u8 0, .int .u8 0, .int .u8 0] 5)) := fun W => mk_one (P := Tryd.prog) (T := 246) Tryd.underlying246 info_u8 rfl W 8 (by omega) (by omega)
  have hcv := conv8 n w
  rw [show (n : Int) / 72057594037927936 % 256 = (n : Int) / 72057594037927936 by omega] at hcv
  go_enter Tryd.func192, Tryd.ntmps192
  go_wp2_with fail
  go_rounds 9
  go_ret
  exact ⟨rfl, (Chg.refl _ _).alloc _⟩
end Go.Proofs.YtofhnglgebllbaaDoor
