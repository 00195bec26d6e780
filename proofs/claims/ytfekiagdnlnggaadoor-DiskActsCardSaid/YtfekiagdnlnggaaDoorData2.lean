/- package data: Read by contract. -/
import Derived.Test.YtfekiagdnlnggaaDoorData
import Derived.Test.YtfekiagdnlnggaaDoorOps
namespace Go.Proofs.YtfekiagdnlnggaaDoor
open Go.RowKit
set_option linter.unusedVariables false
set_option linter.unusedSimpArgs false

def dbyte (kv : Blks) (j : Nat) : UInt8 := ((dget kv (j / 64))[j % 64]?).getD 0
def rdBytes (kv : Blks) (p m : Nat) : List UInt8 := (List.range m).map fun i => dbyte kv (p + i)
def manyOf (sz : Nat) (p n : Int) : Nat := (max 0 (min n (sz - p))).toNat
def dRead (d : PData) (p n : Int) : ByteArray × Bool × Nat :=
  if p < 0 ∨ n < 0 then (⟨#[]⟩, false, 2) else (⟨(rdBytes d.kv p.toNat (manyOf d.size p n)).toArray⟩, decide ((d.size : Int) - manyOf d.size p n ≤ p), 0)

theorem blkC_rep (m : Nat) : (blkC (List.replicate m 0)).toArray = Array.replicate m (.int .u8 0) := by
  simp [blkC]
theorem mk_bytes (w : World) (m : Nat) (hm : m ≤ 281474976710656) :
    (Instr.makeSlice 152 (.int .i64 (m : Int)) (.int .i64 (m : Int))).run Tryd.prog w = .ok (.slice (some ⟨w.heap.size, 0, none⟩) m m) (w.alloc (.cells (blkC (List.replicate m 0)).toArray 5)) := by
  obtain ⟨i, hi, hz0, hz1, hz2⟩ := info_parts (show (Tryd.prog.info? 5).map (fun i => (i.zero, i.size, i.bytes)) = some (some (.int .u8 0), 1, 1) by kernel_rfl)
  have h := run_make (P := Tryd.prog) w 152 5 i (.int .u8 0) Tryd.underlying152 hi hz0 .i64 .i64 m m (by omega) (by omega) (by rw [hz2]; omega) (by omega)
  rw [h]
  have e : madeCells (Value.cells (.int .u8 0)) ((m : Int).toNat * i.size) = (blkC (List.replicate m 0)).toArray := by
    rw [hz1, blkC_rep]
    apply Array.ext
    · simp [madeCells]
    · intro i h1 h2
      simp [madeCells, Value.cells, Nat.mod_one]
  rw [e]; simp
theorem rd_step (kv : Blks) (p m k : Nat) (hk : k < m) : (rdBytes kv p k ++ List.replicate (m - k) 0).set k (dbyte kv (p + k)) = rdBytes kv p (k + 1) ++ List.replicate (m - (k + 1)) 0 := by
  have hl : (rdBytes kv p k).length = k := by simp [rdBytes]
  obtain ⟨j, rfl⟩ : ∃ j, m = k + 1 + j := ⟨m - (k + 1), by omega⟩
  rw [show k + 1 + j - k = j + 1 by omega, show k + 1 + j - (k + 1) = j by omega, List.set_append_right _ _ (by omega), hl, Nat.sub_self]
  simp [rdBytes, List.range_succ, List.replicate_succ]

theorem dRead_empty_le (d : PData) (p n : Int) : manyOf d.size p n ≤ d.size ∨ p < 0 := by
  unfold manyOf; omega

/-- Behind m bytes of a read. -/
def RelR (kv : Blks) (p m : Nat) (w : World) (i : Value) (wr : World) : Prop :=
  ∃ k : Nat, k ≤ m ∧ i = .int .i64 k ∧ Chg Nil w wr ∧ wr.heap[w.heap.size]? = some (.cells (blkC (rdBytes kv p k ++ List.replicate (m - k) 0)).toArray 5 (0, 0))
theorem relR_step {kv : Blks} {p m k q r : Nat} {w wr w1 : World} {c : UInt8} {o : Obj} (hk : k < m) (hC : Chg Nil w wr) (hb : wr.heap[w.heap.size]? = some (.cells (blkC (rdBytes kv p k ++ List.replicate (m - k) 0)).toArray 5 (0, 0))) (hC1 : Chg (· = wr.heap.size) (wr.alloc o) w1)
    (hq : q = (p + k) / 64) (hr : r = (p + k) % 64) (hc : (dget kv q)[r]? = some c) :
    Chg Nil w (w1.setCell ⟨w.heap.size, k, none⟩ (.int .u8 c.toNat)) ∧ (w1.setCell ⟨w.heap.size, k, none⟩ (.int .u8 c.toNat)).heap[w.heap.size]? = some (.cells (blkC (rdBytes kv p (k + 1) ++ List.replicate (m - (k + 1)) 0)).toArray 5 (0, 0)) := by
  have hbl := lt_of_block hb
  have hz := hC.size
  have hb1 := hC1.keep (block_alloc_old hb o) (by omega)
  have h1 := block_setCell hb1 k (.int .u8 c.toNat)
  have e : c = dbyte kv (p + k) := by unfold dbyte; rw [← hq, ← hr, hc]; rfl
  rw [blkC_set, e, rd_step kv p m k hk, ← e] at h1
  have hset : Chg (· = w.heap.size) w1 (w1.setCell ⟨w.heap.size, k, none⟩ (.int .u8 c.toNat)) := (Chg.refl (· = w.heap.size) w1).setCell (p := ⟨w.heap.size, k, none⟩) (.inr rfl) _
  exact ⟨((hC.alloc o).trans hC1 (fun x hx e => by omega)).trans hset (fun x hx e => by omega), h1⟩

set_option maxHeartbeats 2000000 in
set_option maxRecDepth 100000 in
theorem dread_any {B : Nat} (ad : Nat → Addr) (b : Nat) (p n : Int) (d : PData) (S : Nat → Prop) (w : World) (he : Env B ad [2] w) (ht : DataAt w b d S) (hp : p ≤ 9223372036854775807) :
    Calls Tryd.prog 23 #[.pointer (some ⟨b, 0, none⟩), .int .i64 p, .int .i64 n] w fun e w' =>
      e = .returned (.tuple #[.string (dRead d p n).1, .bool (dRead d p n).2.1, errV ad (dRead d p n).2.2]) ∧ Chg Nil w w' := by
  obtain ⟨h2, h2l⟩ := he.get (c := 2) (by simp)
  simp only [gl] at h2 h2l
  clear he
  by_cases hbad : p < 0 ∨ n < 0
  · have e1 : dRead d p n = (⟨#[]⟩, false, 2) := if_pos hbad
    rw [e1]
    clear e1 ht
    have hgo : p < 0 ∨ ¬ p < 0 ∧ n < 0 := by omega
    clear hbad
    rcases hgo with h | ⟨h, h'⟩
    all_goals
      go_enter Tryd.func23, Tryd.ntmps23
      go_wp2_with fail
      go_quiet (fail)
      go_wp2_with fail
      go_ret3
      exact ⟨rfl, Chg.drewN _ _⟩
  have e1 : dRead d p n = (⟨(rdBytes d.kv p.toNat (manyOf d.size p n)).toArray⟩, decide ((d.size : Int) - manyOf d.size p n ≤ p), 0) := if_neg hbad
  rw [e1]
  have hp0 : 0 ≤ p := by omega
  have hn0 : 0 ≤ n := by omega
  have hM0 : ((manyOf d.size p n : Nat) : Int) = max 0 (min n ((d.size : Int) - p)) := by unfold manyOf; omega
  have hM1 : manyOf d.size p n ≤ d.size := by unfold manyOf; omega
  obtain ⟨m, hm⟩ : ∃ m, m = manyOf d.size p n := ⟨_, rfl⟩
  rw [← hm] at hM0 hM1 ⊢
  obtain ⟨p, rfl⟩ : ∃ k : Nat, p = k := ⟨p.toNat, by omega⟩
  obtain ⟨mn, hmn⟩ : ∃ mn, mn = min n ((d.size : Int) - p) := ⟨_, rfl⟩
  rw [← hmn] at hM0
  have hsum : ∀ k : Nat, k < m → p + k < d.size := fun k hk => by omega
  have hHM0 := Lib.hid hM0
  have HMN := Lib.hid hmn
  have HSUM := Lib.hid hsum
  obtain ⟨⟨mv, T, hb, hmv, hmS⟩, hS, hlt, hsm, hfl⟩ := ht
  have hc0 := cell_of hb 0
  have hc1 := cell_of hb 1
  simp only [List.getElem?_toArray, List.getElem?_cons_zero, List.getElem?_cons_succ] at hc0 hc1
  have hbl := lt_of_block hb
  have HB := Lib.hid hb
  have HMV := Lib.hid hmv
  have HF := Lib.hid hfl
  have hmk := mk_bytes w m (by omega)
  have hm4 : m ≤ 4096 := by omega
  have hpn : ((p : Int).toNat) = p := by simp
  rw [hpn]
  clear hb hmv hM0 hmn hm hbad e1 hsum hpn
  go_enter Tryd.func23, Tryd.ntmps23
  go_wp2_with (first | (refine wpList_minI rfl _ _ _ rfl _ _ mn rfl rfl HMN.out ?_) | (refine wpList_maxI rfl _ _ _ rfl _ _ (m : Int) rfl rfl hHM0.out ?_))
  clear hmk
  go_loopw [33] (fun i wr => RelR d.kv p m w i wr) (fun i _ => (m - intOf i).toNat)
  case atStart => exact ⟨0, Nat.zero_le _, rfl, (Chg.refl _ _).alloc _, by simpa [rdBytes] using block_alloc w (.cells (blkC (List.replicate m 0)).toArray 5)⟩
  case round =>
    rename_i wr _
    obtain ⟨k, hk, rfl, hC, hbb⟩ := hrel
    have hz := hC.size
    have hbbl := lt_of_block hbb
    have d0 := (hC.cell (p := ⟨b, 0, none⟩) hbl (fun f => f)).trans hc0
    have d1 := (hC.cell (p := ⟨b, 1, none⟩) hbl (fun f => f)).trans hc1
    by_cases hlt1 : k < m
    · have hps := HSUM.out k hlt1
      obtain ⟨q, hq'⟩ : ∃ q : Nat, q = (p + k) / 64 := ⟨_, rfl⟩
      obtain ⟨r, hr'⟩ : ∃ r : Nat, r = (p + k) % 64 := ⟨_, rfl⟩
      have e1 : ((p : Int) + (k : Int)) / 64 = (q : Int) := by omega
      have e2 : ((p : Int) + (k : Int)) % 64 = (r : Int) := by omega
      have hr64 : r < 64 := by omega
      have hlk := dlook (HMV.out.keep hC (fun _ _ f => f)) q
      have hd64 := dget_len HF.out q
      obtain ⟨c, hcr⟩ : ∃ c, (dget d.kv q)[r]? = some c := ⟨(dget d.kv q)[r]'(by omega), List.getElem?_eq_getElem _⟩
      have hx0 : (blkC (dget d.kv q)).toArray[r]? = some (.int .u8 c.toNat) := by simp [blkC, hcr]
      have hy0 : ∃ y, (blkC (rdBytes d.kv p k ++ List.replicate (m - k) 0)).toArray[k]? = some y := ⟨(blkC (rdBytes d.kv p k ++ List.replicate (m - k) 0)).toArray[k]'(by simp [blkC, rdBytes]; omega), Array.getElem?_eq_getElem _⟩
      obtain ⟨y0, hy0⟩ := hy0
      have HBB := Lib.hid hbb
      have HQ := Lib.hid hq'
      have HRM' := Lib.hid hr'
      have HD := Lib.hid hd64
      have HCR := Lib.hid hcr
      have HX := Lib.hid hx0
      have HY := Lib.hid hy0
      clear hbb hq' hr' hd64 hcr hx0 hy0
      go_wp2_with (refine wpList_storeB rfl 151 _ _ rfl wr.heap.size (blkC (dget d.kv q)) 64 rfl rfl (block_alloc wr _) rfl info64 ((blkC_len _).trans HD.out) (blkC_one _) ?_; intro w1 hb1 hC1 hz1; have hx1 := (cell_of hb1 r).trans HX.out; have hbb1 := hC1.keep (block_alloc_old HBB.out _) (by omega); have hy1 := (cell_of hbb1 k).trans HY.out; have hf1 := free_of hbb1 k; have HS1 := Lib.hid (relR_step hlt1 hC HBB.out hC1 HQ.out HRM'.out HCR.out); clear hb1 hz1 hbb1)
      go_roundw
      case rel => exact ⟨k + 1, by omega, by go_num, HS1.out.1, HS1.out.2⟩
      case measure => simp [intOf]; omega
    · have hks : k = m := by omega
      have hcv : ∀ z, (convert 152 9 (.slice (some ⟨w.heap.size, 0, none⟩) m m)).run Tryd.prog (wr.drewN z) = .ok (.string ⟨(rdBytes d.kv p m).toArray⟩) (wr.drewN z) := fun z => by
        have hlen : (rdBytes d.kv p m).length = m := by simp [rdBytes]
        have := run_convert_bytes_back (P := Tryd.prog) (wr.drewN z) 152 9 5 ⟨w.heap.size, 0, none⟩ m (rdBytes d.kv p m) Tryd.underlying152 Tryd.underlying5 Tryd.underlying9 (fun j hj => by
          rw [Addr.add_lit, cell_of ((Chg.drewN (S := Nil) wr z).keep hbb (fun f => f)), hks]
          simp [blkC, hj])
        rwa [hlen] at this
      have hgq : decide ((d.size : Int) - (m : Int) ≤ (p : Int)) = decide ((d.size : Int) - (m : Int) ≤ (p : Int)) := rfl
      clear hks hbb hgq
      go_wp2_with fail
      go_quiet (fail)
      go_wp2_with fail
      go_ret3
      exact ⟨rfl, hC.drewsN _⟩
end Go.Proofs.YtfekiagdnlnggaaDoor
