/- law4's bulky by contract; what acts leave as it is. -/
import Derived.Test.YtfekiagdnlnggaaDoorDisk7
namespace Go.Proofs.YtfekiagdnlnggaaDoor
open Go.RowKit
set_option linter.unusedVariables false
set_option linter.unusedSimpArgs false

def RelBk (n : Nat) (w : World) (v i : Value) (wr : World) : Prop := ∃ (k : Nat) (m : Int), k ≤ n ∧ v = .int .i64 m ∧ i = .int .i64 k ∧ Chg Nil w wr
/-- Acts as an argument. -/
def ActsAt (w : World) (B : Nat) (a0 : Option Addr) (cap : Nat) (acts : List XAct) : Prop := (Sh.slice shXAct).At w B (a0, cap, acts) ∧ (Sh.slice shXAct).Sz (a0, cap, acts)
theorem ActsAt.keep {w w' : World} {B : Nat} {a0 : Option Addr} {cap : Nat} {acts : List XAct} (h : ActsAt w B a0 cap acts) (hB : B ≤ w.heap.size) (c : Chg Nil w w') : ActsAt w' B a0 cap acts := ⟨Sh.At.keep c hB (fun _ f => f.elim) _ _ h.1, h.2⟩
theorem xact_read {w wr : World} {B : Nat} {a0 : Option Addr} {cap k : Nat} {acts : List XAct} {x : XAct} (h : ActsAt w B a0 cap acts) (hB : B ≤ w.heap.size) (hC : Chg Nil w wr) (hx : acts[k]? = some x) :
    ∃ g off, a0 = some ⟨g, off, none⟩ ∧ g < wr.heap.size ∧ wr.cell? ⟨g, off + k * 4, none⟩ = some (.string x.1) ∧ wr.cell? ⟨g, off + k * 4 + 1, none⟩ = some (.int .i64 x.2.1) ∧ wr.cell? ⟨g, off + k * 4 + 2, none⟩ = some (.string x.2.2.1) ∧
      wr.cell? ⟨g, off + k * 4 + 3, none⟩ = some (.slice x.2.2.2.1.1 x.2.2.2.1.2.2.length x.2.2.2.1.2.1) ∧ x.2.1 ≤ 9223372036854775807 ∧ x.2.2.1.size ≤ 140737488355327 ∧ x.2.2.2.1.2.2.length ≤ 140737488355327 ∧ (Sh.slice .bool).At w B x.2.2.2.1 := by
  obtain ⟨⟨h1, h2, h3⟩, h4, h5⟩ := h
  obtain ⟨hxa, g, off, e, hg, hcx⟩ := h3 k x hx
  have hxz := h5 k x hx
  obtain ⟨kind, n, s, ⟨ka, kc, kl⟩, u⟩ := x
  obtain ⟨_, ⟨_, hn⟩, _, hk, _⟩ := hxa
  obtain ⟨_, _, hs, ⟨hkz, _⟩, _⟩ := hxz
  have c0 := (hC.cell (p := ⟨g, off + k * 4 + 0, none⟩) (Nat.lt_of_lt_of_le hg hB) (fun f => f)).trans (hcx 0 _ rfl)
  have c1 := (hC.cell (p := ⟨g, off + k * 4 + 1, none⟩) (Nat.lt_of_lt_of_le hg hB) (fun f => f)).trans (hcx 1 _ rfl)
  have c2 := (hC.cell (p := ⟨g, off + k * 4 + 2, none⟩) (Nat.lt_of_lt_of_le hg hB) (fun f => f)).trans (hcx 2 _ rfl)
  have c3 := (hC.cell (p := ⟨g, off + k * 4 + 3, none⟩) (Nat.lt_of_lt_of_le hg hB) (fun f => f)).trans (hcx 3 _ rfl)
  have hk1 := hk.1
  simp only [Sh.bytes, Nat.mul_one] at hkz
  exact ⟨g, off, e, Nat.lt_of_lt_of_le hg (Nat.le_trans hB hC.size), c0, c1, c2, c3, hn, hs, Nat.le_trans hk1 hkz, hk⟩

set_option maxHeartbeats 2000000 in
set_option maxRecDepth 100000 in
theorem bulky_any {B : Nat} (a0 : Option Addr) (cap : Nat) (acts : List XAct) (w : World) (hB : B ≤ w.heap.size) (hs : ActsAt w B a0 cap acts) :
    Calls Tryd.prog 41 #[.slice a0 acts.length cap] w fun e w' => (∃ t : Bool, e = .returned (.bool t)) ∧ Chg Nil w w' := by
  have hl1 : acts.length ≤ 9223372036854775807 := Nat.le_trans hs.1.1 hs.1.2.1
  have hcap : acts.length ≤ cap := hs.1.1
  have HC := Lib.hid hs
  clear hs
  go_enter Tryd.func41, Tryd.ntmps41
  go_wp2_with fail
  go_loopw [3, 4] (fun v i wr => RelBk acts.length w v i wr) (fun _ i _ => (acts.length - intOf i).toNat)
  case atStart => exact ⟨0, 0, Nat.zero_le _, rfl, rfl, Chg.refl _ _⟩
  case round =>
    obtain ⟨k, m, hk, rfl, rfl, hC⟩ := hrel
    by_cases hlt : k < acts.length
    · obtain ⟨x, hx⟩ : ∃ x, acts[k]? = some x := ⟨acts[k], List.getElem?_eq_getElem hlt⟩
      obtain ⟨g, off, rfl, hg, c0, c1, c2, c3, _, _, _, _⟩ := xact_read HC.out hB hC hx
      obtain ⟨kind, n, s, ⟨ka, kc, kl⟩, u⟩ := x
      simp only at c0 c1 c2 c3
      have j1 : (k : Int) < (acts.length : Int) := by omega
      have j0 : (0 : Int) ≤ (k : Int) := by omega
      have j2 : k < cap := by omega
      clear hx c0 c1
      go_wp2_with fail
      go_quiet (fail)
      go_wp2_with fail
      go_roundw
      case rel => exact ⟨k + 1, _, by omega, rfl, by go_num, hC.drewsN _⟩
      case measure => simp [intOf]; omega
    · go_wp2_with fail
      go_ret
      exact ⟨⟨_, rfl⟩, hC⟩

/-- What acts keep: n sectors, waiting writes of them, so many at most. -/
structure POk (n m : Nat) (d : PDisk) : Prop where
  kept : d.kept.length = n
  now : d.now.length = n
  ins : ∀ p ∈ d.waits, 0 ≤ p.1 ∧ p.1 < n
  few : d.waits.length ≤ m
theorem pok_new (n : Nat) : POk n 0 (pNew n) := ⟨by simp [pNew], by simp [pNew], fun p hp => (by simp [pNew] at hp), Nat.le_refl _⟩
theorem POk.spend {n m : Nat} {d : PDisk} (h : POk n m d) : POk n m (pSpend d).1 := by
  obtain ⟨h1, h2, h3⟩ := pSpend_same d
  exact ⟨by rw [h1]; exact h.kept, by rw [h2]; exact h.now, by rw [h3]; exact h.ins, by rw [h3]; exact h.few⟩
theorem POk.more {n m : Nat} {d : PDisk} (h : POk n m d) : POk n (m + 1) d := ⟨h.kept, h.now, h.ins, Nat.le_succ_of_le h.few⟩
theorem POk.act {n m : Nat} {d : PDisk} (h : POk n m d) (k : ByteArray) (i : Int) (s : ByteArray) (keep : List Bool) : POk n (m + 1) (pAct d k i s keep).1 := by
  unfold pAct
  split
  · unfold pWrite
    split
    · exact h.more
    · rename_i hb
      split
      · exact h.more
      · split
        · have hs := h.spend
          refine ⟨hs.kept, by simp [hs.now], fun p hp => ?_, by simp; exact hs.few⟩
          simp only [List.mem_append, List.mem_singleton] at hp
          rcases hp with hp | rfl
          · exact hs.ins p hp
          · have := h.now; simp only; omega
        · exact h.spend.more
  · split
    · unfold pFlush
      split
      · exact ⟨h.spend.now, h.spend.now, fun p hp => (by cases hp), Nat.zero_le _⟩
      · exact h.spend.more
    · split
      · unfold pFail
        split
        · exact h.more
        · exact ⟨h.kept, h.now, h.ins, Nat.le_succ_of_le h.few⟩
      · split
        · exact ⟨by simp [pCrash, crashK_len, h.kept], by simp [pCrash, crashK_len, h.kept], fun p hp => (by cases hp), Nat.zero_le _⟩
        · exact h.more
theorem crashK_nil (waits : List (Int × ByteArray)) (kept : List ByteArray) : ∀ k, crashK [] waits kept k = kept
  | 0 => rfl
  | k + 1 => by
    unfold crashK
    have := crashK_nil waits kept k
    split
    · unfold kStep; rw [if_neg (by simp)]; exact this
    · exact this
theorem crash_nil (d : PDisk) : pCrash d [] = ⟨-1, d.kept, d.kept, []⟩ := by unfold pCrash; rw [crashK_nil]
theorem flush_then (K : List ByteArray) : pFlush ⟨-1, K, K, []⟩ = (⟨-1, K, K, []⟩, 0) := by unfold pFlush pSpend; simp
theorem write_then (K : List ByteArray) (at' : Nat) (s : ByteArray) (h : at' < K.length) (hs : s.size ≤ 64) : pWrite ⟨-1, K, K, []⟩ at' s = (⟨-1, K, K.set at' (padS s), [((at' : Int), padS s)]⟩, 0) := by
  unfold pWrite pSpend
  simp only
  rw [if_neg (by omega), if_neg (by omega)]; simp
theorem crash_one (K N : List ByteArray) (at' : Nat) (t : ByteArray) (keep : Bool) : pCrash ⟨-1, K, N, [((at' : Int), t)]⟩ [keep] = ⟨-1, if keep then K.set at' t else K, if keep then K.set at' t else K, []⟩ := by
  unfold pCrash
  cases keep <;> simp [crashK, kStep]
theorem read_in (d : PDisk) (i : Nat) (t : ByteArray) (h : d.now[i]? = some t) : pRead d i = (t, 0) := by
  obtain ⟨hl, rfl⟩ := List.getElem?_eq_some_iff.1 h
  unfold pRead
  rw [if_neg (by omega)]
  simp [List.getD, h]
end Go.Proofs.YtfekiagdnlnggaaDoor
