/- The walk of law CacheLast. -/
import Derived.Test.YtfekiagdnlnggaaDoorCache3
namespace Go.Proofs.YtfekiagdnlnggaaDoor
open Go.RowKit
set_option linter.unusedVariables false
set_option linter.unusedSimpArgs false

/-- What stands in the cache behind k keeps. -/
def entL (c : ByteArray) (i : Nat) : CKey × (ByteArray × ByteArray) := ((c, (i : Int)), (⟨#[116]⟩, decS i))
def winL (c : ByteArray) (most k : Nat) : Kepts := (List.range' (k - most) (k - (k - most))).map (entL c)
theorem aget_win (c : ByteArray) (i : Nat) : ∀ (len s : Nat), aget ((List.range' s len).map (entL c)) (c, (i : Int)) = if s ≤ i ∧ i < s + len then some (⟨#[116]⟩, decS i) else none
  | 0, s => by
    have : ¬ (s ≤ i ∧ i < s + 0) := by omega
    rw [if_neg this]; rfl
  | len + 1, s => by
    rw [List.range'_succ, List.map_cons]
    unfold aget
    by_cases h : i = s
    · subst h
      rw [if_pos (by rfl), if_pos (by omega)]; rfl
    · have : ¬ ((c, (i : Int)) = (entL c s).1) := by simp [entL]; omega
      rw [if_neg this, aget_win c i len (s + 1)]
      by_cases h2 : s ≤ i ∧ i < s + (len + 1)
      · rw [if_pos h2, if_pos (by omega)]
      · rw [if_neg h2, if_neg (by omega)]
theorem keep_win (c : ByteArray) {most k : Nat} (hm : 1 ≤ most) : cKeep most (winL c most k) (c, (k : Int)) ⟨#[116]⟩ (decS k) = (winL c most (k + 1), 0) := by
  have hg : aget (winL c most k) (c, (k : Int)) = none := by
    unfold winL; rw [aget_win, if_neg (by omega)]
  have hl : (winL c most k).length = k - (k - most) := by simp [winL]
  have happ : winL c most k ++ [((c, (k : Int)), (⟨#[116]⟩, decS k))] = (List.range' (k - most) (k - (k - most) + 1)).map (entL c) := by
    rw [List.range'_concat, List.map_append]
    have : k - most + (k - (k - most)) = k := by omega
    simp [winL, entL, this]
  simp only [cKeep, hg, happ, hl]
  congr 1
  by_cases h : most < k - (k - most) + 1
  · rw [if_pos h]
    have h1 : most ≤ k := by omega
    rw [List.range'_succ, List.map_cons, List.tail_cons]
    unfold winL
    congr 2 <;> omega
  · rw [if_neg h]
    unfold winL
    congr 2 <;> omega
theorem look_win (c : ByteArray) {most n i : Nat} (hi : i < n) : cLook (winL c most n) (c, (i : Int)) ⟨#[116]⟩ = if n ≤ i + most then (decS i, true, 0) else (⟨#[]⟩, false, 0) := by
  unfold cLook winL
  rw [aget_win]
  by_cases h : n ≤ i + most
  · rw [if_pos h, if_pos (by omega)]; simp
  · rw [if_neg h, if_neg (by omega)]

structure HeldC (B : Nat) (ad : Nat → Addr) (w wr : World) (b most : Nat) (kv : Kepts) : Prop where
  env : Env B ad [2, 6, 12] wr
  chg : Chg Nil w wr
  tab : ∃ S, CacheAt wr b most kv S ∧ ∀ x, S x → w.heap.size ≤ x
theorem HeldC.same {B : Nat} {ad : Nat → Addr} {w wr wr' : World} {b most : Nat} {kv : Kepts} (h : HeldC B ad w wr b most kv) (c : Chg Nil wr wr') : HeldC B ad w wr' b most kv := by
  obtain ⟨h1, h2, S, h3, h4⟩ := h
  exact ⟨h1.keepN c, h2.then c, S, h3.keep c (fun _ _ f => f), h4⟩
def RelC (B : Nat) (ad : Nat → Addr) (w : World) (b most : Nat) (c : ByteArray) (n : Nat) (i : Value) (wr : World) : Prop :=
  ∃ k : Nat, k ≤ n ∧ i = .int .i64 k ∧ HeldC B ad w wr b most (winL c most k)
def RelC2 (B : Nat) (ad : Nat → Addr) (w : World) (b most : Nat) (c : ByteArray) (n : Nat) (i : Value) (wr : World) : Prop :=
  ∃ k : Nat, k ≤ n ∧ i = .int .i64 k ∧ HeldC B ad w wr b most (winL c most n)

set_option maxHeartbeats 2000000 in
set_option maxRecDepth 100000 in
theorem cacheLast_any (ad : Nat → Addr) (most n : Int) (c : ByteArray) (w : World) (he : Env w.heap.size ad [2, 6, 12] w) :
    Calls Tryd.prog 4 #[.int .i64 most, .int .i64 n, .string c] w fun e w' => e = .returned (.bool true) ∧ Chg Nil w w' := by
  have HT := Lib.hid (kept_any ad w (he.sub (by decide)))
  have HE := Lib.hid he
  clear he
  by_cases hbad : most < 1 ∨ 20 < most ∨ n < 0 ∨ 100 < n
  · rcases hbad with h | h | h | h
    · go_enter Tryd.func4, Tryd.ntmps4
      go_wp2_with fail
      refine HT.out.mono ?_
      rintro e w1 ⟨rfl, hc1⟩
      go_wp2_with fail
      go_ret
      exact ⟨rfl, hc1⟩
    · have h1 : ¬ most < 1 := by omega
      go_enter Tryd.func4, Tryd.ntmps4
      go_wp2_with fail
      refine HT.out.mono ?_
      rintro e w1 ⟨rfl, hc1⟩
      go_wp2_with fail
      go_ret
      exact ⟨rfl, hc1⟩
    · by_cases h1 : most < 1 <;> by_cases h2 : 20 < most <;>
      (go_enter Tryd.func4, Tryd.ntmps4
       go_wp2_with fail
       refine HT.out.mono ?_
       rintro e w1 ⟨rfl, hc1⟩
       go_wp2_with fail
       go_ret
       exact ⟨rfl, hc1⟩)
    · have h3 : ¬ n < 0 := by omega
      by_cases h1 : most < 1 <;> by_cases h2 : 20 < most <;>
      (go_enter Tryd.func4, Tryd.ntmps4
       go_wp2_with fail
       refine HT.out.mono ?_
       rintro e w1 ⟨rfl, hc1⟩
       go_wp2_with fail
       go_ret
       exact ⟨rfl, hc1⟩)
  obtain ⟨m, rfl⟩ : ∃ m : Nat, most = m := ⟨most.toNat, by omega⟩
  obtain ⟨N, rfl⟩ : ∃ N : Nat, n = N := ⟨n.toNat, by omega⟩
  have h1 : ¬ ((m : Int) < 1) := by omega
  have h2 : ¬ (20 < (m : Int)) := by omega
  have h3 : ¬ ((N : Int) < 0) := by omega
  have h4 : ¬ (100 < (N : Int)) := by omega
  have hm : 1 ≤ m ∧ m ≤ 20 := by omega
  clear hbad
  by_cases h5 : 100 < c.size
  · go_enter Tryd.func4, Tryd.ntmps4
    go_wp2_with fail
    refine HT.out.mono ?_
    rintro e w1 ⟨rfl, hc1⟩
    go_wp2_with fail
    go_ret
    exact ⟨rfl, hc1⟩
  · go_enter Tryd.func4, Tryd.ntmps4
    go_wp2_with fail
    refine HT.out.mono ?_
    rintro e w1 ⟨rfl, hc1⟩
    go_wp2_with fail
    refine (cnew_any m w1 hm).mono ?_
    rintro e w2 ⟨rfl, hc2, ht2⟩
    have hB : ∀ x, (x = w1.heap.size ∨ x = w1.heap.size + 1) → w.heap.size ≤ x := fun x hx => by have := hc1.size; rcases hx with rfl | rfl <;> omega
    have hH0 : HeldC w.heap.size ad w w2 (w1.heap.size + 1) m (winL c m 0) := ⟨(HE.out.keepN hc1).keepN hc2, hc1.then hc2, _, by simpa [winL] using ht2, hB⟩
    go_wp2_with fail
    go_loopw [10] (fun i wr => RelC w.heap.size ad w (w1.heap.size + 1) m c N i wr) (fun i _ => (N - intOf i).toNat)
    case atStart => exact ⟨0, by omega, rfl, hH0⟩
    case round =>
      clear hH0 ht2
      rename_i wr _
      obtain ⟨k, hk, rfl, hH⟩ := hrel
      by_cases hlt : k < N
      · have HK := Lib.hid (keep_win c (most := m) (k := k) hm.1)
        obtain ⟨hE3, hC3, S, hT3, hS3⟩ := hH
        go_wp2_with fail
        refine (decimal_any _ _ (by omega) (by omega)).mono ?_
        rintro e w3 ⟨rfl, hc3⟩
        have hE4 := hE3.keepN hc3
        have hT4 := hT3.keep hc3 (fun _ _ f => f)
        have hC4 := hC3.then hc3
        go_wp2_with fail
        refine (keep_any ad (w1.heap.size + 1) m c ⟨#[116]⟩ (decS k) k (winL c m k) S _ (hE4.sub (by decide)) hT4).mono ?_
        rintro e w4 ⟨rfl, hc4, S', hT5, hG5⟩
        rw [HK.out] at hT5 ⊢
        simp only [errV_zero] at hT5 ⊢
        have hH4 : HeldC w.heap.size ad w w4 (w1.heap.size + 1) m (winL c m (k + 1)) :=
          ⟨hE4.keep hc4 hS3, hC4.trans hc4 (fun x hx hs => by have := hS3 _ hs; omega), S', hT5, fun x hx => by
            rcases hG5 x hx with h | h
            · exact hS3 x h
            · have := hC4.size; omega⟩
        go_wp2_with fail
        go_roundw
        case rel => exact ⟨k + 1, by omega, by go_num, hH4⟩
        case measure => simp [intOf]; omega
      · obtain rfl : k = N := by omega
        go_wp2_with fail
        go_loopw [11] (fun i wr => RelC2 w.heap.size ad w (w1.heap.size + 1) m c k i wr) (fun i _ => (k - intOf i).toNat)
        case atStart => exact ⟨0, by omega, rfl, hH⟩
        case round =>
          clear hH
          rename_i wr2 _
          obtain ⟨j, hj, rfl, hH⟩ := hrel
          by_cases hlt2 : j < k
          · have HL := Lib.hid (look_win c (most := m) hlt2)
            obtain ⟨hE3, hC3, S, hT3, hS3⟩ := id hH
            by_cases hin : k ≤ j + m
            · have hin1 : (k : Int) - (m : Int) ≤ (j : Int) := by omega
              go_wp2_with fail
              refine (look_any ad (w1.heap.size + 1) m c ⟨#[116]⟩ j (winL c m k) S _ (hE3.sub (by decide)) hT3).mono ?_
              rintro e w3 ⟨rfl, hc3⟩
              rw [HL.out, if_pos hin]
              simp only [errV_zero]
              have hH3 := hH.same hc3
              go_wp2_with fail
              refine (decimal_any _ _ (by omega) (by omega)).mono ?_
              rintro e w4 ⟨rfl, hc4⟩
              have hH4 := hH3.same hc4
              go_wp2_with fail
              go_roundw
              case rel => exact ⟨j + 1, by omega, by go_num, hH4⟩
              case measure => simp [intOf]; omega
            · have hin1 : ¬ ((k : Int) - (m : Int) ≤ (j : Int)) := by omega
              go_wp2_with fail
              refine (look_any ad (w1.heap.size + 1) m c ⟨#[116]⟩ j (winL c m k) S _ (hE3.sub (by decide)) hT3).mono ?_
              rintro e w3 ⟨rfl, hc3⟩
              rw [HL.out, if_neg hin]
              simp only [errV_zero]
              have hH3 := hH.same hc3
              go_wp2_with fail
              go_roundw
              case rel => exact ⟨j + 1, by omega, by go_num, hH3⟩
              case measure => simp [intOf]; omega
          · go_wp2_with fail
            go_ret
            exact ⟨rfl, hH.chg⟩
end Go.Proofs.YtfekiagdnlnggaaDoor
