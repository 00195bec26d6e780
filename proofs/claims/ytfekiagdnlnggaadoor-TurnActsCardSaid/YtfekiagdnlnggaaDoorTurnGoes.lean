/- The walk of law TurnGoes. -/
import Derived.Test.YtfekiagdnlnggaaDoorTurn
import Derived.Test.YtfekiagdnlnggaaDoorRef1
namespace Go.Proofs.YtfekiagdnlnggaaDoor
open Go.RowKit
set_option linter.unusedVariables false
set_option linter.unusedSimpArgs false

theorem turnAt_new (w : World) (T : TypeId) : TurnAt (w.alloc (.cells #[.map none] T)) w.heap.size [] (· = w.heap.size) :=
  ⟨⟨_, T, block_alloc _ _, .inl ⟨rfl, rfl⟩, fun r h => by cases h⟩, rfl, fun x e => by subst e; simp, fun p hp => by cases hp⟩

theorem count_any (b : Nat) (kv : Owners) (S : Nat → Prop) (w : World) (ht : TurnAt w b kv S) :
    Calls Tryd.prog 39 #[.pointer (some ⟨b, 0, none⟩)] w fun e w' => e = .returned (.int .i64 kv.length) ∧ w = w' := by
  obtain ⟨⟨mv, E, hb, hm, _⟩, _, _, _⟩ := ht
  have hc := cell_of hb 0
  simp only [List.getElem?_toArray, List.getElem?_cons_zero] at hc
  have hl : (Builtin.len_ #[24] 3 #[mv]).run Tryd.prog w = .ok (.int .i64 kv.length) w := by
    have := hm.run_len (ty := 3) Tryd.underlying24
    simpa [ownV] using this
  go_enter Tryd.func39, Tryd.ntmps39
  go_wp2
  go_ret
  exact ⟨rfl, rfl⟩

set_option maxHeartbeats 1000000 in
set_option maxRecDepth 100000 in
theorem turned_any {B : Nat} (ad : Nat → Addr) (w : World) (he : Env B ad [2, 9, 12] w) : Calls Tryd.prog 13 #[] w fun e w' => e = .returned (.bool true) ∧ Chg Nil w w' := by
  have e1 : tEnd [] 1 5 ⟨#[120]⟩ = ([(1, (5, ⟨#[120]⟩))], 0) := by decide
  have e2 : tBegin [(1, (5, ⟨#[120]⟩))] 1 5 = (⟨#[120]⟩, true, 0) := by decide
  have H1 := Lib.hid e1
  have H2 := Lib.hid e2
  have HE := Lib.hid he
  clear e1 e2 he
  go_enter Tryd.func13, Tryd.ntmps13
  go_wp2_with fail
  refine (end_any ad w.heap.size 1 5 ⟨#[120]⟩ [] (· = w.heap.size) _ (HE.out.alloc _) (turnAt_new _ _)).mono ?_
  rintro e w1 ⟨rfl, hc1, S1, ht1, hg1⟩
  rw [H1.out] at ht1 ⊢
  simp only [errV_zero] at ht1 ⊢
  have HE1 := Lib.hid ((HE.out.alloc _).keep hc1 (fun x e => by subst e; exact HE.out.size))
  go_wp2_with fail
  refine (begin_any ad w.heap.size 1 5 [(1, (5, ⟨#[120]⟩))] S1 _ HE1.out ht1).mono ?_
  rintro e w2 ⟨rfl, hc2⟩
  rw [H2.out]
  simp only [errV_zero]
  have ht2 := ht1.keep hc2 (fun _ _ f => f)
  go_wp2_with fail
  refine (count_any w.heap.size [(1, (5, ⟨#[120]⟩))] S1 _ ht2).mono ?_
  rintro e w3 ⟨rfl, rfl⟩
  go_wp2_with fail
  go_ret
  refine ⟨rfl, ?_⟩
  exact Chg.trans (((Chg.refl Nil w).alloc _).trans hc1 (fun x hx e => by subst e; omega)) hc2 (fun _ _ f => f)

/-- What the table holds ahead of number s. -/
def Ahead (o s : Int) (kv : Owners) : Prop := kv = [] ∨ ∃ q r, kv = [(o, (q, r))] ∧ nextSeq q = s ∧ 0 ≤ q ∧ q ≤ 4294967295
theorem ahead_begin {o s : Int} {kv : Owners} (h : Ahead o s kv) (h0 : 0 ≤ s) (h1 : s ≤ 4294967295) : tBegin kv o s = (⟨#[]⟩, false, 0) := by
  have hs : ¬ (s < 0 ∨ 4294967295 < s) := by omega
  rcases h with rfl | ⟨q, r, rfl, hq, _⟩
  · simp [tBegin, hs, aget]
  · simp [tBegin, hs, aget, hq]
theorem ahead_end {o s : Int} {kv : Owners} {r : ByteArray} (h : Ahead o s kv) (h0 : 0 ≤ s) (h1 : s ≤ 4294967295) : tEnd kv o s r = ([(o, (s, r))], 0) := by
  have hb := ahead_begin h h0 h1
  rw [tEnd, hb]
  rcases h with rfl | ⟨q, r, rfl, hq, _⟩
  · rfl
  · simp [aput]
theorem begin_again {o s : Int} {r : ByteArray} (h0 : 0 ≤ s) (h1 : s ≤ 4294967295) : tBegin [(o, (s, r))] o s = (r, true, 0) := by
  have hs : ¬ (s < 0 ∨ 4294967295 < s) := by omega
  have hn : ¬ s = nextSeq s := by unfold nextSeq; split <;> omega
  simp [tBegin, hs, aget, hn]

/-- The state of the loop. -/
structure Held (B : Nat) (ad : Nat → Addr) (w wr : World) (b : Nat) (kv : Owners) : Prop where
  env : Env B ad [2, 9, 12] wr
  chg : Chg Nil w wr
  tab : ∃ S, TurnAt wr b kv S ∧ ∀ x, S x → w.heap.size ≤ x

theorem Held.same {B : Nat} {ad : Nat → Addr} {w wr wr' : World} {b : Nat} {kv : Owners} (h : Held B ad w wr b kv) (c : Chg Nil wr wr') : Held B ad w wr' b kv := by
  obtain ⟨h1, h2, S, h3, h4⟩ := h
  exact ⟨h1.keepN c, h2.then c, S, h3.keep c (fun _ _ f => f), h4⟩

def Rel1 (B : Nat) (ad : Nat → Addr) (w : World) (b : Nat) (o n : Int) (sq did i : Value) (wr : World) : Prop :=
  ∃ (k : Nat) (s : Int) (kv : Owners), (k : Int) ≤ n ∧ i = .int .i64 k ∧ did = .int .i64 k ∧ sq = .int .i64 s ∧ 0 ≤ s ∧ s ≤ 4294967295 ∧ Ahead o s kv ∧ Held B ad w wr b kv
def Rel2 (B : Nat) (ad : Nat → Addr) (w : World) (b : Nat) (o s : Int) (kv : Owners) (k : Nat) (did j : Value) (wr : World) : Prop :=
  (j = .int .i64 0 ∧ did = .int .i64 k ∧ Held B ad w wr b kv) ∨ (∃ t : Nat, 1 ≤ t ∧ t ≤ 2 ∧ j = .int .i64 t ∧ did = .int .i64 (k + 1 : Nat) ∧ Held B ad w wr b [(o, (s, decS k))])

set_option maxHeartbeats 2000000 in
set_option maxRecDepth 100000 in
theorem turnGoes_any (ad : Nat → Addr) (owner seq n : Int) (w : World) (he : Env w.heap.size ad [2, 9, 12] w) :
    Calls Tryd.prog 3 #[.int .i64 owner, .int .i64 seq, .int .i64 n] w fun e w' => e = .returned (.bool true) ∧ Chg Nil w w' := by
  have HT := Lib.hid (turned_any ad w he)
  have HE := Lib.hid he
  clear he
  by_cases h1 : n < 0
  · go_enter Tryd.func3, Tryd.ntmps3
    go_wp2_with fail
    refine HT.out.mono ?_
    rintro e w1 ⟨rfl, hc1⟩
    go_wp2_with fail
    go_ret
    exact ⟨rfl, hc1⟩
  by_cases h2 : 200 < n
  · go_enter Tryd.func3, Tryd.ntmps3
    go_wp2_with fail
    refine HT.out.mono ?_
    rintro e w1 ⟨rfl, hc1⟩
    go_wp2_with fail
    go_ret
    exact ⟨rfl, hc1⟩
  by_cases h3 : seq < 0
  · go_enter Tryd.func3, Tryd.ntmps3
    go_wp2_with fail
    refine HT.out.mono ?_
    rintro e w1 ⟨rfl, hc1⟩
    go_wp2_with fail
    go_ret
    exact ⟨rfl, hc1⟩
  by_cases h4 : 4294967296 ≤ seq
  · go_enter Tryd.func3, Tryd.ntmps3
    go_wp2_with fail
    refine HT.out.mono ?_
    rintro e w1 ⟨rfl, hc1⟩
    go_wp2_with fail
    go_ret
    exact ⟨rfl, hc1⟩
  · go_enter Tryd.func3, Tryd.ntmps3
    go_wp2_with fail
    refine HT.out.mono ?_
    rintro e w1 ⟨rfl, hc1⟩
    go_wp2_with fail
    go_loopw [1, 9, 10] (fun sq did i wr => Rel1 w.heap.size ad w w1.heap.size owner n sq did i wr) (fun _ _ i _ => (n - intOf i).toNat)
    case atStart => exact ⟨0, seq, [], by omega, rfl, rfl, rfl, by omega, by omega, .inl rfl, (HE.out.keepN hc1).alloc _, hc1.alloc _, _, turnAt_new _ _, fun x e => by subst e; exact hc1.size⟩
    case round =>
      rename_i wr _
      obtain ⟨k, s, kv, hk, rfl, rfl, rfl, hs0, hs1, hA, hH⟩ := hrel
      by_cases hlt : (k : Int) < n
      · go_wp2_with fail
        go_loopw [9, 11] (fun did j wr => Rel2 w.heap.size ad w w1.heap.size owner s kv k did j wr) (fun _ j _ => (2 - intOf j).toNat)
        case atStart => exact .inl ⟨rfl, rfl, hH⟩
        case round =>
          clear hH
          rcases hrel with ⟨rfl, rfl, hH⟩ | ⟨t, ht1, ht2, rfl, rfl, hH⟩
          · obtain ⟨hE2, hC2, S, hT2, hS2⟩ := hH
            have hB := Lib.hid (ahead_begin hA hs0 hs1)
            have hN := Lib.hid (ahead_end (r := decS k) hA hs0 hs1)
            go_wp2_with fail
            refine (begin_any ad _ owner s kv S _ hE2 hT2).mono ?_
            rintro e w2 ⟨rfl, hc2⟩
            rw [hB.out]
            simp only [errV_zero]
            go_wp2_with fail
            refine (decimal_any _ _ (by omega) (by omega)).mono ?_
            rintro e w3 ⟨rfl, hc3⟩
            have hc23 := hc2.then hc3
            have hE3 := hE2.keepN hc23
            have hT3 := hT2.keep hc23 (fun _ _ f => f)
            have hC3 := hC2.then hc23
            go_wp2_with fail
            refine (end_any ad _ owner s (decS k) kv S _ hE3 hT3).mono ?_
            rintro e w4 ⟨rfl, hc4, S', hT4, hG4⟩
            rw [hN.out] at hT4 ⊢
            simp only [errV_zero] at hT4 ⊢
            have hH4 : Held w.heap.size ad w w4 w1.heap.size [(owner, (s, decS k))] :=
              ⟨hE3.keep hc4 hS2, hC3.trans hc4 (fun x hx hs => by have := hS2 _ hs; omega), S', hT4, fun x hx => by
                rcases hG4 x hx with h | h
                · exact hS2 x h
                · have := hC3.size; omega⟩
            go_wp2_with fail
            go_roundw
            case rel => exact .inr ⟨1, by omega, by omega, rfl, by go_num, hH4⟩
            case measure => simp [intOf]
          · obtain ⟨hE2, hC2, S, hT2, hS2⟩ := hH
            by_cases ht : t = 1
            · subst ht
              have hB := Lib.hid (begin_again (o := owner) (r := decS k) hs0 hs1)
              go_wp2_with fail
              refine (begin_any ad _ owner s _ S _ hE2 hT2).mono ?_
              rintro e w2 ⟨rfl, hc2⟩
              rw [hB.out]
              simp only [errV_zero]
              go_wp2_with fail
              refine (decimal_any _ _ (by omega) (by omega)).mono ?_
              rintro e w3 ⟨rfl, hc3⟩
              have hc23 := hc2.then hc3
              have hH3 : Held w.heap.size ad w w3 w1.heap.size [(owner, (s, decS k))] := Held.same ⟨hE2, hC2, S, hT2, hS2⟩ hc23
              go_wp2_with fail
              go_roundw
              case rel => exact .inr ⟨2, by omega, by omega, rfl, by go_num, hH3⟩
              case measure => simp [intOf]
            · obtain rfl : t = 2 := by omega
              have hA' : Ahead owner (nextSeq s) [(owner, (s, decS k))] := .inr ⟨s, _, rfl, rfl, hs0, hs1⟩
              have hH' : Held w.heap.size ad w wr w1.heap.size [(owner, (s, decS k))] := ⟨hE2, hC2, S, hT2, hS2⟩
              by_cases hs : s = 4294967295
              · have hn : nextSeq s = 0 := by simp [nextSeq, hs]
                rw [hn] at hA'
                have hb : (s + 1 == 4294967296) = true := by simp; omega
                clear hn hs
                go_wp2_with fail
                go_roundw
                case rel => exact ⟨k + 1, 0, _, by omega, by go_num, by go_num, rfl, by omega, by omega, hA', hH'⟩
                case measure => simp [intOf]; omega
              · have hn : nextSeq s = s + 1 := by simp [nextSeq, hs]
                rw [hn] at hA'
                have hb : (s + 1 == 4294967296) = false := by simp; omega
                have hs2 : s + 1 ≤ 4294967295 := by omega
                clear hn hs
                go_wp2_with fail
                go_roundw
                case rel => exact ⟨k + 1, s + 1, _, by omega, by go_num, by go_num, rfl, by omega, hs2, hA', hH'⟩
                case measure => simp [intOf]; omega
      · have hkn : ((k : Int) == n) = true := by simp; omega
        go_wp2_with fail
        go_ret
        exact ⟨rfl, hH.chg⟩
end Go.Proofs.YtfekiagdnlnggaaDoor
