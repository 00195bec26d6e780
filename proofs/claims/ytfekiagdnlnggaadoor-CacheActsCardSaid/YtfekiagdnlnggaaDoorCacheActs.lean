/- The walk of law CacheActs. -/
import Derived.Test.YtfekiagdnlnggaaDoorCache3
import Derived.Test.YtfekiagdnlnggaaDoorCacheRef
import Derived.Test.YtfekiagdnlnggaaDoorCoded3
import Derived.Test.YtfekiagdnlnggaaDoorShape
namespace Go.Proofs.YtfekiagdnlnggaaDoor
open Go.RowKit
set_option linter.unusedVariables false
set_option linter.unusedSimpArgs false

def shKeep : Sh := .and .bool (.and .str (.and .str (.and .str (.and .int .unit))))
abbrev KAct := Bool × ByteArray × ByteArray × ByteArray × Int × Unit

/-- The state of the loop: both caches are the same list. -/
structure BothC (ad : Nat → Addr) (w wr : World) (b1 b2 most : Nat) (kv : Kepts) : Prop where
  env : EnvA w.heap.size ad wr
  chg : Chg Nil w wr
  tab : ∃ S1 S2, CacheAt wr b1 most kv S1 ∧ CachesAt wr b2 most kv S2 ∧ (∀ x, S1 x → w.heap.size ≤ x) ∧ (∀ x, S2 x → w.heap.size ≤ x) ∧ (∀ x, S1 x → ¬ S2 x)
theorem BothC.same {ad : Nat → Addr} {w wr wr' : World} {b1 b2 most : Nat} {kv : Kepts} (h : BothC ad w wr b1 b2 most kv) (c : Chg Nil wr wr') : BothC ad w wr' b1 b2 most kv := by
  obtain ⟨h1, h2, ⟨S1, S2, h3, h4, h5, h6, h7⟩⟩ := h
  exact ⟨h1.keepN c, h2.then c, ⟨S1, S2, h3.keep c (fun _ _ f => f), h4.keep c (fun _ _ f => f), h5, h6, h7⟩⟩
theorem cachesAt_new (w : World) (most : Nat) (T : TypeId) : CachesAt (w.alloc (.cells #[.int .i64 most, .slice none 0 0] T)) w.heap.size most [] (· = w.heap.size) :=
  ⟨⟨_, T, Nil, block_alloc _ _, sliceAt_nil _ _ _ _, fun f => f, fun _ f => f.elim⟩, rfl, fun x e => by subst e; simp⟩
theorem bothC_step {ad : Nat → Addr} {w wr w2 w3 : World} {b1 b2 most : Nat} {kv kv' : Kepts} {S1 S2 S1' : Nat → Prop} (hEA : EnvA w.heap.size ad wr) (hC : Chg Nil w wr) (hT1 : CacheAt wr b1 most kv S1) (hT2 : CachesAt wr b2 most kv S2)
    (hB1 : ∀ x, S1 x → w.heap.size ≤ x) (hB2 : ∀ x, S2 x → w.heap.size ≤ x) (hdj : ∀ x, S1 x → ¬ S2 x) (hc2 : Chg S1 wr w2) (hT12 : CacheAt w2 b1 most kv' S1') (hG2 : Grow S1 S1' wr w2)
    (hp : CachesPost S2 w2 b2 most kv' w3) : BothC ad w w3 b1 b2 most kv' := by
  obtain ⟨hc3, S2', hT23, hG3⟩ := hp
  have hz := hC.size
  have hz2 := hc2.size
  have d12 : ∀ x, S1' x → ¬ S2 x := fun x h1 h2 => by
    rcases hG2 x h1 with h | h
    · exact hdj x h h2
    · have := hT2.lt x h2; omega
  refine ⟨(hEA.keep hc2 hB1).keep hc3 hB2, (hC.trans hc2 (fun x hx h => by have := hB1 x h; omega)).trans hc3 (fun x hx h => by have := hB2 x h; omega), ⟨S1', S2', hT12.keep hc3 d12, hT23, hG2.ge hB1 hz, hG3.ge hB2 (by omega), fun x h1 h2 => ?_⟩⟩
  rcases hG3 x h2 with h | h
  · exact d12 x h1 h
  · have := hT12.lt x h1; omega
def RelCA (ad : Nat → Addr) (w : World) (b1 b2 most n : Nat) (i : Value) (wr : World) : Prop :=
  ∃ (k : Nat) (kv : Kepts), k ≤ n ∧ i = .int .i64 k ∧ BothC ad w wr b1 b2 most kv
theorem cKeep_le (most : Nat) (kv : Kepts) (k : CKey) (t r : ByteArray) : (cKeep most kv k t r).2 ≤ 15 := by
  unfold cKeep; split <;> simp
theorem cLook_le (kv : Kepts) (k : CKey) (t : ByteArray) : (cLook kv k t).2.2 ≤ 15 := by
  unfold cLook; split
  · simp
  · split <;> simp
theorem keep_cells5 {W : World} {ab : Nat} {v0 v1 v2 v3 v4 : Value} {T : TypeId} (hb : W.heap[ab]? = some (.cells #[v0, v1, v2, v3, v4] T (0, 0))) :
    W.cell? ⟨ab, 1, none⟩ = some v1 ∧ W.cell? ⟨ab, 2, none⟩ = some v2 ∧ W.cell? ⟨ab, 3, none⟩ = some v3 ∧ W.cell? ⟨ab, 4, none⟩ = some v4 := ⟨by simp [cell_of hb], by simp [cell_of hb], by simp [cell_of hb], by simp [cell_of hb]⟩

set_option maxHeartbeats 4000000 in
set_option maxRecDepth 100000 in
theorem cacheActs_any (ad : Nat → Addr) (most : Int) (a0 : Option Addr) (cap : Nat) (acts : List KAct) (w : World) (he : EnvA w.heap.size ad w)
    (hs : (Sh.slice shKeep).At w w.heap.size (a0, cap, acts)) :
    Calls Tryd.prog 7 #[.int .i64 most, .slice a0 acts.length cap] w fun e w' => e = .returned (.bool true) ∧ Chg Nil w w' := by
  have HT := Lib.hid (kept_any ad w (he.sub (ds := [6, 12]) (by decide)))
  have HE := Lib.hid he
  have hl1 : acts.length ≤ 9223372036854775807 := Nat.le_trans hs.1 hs.2.1
  have HC := Lib.hid hs.2.2
  clear he hs
  by_cases h1 : 80 < acts.length
  · go_enter Tryd.func7, Tryd.ntmps7
    go_wp2_with fail
    refine HT.out.mono ?_
    rintro e w1 ⟨rfl, hc1⟩
    go_wp2_with fail
    go_ret
    exact ⟨rfl, hc1⟩
  by_cases hbad : most < 1 ∨ 20 < most
  · have HB := Lib.hid hbad
    have hgo : ∀ (h : most < 1 ∨ ¬ most < 1 ∧ 20 < most), Calls Tryd.prog 7 #[.int .i64 most, .slice a0 acts.length cap] w fun e w' => e = .returned (.bool true) ∧ Chg Nil w w' := by
      intro h
      rcases h with h | ⟨h, h'⟩
      all_goals
        go_enter Tryd.func7, Tryd.ntmps7
        go_wp2_with fail
        refine HT.out.mono ?_
        rintro e w1 ⟨rfl, hc1⟩
        go_wp2_with fail
        refine (cnew_bad (B := w.heap.size) ad most _ ((HE.out.keepN hc1).sub (by decide)) HB.out).mono ?_
        rintro e w2 ⟨rfl, hc2⟩
        go_wp2_with fail
        refine (coded3_ok ad 2 2 _ ((HE.out.keepN hc1).keepN hc2) (by decide) rfl).mono ?_
        rintro e w3 ⟨rfl, hc3⟩
        go_wp2_with fail
        go_ret
        exact ⟨rfl, (hc1.then hc2).then hc3⟩
    exact hgo (by omega)
  obtain ⟨m, rfl⟩ : ∃ m : Nat, most = m := ⟨most.toNat, by omega⟩
  have g1 : ¬ ((m : Int) < 1) := by omega
  have g2 : ¬ (20 < (m : Int)) := by omega
  have hm : 1 ≤ m ∧ m ≤ 20 := by omega
  clear hbad
  have HM := Lib.hid hm
  clear hm
  go_enter Tryd.func7, Tryd.ntmps7
  go_wp2_with fail
  refine HT.out.mono ?_
  rintro e w1 ⟨rfl, hc1⟩
  go_wp2_with fail
  refine (cnew_any m w1 HM.out).mono ?_
  rintro e w2 ⟨rfl, hc2, ht2⟩
  have hz1 := hc1.size
  have hz2 := hc2.size
  have HT2 := Lib.hid ht2
  clear ht2
  go_wp2_with fail
  go_loopw [9] (fun i wr => RelCA ad w (w1.heap.size + 1) w2.heap.size m acts.length i wr) (fun i _ => (acts.length - intOf i).toNat)
  case atStart =>
    exact ⟨0, [], Nat.zero_le _, rfl, ((HE.out.keepN hc1).keepN hc2).alloc _, (hc1.then hc2).alloc _, _, _, HT2.out.keep ((Chg.refl Nil _).alloc _) (fun _ _ f => f), cachesAt_new w2 m _, fun x hx => by rcases hx with rfl | rfl <;> omega, fun x e => by subst e; omega, fun x h1 h2 => by have := HT2.out.lt x h1; omega⟩
  case round =>
    rename_i wr _
    obtain ⟨k, kv, hk, rfl, hH⟩ := hrel
    by_cases hlt : k < acts.length
    · obtain ⟨x, hx⟩ : ∃ x, acts[k]? = some x := ⟨acts[k], List.getElem?_eq_getElem hlt⟩
      obtain ⟨hxa, g, off, rfl, hg, hcx⟩ := HC.out k x hx
      obtain ⟨kp, cl, tx, rp, num, _⟩ := x
      obtain ⟨_, hcl, htx, hrp, _⟩ := hxa
      have hgr := Nat.lt_of_lt_of_le hg hH.chg.size
      have c0 := (hH.chg.cell (p := ⟨g, off + k * 5 + 0, none⟩) hg (fun f => f)).trans (hcx 0 _ rfl)
      have c1 := (hH.chg.cell (p := ⟨g, off + k * 5 + 1, none⟩) hg (fun f => f)).trans (hcx 1 _ rfl)
      have c2 := (hH.chg.cell (p := ⟨g, off + k * 5 + 2, none⟩) hg (fun f => f)).trans (hcx 2 _ rfl)
      have c3 := (hH.chg.cell (p := ⟨g, off + k * 5 + 3, none⟩) hg (fun f => f)).trans (hcx 3 _ rfl)
      have c4 := (hH.chg.cell (p := ⟨g, off + k * 5 + 4, none⟩) hg (fun f => f)).trans (hcx 4 _ rfl)
      simp only [Nat.add_zero] at c0
      clear hcx hx hcl htx hrp
      obtain ⟨hEA, hC, ⟨S1, S2, hT1, hT2, hB1, hB2, hdj⟩⟩ := id hH
      have HBK := Lib.hid (block_alloc wr (.cells #[.bool kp, .string cl, .string tx, .string rp, .int .i64 num] 66))
      have hA := (Chg.refl Nil wr).alloc (.cells #[.bool kp, .string cl, .string tx, .string rp, .int .i64 num] 66)
      have hn1 : ¬ S1 wr.heap.size := fun h => by have := hT1.lt _ h; omega
      have hn2 : ¬ S2 wr.heap.size := fun h => by have := hT2.lt _ h; omega
      cases kp with
      | true =>
        go_wp2_with fail
        · go_ret
          exact ⟨rfl, hH.chg.alloc _⟩
        go_region_held3 (fun w' => w'.cell? ⟨wr.heap.size, 1, none⟩ = some (.string cl) ∧ w'.cell? ⟨wr.heap.size, 2, none⟩ = some (.string tx) ∧ w'.cell? ⟨wr.heap.size, 3, none⟩ = some (.string rp) ∧ w'.cell? ⟨wr.heap.size, 4, none⟩ = some (.int .i64 num))
          (first | exact keep_cells5 HBK.out | exact keep_cells5 HK2.out | exact keep_cells5 HK3.out | exact keep_cells5 HK4.out | go_keep)
          (first
            | (go_at_call 19; refine (keep_any (B := w.heap.size) ad _ m cl tx rp num kv S1 _ ?_ ?_).mono ?_; exact (hEA.keepN hA.drew).sub (by decide); exact hT1.keep hA.drew (fun _ _ f => f); rintro e w2' ⟨rfl, hc2', S1', hT12, hG2⟩; have HK2 := Lib.hid (hc2'.keep HBK.out hn1))
            | (go_at_call 31; refine (rkeep_any _ m cl tx rp num kv S2 _ ?_ hT1.few HM.out).mono ?_; exact (hT2.keep hA.drew (fun _ _ f => f)).keep hc2' (fun x hx h1 => hdj x h1 hx); rintro e w3 ⟨rfl, hp3⟩; have HK3 := Lib.hid (hp3.1.keep HK2.out hn2))
            | (go_at_call 30; refine (coded3_ok (B := w.heap.size) ad _ _ _ ?_ (cKeep_le m kv (cl, num) tx rp) rfl).mono ?_; exact ((hEA.keepN hA.drew).keep hc2' hB1).keep hp3.1 hB2; rintro e w4 ⟨rfl, hc4⟩; have HK4 := Lib.hid (hc4.keep HK3.out (fun f => f))))
        have hH' : BothC ad w w4 (w1.heap.size + 1) w2.heap.size m (cKeep m kv (cl, num) tx rp).1 :=
          (bothC_step (hEA.keepN hA.drew) (hC.then hA.drew) (hT1.keep hA.drew (fun _ _ f => f)) (hT2.keep hA.drew (fun _ _ f => f)) hB1 hB2 hdj hc2' hT12 hG2 hp3).same hc4
        obtain ⟨_, _, ⟨T1, T2, hT1', hT2', _⟩⟩ := id hH'
        obtain ⟨aa, cc, _, hcl, _⟩ := hT2'.cells (Chg.refl _ _)
        go_wp2_with fail
        go_quiet ((go_at_call 33; exact Calls.quiet_of_same ((ccount_any _ _ _ _ _ (hT1'.keep (Chg.drewN _ _) (fun _ _ f => f))).mono (fun e w' h => ⟨h.1, h.2.symm⟩))))
        go_wp2_with fail
        go_roundw
        case rel => exact ⟨k + 1, _, by omega, by go_num, hH'.same (Chg.drewN _ _)⟩
        case measure => simp [intOf]; omega
      | false =>
        go_wp2_with fail
        · go_ret
          exact ⟨rfl, hH.chg.alloc _⟩
        refine (look_any ad _ m cl tx num kv S1 _ ((hEA.keepN hA).sub (by decide)) (hT1.keep hA (fun _ _ f => f))).mono ?_
        rintro e w3 ⟨rfl, hc3⟩
        have hA3 := hA.then hc3
        obtain ⟨d1, d2, d3, d4⟩ := keep_cells5 (hc3.keep HBK.out (fun f => f))
        go_wp2_with fail
        refine (rlook_any _ m cl tx num kv S2 _ (hT2.keep hA3 (fun _ _ f => f))).mono ?_
        rintro e w4 ⟨rfl, hc4⟩
        have hA4 := hA3.then hc4
        go_wp2_with fail
        refine (coded3_ok ad _ _ _ (hEA.keepN hA4) (cLook_le kv (cl, num) tx) rfl).mono ?_
        rintro e w5 ⟨rfl, hc5⟩
        have hH' := hH.same (hA4.then hc5)
        obtain ⟨_, _, ⟨T1, T2, hT1', hT2', _⟩⟩ := id hH'
        obtain ⟨aa, cc, _, hcl, _⟩ := hT2'.cells (Chg.refl _ _)
        go_wp2_with fail
        go_quiet ((go_at_call 33; exact Calls.quiet_of_same ((ccount_any _ _ _ _ _ (hT1'.keep (Chg.drewN _ _) (fun _ _ f => f))).mono (fun e w' h => ⟨h.1, h.2.symm⟩))))
        go_wp2_with fail
        go_roundw
        case rel => exact ⟨k + 1, _, by omega, by go_num, hH'.same (Chg.drewN _ _)⟩
        case measure => simp [intOf]; omega
    · go_wp2_with fail
      go_ret
      exact ⟨rfl, hH.chg⟩
end Go.Proofs.YtfekiagdnlnggaaDoor
