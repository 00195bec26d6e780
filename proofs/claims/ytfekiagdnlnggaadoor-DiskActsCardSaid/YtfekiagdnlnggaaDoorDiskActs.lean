/- The walk of law DiskActs. -/
import Derived.Test.YtfekiagdnlnggaaDoorDiskRef3
import Derived.Test.YtfekiagdnlnggaaDoorCoded4
namespace Go.Proofs.YtfekiagdnlnggaaDoor
open Go.RowKit
set_option linter.unusedVariables false
set_option linter.unusedSimpArgs false

def RelAs (n : Nat) (w : World) (i : Value) (wr : World) : Prop := ∃ k : Nat, k ≤ n ∧ i = .int .i64 k ∧ Chg Nil w wr
set_option maxHeartbeats 4000000 in
set_option maxRecDepth 100000 in
theorem asDisk_any {B : Nat} (ad : Nat → Addr) (b b2 : Nat) (d : PDisk) (S S2 : Nat → Prop) (w : World) (he : Env B ad [2] w) (ht : DiskAt w b d S) (hr : RDiskAt w b2 d S2) (hl : d.now.length ≤ 4000) :
    Calls Tryd.prog 59 #[.pointer (some ⟨b, 0, none⟩), .pointer (some ⟨b2, 0, none⟩)] w fun e w' => e = .returned (.bool true) ∧ Chg Nil w w' := by
  have HE := Lib.hid he
  have HT := Lib.hid ht
  obtain ⟨vk, vn, vw, T, Sk, Sn, Sw, hrd, _, _, _⟩ := hr
  obtain ⟨an, cn, rfl⟩ := hrd.now.shape
  obtain ⟨aw, cw, rfl⟩ := hrd.waits.shape
  have e1 := cell_of hrd.blk 1
  have e2 := cell_of hrd.blk 2
  simp at e1 e2
  have HR := Lib.hid hrd
  clear he ht hrd
  go_enter Tryd.func59, Tryd.ntmps59
  go_wp2_with fail
  go_quiet ((first | (go_at_call 79; exact Calls.quiet_of_same (sectors_any b d S _ (HT.out.keep (T := Nil) (by repeat (first | exact Chg.refl _ _ | exact Chg.drewN _ _ | refine Chg.drew ?_ | refine Chg.drewsN ?_ _)) (fun _ _ f => f)))) | (go_at_call 80; exact Calls.quiet_of_same (waiting_any b d S _ (HT.out.keep (T := Nil) (by repeat (first | exact Chg.refl _ _ | exact Chg.drewN _ _ | refine Chg.drew ?_ | refine Chg.drewsN ?_ _)) (fun _ _ f => f))))))
  go_wp2_with fail
  go_loopw [5] (fun i wr => RelAs d.now.length w i wr) (fun i _ => (d.now.length - intOf i).toNat)
  case atStart => exact ⟨0, Nat.zero_le _, rfl, (by repeat (first | exact Chg.refl _ _ | exact Chg.drewN _ _ | refine Chg.drew ?_ | refine Chg.drewsN ?_ _))⟩
  case round =>
    obtain ⟨k, hk, rfl, hC⟩ := hrel
    have e1' := cell_of (HR.out.same hC).blk 1
    simp at e1'
    by_cases hlt : k < d.now.length
    · have j1 : (k : Int) < (d.now.length : Int) := by omega
      have j0 : (0 : Int) ≤ (k : Int) := by omega
      obtain ⟨x, hx⟩ : ∃ x, d.now[k]? = some x := ⟨d.now[k], List.getElem?_eq_getElem _⟩
      obtain ⟨g, off, cap, cs, e, _, hnw, _, _, _, hg, hgl⟩ := HR.out.now.place (by omega)
      cases e
      have hrd := read_in d k x hx
      have HRD := Lib.hid hrd
      have hkc : k < cn := by omega
      clear hrd
      go_wp2_with fail
      refine (kread_any (B := B) ad b k d S wr (HE.out.keepN hC) (HT.out.keep hC (fun _ _ f => f))).mono ?_
      rintro e w2 ⟨rfl, hc2⟩
      rw [HRD.out]
      simp only [errV_zero]
      have hC2 := hC.then hc2
      have hR2 := HR.out.same hC2
      have d1 := cell_of hR2.blk 1
      have y0 := (hR2.now.elem strC_len hx 0 _ rfl).1
      simp at d1
      simp only [Nat.mul_one, Nat.add_zero] at y0
      clear hx hR2
      go_wp2_with fail
      go_roundw
      case rel => exact ⟨k + 1, by omega, by go_num, hC2⟩
      case measure => simp [intOf]; omega
    · go_wp2_with fail
      go_ret
      exact ⟨rfl, hC⟩

theorem pAct_le (d : PDisk) (k : ByteArray) (n : Int) (s : ByteArray) (keep : List Bool) : (pAct d k n s keep).2 ≤ 15 := by
  unfold pAct
  split
  · unfold pWrite; split
    · simp
    · split
      · simp
      · split <;> simp
  · split
    · unfold pFlush; split <;> simp
    · split
      · unfold pFail; split <;> simp
      · split <;> simp

/-- The state of the loop: both disks are the same. -/
structure BothK (ad : Nat → Addr) (w wr : World) (b1 b2 n m : Nat) (d : PDisk) : Prop where
  env : EnvA w.heap.size ad wr
  chg : Chg Nil w wr
  tab : ∃ S1 S2, DiskAt wr b1 d S1 ∧ RDiskAt wr b2 d S2 ∧ (∀ x, S1 x → w.heap.size ≤ x) ∧ (∀ x, S2 x → w.heap.size ≤ x) ∧ (∀ x, S1 x → ¬ S2 x)
  ok : POk n m d
theorem BothK.same {ad : Nat → Addr} {w wr wr' : World} {b1 b2 n m : Nat} {d : PDisk} (h : BothK ad w wr b1 b2 n m d) (c : Chg Nil wr wr') : BothK ad w wr' b1 b2 n m d := by
  obtain ⟨h1, h2, ⟨S1, S2, h3, h4, h5, h6, h7⟩, h8⟩ := h
  exact ⟨h1.keepN c, h2.then c, ⟨S1, S2, h3.keep c (fun _ _ f => f), h4.keep c (fun _ _ f => f), h5, h6, h7⟩, h8⟩
theorem rdisk_lt {w : World} {b : Nat} {d : PDisk} {S : Nat → Prop} (h : RDiskAt w b d S) : ∀ x, S x → x < w.heap.size := by
  obtain ⟨_, _, _, _, _, _, _, _, _, _, h⟩ := h; exact h
theorem bothK_step {ad : Nat → Addr} {w wr w2 w3 : World} {b1 b2 n m : Nat} {d d' : PDisk} {S1 S2 S1' S2' : Nat → Prop} (hEA : EnvA w.heap.size ad wr) (hC : Chg Nil w wr) (hT2 : RDiskAt wr b2 d S2) (hlt1 : ∀ x, S1 x → x < wr.heap.size)
    (hB1 : ∀ x, S1 x → w.heap.size ≤ x) (hB2 : ∀ x, S2 x → w.heap.size ≤ x) (hdj : ∀ x, S1 x → ¬ S2 x) (hc2 : Chg S1 wr w2) (hT12 : DiskAt w2 b1 d' S1') (hG2 : Grow S1 S1' wr w2)
    (hc3 : Chg S2 w2 w3) (hT23 : RDiskAt w3 b2 d' S2') (hG3 : Grow S2 S2' w2 w3) (hok : POk n m d') : BothK ad w w3 b1 b2 n m d' := by
  have hz := hC.size
  have hz2 := hc2.size
  have d12 : ∀ x, S1' x → ¬ S2 x := fun x h1 h2 => by
    rcases hG2 x h1 with h | h
    · exact hdj x h h2
    · have := rdisk_lt hT2 x h2; omega
  refine ⟨(hEA.keep hc2 hB1).keep hc3 hB2, (hC.trans hc2 (fun x hx h => by have := hB1 x h; omega)).trans hc3 (fun x hx h => by have := hB2 x h; omega), ⟨S1', S2', hT12.keep hc3 d12, hT23, hG2.ge hB1 hz, hG3.ge hB2 (by omega), fun x h1 h2 => ?_⟩, hok⟩
  rcases hG3 x h2 with h | h
  · exact d12 x h1 h
  · have := hT12.2.2.1 x h1; omega
def RelDK (ad : Nat → Addr) (w : World) (b1 b2 n m : Nat) (i : Value) (wr : World) : Prop :=
  ∃ (k : Nat) (d : PDisk), k ≤ m ∧ i = .int .i64 k ∧ BothK ad w wr b1 b2 n k d

theorem act4_keep {W W' : World} {g o : Nat} {v0 v1 v2 v3 : Value} (c : Chg Nil W W') (hg : g < W.heap.size) (h : W.cell? ⟨g, o, none⟩ = some v0 ∧ W.cell? ⟨g, o + 1, none⟩ = some v1 ∧ W.cell? ⟨g, o + 2, none⟩ = some v2 ∧ W.cell? ⟨g, o + 3, none⟩ = some v3) :
    W'.cell? ⟨g, o, none⟩ = some v0 ∧ W'.cell? ⟨g, o + 1, none⟩ = some v1 ∧ W'.cell? ⟨g, o + 2, none⟩ = some v2 ∧ W'.cell? ⟨g, o + 3, none⟩ = some v3 :=
  ⟨(c.cell (p := ⟨g, o, none⟩) hg (fun f => f)).trans h.1, (c.cell (p := ⟨g, o + 1, none⟩) hg (fun f => f)).trans h.2.1, (c.cell (p := ⟨g, o + 2, none⟩) hg (fun f => f)).trans h.2.2.1, (c.cell (p := ⟨g, o + 3, none⟩) hg (fun f => f)).trans h.2.2.2⟩
set_option maxHeartbeats 8000000 in
set_option maxRecDepth 100000 in
theorem diskActs_any (ad : Nat → Addr) (n : Int) (a0 : Option Addr) (cap : Nat) (acts : List XAct) (at' : Int) (w : World) (he : EnvA w.heap.size ad w) (hs : ActsAt w w.heap.size a0 cap acts) :
    Calls Tryd.prog 11 #[.int .i64 n, .slice a0 acts.length cap, .int .i64 at'] w fun e w' => e = .returned (.bool true) ∧ Chg Nil w w' := by
  have HT := Lib.hid (spun_any ad w (he.sub (by decide)))
  have HE := Lib.hid he
  have HS := Lib.hid hs
  have hl1 : acts.length ≤ 9223372036854775807 := Nat.le_trans hs.1.1 hs.1.2.1
  clear he hs
  by_cases hbig : 40 < n ∧ n ≤ 4000
  · obtain ⟨h1, h2⟩ := hbig
    go_enter Tryd.func11, Tryd.ntmps11
    go_wp2_with fail
    refine HT.out.mono ?_
    rintro e w1 ⟨rfl, hc1⟩
    go_wp2_with fail
    refine (bulky_any a0 cap acts w1 hc1.size (HS.out.keep (Nat.le_refl _) hc1)).mono ?_
    rintro e w2 ⟨⟨t, rfl⟩, hc2⟩
    cases t
    all_goals
      go_wp2_with fail
      go_ret
      exact ⟨rfl, hc1.then hc2⟩
  by_cases hbad : n < 1 ∨ 4000 < n
  · have HB := Lib.hid hbad
    have hgo : (n < 1 ∧ ¬ 40 < n) ∨ (¬ n < 1 ∧ 4000 < n ∧ ¬ n ≤ 4000 ∧ 40 < n) := by omega
    clear hbad hbig
    rcases hgo with ⟨h, h1⟩ | ⟨h, h1, h2, h3⟩
    all_goals
      go_enter Tryd.func11, Tryd.ntmps11
      go_wp2_with fail
      refine HT.out.mono ?_
      rintro e w1 ⟨rfl, hc1⟩
      go_wp2_with fail
      refine (bulky_any a0 cap acts w1 hc1.size (HS.out.keep (Nat.le_refl _) hc1)).mono ?_
      rintro e w2 ⟨⟨t, rfl⟩, hc2⟩
      have hcC := hc1.then hc2
      cases t with
      | true =>
        go_wp2_with fail
        go_ret
        exact ⟨rfl, hcC⟩
      | false =>
        go_wp2_with fail
        refine (new_bad (B := w.heap.size) ad n w2 ((HE.out.keepN hcC).sub (by decide)) HB.out).mono ?_
        rintro e w3 ⟨rfl, hc3⟩
        go_wp2_with fail
        refine (coded4_ok ad 2 2 w3 ((HE.out.keepN hcC).keepN hc3) (by decide) rfl).mono ?_
        rintro e w4 ⟨rfl, hc4⟩
        go_wp2_with fail
        go_ret
        exact ⟨rfl, (hcC.then hc3).then hc4⟩
  obtain ⟨n, rfl⟩ : ∃ k : Nat, n = k := ⟨n.toNat, by omega⟩
  have g1 : ¬ (n : Int) < 1 := by omega
  have g2 : ¬ 40 < (n : Int) := by omega
  have g3 : ¬ 4000 < (n : Int) := by omega
  have hn1 : 1 ≤ n := by omega
  have hn2 : n ≤ 40 := by omega
  clear hbad hbig
  go_enter Tryd.func11, Tryd.ntmps11
  go_wp2_with fail
  refine HT.out.mono ?_
  rintro e w1 ⟨rfl, hc1⟩
  go_wp2_with fail
  refine (bulky_any a0 cap acts w1 hc1.size (HS.out.keep (Nat.le_refl _) hc1)).mono ?_
  rintro e w2 ⟨⟨t, rfl⟩, hc2⟩
  have hcC := hc1.then hc2
  cases t with
  | true =>
    go_wp2_with fail
    go_ret
    exact ⟨rfl, hcC⟩
  | false =>
  go_wp2_with fail
  refine (new_good n w2 hn1 (by omega)).mono ?_
  rintro e w3 ⟨b, S3, rfl, hc3, ht3, hS3⟩
  have HT3 := Lib.hid ht3
  have hz := hcC.size
  have hC3 := hcC.then hc3
  clear ht3
  go_wp2_with fail
  refine (rnew_any n w3 (by omega)).mono ?_
  rintro e w4 ⟨b2, S4, rfl, hc4, ht4, hS4⟩
  have HT4 := Lib.hid ht4
  have hz3 := hC3.size
  have hlt3 := HT3.out.2.2.1
  clear ht4
  go_wp2_with fail
  go_loopw [11] (fun i wr => RelDK ad w b b2 n acts.length i wr) (fun i _ => (acts.length - intOf i).toNat)
  case atStart => exact ⟨0, _, Nat.zero_le _, rfl, ⟨HE.out.keepN (hC3.then hc4), hC3.then hc4, ⟨S3, S4, HT3.out.keep hc4 (fun _ _ f => f), HT4.out, fun x hx => Nat.le_trans hz (hS3 x hx), fun x hx => Nat.le_trans hz3 (hS4 x hx), fun x h1 h2 => by have := hlt3 x h1; have := hS4 x h2; omega⟩, pok_new n⟩⟩
  case round =>
    obtain ⟨k, d, hk, rfl, hH⟩ := hrel
    obtain ⟨hEA, hC, ⟨S1, S2, hT1, hT2, hB1, hB2, hdj⟩, hP⟩ := id hH
    by_cases hlt : k < acts.length
    · obtain ⟨x, hx⟩ : ∃ x, acts[k]? = some x := ⟨acts[k], List.getElem?_eq_getElem hlt⟩
      obtain ⟨g, off, rfl, hg, c0, c1, c2, c3, q1, q2, q3, q4⟩ := xact_read HS.out (Nat.le_refl _) hC hx
      have hcap : acts.length ≤ cap := HS.out.1.1
      have hcz := HS.out.2.1
      have hgw : g < w.heap.size := by
        obtain ⟨_, g', off', e, hg', _⟩ := HS.out.1.2.2 k x hx
        cases e; exact hg'
      obtain ⟨kind, i, t, ⟨ka, kc, kl⟩, u⟩ := x
      simp only at c0 c1 c2 c3 q1 q2 q3 q4
      have hfew := hP.few
      have hkc : k < cap := by omega
      have hwb : (d.waits.length + 1) * 24 ≤ 140737488355328 := by
        simp only [Sh.bytes, shXAct] at hcz
        omega
      have j1 : (k : Int) < (acts.length : Int) := by omega
      have j0 : (0 : Int) ≤ (k : Int) := by omega
      have Q4 := Lib.hid (Sh.At.keep hC (Nat.le_refl _) (fun _ f => f.elim) _ _ q4)
      have hd1 := (Chg.refl Nil wr).drew
      have f1 : d.kept.length ≤ 4000 := by rw [hP.kept]; omega
      have f2 : d.now.length = d.kept.length := by rw [hP.kept, hP.now]
      have f3 : 1 ≤ d.kept.length := by rw [hP.kept]; omega
      have hins : ∀ p ∈ d.waits, 0 ≤ p.1 ∧ p.1 < d.kept.length := by rw [hP.kept]; exact hP.ins
      have hzC := hC.size
      have HCS : Hid (∀ (U : Nat → Prop) (w' : World), Chg U wr w' → (∀ x, U x → w.heap.size ≤ x) → w'.cell? ⟨g, off + k * 4, none⟩ = some (.string kind) ∧ w'.cell? ⟨g, off + k * 4 + 1, none⟩ = some (.int .i64 i) ∧ w'.cell? ⟨g, off + k * 4 + 2, none⟩ = some (.string t) ∧ w'.cell? ⟨g, off + k * 4 + 3, none⟩ = some (.slice ka kl.length kc)) := Lib.hid (fun U w' c hU =>
        ⟨(c.cell (p := ⟨g, off + k * 4, none⟩) hg (fun e => by have := hU _ e; simp at this; omega)).trans c0, (c.cell (p := ⟨g, off + k * 4 + 1, none⟩) hg (fun e => by have := hU _ e; simp at this; omega)).trans c1,
          (c.cell (p := ⟨g, off + k * 4 + 2, none⟩) hg (fun e => by have := hU _ e; simp at this; omega)).trans c2, (c.cell (p := ⟨g, off + k * 4 + 3, none⟩) hg (fun e => by have := hU _ e; simp at this; omega)).trans c3⟩)
      have HDO := Lib.hid (fun (W : World) (c : Chg Nil wr W) => doAct_any (B := w.heap.size) (B2 := w.heap.size) ad b kind i t ka kc kl d S1 W ((hEA.keepN c).sub (by decide)) hB1 (hT1.keep c (fun _ _ f => f)) q1 hwb q3 (Nat.le_trans hzC c.size) (Sh.At.keep c hzC (fun _ f => f.elim) _ _ Q4.out) f1 (by omega) hins)
      have HRO := Lib.hid (fun (W : World) (c : Chg S1 wr W) => rdo_any b2 kind i t ka kc kl d S2 w.heap.size W ⟨hT2.keep c (fun x hx h1 => hdj x h1 hx), hwb, Nat.le_trans hzC c.size, Sh.At.keep c hzC hB1 _ _ Q4.out, hB2, f1, f2, f3, hins⟩ q1)
      obtain ⟨D, hD⟩ : ∃ D, D = pAct d kind i t kl := ⟨_, rfl⟩
      have hDl : D.2 ≤ 15 := by rw [hD]; exact pAct_le _ _ _ _ _
      have HDP := Lib.hid (show POk n (k + 1) D.1 by rw [hD]; exact hP.act kind i t kl)
      rw [← hD] at HDO HRO
      clear hx hcz q4 hfew hD f1 f2 f3 hins hwb
      go_wp2_with fail
      go_region_held3 (fun w' => w'.cell? ⟨g, off + k * 4, none⟩ = some (.string kind) ∧ w'.cell? ⟨g, off + k * 4 + 1, none⟩ = some (.int .i64 i) ∧ w'.cell? ⟨g, off + k * 4 + 2, none⟩ = some (.string t) ∧ w'.cell? ⟨g, off + k * 4 + 3, none⟩ = some (.slice ka kl.length kc))
        (first | exact ⟨c0, c1, c2, c3⟩ | exact HK5.out | exact HK6.out | exact HK7.out | exact HK8.out | go_keep)
        (first
          | (go_at_call 43; refine (HDO.out _ hd1).mono ?_; rintro e w5 ⟨rfl, hc5, S1', hT15, hG5⟩; have hc5' : Chg S1 wr w5 := (hd1.nil).trans hc5 (fun _ _ h => h); have HK5 := Lib.hid (HCS.out _ _ hc5' hB1))
          | (go_at_call 58; refine (HRO.out _ hc5').mono ?_; rintro e w6 ⟨rfl, hc6, S2', hT26, hG6⟩; have hK6 : BothK ad w w6 b b2 n (k + 1) D.1 := bothK_step hEA hC hT2 hT1.2.2.1 hB1 hB2 hdj hc5' hT15 hG5 hc6 hT26 hG6 HDP.out; have HK6 := Lib.hid (HCS.out (fun x => S1 x ∨ S2 x) _ ((hc5'.mono (fun x _ h => .inl h)).trans hc6 (fun x _ h => .inr h)) (fun x h => h.elim (hB1 x) (hB2 x))))
          | (go_at_call 56; refine (coded4_ok (B := w.heap.size) ad D.2 D.2 _ hK6.env hDl rfl).mono ?_; rintro e w7 ⟨rfl, hc7⟩; have hK7 := hK6.same hc7; have HK7 := Lib.hid (act4_keep hc7 (Nat.lt_of_lt_of_le hgw hK6.chg.size) HK6.out))
          | (go_at_call 59; obtain ⟨T1, T2, hU1, hU2, _⟩ := id hK7.tab; refine (asDisk_any (B := w.heap.size) ad b b2 D.1 T1 T2 _ (hK7.env.sub (by decide)) hU1 hU2 (by rw [hK7.ok.now]; omega)).mono ?_; rintro e w8 ⟨rfl, hc8⟩; have hK8 := hK7.same hc8; have HK8 := Lib.hid (act4_keep hc8 (Nat.lt_of_lt_of_le hgw hK7.chg.size) HK7.out)))
      go_wp2_with fail
      go_roundw
      case rel => exact ⟨k + 1, D.1, by omega, by go_num, hK8⟩
      case measure => simp [intOf]; omega
    · have HTr := Lib.hid hT1
      have HEr := Lib.hid hEA
      have hnow := hP.now
      by_cases hrd : at' < 0 ∨ (n : Int) ≤ at'
      · have hr : pRead d at' = (⟨#[]⟩, 2) := if_pos (by rw [hnow]; exact hrd)
        have HR := Lib.hid hr
        have hgo : at' < 0 ∨ (¬ at' < 0 ∧ (n : Int) ≤ at') := by omega
        clear hrd hr
        rcases hgo with h | ⟨h, h'⟩
        all_goals
          go_wp2_with fail
          refine (kread_any (B := w.heap.size) ad b at' d S1 wr (HEr.out.sub (by decide)) HTr.out).mono ?_
          rintro e w5 ⟨rfl, hc5⟩
          rw [HR.out]
          go_wp2_with fail
          refine (coded4_ok ad 2 2 w5 (HEr.out.keepN hc5) (by decide) rfl).mono ?_
          rintro e w6 ⟨rfl, hc6⟩
          go_wp2_with fail
          go_ret
          exact ⟨rfl, (hC.then hc5).then hc6⟩
      · obtain ⟨q, rfl⟩ : ∃ q : Nat, at' = q := ⟨at'.toNat, by omega⟩
        have j1 : ¬ (q : Int) < 0 := by omega
        have j2 : ¬ (n : Int) ≤ (q : Int) := by omega
        have hqn : q < d.now.length := by omega
        obtain ⟨x, hx⟩ : ∃ x, d.now[q]? = some x := ⟨d.now[q], List.getElem?_eq_getElem _⟩
        have hr := read_in d q x hx
        have HR := Lib.hid hr
        have HT2 := Lib.hid hT2
        obtain ⟨vk, vn, vw, T, Sk, Sn, Sw, hrd2, _, _, _⟩ := hT2
        obtain ⟨g, off, cap2, cs, rfl, _, hnw, _, _, _, _, hgl⟩ := hrd2.now.place (by omega)
        have HRD := Lib.hid hrd2
        have hqc : q < cap2 := by omega
        have hnI : (q : Int) < (d.now.length : Int) := by omega
        have HX := Lib.hid hx
        clear hrd hr hrd2 hx hnow
        go_wp2_with fail
        refine (kread_any (B := w.heap.size) ad b q d S1 wr (HEr.out.sub (by decide)) HTr.out).mono ?_
        rintro e w5 ⟨rfl, hc5⟩
        rw [HR.out]
        simp only [errV_zero]
        have hR5 := HRD.out.same hc5
        have d1 := cell_of hR5.blk 1
        have y0 := (hR5.now.elem strC_len HX.out 0 _ rfl).1
        simp at d1
        simp only [Nat.mul_one, Nat.add_zero] at y0
        clear hR5
        go_wp2_with fail
        go_ret
        exact ⟨rfl, hC.then hc5⟩
end Go.Proofs.YtfekiagdnlnggaaDoor
