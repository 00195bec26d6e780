/- The walk of law XdrReads. -/
import Derived.Test.YtdhegblgghembaaDoorXdr11
import Derived.Test.YtdhegblgghembaaDoorCoded1
import Derived.Test.YtdhegblgghembaaDoorShape
import Derived.Test.YtdhegblgghembaaDoorPutX
namespace Go.Proofs.YtdhegblgghembaaDoor
open Go.RowKit Go.Lib
set_option linter.unusedVariables false
set_option linter.unusedSimpArgs false

/-- The state of the loop: the reader holds what the law has left. -/
structure RdS (ad : Nat → Addr) (w wr : World) (b : Nat) (s : ByteArray) : Prop where
  env : EnvA w.heap.size ad wr
  chg : Chg Nil w wr
  tab : RdAt wr b s
  few : s.size ≤ 1000
  ge : w.heap.size ≤ b
theorem RdS.same {ad : Nat → Addr} {w wr wr' : World} {b : Nat} {s : ByteArray} (h : RdS ad w wr b s) (c : Chg Nil wr wr') : RdS ad w wr' b s :=
  ⟨h.env.keepN c, h.chg.then c, h.tab.keep c (fun f => f), h.few, h.ge⟩
theorem RdS.post {ad : Nat → Addr} {w wr w2 : World} {b : Nat} {s s' : ByteArray} (h : RdS ad w wr b s) (c : Chg (· = b) wr w2) (t : RdAt w2 b s') (hl : s'.size ≤ 1000) : RdS ad w w2 b s' :=
  ⟨h.env.keep c (fun x e => by have : x = b := e; have := h.ge; omega), h.chg.trans c (fun x hx e => by have : x = b := e; have := h.ge; omega), t, hl, h.ge⟩
theorem rd_int (s : ByteArray) (hs : s.size ≤ 1000) :
    (∃ q r, rdNum s 4 (fun _ => true) = (q, r, 0) ∧ cutB s 4 = ((q : Int), r) ∧ r.size ≤ 1000) ∨ (rdNum s 4 (fun _ => true) = (0, s, 1) ∧ cutB s 4 = (-1, s)) := by
  unfold rdNum cutB
  by_cases h : 4 ≤ s.size
  · rw [if_pos ⟨h, rfl⟩, if_pos ⟨h, by omega⟩]
    exact .inl ⟨_, _, rfl, rfl, by rw [ByteArray.size_extract]; omega⟩
  · rw [if_neg (fun e => h e.1), if_neg (fun e => h e.1)]; exact .inr ⟨rfl, rfl⟩
theorem rd_long (s : ByteArray) (hs : s.size ≤ 1000) :
    (∃ q r, rdNum s 8 (fun q => decide (q < 9223372036854775808)) = (q, r, 0) ∧ cutB s 8 = ((q : Int), r) ∧ r.size ≤ 1000) ∨ (rdNum s 8 (fun q => decide (q < 9223372036854775808)) = (0, s, 1) ∧ cutB s 8 = (-1, s)) := by
  unfold rdNum cutB
  by_cases h : 8 ≤ s.size ∧ decide (numK s 8 < 9223372036854775808) = true
  · rw [if_pos h, if_pos ⟨h.1, fun _ => by simpa using h.2⟩]
    exact .inl ⟨_, _, rfl, rfl, by rw [ByteArray.size_extract]; omega⟩
  · rw [if_neg h, if_neg (fun e => h ⟨e.1, by simpa using e.2 rfl⟩)]; exact .inr ⟨rfl, rfl⟩
theorem rd_bool (s : ByteArray) (hs : s.size ≤ 1000) :
    (∃ q r, rdNum s 4 (fun q => decide (q ≤ 1)) = (q, r, 0) ∧ cutB s 4 = ((q : Int), r) ∧ r.size ≤ 1000 ∧ (q = 0 ∨ q = 1)) ∨ (rdNum s 4 (fun q => decide (q ≤ 1)) = (0, s, 1) ∧ (cutB s 4 = (-1, s) ∨ ∃ q r, cutB s 4 = ((q : Int), r) ∧ 1 < q)) := by
  unfold rdNum cutB
  by_cases h : 4 ≤ s.size
  · by_cases h1 : decide (numK s 4 ≤ 1) = true
    · rw [if_pos ⟨h, h1⟩, if_pos ⟨h, by omega⟩]
      exact .inl ⟨_, _, rfl, rfl, by rw [ByteArray.size_extract]; omega, by simp at h1; omega⟩
    · rw [if_neg (fun e => h1 e.2), if_pos ⟨h, by omega⟩]
      exact .inr ⟨rfl, .inr ⟨_, _, rfl, by simp at h1; omega⟩⟩
  · rw [if_neg (fun e => h e.1), if_neg (fun e => h e.1)]; exact .inr ⟨rfl, .inl rfl⟩
theorem rd_item (s : ByteArray) (most : Int) (hs : s.size ≤ 1000) :
    (∃ t r, rdItem s most = (t, r, 0) ∧ cutI s most = (t, r, true) ∧ r.size ≤ 1000) ∨ (rdItem s most = (⟨#[]⟩, s, 1) ∧ cutI s most = (⟨#[]⟩, s, false)) := by
  by_cases h : itemOk s most
  · exact .inl ⟨_, _, rdItem_yes h, cutI_yes h, by rw [ByteArray.size_extract]; omega⟩
  · exact .inr ⟨rdItem_no h, cutI_no h⟩
def RelXR (ad : Nat → Addr) (w : World) (b n : Nat) (s i : Value) (wr : World) : Prop :=
  ∃ (k : Nat) (t : ByteArray), k ≤ n ∧ i = .int .i64 k ∧ s = .string t ∧ RdS ad w wr b t

set_option maxHeartbeats 8000000 in
set_option maxRecDepth 100000 in
theorem xdrReads_any (ad : Nat → Addr) (s0 : ByteArray) (a0 : Option Addr) (cap : Nat) (l : List XPut) (w : World) (he : EnvA w.heap.size ad w) (hs0 : s0.size ≤ 9223372036854775807) (hs : (Sh.slice shPut).At w w.heap.size (a0, cap, l)) :
    Calls Tryd.prog 10 #[.string s0, .slice a0 l.length cap] w fun e w' => e = .returned (.bool true) ∧ Chg Nil w w' := by
  have HT := Lib.hid (four_any ad w (he.env.sub (by decide)))
  have HE := Lib.hid he
  have hl1 : l.length ≤ 9223372036854775807 := Nat.le_trans hs.1 hs.2.1
  have hcap : l.length ≤ cap := hs.1
  have HC := Lib.hid hs.2.2
  clear he hs
  by_cases h1 : 60 < l.length
  · go_enter Tryd.func10, Tryd.ntmps10
    go_wp2_with fail
    refine HT.out.mono ?_
    rintro e w1 ⟨rfl, hc1⟩
    go_wp2_with fail
    go_ret
    exact ⟨rfl, hc1⟩
  have h1d : decide (60 < l.length) = false := by simpa using h1
  by_cases h2 : 1000 < s0.size
  · go_enter Tryd.func10, Tryd.ntmps10
    go_wp2_with fail
    refine HT.out.mono ?_
    rintro e w1 ⟨rfl, hc1⟩
    go_wp2_with fail
    go_ret
    exact ⟨rfl, hc1⟩
  have h2d : decide (1000 < s0.size) = false := by simpa using h2
  go_enter Tryd.func10, Tryd.ntmps10
  go_wp2_with fail
  refine HT.out.mono ?_
  rintro e w1 ⟨rfl, hc1⟩
  have hz1 := hc1.size
  go_wp2_with fail
  refine (newReader_any s0 w1).mono ?_
  rintro e w2 ⟨rfl, hc2, ht2, hz2⟩
  have HN := Lib.hid (show RdS ad w w2 w1.heap.size s0 from ⟨HE.out.keepN (hc1.then hc2), hc1.then hc2, ht2, by omega, hz1⟩)
  clear hc2 ht2
  go_wp2_with fail
  go_loopw [7, 8] (fun s i wr => RelXR ad w w1.heap.size l.length s i wr) (fun _ i _ => (l.length - RowKit.intOf i).toNat)
  case atStart => exact ⟨0, s0, Nat.zero_le _, rfl, rfl, HN.out⟩
  case round =>
    obtain ⟨k, t, hk, rfl, rfl, hH⟩ := hrel
    by_cases hlt : k < l.length
    · obtain ⟨x, hx⟩ : ∃ x, l[k]? = some x := ⟨l[k], List.getElem?_eq_getElem hlt⟩
      obtain ⟨hxa, g, off, rfl, hg, hcx⟩ := HC.out k x hx
      obtain ⟨kind, n, s, _⟩ := x
      clear hxa
      have hgr := Nat.lt_of_lt_of_le hg hH.chg.size
      have c0 := (hH.chg.cell (p := ⟨g, off + k * 3 + 0, none⟩) hg (fun f => f)).trans (hcx 0 _ rfl)
      have c1 := (hH.chg.cell (p := ⟨g, off + k * 3 + 1, none⟩) hg (fun f => f)).trans (hcx 1 _ rfl)
      have c2 := (hH.chg.cell (p := ⟨g, off + k * 3 + 2, none⟩) hg (fun f => f)).trans (hcx 2 _ rfl)
      simp only [Nat.add_zero] at c0
      have j1 : (k : Int) < (l.length : Int) := by omega
      have j0 : (0 : Int) ≤ (k : Int) := by omega
      have kc : k < cap := by omega
      clear hcx hx
      have hfew := hH.few
      have hbl : w1.heap.size < wr.heap.size := by obtain ⟨T, h⟩ := hH.tab; exact lt_of_block h
      have HH := Lib.hid (hH.same ((Chg.refl Nil wr).alloc (.cells #[.string kind, .int .i64 n, .string s] 74)))
      clear hH
      by_cases k1 : kind = kwInt
      · subst k1
        unfold kwInt at *
        rcases rd_int t hfew with ⟨q, r, h3, h4, h5⟩ | ⟨h3, h4⟩
        · have HRD := Lib.hid h3
          have HCU := Lib.hid h4
          clear h3 h4
          go_wp2_with fail
          refine (rint_any (B := w.heap.size) ad w1.heap.size t _ (HH.out.env.env.sub (by decide)) hz1 HH.out.tab (by omega)).mono ?_
          rintro e w3 ⟨rfl, hc3, ht3⟩
          rw [HRD.out] at ht3 ⊢
          have HH2 := Lib.hid (HH.out.post hc3 ht3 h5)
          clear hc3 ht3
          simp only [errV_zero]
          go_wp2_with fail
          refine (cut4_any t w3 (by omega)).mono ?_
          rintro e w4 ⟨rfl, hc4⟩
          rw [HCU.out]
          go_wp2_with fail
          go_roundw
          case rel => exact ⟨k + 1, r, by omega, by go_num, rfl, HH2.out.same hc4⟩
          case measure => simp [RowKit.intOf]; omega
        · have HRD := Lib.hid h3
          have HCU := Lib.hid h4
          clear h3 h4
          go_wp2_with fail
          refine (rint_any (B := w.heap.size) ad w1.heap.size t _ (HH.out.env.env.sub (by decide)) hz1 HH.out.tab (by omega)).mono ?_
          rintro e w3 ⟨rfl, hc3, ht3⟩
          rw [HRD.out] at ht3 ⊢
          have HH2 := Lib.hid (HH.out.post hc3 ht3 hfew)
          clear hc3 ht3
          go_wp2_with fail
          refine (cut4_any t w3 (by omega)).mono ?_
          rintro e w4 ⟨rfl, hc4⟩
          rw [HCU.out]
          have HH3 := Lib.hid (HH2.out.same hc4)
          go_wp2_with fail
          refine (coded1_ok ad 1 1 _ HH3.out.env (by decide) rfl).mono ?_
          rintro e w5 ⟨rfl, hc5⟩
          go_wp2_with fail
          go_roundw
          case rel => exact ⟨k + 1, t, by omega, by go_num, rfl, HH3.out.same hc5⟩
          case measure => simp [RowKit.intOf]; omega
      have q1 : (kind.toList == [105, 110, 116]) = false := txt_ne k1
      clear k1
      by_cases k2 : kind = kwLong
      · subst k2
        clear q1
        unfold kwLong at *
        rcases rd_long t hfew with ⟨q, r, h3, h4, h5⟩ | ⟨h3, h4⟩
        · have HRD := Lib.hid h3
          have HCU := Lib.hid h4
          clear h3 h4
          go_wp2_with fail
          refine (rlong_any (B := w.heap.size) ad w1.heap.size t _ (HH.out.env.env.sub (by decide)) hz1 HH.out.tab (by omega)).mono ?_
          rintro e w3 ⟨rfl, hc3, ht3⟩
          rw [HRD.out] at ht3 ⊢
          have HH2 := Lib.hid (HH.out.post hc3 ht3 h5)
          clear hc3 ht3
          simp only [errV_zero]
          go_wp2_with fail
          refine (cut8_any t w3 (by omega)).mono ?_
          rintro e w4 ⟨rfl, hc4⟩
          rw [HCU.out]
          go_wp2_with fail
          go_roundw
          case rel => exact ⟨k + 1, r, by omega, by go_num, rfl, HH2.out.same hc4⟩
          case measure => simp [RowKit.intOf]; omega
        · have HRD := Lib.hid h3
          have HCU := Lib.hid h4
          clear h3 h4
          go_wp2_with fail
          refine (rlong_any (B := w.heap.size) ad w1.heap.size t _ (HH.out.env.env.sub (by decide)) hz1 HH.out.tab (by omega)).mono ?_
          rintro e w3 ⟨rfl, hc3, ht3⟩
          rw [HRD.out] at ht3 ⊢
          have HH2 := Lib.hid (HH.out.post hc3 ht3 hfew)
          clear hc3 ht3
          go_wp2_with fail
          refine (cut8_any t w3 (by omega)).mono ?_
          rintro e w4 ⟨rfl, hc4⟩
          rw [HCU.out]
          have HH3 := Lib.hid (HH2.out.same hc4)
          go_wp2_with fail
          refine (coded1_ok ad 1 1 _ HH3.out.env (by decide) rfl).mono ?_
          rintro e w5 ⟨rfl, hc5⟩
          go_wp2_with fail
          go_roundw
          case rel => exact ⟨k + 1, t, by omega, by go_num, rfl, HH3.out.same hc5⟩
          case measure => simp [RowKit.intOf]; omega
      have q2 : (kind.toList == [108, 111, 110, 103]) = false := txt_ne k2
      clear k2
      by_cases k3 : kind = kwBool
      · subst k3
        clear q1 q2
        unfold kwBool at *
        rcases rd_bool t hfew with ⟨q, r, h3, h4, h5, h6⟩ | ⟨h3, h4⟩
        · have HRD := Lib.hid h3
          have HCU := Lib.hid h4
          clear h3 h4
          go_wp2_with fail
          refine (rbool_any (B := w.heap.size) ad w1.heap.size t _ (HH.out.env.env.sub (by decide)) hz1 HH.out.tab (by omega)).mono ?_
          rintro e w3 ⟨rfl, hc3, ht3⟩
          rw [HRD.out] at ht3 ⊢
          have HH2 := Lib.hid (HH.out.post hc3 ht3 h5)
          clear hc3 ht3
          simp only [errV_zero]
          rcases h6 with rfl | rfl
          all_goals
            go_wp2_with fail
            refine (cut4_any t w3 (by omega)).mono ?_
            rintro e w4 ⟨rfl, hc4⟩
            rw [HCU.out]
            go_wp2_with fail
            go_roundw
            case rel => exact ⟨k + 1, r, by omega, by go_num, rfl, HH2.out.same hc4⟩
            case measure => simp [RowKit.intOf]; omega
        · have HRD := Lib.hid h3
          clear h3
          go_wp2_with fail
          refine (rbool_any (B := w.heap.size) ad w1.heap.size t _ (HH.out.env.env.sub (by decide)) hz1 HH.out.tab (by omega)).mono ?_
          rintro e w3 ⟨rfl, hc3, ht3⟩
          rw [HRD.out] at ht3 ⊢
          have HH2 := Lib.hid (HH.out.post hc3 ht3 hfew)
          clear hc3 ht3
          rcases h4 with h4 | ⟨q, r, h4, h6⟩
          · have HCU := Lib.hid h4
            clear h4
            go_wp2_with fail
            refine (cut4_any t w3 (by omega)).mono ?_
            rintro e w4 ⟨rfl, hc4⟩
            rw [HCU.out]
            have HH3 := Lib.hid (HH2.out.same hc4)
            go_wp2_with fail
            refine (coded1_ok ad 1 1 _ HH3.out.env (by decide) rfl).mono ?_
            rintro e w5 ⟨rfl, hc5⟩
            go_wp2_with fail
            go_roundw
            case rel => exact ⟨k + 1, t, by omega, by go_num, rfl, HH3.out.same hc5⟩
            case measure => simp [RowKit.intOf]; omega
          · have HCU := Lib.hid h4
            clear h4
            have h6I : (1 : Int) < (q : Int) := by omega
            go_wp2_with fail
            refine (cut4_any t w3 (by omega)).mono ?_
            rintro e w4 ⟨rfl, hc4⟩
            rw [HCU.out]
            have HH3 := Lib.hid (HH2.out.same hc4)
            go_wp2_with fail
            refine (coded1_ok ad 1 1 _ HH3.out.env (by decide) rfl).mono ?_
            rintro e w5 ⟨rfl, hc5⟩
            go_wp2_with fail
            go_roundw
            case rel => exact ⟨k + 1, t, by omega, by go_num, rfl, HH3.out.same hc5⟩
            case measure => simp [RowKit.intOf]; omega
      have q3 : (kind.toList == [98, 111, 111, 108]) = false := txt_ne k3
      clear k3
      by_cases k4 : kind = kwBytes
      · subst k4
        clear q1 q2 q3
        unfold kwBytes at *
        rcases rd_item t n hfew with ⟨q, r, h3, h4, h5⟩ | ⟨h3, h4⟩
        · have HRD := Lib.hid h3
          have HCU := Lib.hid h4
          clear h3 h4
          have HBK := Lib.hid (block_alloc wr (.cells #[.string ⟨#[98, 121, 116, 101, 115]⟩, .int .i64 n, .string s] 74))
          go_wp2_with fail
          refine (rbytes_any (B := w.heap.size) ad w1.heap.size t n _ (HH.out.env.env.sub (by decide)) hz1 HH.out.tab (by omega)).mono ?_
          rintro e w3 ⟨rfl, hc3, ht3⟩
          rw [HRD.out] at ht3 ⊢
          have hb3 := cell_of (hc3.keep HBK.out (fun e => by have : wr.heap.size = w1.heap.size := e; omega)) 1
          simp at hb3
          have HH2 := Lib.hid (HH.out.post hc3 ht3 h5)
          clear hc3 ht3
          simp only [errV_zero]
          go_wp2_with fail
          refine (cutItem_any t n w3 (by omega)).mono ?_
          rintro e w4 ⟨rfl, hc4⟩
          rw [HCU.out]
          go_wp2_with fail
          go_roundw
          case rel => exact ⟨k + 1, r, by omega, by go_num, rfl, HH2.out.same hc4⟩
          case measure => simp [RowKit.intOf]; omega
        · have HRD := Lib.hid h3
          have HCU := Lib.hid h4
          clear h3 h4
          have HBK := Lib.hid (block_alloc wr (.cells #[.string ⟨#[98, 121, 116, 101, 115]⟩, .int .i64 n, .string s] 74))
          go_wp2_with fail
          refine (rbytes_any (B := w.heap.size) ad w1.heap.size t n _ (HH.out.env.env.sub (by decide)) hz1 HH.out.tab (by omega)).mono ?_
          rintro e w3 ⟨rfl, hc3, ht3⟩
          rw [HRD.out] at ht3 ⊢
          have hb3 := cell_of (hc3.keep HBK.out (fun e => by have : wr.heap.size = w1.heap.size := e; omega)) 1
          simp at hb3
          have HH2 := Lib.hid (HH.out.post hc3 ht3 hfew)
          clear hc3 ht3
          go_wp2_with fail
          refine (cutItem_any t n w3 (by omega)).mono ?_
          rintro e w4 ⟨rfl, hc4⟩
          rw [HCU.out]
          have HH3 := Lib.hid (HH2.out.same hc4)
          go_wp2_with fail
          refine (coded1_ok ad 1 1 _ HH3.out.env (by decide) rfl).mono ?_
          rintro e w5 ⟨rfl, hc5⟩
          go_wp2_with fail
          go_roundw
          case rel => exact ⟨k + 1, t, by omega, by go_num, rfl, HH3.out.same hc5⟩
          case measure => simp [RowKit.intOf]; omega
      have q4 : (kind.toList == [98, 121, 116, 101, 115]) = false := txt_ne k4
      clear k4
      by_cases ht : t = ⟨#[]⟩
      · subst ht
        go_wp2_with fail
        refine (rend_any (B := w.heap.size) ad w1.heap.size _ _ (HH.out.env.env.sub (by decide)) HH.out.tab).mono ?_
        rintro e w3 ⟨rfl, hc3⟩
        have HH3 := Lib.hid (HH.out.same hc3)
        simp only [if_true]
        go_wp2_with fail
        refine (coded1_ok ad 0 0 _ HH3.out.env (by decide) rfl).mono ?_
        rintro e w5 ⟨rfl, hc5⟩
        go_wp2_with fail
        go_roundw
        case rel => exact ⟨k + 1, _, by omega, by go_num, rfl, HH3.out.same hc5⟩
        case measure => simp [RowKit.intOf]; omega
      · have htt := txt_full ht
        have HTE := Lib.hid (show (if t = ⟨#[]⟩ then 0 else 1) = 1 from if_neg ht)
        clear ht
        go_wp2_with fail
        refine (rend_any (B := w.heap.size) ad w1.heap.size _ _ (HH.out.env.env.sub (by decide)) HH.out.tab).mono ?_
        rintro e w3 ⟨rfl, hc3⟩
        have HH3 := Lib.hid (HH.out.same hc3)
        rw [HTE.out]
        go_wp2_with fail
        refine (coded1_ok ad 1 1 _ HH3.out.env (by decide) rfl).mono ?_
        rintro e w5 ⟨rfl, hc5⟩
        go_wp2_with fail
        go_roundw
        case rel => exact ⟨k + 1, t, by omega, by go_num, rfl, HH3.out.same hc5⟩
        case measure => simp [RowKit.intOf]; omega
    · obtain rfl : k = l.length := by omega
      have HH := Lib.hid hH
      clear hH
      go_wp2_with fail
      go_ret
      exact ⟨rfl, HH.out.chg⟩
end Go.Proofs.YtdhegblgghembaaDoor
