/- The walk of law XdrWrites. -/
import Derived.Test.YtdhegblgghembaaDoorXdr4
import Derived.Test.YtdhegblgghembaaDoorCoded1
import Derived.Test.YtdhegblgghembaaDoorShape
namespace Go.Proofs.YtdhegblgghembaaDoor
open Go.RowKit Go.Lib
set_option linter.unusedVariables false
set_option linter.unusedSimpArgs false

def shPut : Sh := .and .str (.and .int (.and .str .unit))
abbrev XPut := ByteArray × Int × ByteArray × Unit
def kwInt : ByteArray := ⟨#[105, 110, 116]⟩
def kwLong : ByteArray := ⟨#[108, 111, 110, 103]⟩
def kwBool : ByteArray := ⟨#[98, 111, 111, 108]⟩
theorem txt_ne {k : ByteArray} {l : List UInt8} (h : ¬ k = ⟨l.toArray⟩) : (k.toList == l) = false := by
  rw [beq_eq_false_iff_ne]
  intro e
  apply h
  have e2 : k.data.toList = l := by rw [← e]; exact (ByteArray.toList_eq k).symm
  obtain ⟨d⟩ := k
  simp only at e2
  subst e2
  rfl
theorem wPut_le (t : List UInt8) (s : ByteArray) : (wPut t s).2 ≤ 15 := by unfold wPut; split <;> simp
theorem wPut_len (t : List UInt8) (s : ByteArray) (h : t.length ≤ 4000) : (wPut t s).1.length ≤ 4000 := by
  unfold wPut
  split
  · exact h
  · rename_i h2
    have : s.data.toList.length = s.size := Array.length_toList
    simp only [List.length_append, this]; omega
theorem wPut_txt (t : List UInt8) (s : ByteArray) : (⟨(wPut t s).1.toArray⟩ : ByteArray) = if 4000 < t.length + s.size then ⟨t.toArray⟩ else ⟨t.toArray⟩ ++ s := by
  unfold wPut
  split
  · rfl
  · apply ByteArray.ext
    simp [ByteArray.data_append]

theorem wPut_full {t : List UInt8} {s : ByteArray} (h : 4000 < t.length + s.size) : wPut t s = (t, 9) := if_pos h
theorem wPut_ok {t : List UInt8} {s : ByteArray} (h : ¬ 4000 < t.length + s.size) : wPut t s = (t ++ s.data.toList, 0) := if_neg h
theorem wInt_good (t : List UInt8) (m : Nat) (h : m < 4294967296) : wInt t (m : Int) = wPut t (bigB 4 m) := by unfold wInt; rw [if_neg (by omega), Int.toNat_natCast]
theorem wLong_good (t : List UInt8) (m : Nat) : wLong t (m : Int) = wPut t (bigB 8 m) := by unfold wLong; rw [if_neg (by omega), Int.toNat_natCast]
theorem txt_app (t : List UInt8) (s : ByteArray) : (⟨t.toArray⟩ : ByteArray) ++ s = ⟨(t ++ s.data.toList).toArray⟩ := by
  apply ByteArray.ext
  simp [ByteArray.data_append]
theorem isInt_yes {m : Nat} (h : m < 4294967296) : (decide (0 ≤ (m : Int)) && decide ((m : Int) < 4294967296)) = true := by simp; omega
/-- The state of the loop: the writer holds what the law has. -/
structure WrS (ad : Nat → Addr) (w wr : World) (b : Nat) (t : List UInt8) : Prop where
  env : EnvA w.heap.size ad wr
  chg : Chg Nil w wr
  tab : ∃ S, WrAt wr b t S ∧ ∀ x, S x → w.heap.size ≤ x
  few : t.length ≤ 4000
theorem WrS.same {ad : Nat → Addr} {w wr wr' : World} {b : Nat} {t : List UInt8} (h : WrS ad w wr b t) (c : Chg Nil wr wr') : WrS ad w wr' b t := by
  obtain ⟨h1, h2, ⟨S, h3, h4⟩, h5⟩ := h
  exact ⟨h1.keepN c, h2.then c, ⟨S, h3.keep c (fun _ _ f => f), h4⟩, h5⟩
theorem WrS.post {ad : Nat → Addr} {w wr w2 : World} {b : Nat} {t t' : List UInt8} {S : Nat → Prop} (h : WrS ad w wr b t) (hS : ∀ x, S x → w.heap.size ≤ x) (p : WrPost S wr b t' w2) (hl : t'.length ≤ 4000) : WrS ad w w2 b t' := by
  obtain ⟨c, S2, h2, g2⟩ := p
  exact ⟨h.env.keep c hS, h.chg.trans c (fun x hx e => by have := hS x e; omega), ⟨S2, h2, g2.ge hS h.chg.size⟩, hl⟩
def RelXW (ad : Nat → Addr) (w : World) (b n : Nat) (s i : Value) (wr : World) : Prop :=
  ∃ (k : Nat) (t : List UInt8), k ≤ n ∧ i = .int .i64 k ∧ s = .string ⟨t.toArray⟩ ∧ WrS ad w wr b t

set_option maxHeartbeats 8000000 in
set_option maxRecDepth 100000 in
theorem xdrWrites_any (ad : Nat → Addr) (a0 : Option Addr) (cap : Nat) (l : List XPut) (w : World) (he : EnvA w.heap.size ad w) (hs : (Sh.slice shPut).At w w.heap.size (a0, cap, l)) :
    Calls Tryd.prog 8 #[.slice a0 l.length cap] w fun e w' => e = .returned (.bool true) ∧ Chg Nil w w' := by
  have HT := Lib.hid (four_any ad w (he.sub (by decide)))
  have HE := Lib.hid he
  have hl1 : l.length ≤ 9223372036854775807 := Nat.le_trans hs.1 hs.2.1
  have hcap : l.length ≤ cap := hs.1
  have HC := Lib.hid hs.2.2
  clear he hs
  by_cases h1 : 60 < l.length
  · go_enter Tryd.func8, Tryd.ntmps8
    go_wp2_with fail
    refine HT.out.mono ?_
    rintro e w1 ⟨rfl, hc1⟩
    go_wp2_with fail
    go_ret
    exact ⟨rfl, hc1⟩
  go_enter Tryd.func8, Tryd.ntmps8
  go_wp2_with fail
  refine HT.out.mono ?_
  rintro e w1 ⟨rfl, hc1⟩
  have hz1 := hc1.size
  go_wp2_with fail
  go_loopw [5, 6] (fun s i wr => RelXW ad w w1.heap.size l.length s i wr) (fun _ i _ => (l.length - RowKit.intOf i).toNat)
  case atStart => exact ⟨0, [], Nat.zero_le _, rfl, rfl, (HE.out.keepN hc1).alloc _, hc1.alloc _, ⟨_, wr_new w1 _, fun x e => by have : x = _ := e; omega⟩, by simp⟩
  case round =>
    obtain ⟨k, t, hk, rfl, rfl, hH⟩ := hrel
    obtain ⟨T, hT⟩ : ∃ T, T = (⟨t.toArray⟩ : ByteArray) := ⟨_, rfl⟩
    have hTs : T.size ≤ t.length ∧ t.length ≤ T.size := by rw [hT]; simp [ByteArray.size]
    rw [← hT]
    have HTT := Lib.hid hT
    clear hT
    by_cases hlt : k < l.length
    · obtain ⟨x, hx⟩ : ∃ x, l[k]? = some x := ⟨l[k], List.getElem?_eq_getElem hlt⟩
      obtain ⟨hxa, g, off, rfl, hg, hcx⟩ := HC.out k x hx
      obtain ⟨kind, n, s, _⟩ := x
      have hn' : n ≤ 9223372036854775807 := hxa.2.1.2
      clear hxa
      have hgr := Nat.lt_of_lt_of_le hg hH.chg.size
      have c0 := (hH.chg.cell (p := ⟨g, off + k * 3 + 0, none⟩) hg (fun f => f)).trans (hcx 0 _ rfl)
      have c1 := (hH.chg.cell (p := ⟨g, off + k * 3 + 1, none⟩) hg (fun f => f)).trans (hcx 1 _ rfl)
      have c2 := (hH.chg.cell (p := ⟨g, off + k * 3 + 2, none⟩) hg (fun f => f)).trans (hcx 2 _ rfl)
      simp only [Nat.add_zero] at c0
      have j1 : (k : Int) < (l.length : Int) := by omega
      have j0 : (0 : Int) ≤ (k : Int) := by omega
      have kc : k < cap := by omega
      clear hcx hx
      by_cases hbig : 5000 < s.size
      · go_wp2_with fail
        go_ret
        exact ⟨rfl, hH.chg.alloc _⟩
      have HH := Lib.hid hH
      have HBK := Lib.hid (block_alloc wr (.cells #[.string kind, .int .i64 n, .string s] 74))
      have hA := (Chg.refl Nil wr).alloc (.cells #[.string kind, .int .i64 n, .string s] 74)
      have HA := Lib.hid hA
      obtain ⟨S, hW, hS⟩ := hH.tab
      have HW := Lib.hid (hW.keep hA (fun _ _ f => f))
      have hfew := hH.few
      have hltS : ∀ x, S x → x < (wr.alloc (.cells #[.string kind, .int .i64 n, .string s] 74)).heap.size := wr_lt HW.out
      have hxS : ¬ S wr.heap.size := fun e => by have := wr_lt hW _ e; omega
      have HAC := Lib.hid hH.env
      clear hA hW hH
      by_cases k1 : kind = kwInt
      · subst k1
        unfold kwInt at *
        by_cases hbad : n < 0 ∨ 4294967296 ≤ n
        · have HWI := Lib.hid (show wInt t n = (t, 2) from if_pos hbad)
          have HII := Lib.hid (show (decide (0 ≤ n) && decide (n < 4294967296)) = false by simp; omega)
          clear hbad
          go_wp2_with fail
          refine (wint_any (B := w.heap.size) ad w1.heap.size n t S _ ((HAC.out.keepN HA.out).sub (by decide)) HW.out hfew hn').mono ?_
          rintro e w2 ⟨rfl, hp2⟩
          rw [HWI.out] at hp2 ⊢
          have hb2 := hp2.1.keep HBK.out hxS
          have b1 := cell_of hb2 1
          simp at b1
          have HH2 := Lib.hid ((HH.out.same HA.out).post hS hp2 hfew)
          clear hb2 hp2
          go_wp2_with fail
          refine (isInt_any n w2).mono ?_
          rintro e w3 ⟨rfl, hc3⟩
          rw [HII.out]
          go_wp2_with fail
          refine (coded1_ok ad 2 2 _ (HH2.out.env.keepN hc3) (by decide) rfl).mono ?_
          rintro e w9 ⟨rfl, hc9⟩
          go_wp2_with fail
          go_roundw
          case rel => exact ⟨k + 1, t, by omega, by go_num, by rw [HTT.out], (HH2.out.same hc3).same hc9⟩
          case measure => simp [RowKit.intOf]; omega
        obtain ⟨m, rfl⟩ : ∃ m : Nat, n = m := ⟨n.toNat, by omega⟩
        have hm : m < 4294967296 := by omega
        have hwi0 := Lib.hid (wInt_good t m hm)
        have HM := Lib.hid hm
        clear hbad hm
        have hBS : (bigB 4 m).size = 4 := bigB_size _ _
        have HBS := Lib.hid hBS
        have hsz1 : (bigB 4 m).size ≤ 4 ∧ 4 ≤ (bigB 4 m).size := by rw [hBS]; exact ⟨Nat.le_refl _, Nat.le_refl _⟩
        clear hBS
        have hws : IntKind.i64.wrap ((T.size : Int) + ((bigB 4 m).size : Int)) = (T.size : Int) + ((bigB 4 m).size : Int) := IntWalk.i64_in _ (by omega)
        have hns : ¬ 9223372036854775807 < T.size + (bigB 4 m).size := by omega
        have hwi := hwi0.out
        by_cases hf : 4000 < t.length + (bigB 4 m).size
        · have hfI : (4000 : Int) < (T.size : Int) + ((bigB 4 m).size : Int) := by omega
          have HWI := Lib.hid (hwi.trans (wPut_full hf))
          clear hwi hf hsz1
          go_wp2_with fail
          refine (wint_any (B := w.heap.size) ad w1.heap.size (m : Int) t S _ ((HAC.out.keepN HA.out).sub (by decide)) HW.out hfew hn').mono ?_
          rintro e w2 ⟨rfl, hp2⟩
          rw [HWI.out] at hp2 ⊢
          have hb2 := hp2.1.keep HBK.out hxS
          have b1 := cell_of hb2 1
          have b2 := cell_of hb2 2
          simp at b1 b2
          have HH2 := Lib.hid ((HH.out.same HA.out).post hS hp2 hfew)
          have HB2 := Lib.hid hb2
          clear hb2 hp2
          go_wp2_with fail
          refine (isInt_any (m : Int) w2).mono ?_
          rintro e w3 ⟨rfl, hc3⟩
          rw [isInt_yes HM.out]
          have b1' := cell_of (hc3.keep HB2.out (fun f => f)) 1
          simp at b1'
          go_wp2_with fail
          refine (big_any m 4 w3 (by omega) (by omega)).mono ?_
          rintro e w4 ⟨rfl, hc4⟩
          have hc := hc3.then hc4
          go_wp2_with fail
          refine (coded1_ok ad 9 9 _ (HH2.out.env.keepN hc) (by decide) rfl).mono ?_
          rintro e w9 ⟨rfl, hc9⟩
          go_wp2_with fail
          go_roundw
          case rel => exact ⟨k + 1, t, by omega, by go_num, by rw [HTT.out], (HH2.out.same hc).same hc9⟩
          case measure => simp [RowKit.intOf]; omega
        · have hfI : ¬ (4000 : Int) < (T.size : Int) + ((bigB 4 m).size : Int) := by omega
          have HWI := Lib.hid (hwi.trans (wPut_ok hf))
          have hfew2 : (t ++ (bigB 4 m).data.toList).length ≤ 4000 := by
            have : (bigB 4 m).data.toList.length = (bigB 4 m).size := Array.length_toList
            rw [List.length_append, this]; omega
          clear hwi hf hsz1
          go_wp2_with fail
          refine (wint_any (B := w.heap.size) ad w1.heap.size (m : Int) t S _ ((HAC.out.keepN HA.out).sub (by decide)) HW.out hfew hn').mono ?_
          rintro e w2 ⟨rfl, hp2⟩
          rw [HWI.out] at hp2 ⊢
          have hb2 := hp2.1.keep HBK.out hxS
          have b1 := cell_of hb2 1
          have b2 := cell_of hb2 2
          simp at b1 b2
          have HH2 := Lib.hid ((HH.out.same HA.out).post hS hp2 hfew2)
          have HB2 := Lib.hid hb2
          clear hb2 hp2
          go_wp2_with fail
          refine (isInt_any (m : Int) w2).mono ?_
          rintro e w3 ⟨rfl, hc3⟩
          rw [isInt_yes HM.out]
          have b1' := cell_of (hc3.keep HB2.out (fun f => f)) 1
          simp at b1'
          go_wp2_with fail
          refine (big_any m 4 w3 (by omega) (by omega)).mono ?_
          rintro e w4 ⟨rfl, hc4⟩
          have hc := hc3.then hc4
          go_wp2_with fail
          refine (coded1_ok ad 0 0 _ (HH2.out.env.keepN hc) (by decide) rfl).mono ?_
          rintro e w9 ⟨rfl, hc9⟩
          go_wp2_with fail
          go_roundw
          case rel => exact ⟨k + 1, t ++ (bigB 4 m).data.toList, by omega, by go_num, by rw [HTT.out, txt_app], (HH2.out.same hc).same hc9⟩
          case measure => simp [RowKit.intOf]; omega
      have q1 : (kind.toList == [105, 110, 116]) = false := txt_ne k1
      clear k1
      by_cases k2 : kind = kwLong
      · subst k2
        clear q1
        unfold kwLong at *
        by_cases hbad : n < 0
        · have HWI := Lib.hid (show wLong t n = (t, 2) from if_pos hbad)
          go_wp2_with fail
          refine (wlong_any (B := w.heap.size) ad w1.heap.size n t S _ ((HAC.out.keepN HA.out).sub (by decide)) HW.out hfew hn').mono ?_
          rintro e w2 ⟨rfl, hp2⟩
          rw [HWI.out] at hp2 ⊢
          have hb2 := hp2.1.keep HBK.out hxS
          have b1 := cell_of hb2 1
          simp at b1
          have HH2 := Lib.hid ((HH.out.same HA.out).post hS hp2 hfew)
          clear hb2 hp2
          go_wp2_with fail
          refine (coded1_ok ad 2 2 _ (HH2.out.env) (by decide) rfl).mono ?_
          rintro e w9 ⟨rfl, hc9⟩
          go_wp2_with fail
          go_roundw
          case rel => exact ⟨k + 1, t, by omega, by go_num, by rw [HTT.out], (HH2.out).same hc9⟩
          case measure => simp [RowKit.intOf]; omega
        obtain ⟨m, rfl⟩ : ∃ m : Nat, n = m := ⟨n.toNat, by omega⟩
        clear hbad
        have hBS : (bigB 8 m).size = 8 := bigB_size _ _
        have HBS := Lib.hid hBS
        have hsz1 : (bigB 8 m).size ≤ 8 ∧ 8 ≤ (bigB 8 m).size := by rw [hBS]; exact ⟨Nat.le_refl _, Nat.le_refl _⟩
        clear hBS
        have hws : IntKind.i64.wrap ((T.size : Int) + ((bigB 8 m).size : Int)) = (T.size : Int) + ((bigB 8 m).size : Int) := IntWalk.i64_in _ (by omega)
        have hns : ¬ 9223372036854775807 < T.size + (bigB 8 m).size := by omega
        have hwi := wLong_good t m
        by_cases hf : 4000 < t.length + (bigB 8 m).size
        · have hfI : (4000 : Int) < (T.size : Int) + ((bigB 8 m).size : Int) := by omega
          have HWI := Lib.hid (hwi.trans (wPut_full hf))
          clear hwi hf hsz1
          go_wp2_with fail
          refine (wlong_any (B := w.heap.size) ad w1.heap.size (m : Int) t S _ ((HAC.out.keepN HA.out).sub (by decide)) HW.out hfew hn').mono ?_
          rintro e w2 ⟨rfl, hp2⟩
          rw [HWI.out] at hp2 ⊢
          have hb2 := hp2.1.keep HBK.out hxS
          have b1 := cell_of hb2 1
          have b2 := cell_of hb2 2
          simp at b1 b2
          have HH2 := Lib.hid ((HH.out.same HA.out).post hS hp2 hfew)
          have HB2 := Lib.hid hb2
          clear hb2 hp2
          go_wp2_with fail
          refine (big_any m 8 w2 (by omega) (by omega)).mono ?_
          rintro e w4 ⟨rfl, hc⟩
          go_wp2_with fail
          refine (coded1_ok ad 9 9 _ (HH2.out.env.keepN hc) (by decide) rfl).mono ?_
          rintro e w9 ⟨rfl, hc9⟩
          go_wp2_with fail
          go_roundw
          case rel => exact ⟨k + 1, t, by omega, by go_num, by rw [HTT.out], (HH2.out.same hc).same hc9⟩
          case measure => simp [RowKit.intOf]; omega
        · have hfI : ¬ (4000 : Int) < (T.size : Int) + ((bigB 8 m).size : Int) := by omega
          have HWI := Lib.hid (hwi.trans (wPut_ok hf))
          have hfew2 : (t ++ (bigB 8 m).data.toList).length ≤ 4000 := by
            have : (bigB 8 m).data.toList.length = (bigB 8 m).size := Array.length_toList
            rw [List.length_append, this]; omega
          clear hwi hf hsz1
          go_wp2_with fail
          refine (wlong_any (B := w.heap.size) ad w1.heap.size (m : Int) t S _ ((HAC.out.keepN HA.out).sub (by decide)) HW.out hfew hn').mono ?_
          rintro e w2 ⟨rfl, hp2⟩
          rw [HWI.out] at hp2 ⊢
          have hb2 := hp2.1.keep HBK.out hxS
          have b1 := cell_of hb2 1
          have b2 := cell_of hb2 2
          simp at b1 b2
          have HH2 := Lib.hid ((HH.out.same HA.out).post hS hp2 hfew2)
          have HB2 := Lib.hid hb2
          clear hb2 hp2
          go_wp2_with fail
          refine (big_any m 8 w2 (by omega) (by omega)).mono ?_
          rintro e w4 ⟨rfl, hc⟩
          go_wp2_with fail
          refine (coded1_ok ad 0 0 _ (HH2.out.env.keepN hc) (by decide) rfl).mono ?_
          rintro e w9 ⟨rfl, hc9⟩
          go_wp2_with fail
          go_roundw
          case rel => exact ⟨k + 1, t ++ (bigB 8 m).data.toList, by omega, by go_num, by rw [HTT.out, txt_app], (HH2.out.same hc).same hc9⟩
          case measure => simp [RowKit.intOf]; omega
      have q2 : (kind.toList == [108, 111, 110, 103]) = false := txt_ne k2
      clear k2
      by_cases k3 : kind = kwBool
      · subst k3
        clear q1 q2
        unfold kwBool at *
        by_cases hpos : 0 < n
        · have hpd : decide (0 < n) = true := by simpa using hpos
          have hBS : (bigB 4 1).size = 4 := bigB_size _ _
          have HBS := Lib.hid hBS
          have hsz1 : (bigB 4 1).size ≤ 4 ∧ 4 ≤ (bigB 4 1).size := by rw [hBS]; exact ⟨Nat.le_refl _, Nat.le_refl _⟩
          clear hBS
          have hws : IntKind.i64.wrap ((T.size : Int) + ((bigB 4 1).size : Int)) = (T.size : Int) + ((bigB 4 1).size : Int) := IntWalk.i64_in _ (by omega)
          have hns : ¬ 9223372036854775807 < T.size + (bigB 4 1).size := by omega
          have hwi := (show wBool t true = wPut t (bigB 4 1) from wInt_good t 1 (by omega))
          by_cases hf : 4000 < t.length + (bigB 4 1).size
          · have hfI : (4000 : Int) < (T.size : Int) + ((bigB 4 1).size : Int) := by omega
            have HWI := Lib.hid (hwi.trans (wPut_full hf))
            clear hwi hf hsz1
            go_wp2_with fail
            refine (wbool_any (B := w.heap.size) ad w1.heap.size true t S _ ((HAC.out.keepN HA.out).sub (by decide)) HW.out hfew).mono ?_
            rintro e w2 ⟨rfl, hp2⟩
            rw [HWI.out] at hp2 ⊢
            have hb2 := hp2.1.keep HBK.out hxS
            have b1 := cell_of hb2 1
            have b2 := cell_of hb2 2
            simp at b1 b2
            have HH2 := Lib.hid ((HH.out.same HA.out).post hS hp2 hfew)
            have HB2 := Lib.hid hb2
            clear hb2 hp2
            go_wp2_with fail
            refine (big_any 1 4 w2 (by omega) (by omega)).mono ?_
            rintro e w4 ⟨rfl, hc⟩
            go_wp2_with fail
            refine (coded1_ok ad 9 9 _ (HH2.out.env.keepN hc) (by decide) rfl).mono ?_
            rintro e w9 ⟨rfl, hc9⟩
            go_wp2_with fail
            go_roundw
            case rel => exact ⟨k + 1, t, by omega, by go_num, by rw [HTT.out], (HH2.out.same hc).same hc9⟩
            case measure => simp [RowKit.intOf]; omega
          · have hfI : ¬ (4000 : Int) < (T.size : Int) + ((bigB 4 1).size : Int) := by omega
            have HWI := Lib.hid (hwi.trans (wPut_ok hf))
            have hfew2 : (t ++ (bigB 4 1).data.toList).length ≤ 4000 := by
              have : (bigB 4 1).data.toList.length = (bigB 4 1).size := Array.length_toList
              rw [List.length_append, this]; omega
            clear hwi hf hsz1
            go_wp2_with fail
            refine (wbool_any (B := w.heap.size) ad w1.heap.size true t S _ ((HAC.out.keepN HA.out).sub (by decide)) HW.out hfew).mono ?_
            rintro e w2 ⟨rfl, hp2⟩
            rw [HWI.out] at hp2 ⊢
            have hb2 := hp2.1.keep HBK.out hxS
            have b1 := cell_of hb2 1
            have b2 := cell_of hb2 2
            simp at b1 b2
            have HH2 := Lib.hid ((HH.out.same HA.out).post hS hp2 hfew2)
            have HB2 := Lib.hid hb2
            clear hb2 hp2
            go_wp2_with fail
            refine (big_any 1 4 w2 (by omega) (by omega)).mono ?_
            rintro e w4 ⟨rfl, hc⟩
            go_wp2_with fail
            refine (coded1_ok ad 0 0 _ (HH2.out.env.keepN hc) (by decide) rfl).mono ?_
            rintro e w9 ⟨rfl, hc9⟩
            go_wp2_with fail
            go_roundw
            case rel => exact ⟨k + 1, t ++ (bigB 4 1).data.toList, by omega, by go_num, by rw [HTT.out, txt_app], (HH2.out.same hc).same hc9⟩
            case measure => simp [RowKit.intOf]; omega
        · have hpd : decide (0 < n) = false := by simpa using hpos
          have hBS : (bigB 4 0).size = 4 := bigB_size _ _
          have HBS := Lib.hid hBS
          have hsz1 : (bigB 4 0).size ≤ 4 ∧ 4 ≤ (bigB 4 0).size := by rw [hBS]; exact ⟨Nat.le_refl _, Nat.le_refl _⟩
          clear hBS
          have hws : IntKind.i64.wrap ((T.size : Int) + ((bigB 4 0).size : Int)) = (T.size : Int) + ((bigB 4 0).size : Int) := IntWalk.i64_in _ (by omega)
          have hns : ¬ 9223372036854775807 < T.size + (bigB 4 0).size := by omega
          have hwi := (show wBool t false = wPut t (bigB 4 0) from wInt_good t 0 (by omega))
          by_cases hf : 4000 < t.length + (bigB 4 0).size
          · have hfI : (4000 : Int) < (T.size : Int) + ((bigB 4 0).size : Int) := by omega
            have HWI := Lib.hid (hwi.trans (wPut_full hf))
            clear hwi hf hsz1
            go_wp2_with fail
            refine (wbool_any (B := w.heap.size) ad w1.heap.size false t S _ ((HAC.out.keepN HA.out).sub (by decide)) HW.out hfew).mono ?_
            rintro e w2 ⟨rfl, hp2⟩
            rw [HWI.out] at hp2 ⊢
            have hb2 := hp2.1.keep HBK.out hxS
            have b1 := cell_of hb2 1
            have b2 := cell_of hb2 2
            simp at b1 b2
            have HH2 := Lib.hid ((HH.out.same HA.out).post hS hp2 hfew)
            have HB2 := Lib.hid hb2
            clear hb2 hp2
            go_wp2_with fail
            refine (big_any 0 4 w2 (by omega) (by omega)).mono ?_
            rintro e w4 ⟨rfl, hc⟩
            go_wp2_with fail
            refine (coded1_ok ad 9 9 _ (HH2.out.env.keepN hc) (by decide) rfl).mono ?_
            rintro e w9 ⟨rfl, hc9⟩
            go_wp2_with fail
            go_roundw
            case rel => exact ⟨k + 1, t, by omega, by go_num, by rw [HTT.out], (HH2.out.same hc).same hc9⟩
            case measure => simp [RowKit.intOf]; omega
          · have hfI : ¬ (4000 : Int) < (T.size : Int) + ((bigB 4 0).size : Int) := by omega
            have HWI := Lib.hid (hwi.trans (wPut_ok hf))
            have hfew2 : (t ++ (bigB 4 0).data.toList).length ≤ 4000 := by
              have : (bigB 4 0).data.toList.length = (bigB 4 0).size := Array.length_toList
              rw [List.length_append, this]; omega
            clear hwi hf hsz1
            go_wp2_with fail
            refine (wbool_any (B := w.heap.size) ad w1.heap.size false t S _ ((HAC.out.keepN HA.out).sub (by decide)) HW.out hfew).mono ?_
            rintro e w2 ⟨rfl, hp2⟩
            rw [HWI.out] at hp2 ⊢
            have hb2 := hp2.1.keep HBK.out hxS
            have b1 := cell_of hb2 1
            have b2 := cell_of hb2 2
            simp at b1 b2
            have HH2 := Lib.hid ((HH.out.same HA.out).post hS hp2 hfew2)
            have HB2 := Lib.hid hb2
            clear hb2 hp2
            go_wp2_with fail
            refine (big_any 0 4 w2 (by omega) (by omega)).mono ?_
            rintro e w4 ⟨rfl, hc⟩
            go_wp2_with fail
            refine (coded1_ok ad 0 0 _ (HH2.out.env.keepN hc) (by decide) rfl).mono ?_
            rintro e w9 ⟨rfl, hc9⟩
            go_wp2_with fail
            go_roundw
            case rel => exact ⟨k + 1, t ++ (bigB 4 0).data.toList, by omega, by go_num, by rw [HTT.out, txt_app], (HH2.out.same hc).same hc9⟩
            case measure => simp [RowKit.intOf]; omega
      have q3 : (kind.toList == [98, 111, 111, 108]) = false := txt_ne k3
      clear k3
      have hBS : (itemB s).size = 4 + s.size + (4 - s.size % 4) % 4 := itemB_size _
      have HBS := Lib.hid hBS
      have hsz1 : (itemB s).size ≤ 4 + s.size + (4 - s.size % 4) % 4 ∧ 4 + s.size + (4 - s.size % 4) % 4 ≤ (itemB s).size := by rw [hBS]; exact ⟨Nat.le_refl _, Nat.le_refl _⟩
      clear hBS
      have hws : IntKind.i64.wrap ((T.size : Int) + ((itemB s).size : Int)) = (T.size : Int) + ((itemB s).size : Int) := IntWalk.i64_in _ (by omega)
      have hns : ¬ 9223372036854775807 < T.size + (itemB s).size := by omega
      have hwi := (show wBytes t s = wPut t (itemB s) from rfl)
      by_cases hf : 4000 < t.length + (itemB s).size
      · have hfI : (4000 : Int) < (T.size : Int) + ((itemB s).size : Int) := by omega
        have HWI := Lib.hid (hwi.trans (wPut_full hf))
        clear hwi hf hsz1
        go_wp2_with fail
        refine (wbytes_any (B := w.heap.size) ad w1.heap.size s t S _ ((HAC.out.keepN HA.out).sub (by decide)) HW.out hfew (by omega)).mono ?_
        rintro e w2 ⟨rfl, hp2⟩
        rw [HWI.out] at hp2 ⊢
        have hb2 := hp2.1.keep HBK.out hxS
        have b1 := cell_of hb2 1
        have b2 := cell_of hb2 2
        simp at b1 b2
        have HH2 := Lib.hid ((HH.out.same HA.out).post hS hp2 hfew)
        have HB2 := Lib.hid hb2
        clear hb2 hp2
        go_wp2_with fail
        refine (item_any s w2 (by omega)).mono ?_
        rintro e w4 ⟨rfl, hc⟩
        go_wp2_with fail
        refine (coded1_ok ad 9 9 _ (HH2.out.env.keepN hc) (by decide) rfl).mono ?_
        rintro e w9 ⟨rfl, hc9⟩
        go_wp2_with fail
        go_roundw
        case rel => exact ⟨k + 1, t, by omega, by go_num, by rw [HTT.out], (HH2.out.same hc).same hc9⟩
        case measure => simp [RowKit.intOf]; omega
      · have hfI : ¬ (4000 : Int) < (T.size : Int) + ((itemB s).size : Int) := by omega
        have HWI := Lib.hid (hwi.trans (wPut_ok hf))
        have hfew2 : (t ++ (itemB s).data.toList).length ≤ 4000 := by
          have : (itemB s).data.toList.length = (itemB s).size := Array.length_toList
          rw [List.length_append, this]; omega
        clear hwi hf hsz1
        go_wp2_with fail
        refine (wbytes_any (B := w.heap.size) ad w1.heap.size s t S _ ((HAC.out.keepN HA.out).sub (by decide)) HW.out hfew (by omega)).mono ?_
        rintro e w2 ⟨rfl, hp2⟩
        rw [HWI.out] at hp2 ⊢
        have hb2 := hp2.1.keep HBK.out hxS
        have b1 := cell_of hb2 1
        have b2 := cell_of hb2 2
        simp at b1 b2
        have HH2 := Lib.hid ((HH.out.same HA.out).post hS hp2 hfew2)
        have HB2 := Lib.hid hb2
        clear hb2 hp2
        go_wp2_with fail
        refine (item_any s w2 (by omega)).mono ?_
        rintro e w4 ⟨rfl, hc⟩
        go_wp2_with fail
        refine (coded1_ok ad 0 0 _ (HH2.out.env.keepN hc) (by decide) rfl).mono ?_
        rintro e w9 ⟨rfl, hc9⟩
        go_wp2_with fail
        go_roundw
        case rel => exact ⟨k + 1, t ++ (itemB s).data.toList, by omega, by go_num, by rw [HTT.out, txt_app], (HH2.out.same hc).same hc9⟩
        case measure => simp [RowKit.intOf]; omega
    · obtain ⟨S, hW, hS⟩ := hH.tab
      have HW := Lib.hid hW
      go_wp2_with fail
      refine (wtext_any _ _ S wr HW.out).mono ?_
      rintro e w2 ⟨rfl, hc2⟩
      go_wp2_with fail
      go_ret
      exact ⟨by rw [HTT.out]; simp, hH.chg.then hc2⟩
end Go.Proofs.YtdhegblgghembaaDoor
