/- The walk of law NamesJoin. -/
import Derived.Test.YtdhegblgghembaaDoorName6
import Derived.Test.YtdhegblgghembaaDoorName10
import Derived.Test.YtdhegblgghembaaDoorName12
import Derived.Test.YtdhegblgghembaaDoorNamesCheck
namespace Go.Proofs.YtdhegblgghembaaDoor
open Go.RowKit Go.Lib
set_option linter.unusedVariables false
set_option linter.unusedSimpArgs false

theorem texts_of {w : World} {a : Option Addr} {cap : Nat} {l : List ByteArray} (h : (Sh.slice Sh.str).At w w.heap.size (a, cap, l)) : TextsAt w w.heap.size a l := fun k x hx => by
  obtain ⟨h1, g, off, e, hg, hc⟩ := h.2.2 k x hx
  have := hc 0 (.string x) rfl
  simp only [Sh.size, Nat.mul_one, Nat.add_zero] at this
  exact ⟨h1, g, off, e, hg, this⟩
def RelNJ (l : List ByteArray) (w : World) (o i : Value) (wr : World) : Prop :=
  ∃ (k : Nat), k ≤ l.length ∧ i = .int .i64 k ∧ o = .string ⟨(wantL (l.take k)).toArray⟩ ∧ (∀ x ∈ l.take k, x.size ≤ 200) ∧ (wantL (l.take k)).length ≤ 201 * k ∧ Chg Nil w wr
set_option maxHeartbeats 4000000 in
set_option maxRecDepth 100000 in
theorem namesJoin_any (ad : Nat → Addr) (a0 : Option Addr) (cap : Nat) (l : List ByteArray) (w : World) (he : EnvA w.heap.size ad w) (hs : (Sh.slice Sh.str).At w w.heap.size (a0, cap, l)) (hm : ∃ m, w.cell? ⟨16, 0, none⟩ = some (.int .i64 m)) :
    Calls Tryd.prog 12 #[.slice a0 l.length cap] w fun e w' => e = .returned (.bool true) ∧ Chg Nil w w' := by
  have HN := Lib.hid (named_any ad w he hm)
  have HE := Lib.hid he
  have hml : 16 < w.heap.size := by obtain ⟨m, hm⟩ := hm; exact World.block_lt_of_cell? _ _ hm
  have HM := Lib.hid hm
  have HT := Lib.hid (texts_of hs)
  have hcap : l.length ≤ cap := hs.1
  have hl1 : l.length ≤ 9223372036854775807 := Nat.le_trans hs.1 hs.2.1
  clear he hm hs
  by_cases h40 : 40 < l.length
  · go_enter Tryd.func12, Tryd.ntmps12
    go_wp2_with fail
    refine HN.out.mono ?_
    rintro e w1 ⟨rfl, hc1⟩
    go_wp2_with fail
    go_ret
    exact ⟨rfl, hc1⟩
  have h40d : decide (40 < l.length) = false := by simpa using h40
  go_enter Tryd.func12, Tryd.ntmps12
  go_wp2_with fail
  refine HN.out.mono ?_
  rintro e w1 ⟨rfl, hc1⟩
  have HK1 := Lib.hid hc1
  have HT1 := Lib.hid (HT.out.keep (Nat.le_refl _) hc1 (fun _ f => f.elim))
  have hz1 := hc1.size
  clear hc1
  go_wp2_with fail
  go_loopw [4, 5] (fun o i wr => RelNJ l w1 o i wr) (fun _ i _ => (l.length - RowKit.intOf i).toNat)
  case atStart => exact ⟨0, Nat.zero_le _, rfl, rfl, by simp, by simp [wantL], Chg.refl _ _⟩
  case round =>
    obtain ⟨k, hk, rfl, rfl, hsm, hwl, hC⟩ := hrel
    have HS := Lib.hid hsm
    have HC := Lib.hid hC
    obtain ⟨T, hTT⟩ : ∃ T, T = (⟨(wantL (l.take k)).toArray⟩ : ByteArray) := ⟨_, rfl⟩
    have hTs : T.size ≤ 201 * k := by rw [hTT]; simpa [ByteArray.size] using hwl
    rw [← hTT]
    have HTT := Lib.hid hTT
    clear hsm hTT hwl
    by_cases hlt : k < l.length
    · obtain ⟨x, hx⟩ : ∃ x, l[k]? = some x := ⟨l[k], List.getElem?_eq_getElem hlt⟩
      obtain ⟨hx63, g, off, rfl, hg, hcx⟩ := HT1.out k x hx
      have hzz := hC.size
      have hgw : g < wr.heap.size := by omega
      have c0 := (hC.cell (p := ⟨g, off + k, none⟩) (by simp; omega) (fun f => f)).trans hcx
      have j0 : (0 : Int) ≤ (k : Int) := by omega
      have j1 : (k : Int) < (l.length : Int) := by omega
      have kc : k < cap := by omega
      have HX := Lib.hid hx
      clear hx hcx hC
      by_cases hbig : 200 < x.size
      · go_wp2_with fail
        go_ret
        exact ⟨rfl, HK1.out.then HC.out⟩
      have hn1 : ¬ 9223372036854775807 < T.size + (⟨#[47]⟩ : ByteArray).size := by
        have : (⟨#[47]⟩ : ByteArray).size = 1 := rfl
        omega
      have hn2 : ¬ 9223372036854775807 < (T ++ (⟨#[47]⟩ : ByteArray)).size + x.size := by
        rw [ByteArray.size_append]
        have : (⟨#[47]⟩ : ByteArray).size = 1 := rfl
        omega
      have hn3 : ¬ 9223372036854775807 < T.size + (⟨#[47]⟩ : ByteArray).size + x.size := by
        have : (⟨#[47]⟩ : ByteArray).size = 1 := rfl
        omega
      have HTK := Lib.hid (show l.take (k + 1) = l.take k ++ [x] by rw [List.take_add_one, HX.out]; rfl)
      have hxl : x.data.toList.length = x.size := Array.length_toList
      have HXL := Lib.hid hxl
      have hTl : (wantL (l.take k)).length = T.size := by rw [HTT.out]; simp [ByteArray.size]
      have HTL := Lib.hid hTl
      clear hxl hTl
      go_wp2_with fail
      go_roundw
      case rel =>
        refine ⟨k + 1, by omega, by go_num, ?_, fun z hz => ?_, ?_, HC.out⟩
        · rw [HTK.out, wantL_snoc, HTT.out]
          congr 1
          apply ByteArray.ext
          simp [ByteArray.data_append]
        · rw [HTK.out] at hz
          rcases List.mem_append.1 hz with hz | hz
          · exact HS.out z hz
          · rw [List.mem_singleton.1 hz]; omega
        · rw [HTK.out, wantL_snoc, List.length_append, List.length_cons, HXL.out, HTL.out]; omega
      case measure => simp [RowKit.intOf]; omega
    · obtain rfl : k = l.length := by omega
      have hT2 : T = ⟨(wantL l).toArray⟩ := by rw [HTT.out, List.take_of_length_le (Nat.le_refl _)]
      have HT2 := Lib.hid hT2
      clear hT2
      by_cases hl0 : l = []
      · subst hl0
        cases a0 with
        | none =>
          go_wp2_with fail
          have HC0 := Lib.hid (HK1.out.then HC.out)
          refine (join_any ad none 0 [] wr ((HE.out.keepN HC0.out).env.sub (by decide)) (show TextsAt wr wr.heap.size none [] from fun q x hx => (by cases hx)) (Nat.le_refl _) (Nat.le_refl _) (by simp) (by decide)).mono ?_
          rintro e w4 ⟨v, rfl, hv, hc4⟩
          have HC4 := Lib.hid (HC0.out.then hc4)
          have hp : pathC [] = (0, -1) := rfl
          rw [hp] at hv
          rw [joinB_none]
          rcases hv with ⟨_, _, rfl⟩ | ⟨h, _⟩ | ⟨h, _⟩
          rotate_left
          · simp at h
          · simp at h
          clear hc4 hC hp
          go_wp2_with fail
          refine (pathError_any none cap [] w4 (show TextsAt w4 w4.heap.size none [] from fun q x hx => (by cases hx)) (Nat.le_refl _) hcap hl1).mono ?_
          rintro e w5 ⟨rfl, hc5⟩
          have hp : pathC [] = (0, -1) := rfl
          rw [hp]
          have HK7 := Lib.hid ((HC4.out.then hc5).alloc (.cells #[.int .i64 0, .int .i64 (-1)] 100))
          have HM7 := Lib.hid (show ∃ m, (w5.alloc (.cells #[.int .i64 0, .int .i64 (-1)] 100)).cell? ⟨16, 0, none⟩ = some (.int .i64 m) by
            obtain ⟨m, hm⟩ := HM.out
            exact ⟨m, (HK7.out.cell (p := ⟨16, 0, none⟩) hml (fun f => f)).trans hm⟩)
          unfold faultV
          clear hp hc5
          go_wp2_with fail
          refine (split_any ad ⟨#[47]⟩ _ ((HE.out.keepN HK7.out).env.sub (by decide)) (by decide) HM7.out).mono ?_
          rintro e w8 ⟨a8, n8, c8, v8, rfl, hv8, hn8, hnc8, ht8, hc8⟩
          rw [split_none.1] at hv8
          rw [split_none.2] at hn8 ht8
          subst hn8
          rcases hv8 with ⟨_, _, rfl⟩ | ⟨h, _⟩ | ⟨h, _⟩
          rotate_left
          · simp at h
          · simp at h
          have HC8 := Lib.hid (HK7.out.then hc8)
          have HT8 := Lib.hid ht8
          clear hc8 ht8
          go_wp2_with fail
          refine (sameTexts_ok _ none _ cap [] w8 HT8.out (show TextsAt w8 w8.heap.size none [] from fun q x hx => (by cases hx)) (Nat.le_refl _) (Nat.le_refl _) hnc8 hcap hl1).mono ?_
          rintro e w9 ⟨rfl, hc9⟩
          go_wp2_with fail
          go_ret
          exact ⟨rfl, HC8.out.then hc9⟩
        | some ad0 =>
          go_wp2_with fail
          have HC0 := Lib.hid (HK1.out.then HC.out)
          refine (join_any ad none 0 [] wr ((HE.out.keepN HC0.out).env.sub (by decide)) (show TextsAt wr wr.heap.size none [] from fun q x hx => (by cases hx)) (Nat.le_refl _) (Nat.le_refl _) (by simp) (by decide)).mono ?_
          rintro e w4 ⟨v, rfl, hv, hc4⟩
          have HC4 := Lib.hid (HC0.out.then hc4)
          have hp : pathC [] = (0, -1) := rfl
          rw [hp] at hv
          rw [joinB_none]
          rcases hv with ⟨_, _, rfl⟩ | ⟨h, _⟩ | ⟨h, _⟩
          rotate_left
          · simp at h
          · simp at h
          clear hc4 hC hp
          go_wp2_with fail
          refine (pathError_any (some ad0) cap [] w4 (show TextsAt w4 w4.heap.size (some ad0) [] from fun q x hx => (by cases hx)) (Nat.le_refl _) hcap hl1).mono ?_
          rintro e w5 ⟨rfl, hc5⟩
          have hp : pathC [] = (0, -1) := rfl
          rw [hp]
          have HK7 := Lib.hid ((HC4.out.then hc5).alloc (.cells #[.int .i64 0, .int .i64 (-1)] 100))
          have HM7 := Lib.hid (show ∃ m, (w5.alloc (.cells #[.int .i64 0, .int .i64 (-1)] 100)).cell? ⟨16, 0, none⟩ = some (.int .i64 m) by
            obtain ⟨m, hm⟩ := HM.out
            exact ⟨m, (HK7.out.cell (p := ⟨16, 0, none⟩) hml (fun f => f)).trans hm⟩)
          unfold faultV
          clear hp hc5
          go_wp2_with fail
          refine (split_any ad ⟨#[47]⟩ _ ((HE.out.keepN HK7.out).env.sub (by decide)) (by decide) HM7.out).mono ?_
          rintro e w8 ⟨a8, n8, c8, v8, rfl, hv8, hn8, hnc8, ht8, hc8⟩
          rw [split_none.1] at hv8
          rw [split_none.2] at hn8 ht8
          subst hn8
          rcases hv8 with ⟨_, _, rfl⟩ | ⟨h, _⟩ | ⟨h, _⟩
          rotate_left
          · simp at h
          · simp at h
          have HC8 := Lib.hid (HK7.out.then hc8)
          have HT8 := Lib.hid ht8
          clear hc8 ht8
          go_wp2_with fail
          refine (sameTexts_ok _ (some ad0) _ cap [] w8 HT8.out (show TextsAt w8 w8.heap.size (some ad0) [] from fun q x hx => (by cases hx)) (Nat.le_refl _) (Nat.le_refl _) hnc8 hcap hl1).mono ?_
          rintro e w9 ⟨rfl, hc9⟩
          go_wp2_with fail
          go_ret
          exact ⟨rfl, HC8.out.then hc9⟩
      obtain ⟨x0, hx0⟩ : ∃ x, l[0]? = some x := ⟨l[0]'(by have := List.length_pos_iff.2 hl0; omega), List.getElem?_eq_getElem _⟩
      obtain ⟨_, g, off, rfl, hg, _⟩ := HT1.out 0 x0 hx0
      have hlp : 0 < l.length := List.length_pos_iff.2 hl0
      have HTr := Lib.hid (HT1.out.keep (by omega) hC (fun _ f => f.elim))
      have hnews : ∀ (j : Nat) u, (l.map Value.string)[j]? = some u → wr.cell? ((⟨g, off, none⟩ : Addr).add j) = some u := fun j u hu => by
        rw [List.getElem?_map] at hu
        obtain ⟨x, hx, rfl⟩ := Option.map_eq_some_iff.1 hu
        obtain ⟨_, g', off', e, _, hc⟩ := HTr.out j x hx
        cases e
        rw [Addr.add_lit]; exact hc
      have HNW := Lib.hid hnews
      have hzr := hC.size
      clear hx0 hnews hC
      go_wp2_with (at_builtin; go_loud (refine wpList_appendS (n := 0) (m := l.length) rfl _ _ 96 rfl Tryd.underlying96 info_strN rfl (by decide) rfl (sliceAt_nil _ _ _ Nil) rfl (l.map Value.string) (by simp) HNW.out (fun u hu => by obtain ⟨x, _, rfl⟩ := List.mem_map.1 hu; rfl) (by unfold maxLen; omega) (by omega) ?_); intro v3 w3 S3 hs3 hc3 hg3; obtain ⟨a3, cap3, rfl⟩ := hs3.shape)
      simp only [Nat.zero_add, List.nil_append] at hs3 ⊢
      obtain ⟨gg, oo, cc, cs, e5, hb5, hn5, hm5, ho5, hcl5, hS5, hl5⟩ := hs3.place hlp
      cases e5
      have HT3 := Lib.hid (show TextsAt w3 w3.heap.size (some ⟨gg, oo, none⟩) l from fun q x hx => by
        obtain ⟨h7, _⟩ := HT.out q x hx
        exact ⟨h7, gg, oo, rfl, hl5, hcl5 q _ (by rw [List.getElem?_map, hx]; rfl)⟩)
      have HC3 := Lib.hid (HC.out.trans hc3 (fun _ _ f => f.elim))
      have HTl3 := Lib.hid (HTr.out.keep (by omega) hc3 (fun _ f => f.elim))
      have hz3 := hc3.size
      clear hs3 hc3 hg3 hb5 hm5 ho5 hcl5 hS5
      have hjs : (joinT l).size ≤ 1000000000 := by
        have h1 := want_join l hl0
        have h2 : (wantL l).length ≤ 201 * l.length := by rw [HT2.out] at hTs; simpa [ByteArray.size] using hTs
        rw [h1] at h2
        unfold joinT
        simp only [List.length_cons, ByteArray.size, List.size_toArray] at h2 ⊢
        omega
      refine (join_any ad _ _ l w3 ((HE.out.keepN (HK1.out.then HC3.out)).env.sub (by decide)) HT3.out (Nat.le_refl _) hn5 (by omega) hjs).mono ?_
      rintro e w4 ⟨v, rfl, hv, hc4⟩
      have HC4 := Lib.hid ((HK1.out.then HC3.out).then hc4)
      have HV4 := Lib.hid hv
      have HTl4 := Lib.hid (HTl3.out.keep (by omega) hc4 (fun _ f => f.elim))
      have hz4 := hc4.size
      clear hv hc4
      go_wp2_with fail
      refine (pathError_any _ cap l w4 HTl4.out (by omega) hcap hl1).mono ?_
      rintro e w5 ⟨rfl, hc5⟩
      have HC5 := Lib.hid (HC4.out.then hc5)
      have HV5 := Lib.hid (HV4.out.keep hc5)
      have HTl5 := Lib.hid (HTl4.out.keep (by omega) hc5 (fun _ f => f.elim))
      have hz5 := hc5.size
      clear hc5
      by_cases hc0 : (pathC l).1 = 0
      · have hp := (pathC_zero hc0).2.2
        have HJB := Lib.hid (show joinB l = T by rw [joinB_want hl0 hc0, HT2.out])
        have HSB := Lib.hid (show spC T = (0, -1) ∧ spL T = l by rw [HT2.out]; exact split_back hl0 hc0)
        rw [hp] at HV5 ⊢
        rw [HJB.out]
        have hv := HV5.out
        rcases hv with ⟨_, _, rfl⟩ | ⟨h, _⟩ | ⟨h, _⟩
        rotate_left
        · simp at h
        · simp at h
        have hTz : T.size ≤ 1000000 := by omega
        have hlz : ((l.length : Int) == 0) = false := by rw [beq_eq_false_iff_ne]; omega
        have HK7 := Lib.hid (HC5.out.alloc (.cells #[.int .i64 0, .int .i64 (-1)] 100))
        have HTl7 := Lib.hid (HTl5.out.keep (by omega) ((Chg.refl Nil w5).alloc (.cells #[.int .i64 0, .int .i64 (-1)] 100)) (fun _ f => f.elim))
        have HM7 := Lib.hid (show ∃ m, (w5.alloc (.cells #[.int .i64 0, .int .i64 (-1)] 100)).cell? ⟨16, 0, none⟩ = some (.int .i64 m) by
          obtain ⟨m, hm⟩ := HM.out
          exact ⟨m, (HK7.out.cell (p := ⟨16, 0, none⟩) hml (fun f => f)).trans hm⟩)
        clear hc0 hp
        unfold faultV
        go_wp2_with fail
        refine (split_any ad T _ ((HE.out.keepN HK7.out).env.sub (by decide)) hTz HM7.out).mono ?_
        rintro e w8 ⟨a8, n8, c8, v8, rfl, hv8, hn8, hnc8, ht8, hc8⟩
        rw [HSB.out.1] at hv8
        rw [HSB.out.2] at hn8 ht8
        subst hn8
        rcases hv8 with ⟨_, _, rfl⟩ | ⟨h, _⟩ | ⟨h, _⟩
        rotate_left
        · simp at h
        · simp at h
        have HC8 := Lib.hid (HK7.out.then hc8)
        have HT8 := Lib.hid ht8
        have HTl8 := Lib.hid (HTl7.out.keep (by simp; omega) hc8 (fun _ f => f.elim))
        have hz8 := hc8.size
        simp at hz8
        clear hc8 ht8
        go_wp2_with fail
        refine (sameTexts_ok _ _ _ _ l w8 HT8.out HTl8.out (Nat.le_refl _) (by omega) hnc8 hcap hl1).mono ?_
        rintro e w9 ⟨rfl, hc9⟩
        go_wp2_with fail
        go_ret
        exact ⟨rfl, HC8.out.then hc9⟩
      · have HJB := Lib.hid (show joinB l = ⟨#[]⟩ from if_neg hc0)
        obtain ⟨cd, hcd⟩ : ∃ cd, cd = (pathC l).1 := ⟨_, rfl⟩
        obtain ⟨an, han⟩ : ∃ an, an = (pathC l).2 := ⟨_, rfl⟩
        rw [← hcd, ← han] at HV5
        rw [HJB.out]
        rw [← hcd, ← han]
        rw [← hcd] at hc0
        have hcI : (0 : Int) < (cd : Int) := by omega
        clear hcd han hc0
        have HK7 := Lib.hid (HC5.out.alloc (.cells #[.int .i64 cd, .int .i64 an] 100))
        have HV7 := Lib.hid (HV5.out.keep ((Chg.refl Nil w5).alloc (.cells #[.int .i64 cd, .int .i64 an] 100)))
        unfold faultV
        go_wp2_with fail
        refine (faulted_ok ad v cd an _ (HE.out.keepN HK7.out) HV7.out).mono ?_
        rintro e w9 ⟨rfl, hc9⟩
        go_wp2_with fail
        go_ret
        exact ⟨rfl, HK7.out.then hc9⟩
end Go.Proofs.YtdhegblgghembaaDoor
