/- The walk of law DataKeeps. -/
import Derived.Test.YtfekiagdnlnggaaDoorDataOne
namespace Go.Proofs.YtfekiagdnlnggaaDoor
open Go.RowKit
set_option linter.unusedVariables false
set_option linter.unusedSimpArgs false

/-- Behind a write of any length. -/
def wrote (s : List UInt8) (p : Nat) (t : ByteArray) : List UInt8 := if t.size = 0 then s else wroteL s p t.data.toList
theorem Holds.write' {d : PData} {s : List UInt8} (h : Holds d s) (p : Nat) (t : ByteArray) (h1 : p ≤ 4096) (h2 : t.size ≤ 4096 - p) : (dWrite d p t).2 = 0 ∧ Holds (dWrite d p t).1 (wrote s p t) := by
  unfold wrote
  by_cases c : t.size = 0
  · have e : dWrite d p t = (d, 0) := by rw [dWrite, if_neg (by omega), if_pos c]
    rw [e, if_pos c]; exact ⟨rfl, h⟩
  · rw [if_neg c]; exact h.write p t h1 h2 (by omega)
theorem wrote_len (s : List UInt8) (p : Nat) (t : ByteArray) : (wrote s p t).length = if t.size = 0 then s.length else max s.length (p + t.size) := by
  unfold wrote
  have hl : t.data.toList.length = t.size := Array.length_toList
  split
  · rfl
  · rw [wroteL_len, hl]
theorem wrote_get (s : List UInt8) (p : Nat) (t : ByteArray) (j : Nat) : ((wrote s p t)[j]?).getD 0 = if p ≤ j ∧ j < p + t.size then (t.data.toList[j - p]?).getD 0 else (s[j]?).getD 0 := by
  unfold wrote
  have hl : t.data.toList.length = t.size := Array.length_toList
  split
  · rw [if_neg (by omega)]
  · rw [wroteL_get, hl]
theorem Holds.dRead {d : PData} {s : List UInt8} (h : Holds d s) (p n : Nat) (hp : n = 0 ∨ p + n ≤ s.length) : ∃ e, dRead d p n = (⟨((s.drop p).take n).toArray⟩, e, 0) := by
  have hm : manyOf d.size p n = n := by unfold manyOf; have := h.size; omega
  refine ⟨decide ((d.size : Int) - n ≤ p), ?_⟩
  unfold Go.Proofs.YtfekiagdnlnggaaDoor.dRead
  rw [if_neg (by omega), hm]
  have : rdBytes d.kv ((p : Int).toNat) n = (s.drop p).take n := by
    rcases hp with hp | hp
    · subst hp; simp [rdBytes]
    · rw [Int.toNat_natCast]; exact h.read p n hp
  rw [this]
theorem Holds.whole {d : PData} {s : List UInt8} (h : Holds d s) (n : Nat) (hn : s.length ≤ n) : Go.Proofs.YtfekiagdnlnggaaDoor.dRead d 0 n = (⟨s.toArray⟩, true, 0) := by
  have hm : manyOf d.size 0 n = s.length := by unfold manyOf; have := h.size; omega
  unfold Go.Proofs.YtfekiagdnlnggaaDoor.dRead
  rw [if_neg (by omega), hm]
  have : rdBytes d.kv ((0 : Int).toNat) s.length = s := by
    have := h.read 0 s.length (by omega)
    simpa using this
  rw [this, h.size]; simp
theorem wrote_self (s : List UInt8) (p : Nat) (t : ByteArray) (hp : t.size = 0 ∨ p + t.size ≤ (wrote s p t).length) : (⟨(((wrote s p t).drop p).take t.size).toArray⟩ : ByteArray) = t := by
  have hl : t.data.toList.length = t.size := Array.length_toList
  have key : ((wrote s p t).drop p).take t.size = t.data.toList := by
    apply List.ext_getElem?
    intro i
    rw [List.getElem?_take]
    by_cases c : i < t.size
    · rw [if_pos c, List.getElem?_drop]
      have h1 := wrote_get s p t (p + i)
      rw [if_pos (by omega), Nat.add_sub_cancel_left] at h1
      have h2 : p + i < (wrote s p t).length := by omega
      rw [List.getElem?_eq_getElem h2, List.getElem?_eq_getElem (show i < t.data.toList.length by omega)] at h1
      rw [List.getElem?_eq_getElem h2, List.getElem?_eq_getElem (show i < t.data.toList.length by omega)]
      simpa using h1
    · rw [if_neg c, List.getElem?_eq_none (by omega)]
  rw [key]
/-- A byte of a text by its list. -/
theorem byte_of (l : List UInt8) (k : Nat) (t : ByteArray) (ht : t = ⟨l.toArray⟩) (h : k < t.size) : t[k] = (l[k]?).getD 0 := by
  subst ht
  have h' : k < l.length := by simpa [ByteArray.size] using h
  rw [List.getElem?_eq_getElem h']
  rfl
theorem byte_list (t : ByteArray) (k : Nat) (h : k < t.size) : t[k] = (t.data.toList[k]?).getD 0 := byte_of _ k t (by simp) h
theorem u8_eq {x y : UInt8} (h : x = y) : (((x.toNat : Nat) : Int) != ((y.toNat : Nat) : Int)) = false := by subst h; simp

/-- A loop that only reads. -/
def RelI (n : Nat) (w : World) (i : Value) (wr : World) : Prop := ∃ k : Nat, k ≤ n ∧ i = .int .i64 k ∧ Chg Nil w wr

set_option maxHeartbeats 4000000 in
set_option maxRecDepth 100000 in
theorem dataKeeps_any (ad : Nat → Addr) (a s : ByteArray) (p b : Int) (w : World) (he : Env w.heap.size ad [2] w) :
    Calls Tryd.prog 5 #[.string a, .int .i64 p, .string s, .int .i64 b] w fun e w' => e = .returned (.bool true) ∧ Chg Nil w w' := by
  have HT := Lib.hid (one_any ad w he)
  have HE := Lib.hid he
  clear he
  by_cases hbad : 1000 < a.size ∨ 1000 < s.size ∨ p < 0 ∨ 3000 < p ∨ b < 0 ∨ 4096 < b
  · have hgo : 1000 < a.size ∨ (¬ 1000 < a.size ∧ 1000 < s.size) ∨ (¬ 1000 < a.size ∧ ¬ 1000 < s.size ∧ p < 0) ∨ (¬ 1000 < a.size ∧ ¬ 1000 < s.size ∧ ¬ p < 0 ∧ 3000 < p) ∨ (¬ 1000 < a.size ∧ ¬ 1000 < s.size ∧ ¬ p < 0 ∧ ¬ 3000 < p ∧ b < 0) ∨
        (¬ 1000 < a.size ∧ ¬ 1000 < s.size ∧ ¬ p < 0 ∧ ¬ 3000 < p ∧ ¬ b < 0 ∧ 4096 < b) := by omega
    clear hbad
    rcases hgo with h | ⟨h, h1⟩ | ⟨h, h1, h2⟩ | ⟨h, h1, h2, h3⟩ | ⟨h, h1, h2, h3, h4⟩ | ⟨h, h1, h2, h3, h4, h5⟩
    all_goals
      go_enter Tryd.func5, Tryd.ntmps5
      go_wp2_with fail
      refine HT.out.mono ?_
      rintro e w1 ⟨rfl, hc1⟩
      go_wp2_with fail
      go_ret
      exact ⟨rfl, hc1⟩
  obtain ⟨p, rfl⟩ : ∃ k : Nat, p = k := ⟨p.toNat, by omega⟩
  obtain ⟨b, rfl⟩ : ∃ k : Nat, b = k := ⟨b.toNat, by omega⟩
  have g1 : ¬ 1000 < a.size := by omega
  have g2 : ¬ 1000 < s.size := by omega
  have g3 : ¬ (p : Int) < 0 := by omega
  have g4 : ¬ 3000 < (p : Int) := by omega
  have g5 : ¬ (b : Int) < 0 := by omega
  have g6 : ¬ 4096 < (b : Int) := by omega
  -- the plain data at each point
  obtain ⟨w1z, w1h⟩ := holds_nil.write' 0 a (by omega) (by omega)
  obtain ⟨D1, hD1⟩ : ∃ D, D = (dWrite ⟨0, []⟩ (0 : Nat) a).1 := ⟨_, rfl⟩
  obtain ⟨L1, hL1⟩ : ∃ L, L = wrote [] 0 a := ⟨_, rfl⟩
  rw [← hD1, ← hL1] at w1h
  obtain ⟨w2z, w2h⟩ := w1h.write' p s (by omega) (by omega)
  obtain ⟨D2, hD2⟩ : ∃ D, D = (dWrite D1 p s).1 := ⟨_, rfl⟩
  obtain ⟨L2, hL2⟩ : ∃ L, L = wrote L1 p s := ⟨_, rfl⟩
  rw [← hD2, ← hL2] at w2h
  have l1 : L1.length ≤ 1000 := by rw [hL1, wrote_len]; simp only [List.length_nil]; split <;> omega
  have l1a : a.size ≤ L1.length := by rw [hL1, wrote_len]; simp only [List.length_nil]; split <;> omega
  have l2 : L2.length ≤ 4096 := by rw [hL2, wrote_len]; split <;> omega
  have l2a : L1.length ≤ L2.length := by rw [hL2, wrote_len]; split <;> omega
  have l2s : s.size = 0 ∨ p + s.size ≤ L2.length := by rw [hL2, wrote_len]; split <;> omega
  obtain ⟨e1, r1⟩ := w2h.dRead p s.size l2s
  have rs : (⟨((L2.drop p).take s.size).toArray⟩ : ByteArray) = s := by rw [hL2]; exact wrote_self L1 p s (by rw [← hL2]; exact l2s)
  rw [rs] at r1
  obtain ⟨W, hW⟩ : ∃ W : ByteArray, W = ⟨L2.toArray⟩ := ⟨_, rfl⟩
  have hWz : W.size = L2.length := by rw [hW]; simp [ByteArray.size]
  have r2 := w2h.whole W.size (by omega)
  rw [← hW] at r2
  have s2 : D2.size = W.size := by rw [w2h.size, hWz]
  have hWa : ∀ k (h : k < W.size) (h' : k < a.size), k < p → W[k] = a[k] := fun k h h' hk => by
    rw [byte_of L2 k W hW h, byte_list a k h', hL2, wrote_get, if_neg (by omega), hL1, wrote_get, if_pos (by omega)]; rfl
  obtain ⟨w3z, w3h⟩ := w2h.resize b (by omega)
  obtain ⟨D3, hD3⟩ : ∃ D, D = (dResize D2 b).1 := ⟨_, rfl⟩
  rw [← hD3] at w3h
  obtain ⟨U, hU⟩ : ∃ U : ByteArray, U = ⟨(sizedL L2 b).toArray⟩ := ⟨_, rfl⟩
  have hUz : U.size = b := by rw [hU]; simp [ByteArray.size, sizedL_len]
  have r3 := w3h.whole 4096 (by rw [sizedL_len]; omega)
  rw [← hU] at r3
  have s3 : D3.size = b := by rw [w3h.size, sizedL_len]
  have hUW : ∀ k (h : k < U.size) (h' : k < W.size), U[k] = W[k] := fun k h h' => by
    rw [byte_of (sizedL L2 b) k U hU h, byte_of L2 k W hW h', sizedL_get, if_pos (by omega)]
  have hU0 : ∀ k (h : k < U.size), W.size ≤ k → U[k] = 0 := fun k h h' => by
    rw [byte_of (sizedL L2 b) k U hU h, sizedL_get, if_pos (by omega), List.getElem?_eq_none (by omega)]; rfl
  have hWsm : W.size ≤ 4096 := by omega
  have hWa1 : a.size ≤ W.size := by omega
  have hub : ((U.size : Int) != (b : Int)) = false := by rw [hUz]; simp
  have hub1 : b ≤ U.size := by omega
  have hub2 : U.size ≤ 4096 := by omega
  have W1Z := Lib.hid w1z
  have W2Z := Lib.hid w2z
  have W3Z := Lib.hid w3z
  have R1 := Lib.hid r1
  have R2 := Lib.hid r2
  have R3 := Lib.hid r3
  have S2 := Lib.hid s2
  have S3 := Lib.hid s3
  have HD1 := Lib.hid hD1
  have HD2 := Lib.hid hD2
  have HD3 := Lib.hid hD3
  have HWA := Lib.hid hWa
  have HUW := Lib.hid hUW
  have HU0 := Lib.hid hU0
  clear w1z w1h hD1 hL1 w2z w2h hD2 hL2 l1 l1a l2 l2a l2s r1 rs hW hWz r2 s2 hWa w3z w3h hD3 hU hUz r3 s3 hUW hU0 hbad
  go_enter Tryd.func5, Tryd.ntmps5
  go_wp2_with fail
  refine HT.out.mono ?_
  rintro e v1 ⟨rfl, hc1⟩
  have hz1 := hc1.size
  go_wp2_with fail
  have hE1 := (HE.out.keepN hc1).alloc (.cells #[.int .i64 0, .map none] 43)
  refine (dwrite_any (B := w.heap.size) ad v1.heap.size 0 a ⟨0, []⟩ _ _ hE1 (dataAt_new v1 _)).mono ?_
  rintro e v2 ⟨rfl, hc2, Q2, ht2, hg2⟩
  rw [show dWrite ⟨0, []⟩ 0 a = dWrite ⟨0, []⟩ (0 : Nat) a from rfl, ← HD1.out] at ht2
  rw [show dWrite ⟨0, []⟩ 0 a = dWrite ⟨0, []⟩ (0 : Nat) a from rfl, W1Z.out, errV_zero]
  have hE2 := hE1.keep hc2 (fun x e => by have : x = v1.heap.size := e; omega)
  have hC2 : Chg Nil w v2 := (hc1.alloc _).trans hc2 (fun x hx e => by have : x = v1.heap.size := e; omega)
  have hQ2 : ∀ x, Q2 x → w.heap.size ≤ x := fun x hx => by
    rcases hg2 x hx with h | h
    · have : x = v1.heap.size := h; omega
    · simp at h; omega
  have HE2 := Lib.hid hE2
  have HT2 := Lib.hid ht2
  clear hE1 hE2 ht2 hg2 hc2
  go_wp2_with fail
  refine (dwrite_any (B := w.heap.size) ad v1.heap.size p s D1 Q2 v2 HE2.out HT2.out).mono ?_
  rintro e v3 ⟨rfl, hc3, Q3, ht3, hg3⟩
  rw [← HD2.out] at ht3
  rw [W2Z.out, errV_zero]
  have hz2 := hC2.size
  have hE3 := HE2.out.keep hc3 hQ2
  have hC3 : Chg Nil w v3 := hC2.trans hc3 (fun x hx e => by have := hQ2 x e; omega)
  have hQ3 : ∀ x, Q3 x → w.heap.size ≤ x := fun x hx => by
    rcases hg3 x hx with h | h
    · exact hQ2 x h
    · omega
  have HE3 := Lib.hid hE3
  have HT3 := Lib.hid ht3
  clear hE3 ht3 hg3 hc3
  go_wp2_with fail
  refine (dread_any (B := w.heap.size) ad v1.heap.size p s.size D2 Q3 v3 HE3.out HT3.out (by omega)).mono ?_
  rintro e v4 ⟨rfl, hc4⟩
  rw [R1.out]
  simp only [errV_zero]
  have HT4 := Lib.hid (HT3.out.keep hc4 (fun _ _ f => f))
  have HE4 := Lib.hid (HE3.out.keepN hc4)
  have hC4 := hC3.then hc4
  go_wp2_with fail
  refine (dsize_any v1.heap.size D2 Q3 v4 HT4.out).mono ?_
  rintro e v5 ⟨rfl, rfl⟩
  rw [S2.out]
  go_wp2_with fail
  refine (dread_any (B := w.heap.size) ad v1.heap.size 0 W.size D2 Q3 v4 HE4.out HT4.out (by omega)).mono ?_
  rintro e v5 ⟨rfl, hc5⟩
  rw [R2.out]
  simp only [errV_zero]
  have HT5 := Lib.hid (HT4.out.keep hc5 (fun _ _ f => f))
  have HE5 := Lib.hid (HE4.out.keepN hc5)
  have hC5 := hC4.then hc5
  go_wp2_with fail
  refine (dsize_any v1.heap.size D2 Q3 v5 HT5.out).mono ?_
  rintro e v6 ⟨rfl, rfl⟩
  rw [S2.out]
  go_wp2_with fail
  go_loopw [16] (fun i wr => RelI a.size v5 i wr) (fun i _ => (a.size - intOf i).toNat)
  case atStart => exact ⟨0, Nat.zero_le _, rfl, Chg.refl _ _⟩
  case round =>
    rename_i wr _
    obtain ⟨k, hk, rfl, hC⟩ := hrel
    by_cases hin : k < a.size ∧ k < p
    · obtain ⟨i1, i2⟩ := hin
      have i3 : k < W.size := by omega
      have j1 : (k : Int) < (a.size : Int) := by omega
      have j2 : (k : Int) < (p : Int) := by omega
      have j3 : (k : Int) < (W.size : Int) := by omega
      have j0 : (0 : Int) ≤ (k : Int) := by omega
      have hcmp := u8_eq (HWA.out k i3 i1 i2)
      go_wp2_with fail
      go_quiet (fail)
      go_wp2_with fail
      go_roundw
      case rel => exact ⟨k + 1, by omega, by go_num, hC.drewsN _⟩
      case measure => simp [intOf]; omega
    · have hout : ¬ ((k : Int) < (a.size : Int)) ∨ ((k : Int) < (a.size : Int) ∧ ¬ ((k : Int) < (p : Int))) := by omega
      have HT6 := Lib.hid (HT5.out.keep hC (fun _ _ f => f))
      have HE6 := Lib.hid (HE5.out.keepN hC)
      have hC6 := hC5.then hC
      clear hin
      rcases hout with h1 | ⟨h1, h2⟩
      all_goals
        go_wp2_with fail
        refine (dresize_any (B := w.heap.size) ad v1.heap.size b D2 Q3 wr HE6.out HT6.out).mono ?_
        rintro e v7 ⟨rfl, hc7, Q7, ht7, hg7⟩
        rw [← HD3.out] at ht7
        rw [W3Z.out, errV_zero]
        have HE7 := Lib.hid (HE6.out.keep hc7 hQ3)
        have hz6 := hC6.size
        have hC7 : Chg Nil w v7 := hC6.trans hc7 (fun x hx e => by have := hQ3 x e; omega)
        have HT7 := Lib.hid ht7
        clear ht7 hg7 hc7
        go_wp2_with fail
        refine (dsize_any v1.heap.size D3 Q7 v7 HT7.out).mono ?_
        rintro e v8 ⟨rfl, rfl⟩
        rw [S3.out]
        go_wp2_with fail
        refine (dread_any (B := w.heap.size) ad v1.heap.size 0 4096 D3 Q7 v7 HE7.out HT7.out (by omega)).mono ?_
        rintro e v8 ⟨rfl, hc8⟩
        rw [show dRead D3 0 4096 = dRead D3 0 (4096 : Nat) from rfl, R3.out]
        simp only [errV_zero]
        have hC8 := hC7.then hc8
        go_wp2_with fail
        go_loopw [19] (fun i wr => RelI b v8 i wr) (fun i _ => (b - intOf i).toNat)
        case atStart => exact ⟨0, Nat.zero_le _, rfl, Chg.refl _ _⟩
        case round =>
          rename_i wr2 _
          obtain ⟨k2, hk2, rfl, hD⟩ := hrel
          by_cases hlt2 : k2 < b
          · have i1 : k2 < U.size := by omega
            have j1 : (k2 : Int) < (U.size : Int) := by omega
            have j0 : (0 : Int) ≤ (k2 : Int) := by omega
            by_cases hw2 : k2 < W.size
            · have j3 : (k2 : Int) < (W.size : Int) := by omega
              have jd : decide (W.size ≤ k2) = false := by simp; omega
              have hcmp := u8_eq (HUW.out k2 i1 hw2)
              go_wp2_with fail
              go_quiet (fail)
              go_wp2_with fail
              go_roundw
              case rel => exact ⟨k2 + 1, by omega, by go_num, hD.drewsN _⟩
              case measure => simp [intOf]; omega
            · have j3 : ¬ ((k2 : Int) < (W.size : Int)) := by omega
              have j4 : (W.size : Int) ≤ (k2 : Int) := by omega
              have hcmp : (((U[k2].toNat : Nat) : Int) != 0) = false := by rw [HU0.out k2 i1 (by omega)]; rfl
              go_wp2_with fail
              go_quiet (fail)
              go_wp2_with fail
              go_roundw
              case rel => exact ⟨k2 + 1, by omega, by go_num, hD.drewsN _⟩
              case measure => simp [intOf]; omega
          · go_wp2_with fail
            go_ret
            exact ⟨rfl, hC8.then hD⟩
end Go.Proofs.YtfekiagdnlnggaaDoor
