/- The walk of law DiskKeeps. -/
import Derived.Test.YtfekiagdnlnggaaDoorDisk8
import Derived.Test.YtfekiagdnlnggaaDoorBytes
namespace Go.Proofs.YtfekiagdnlnggaaDoor
open Go.RowKit
set_option linter.unusedVariables false
set_option linter.unusedSimpArgs false

def RelKa (ad : Nat → Addr) (w : World) (b n m : Nat) (i : Value) (wr : World) : Prop :=
  ∃ (k : Nat) (d : PDisk) (S : Nat → Prop), k ≤ m ∧ i = .int .i64 k ∧ Env w.heap.size ad [2, 3, 15] wr ∧ Chg Nil w wr ∧ DiskAt wr b d S ∧ (∀ x, S x → w.heap.size ≤ x) ∧ POk n k d
def RelKb (K : List ByteArray) (w : World) (v i : Value) (wr : World) : Prop :=
  ∃ (k : Nat) (S : Nat → Prop), k ≤ K.length ∧ i = .int .i64 k ∧ Chg Nil w wr ∧ SliceAt wr v 9 1 k ((K.take k).flatMap strC) S ∧ (∀ x, S x → w.heap.size ≤ x ∧ x < wr.heap.size)
def RelKc (n : Nat) (w : World) (i : Value) (wr : World) : Prop := ∃ k : Nat, k ≤ n ∧ i = .int .i64 k ∧ Chg Nil w wr
theorem sliceAt_flag (w : World) (x : Bool) : SliceAt (w.alloc (.cells #[.bool x] 4)) (.slice (some ⟨w.heap.size, 0, none⟩) 1 1) 4 1 1 ([x].flatMap flagC) (· = w.heap.size) := by
  refine ⟨rfl, .inr ⟨w.heap.size, 0, 1, _, rfl, block_alloc w _, Nat.le_refl _, by unfold maxLen; omega, by simp, fun j u hj => ?_, rfl⟩⟩
  rw [Nat.zero_add, List.getElem?_toArray]; exact hj
theorem strC_one (t : ByteArray) : ∀ u ∈ strC t, u.oneCell' = true := by intro u hu; simp [strC] at hu; subst hu; rfl

set_option maxHeartbeats 8000000 in
set_option maxRecDepth 100000 in
theorem diskKeeps_any (ad : Nat → Addr) (n : Int) (a0 : Option Addr) (cap : Nat) (acts : List XAct) (s : ByteArray) (at' : Int) (keep : Bool) (w : World) (he : Env w.heap.size ad [2, 3, 15] w) (hs : ActsAt w w.heap.size a0 cap acts) :
    Calls Tryd.prog 9 #[.int .i64 n, .slice a0 acts.length cap, .string s, .int .i64 at', .bool keep] w fun e w' => e = .returned (.bool true) ∧ Chg Nil w w' := by
  have HT := Lib.hid (spun_any ad w he)
  have HE := Lib.hid he
  have HS := Lib.hid hs
  have hl1 : acts.length ≤ 9223372036854775807 := Nat.le_trans hs.1.1 hs.1.2.1
  clear he hs
  by_cases hbad : n < 1 ∨ 40 < n ∨ 64 < s.size ∨ at' < 0 ∨ n ≤ at'
  · have hgo : n < 1 ∨ (¬ n < 1 ∧ 40 < n) ∨ (¬ n < 1 ∧ ¬ 40 < n ∧ 64 < s.size) ∨ (¬ n < 1 ∧ ¬ 40 < n ∧ ¬ 64 < s.size ∧ at' < 0) ∨ (¬ n < 1 ∧ ¬ 40 < n ∧ ¬ 64 < s.size ∧ ¬ at' < 0 ∧ n ≤ at') := by omega
    clear hbad
    rcases hgo with h | ⟨h, h1⟩ | ⟨h, h1, h2⟩ | ⟨h, h1, h2, h3⟩ | ⟨h, h1, h2, h3, h4⟩
    all_goals
      go_enter Tryd.func9, Tryd.ntmps9
      go_wp2_with fail
      refine HT.out.mono ?_
      rintro e w1 ⟨rfl, hc1⟩
      go_wp2_with fail
      refine (bulky_any a0 cap acts w1 hc1.size (HS.out.keep (Nat.le_refl _) hc1)).mono ?_
      rintro e w2 ⟨⟨t, rfl⟩, hc2⟩
      cases t
      all_goals
        go_wp2_with fail
        go_ret
        exact ⟨rfl, hc1.then hc2⟩
  obtain ⟨n, rfl⟩ : ∃ k : Nat, n = k := ⟨n.toNat, by omega⟩
  obtain ⟨at', rfl⟩ : ∃ k : Nat, at' = k := ⟨at'.toNat, by omega⟩
  have g1 : ¬ (n : Int) < 1 := by omega
  have g2 : ¬ 40 < (n : Int) := by omega
  have g3 : ¬ 64 < s.size := by omega
  have g4 : ¬ (at' : Int) < 0 := by omega
  have g5 : ¬ (n : Int) ≤ (at' : Int) := by omega
  have hn1 : 1 ≤ n := by omega
  have hn2 : n ≤ 40 := by omega
  have hat : at' < n := by omega
  clear hbad
  go_enter Tryd.func9, Tryd.ntmps9
  go_wp2_with fail
  refine HT.out.mono ?_
  rintro e w1 ⟨rfl, hc1⟩
  go_wp2_with fail
  refine (bulky_any a0 cap acts w1 hc1.size (HS.out.keep (Nat.le_refl _) hc1)).mono ?_
  rintro e w2 ⟨⟨t, rfl⟩, hc2⟩
  have hcC := hc1.then hc2
  cases t with
  | true =>
    go_wp2_with fail
    go_ret
    exact ⟨rfl, hcC⟩
  | false =>
  go_wp2_with fail
  refine (new_good n w2 hn1 (by omega)).mono ?_
  rintro e w3 ⟨b, S3, rfl, hc3, ht3, hS3⟩
  have HT3 := Lib.hid ht3
  have hz := hcC.size
  have hC3 := hcC.then hc3
  clear ht3
  go_wp2_with fail
  go_loopw [14] (fun i wr => RelKa ad w b n acts.length i wr) (fun i _ => (acts.length - intOf i).toNat)
  case atStart => exact ⟨0, _, S3, Nat.zero_le _, rfl, HE.out.keepN hC3, hC3, HT3.out, fun x hx => Nat.le_trans hz (hS3 x hx), pok_new n⟩
  case round =>
    obtain ⟨k, d, S, hk, rfl, hE, hC, hD, hB, hP⟩ := hrel
    have HD := Lib.hid hD
    have HEr := Lib.hid hE
    have HP := Lib.hid hP
    clear hD hE hP
    by_cases hlt : k < acts.length
    · obtain ⟨x, hx⟩ : ∃ x, acts[k]? = some x := ⟨acts[k], List.getElem?_eq_getElem hlt⟩
      obtain ⟨g, off, rfl, hg, c0, c1, c2, c3, q1, q2, q3, q4⟩ := xact_read HS.out (Nat.le_refl _) hC hx
      have hcap : acts.length ≤ cap := HS.out.1.1
      have hcz := HS.out.2.1
      obtain ⟨kind, i, t, ⟨ka, kc, kl⟩, u⟩ := x
      simp only at c0 c1 c2 c3 q1 q2 q3 q4
      have hfew := HP.out.few
      have hkc : k < cap := by omega
      have hwb : (d.waits.length + 1) * 24 ≤ 140737488355328 := by
        simp only [Sh.bytes, shXAct] at hcz
        omega
      have j1 : (k : Int) < (acts.length : Int) := by omega
      have Q4 := Lib.hid (Sh.At.keep hC (Nat.le_refl _) (fun _ f => f.elim) _ _ q4)
      clear hx hcz q4 hfew
      go_wp2_with fail
      refine (doAct_any (B := w.heap.size) (B2 := w.heap.size) ad b kind i t ka kc kl d S _ HEr.out hB HD.out q1 hwb q3 hC.size Q4.out (by rw [HP.out.kept]; omega) (by rw [HP.out.now]; omega) (by rw [HP.out.kept]; exact HP.out.ins)).mono ?_
      rintro e w4 ⟨rfl, hc4, S4, hD4, hG4⟩
      go_wp2_with fail
      go_roundw
      case rel => exact ⟨k + 1, _, S4, by omega, by go_num, HEr.out.keep hc4 hB, hC.trans hc4 (fun x hx h => by have := hB x h; omega), hD4, hG4.ge hB hC.size, HP.out.act _ _ _ _⟩
      case measure => simp [intOf]; omega
    · obtain ⟨K, hK⟩ : ∃ K, K = d.kept := ⟨_, rfl⟩
      have hKn : K.length = n := by rw [hK]; exact HP.out.kept
      have hsz2 := hC.size
      go_wp2_with fail
      refine (crash_any b d S Nil wr [] (.slice none 0 0) HD.out (sliceAt_nil _ _ _ _) (fun x f => f.elim) (fun x f => f.elim) (by rw [HP.out.kept]; omega) (by rw [HP.out.kept]; exact HP.out.ins)).mono ?_
      rintro e w4 ⟨rfl, hc4, S4, hD4, hG4⟩
      rw [crash_nil, ← hK] at hD4
      have hB4 := hG4.ge hB hC.size
      have HE4 := Lib.hid (HEr.out.keep hc4 hB)
      have hC4 : Chg Nil w w4 := hC.trans hc4 (fun x hx h => by have := hB x h; omega)
      have HD4 := Lib.hid hD4
      clear hD4 hG4 hc4
      go_wp2_with fail
      refine (flush_any (B := w.heap.size) ad b ⟨-1, K, K, []⟩ S4 w4 (HE4.out.sub (by decide)) hB4 HD4.out (by simp only; omega)).mono ?_
      rintro e w5 ⟨rfl, hc5, S5, hD5, hG5⟩
      rw [flush_then] at hD5 ⊢
      have hB5 := hG5.ge hB4 hC4.size
      have HE5 := Lib.hid (HE4.out.keep hc5 hB4)
      have hC5 : Chg Nil w w5 := hC4.trans hc5 (fun x hx h => by have := hB4 x h; omega)
      have HD5 := Lib.hid hD5
      have e0 : errV ad 0 = .nilIface := errV_zero
      clear hD5 hG5 hc5 HD4 HE4 HD HEr HP hK
      go_wp2_with fail
      go_loopw [15, 16] (fun v i wr => RelKb K w5 v i wr) (fun _ i _ => (n - intOf i).toNat)
      case atStart => exact ⟨0, Nil, Nat.zero_le _, rfl, Chg.refl _ _, sliceAt_nil _ _ _ _, fun x f => f.elim⟩
      case round =>
        obtain ⟨k2, Sv, hk2, rfl, hC6, hv, hSv⟩ := hrel
        have HV := Lib.hid hv
        obtain ⟨av, cv, rfl⟩ := hv.shape
        clear hv
        by_cases hlt2 : k2 < n
        · have j1 : (k2 : Int) < (n : Int) := by omega
          obtain ⟨x, hx⟩ : ∃ x, K[k2]? = some x := ⟨K[k2]'(by omega), List.getElem?_eq_getElem _⟩
          have htk : (K.take (k2 + 1)).flatMap strC = (K.take k2).flatMap strC ++ strC x := by
            rw [List.take_add_one, hx]; simp
          have HTK := Lib.hid htk
          have hrd := read_in ⟨-1, K, K, []⟩ k2 x hx
          have HRD := Lib.hid hrd
          clear hrd htk hx
          go_wp2_with fail
          refine (kread_any (B := w.heap.size) ad b k2 ⟨-1, K, K, []⟩ S5 wr ((HE5.out.keepN hC6).sub (by decide)) (HD5.out.keep hC6 (fun _ _ f => f))).mono ?_
          rintro e w7 ⟨rfl, hc7⟩
          rw [HRD.out]
          simp only [errV_zero]
          have HV7 := Lib.hid (HV.out.keep hc7 (fun _ _ f => f))
          have hz7 := hc7.size
          have hz6 := hC6.size
          go_wp2_with (at_builtin; go_loud (refine wpList_appendS (n := k2) (m := 1) rfl _ _ 51 rfl Tryd.underlying51 info_str rfl (by decide) rfl (HV7.out.keep ((Chg.refl Nil _).alloc _) (fun _ _ f => f)) rfl (strC x) rfl (cell_new_at w7 (strC x) _ rfl) (strC_one x) (by unfold maxLen; omega) (by omega) ?_); intro v8 w8 S8 hs8 hc8 hg8; obtain ⟨a8, c8, rfl⟩ := hs8.shape)
          go_roundw
          case rel =>
            refine ⟨k2 + 1, S8, by omega, by go_num, ((hC6.then hc7).alloc _).trans hc8 (fun x hx h => by have := (hSv x h).1; omega), by rw [HTK.out]; exact hs8, fun x hx => ?_⟩
            rcases hg8 x hx with h | h
            · have := hSv x h; have := hc8.size; simp at this; omega
            · simp at h; omega
          case measure => simp [intOf]; omega
        · obtain rfl : k2 = K.length := by omega
          obtain rfl : n = K.length := hKn.symm
          rw [List.take_of_length_le (Nat.le_refl _)] at HV
          have hlt6 : ∀ x, S5 x → x < w5.heap.size := HD5.out.2.2.1
          have HD6 := Lib.hid (HD5.out.keep hC6 (fun _ _ f => f))
          have HE6 := Lib.hid (HE5.out.keepN hC6)
          have hz6 := hC6.size
          have hC6' := hC5.then hC6
          have hw := write_then K at' s hat (by omega)
          have HWR := Lib.hid hw
          clear hw HD5 HE5
          go_wp2_with fail
          refine (write_any (B := w.heap.size) ad b at' s ⟨-1, K, K, []⟩ S5 wr HE6.out hB5 HD6.out (by simp)).mono ?_
          rintro e w7 ⟨rfl, hc7, S7, hD7, hG7⟩
          rw [HWR.out] at hD7 ⊢
          have hB7 := hG7.ge hB5 hC6'.size
          have HE7 := Lib.hid (HE6.out.keep hc7 hB5)
          have hC7 : Chg Nil w w7 := hC6'.trans hc7 (fun x hx h => by have := hB5 x h; omega)
          have HD7 := Lib.hid hD7
          have HV7 := Lib.hid (HV.out.keep hc7 (fun x hx h => by have := (hSv x hx).1; have := hlt6 x h; omega))
          have hV7 : ∀ x, Sv x → ¬ S7 x := fun x hx h => by
            have := hSv x hx
            rcases hG7 x h with h | h
            · have := hlt6 x h; omega
            · omega
          have hz7 := hc7.size
          clear hD7 hG7 hc7 HV HE6 HD6
          go_wp2_with fail
          refine (kcopy_any b _ S7 w7 HD7.out (by simp only; omega) (by simp only [List.length_set]; omega) (by simp)).mono ?_
          rintro e w8 ⟨b8, S8, rfl, hc8, hD8, hS8⟩
          have hz8 := hc8.size
          have hS7l := HD7.out.2.2.1
          have HD8 := Lib.hid hD8
          have HX8 := Lib.hid (HD7.out.keep (hc8.alloc (.cells #[.bool keep] 4)) (fun _ _ f => f))
          have HV8 := Lib.hid (HV7.out.keep hc8 (fun _ _ f => f))
          have HE8 := Lib.hid (HE7.out.keepN hc8)
          have hC8 := hC7.then hc8
          clear hD8
          go_wp2_with fail
          refine (crash_any b _ S7 (· = w8.heap.size) _ [keep] _ HX8.out (sliceAt_flag w8 keep) (fun x e => by have : x = w8.heap.size := e; simp; omega) (fun x e h => by have : x = w8.heap.size := e; have := hS7l x h; omega) (by simp only; omega) (fun p hp => by simp only [List.mem_singleton] at hp; subst hp; simp only; omega)).mono ?_
          rintro e w9 ⟨rfl, hc9, S9, hD9, hG9⟩
          rw [crash_one] at hD9
          have ha9 := (Chg.refl Nil w8).alloc (.cells #[.bool keep] 4)
          have hc9' : Chg S7 w8 w9 := ha9.nil.trans hc9 (fun x hx h => h)
          have HD9 := Lib.hid hD9
          have HC9 := Lib.hid (HD8.out.keep hc9' (fun x h1 h2 => by have := hS8 x h1; have := hS7l x h2; omega))
          have HV9 := Lib.hid (HV8.out.keep hc9' hV7)
          have HE9 := Lib.hid (HE8.out.keep hc9' hB7)
          have hC9 : Chg Nil w w9 := hC8.trans hc9' (fun x hx h => by have := hB7 x h; omega)
          clear hD9 HD8 HV8 HX8 HE8 HD7 HV7 HE7 hG9 hc9 hc9' ha9
          have hnsum : ¬ 9223372036854775807 < s.size + (zerosB (64 - s.size)).size := by rw [zerosB_size]; omega
          go_wp2_with fail
          go_loopw [20] (fun i wr => RelKc K.length w9 i wr) (fun i _ => (K.length - intOf i).toNat)
          case atStart => exact ⟨0, Nat.zero_le _, rfl, Chg.refl _ _⟩
          case round =>
            obtain ⟨k3, hk3, rfl, hC10⟩ := hrel
            by_cases hlt3 : k3 < K.length
            · have j1 : (k3 : Int) < (K.length : Int) := by omega
              have j0 : (0 : Int) ≤ (k3 : Int) := by omega
              obtain ⟨x, hx⟩ : ∃ x, K[k3]? = some x := ⟨K[k3], List.getElem?_eq_getElem _⟩
              obtain ⟨gv, ov, cpv, csv, e, _, _, _, _, _, hgv, hgvl⟩ := HV9.out.place (by omega)
              cases e
              have y0 := ((HV9.out.keep hC10 (fun _ _ f => f)).elem strC_len hx 0 _ rfl).1
              simp only [Nat.mul_one, Nat.add_zero] at y0
              have gvl := Nat.lt_of_lt_of_le hgvl hC10.size
              have hkc : k3 < cv := by omega
              by_cases hka : k3 = at'
              · subst hka
                cases keep with
                | true =>
                  have hr1 := read_in ⟨-1, if true = true then K.set k3 (padS s) else K, if true = true then K.set k3 (padS s) else K, []⟩ k3 (padS s) (by simp [List.getElem?_set, hx]; omega)
                  have hr2 := read_in ⟨-1, K, K.set k3 (padS s), [((k3 : Int), padS s)]⟩ k3 (padS s) (by simp [List.getElem?_set, hx]; omega)
                  have hp : padS s = s ++ zerosB (64 - s.size) := rfl
                  have HPD := Lib.hid hp
                  have HR1 := Lib.hid hr1
                  have HR2 := Lib.hid hr2
                  have HX := Lib.hid hx
                  clear hr1 hr2 hx y0 hp
                  go_wp2_with fail
                  refine (kread_any (B := w.heap.size) ad b k3 _ S9 wr ((HE9.out.keepN hC10).sub (by decide)) (HD9.out.keep hC10 (fun _ _ f => f))).mono ?_
                  rintro e w11 ⟨rfl, hc11⟩
                  rw [HR1.out, HPD.out]
                  simp only [errV_zero]
                  have hC11 := hC10.then hc11
                  go_wp2_with fail
                  refine (kread_any (B := w.heap.size) ad b8 k3 _ S8 w11 ((HE9.out.keepN hC11).sub (by decide)) (HC9.out.keep hC11 (fun _ _ f => f))).mono ?_
                  rintro e w12 ⟨rfl, hc12⟩
                  rw [HR2.out, HPD.out]
                  simp only [errV_zero]
                  have hC12 := hC11.then hc12
                  go_wp2_with fail
                  refine (zeros_any _ w12 (by omega) (by omega)).mono ?_
                  rintro e w13 ⟨rfl, hc13⟩
                  rw [show ((64 : Int) - (s.size : Int)).toNat = 64 - s.size by omega]
                  have hC13 := hC12.then hc13
                  have y1 := ((HV9.out.keep hC13 (fun _ _ f => f)).elem strC_len HX.out 0 _ rfl).1
                  simp only [Nat.mul_one, Nat.add_zero] at y1
                  go_wp2_with fail
                  go_roundw
                  case rel => exact ⟨k3 + 1, by omega, by go_num, hC13⟩
                  case measure => simp [intOf]; omega
                | false =>
                  have hr1 := read_in ⟨-1, if false = true then K.set k3 (padS s) else K, if false = true then K.set k3 (padS s) else K, []⟩ k3 (x) (by simp [List.getElem?_set, hx])
                  have hr2 := read_in ⟨-1, K, K.set k3 (padS s), [((k3 : Int), padS s)]⟩ k3 (padS s) (by simp [List.getElem?_set, hx]; omega)
                  have hp : padS s = s ++ zerosB (64 - s.size) := rfl
                  have HPD := Lib.hid hp
                  have HR1 := Lib.hid hr1
                  have HR2 := Lib.hid hr2
                  have HX := Lib.hid hx
                  clear hr1 hr2 hx y0 hp
                  go_wp2_with fail
                  refine (kread_any (B := w.heap.size) ad b k3 _ S9 wr ((HE9.out.keepN hC10).sub (by decide)) (HD9.out.keep hC10 (fun _ _ f => f))).mono ?_
                  rintro e w11 ⟨rfl, hc11⟩
                  rw [HR1.out]
                  simp only [errV_zero]
                  have hC11 := hC10.then hc11
                  go_wp2_with fail
                  refine (kread_any (B := w.heap.size) ad b8 k3 _ S8 w11 ((HE9.out.keepN hC11).sub (by decide)) (HC9.out.keep hC11 (fun _ _ f => f))).mono ?_
                  rintro e w12 ⟨rfl, hc12⟩
                  rw [HR2.out, HPD.out]
                  simp only [errV_zero]
                  have hC12 := hC11.then hc12
                  go_wp2_with fail
                  refine (zeros_any _ w12 (by omega) (by omega)).mono ?_
                  rintro e w13 ⟨rfl, hc13⟩
                  rw [show ((64 : Int) - (s.size : Int)).toNat = 64 - s.size by omega]
                  have hC13 := hC12.then hc13
                  have y1 := ((HV9.out.keep hC13 (fun _ _ f => f)).elem strC_len HX.out 0 _ rfl).1
                  simp only [Nat.mul_one, Nat.add_zero] at y1
                  go_wp2_with fail
                  go_roundw
                  case rel => exact ⟨k3 + 1, by omega, by go_num, hC13⟩
                  case measure => simp [intOf]; omega
              · have j2 : ¬ (k3 : Int) = (at' : Int) := by omega
                have hr1 := read_in ⟨-1, if keep = true then K.set at' (padS s) else K, if keep = true then K.set at' (padS s) else K, []⟩ k3 x (by simp only; split <;> simp [List.getElem?_set, hx]; omega)
                have hr2 := read_in ⟨-1, K, K.set at' (padS s), [((at' : Int), padS s)]⟩ k3 x (by simp [List.getElem?_set, hx]; omega)
                have HR1 := Lib.hid hr1
                have HR2 := Lib.hid hr2
                have HX := Lib.hid hx
                clear hr1 hr2 hx y0
                go_wp2_with fail
                refine (kread_any (B := w.heap.size) ad b k3 _ S9 wr ((HE9.out.keepN hC10).sub (by decide)) (HD9.out.keep hC10 (fun _ _ f => f))).mono ?_
                rintro e w11 ⟨rfl, hc11⟩
                rw [HR1.out]
                simp only [errV_zero]
                have hC11 := hC10.then hc11
                go_wp2_with fail
                refine (kread_any (B := w.heap.size) ad b8 k3 _ S8 w11 ((HE9.out.keepN hC11).sub (by decide)) (HC9.out.keep hC11 (fun _ _ f => f))).mono ?_
                rintro e w12 ⟨rfl, hc12⟩
                rw [HR2.out]
                simp only [errV_zero]
                have hC12 := hC11.then hc12
                go_wp2_with fail
                refine (zeros_any _ w12 (by omega) (by omega)).mono ?_
                rintro e w13 ⟨rfl, hc13⟩
                rw [show ((64 : Int) - (s.size : Int)).toNat = 64 - s.size by omega]
                have hC13 := hC12.then hc13
                have y1 := ((HV9.out.keep hC13 (fun _ _ f => f)).elem strC_len HX.out 0 _ rfl).1
                simp only [Nat.mul_one, Nat.add_zero] at y1
                go_wp2_with fail
                go_roundw
                case rel => exact ⟨k3 + 1, by omega, by go_num, hC13⟩
                case measure => simp [intOf]; omega
            · go_wp2_with fail
              go_ret
              exact ⟨rfl, hC9.then hC10⟩
end Go.Proofs.YtfekiagdnlnggaaDoor
