/- package xdr: the Reader's Bytes and NewReader by contract. -/
import Derived.Test.YtofhnglgebllbaaDoorXdr9
namespace Go.Proofs.YtofhnglgebllbaaDoor
open Go.RowKit Go.Lib
set_option linter.unusedVariables false
set_option linter.unusedSimpArgs false

def padN (n : Nat) : Nat := (4 - n % 4) % 4
/-- Does an item stand at the head? -/
def itemOk (s : ByteArray) (most : Int) : Prop := 4 ≤ s.size ∧ (numK s 4 : Int) ≤ most ∧ numK s 4 + padN (numK s 4) + 4 ≤ s.size ∧ ∀ j, j < padN (numK s 4) → s.data.toList[4 + numK s 4 + j]? = some 0
open Classical in
noncomputable def rdItem (s : ByteArray) (most : Int) : ByteArray × ByteArray × Nat := if itemOk s most then (s.extract 4 (4 + numK s 4), s.extract (4 + numK s 4 + padN (numK s 4)) s.size, 0) else (⟨#[]⟩, s, 1)
theorem rdItem_yes {s : ByteArray} {most : Int} (h : itemOk s most) : rdItem s most = (s.extract 4 (4 + numK s 4), s.extract (4 + numK s 4 + padN (numK s 4)) s.size, 0) := if_pos h
theorem rdItem_no {s : ByteArray} {most : Int} (h : ¬ itemOk s most) : rdItem s most = (⟨#[]⟩, s, 1) := if_neg h
theorem padN_lt (n : Nat) : padN n < 4 := Nat.mod_lt _ (by omega)
theorem extract_list (s : ByteArray) (a b : Nat) : (s.extract a b).data.toList = (s.data.toList.drop a).take (b - a) := by
  rw [ByteArray.data_extract, Array.toList_extract, List.extract_eq_take_drop]
/-- All noughts, told by places. -/
theorem pad_all (s : ByteArray) (a p : Nat) (h : a + p ≤ s.size) : (∀ b ∈ (s.extract a (a + p)).data.toList, b = 0) ↔ ∀ j, j < p → s.data.toList[a + j]? = some 0 := by
  rw [extract_list, Nat.add_sub_cancel_left]
  have hl : s.data.toList.length = s.size := Array.length_toList
  constructor
  · intro hh j hj
    have hlt : a + j < s.data.toList.length := by omega
    rw [List.getElem?_eq_getElem hlt]
    congr 1
    refine hh _ ?_
    rw [List.mem_iff_getElem?]
    refine ⟨j, ?_⟩
    rw [List.getElem?_take, if_pos hj, List.getElem?_drop, List.getElem?_eq_getElem hlt]
  · intro hh b hb
    rw [List.mem_iff_getElem?] at hb
    obtain ⟨j, hj⟩ := hb
    rw [List.getElem?_take] at hj
    split at hj
    · rename_i hjp
      rw [List.getElem?_drop, hh j hjp] at hj
      exact (Option.some.inj hj).symm
    · cases hj
theorem txt_full {s : ByteArray} (hs : s ≠ ⟨#[]⟩) : (s.toList == []) = false := by
  rw [beq_eq_false_iff_ne]
  intro e
  apply hs
  have e2 : s.data.toList = [] := by rw [← e]; exact (ByteArray.toList_eq s).symm
  obtain ⟨d⟩ := s
  simp only at e2
  have : d = #[] := by apply Array.ext'; simpa using e2
  rw [this]
def RdPost (ad : Nat → Addr) (b : Nat) (s : ByteArray) (most : Int) (w : World) (e : Ending) (w' : World) : Prop :=
  e = .returned (.tuple #[.string (rdItem s most).1, errV ad (rdItem s most).2.2]) ∧ Chg (· = b) w w' ∧ RdAt w' b (rdItem s most).2.1
theorem RdPost.no {ad : Nat → Addr} {b : Nat} {s : ByteArray} {most : Int} {w w' : World} {e : Ending} (h : ¬ itemOk s most) (he : e = .returned (.tuple #[.string ⟨#[]⟩, errV ad 1])) (c : Chg Nil w w') (t : RdAt w b s) : RdPost ad b s most w e w' := by
  unfold RdPost
  rw [rdItem_no h]
  exact ⟨he, c.nil, t.keep c (fun f => f)⟩
set_option maxHeartbeats 4000000 in
set_option maxRecDepth 100000 in
theorem rbytes_any {B : Nat} (ad : Nat → Addr) (b : Nat) (s : ByteArray) (most : Int) (w : World) (he : Env B ad [1] w) (hb : B ≤ b) (ht : RdAt w b s) (hs : s.size ≤ 1000000) :
    Calls Tryd.prog 154 #[.pointer (some ⟨b, 0, none⟩), .int .i64 most] w (RdPost ad b s most w) := by
  have HV := Lib.hid (value_any b 4 s w ht (by omega) (by omega))
  have HE := Lib.hid he
  have HT := Lib.hid ht
  clear he ht
  by_cases hf : 4 ≤ s.size
  · have e1 : decide (4 ≤ s.size) = true := by simpa using hf
    have e2 : (if s.size < 4 then 0 else numK s 4) = numK s 4 := if_neg (by omega)
    rw [e1, e2] at HV
    clear e1 e2
    obtain ⟨n, hn⟩ : ∃ n, n = numK s 4 := ⟨_, rfl⟩
    have hn32 : n < 4294967296 := by rw [hn]; exact numK_lt s 4
    rw [← hn] at HV
    have HN := Lib.hid hn
    clear hn
    have hwc : IntKind.i64.wrap (n : Int) = n := IntWalk.i64_in _ (by omega)
    by_cases hm : most < (n : Int)
    · have HX : ¬ itemOk s most := fun h => by have := h.2.1; rw [← HN.out] at this; omega
      have HX := Lib.hid HX
      go_enter Tryd.func154, Tryd.ntmps154
      go_wp2_with fail
      refine HV.out.mono ?_
      rintro e w2 ⟨rfl, hc2⟩
      obtain ⟨q1, q1l⟩ := (HE.out.keepN hc2).get (c := 1) (by simp)
      simp only [gl] at q1 q1l
      go_wp2_with fail
      go_quiet (fail)
      go_wp2_with fail
      go_ret2
      exact RdPost.no HX.out rfl (hc2.then (by repeat (first | exact Chg.refl _ _ | exact Chg.drewN _ _ | refine Chg.drew ?_ | refine Chg.drewsN ?_ _))) HT.out
    have ha := and3 n (by omega)
    have hwn : IntKind.i64.wrap (-(n : Int)) = -(n : Int) := IntWalk.i64_in _ (by omega)
    have HAN := Lib.hid ha
    obtain ⟨p, hp⟩ : ∃ p, p = (4 - n % 4) % 4 := ⟨_, rfl⟩
    rw [← hp] at ha
    have hp4 : p < 4 := by omega
    have HP := Lib.hid (show p = padN (numK s 4) by rw [← HN.out]; exact hp)
    clear hp
    by_cases hl : s.size < n + p + 4
    · have HX : ¬ itemOk s most := fun h => by have := h.2.2.1; rw [← HP.out, ← HN.out] at this; omega
      have HX := Lib.hid HX
      have hlI : (s.size : Int) - 4 < (n : Int) + (p : Int) := by omega
      go_enter Tryd.func154, Tryd.ntmps154
      go_wp2_with fail
      refine HV.out.mono ?_
      rintro e w2 ⟨rfl, hc2⟩
      obtain ⟨T, h2⟩ := HT.out.keep hc2 (fun f => f)
      have c0 := cell_of h2 0
      simp at c0
      clear h2
      obtain ⟨q1, q1l⟩ := (HE.out.keepN hc2).get (c := 1) (by simp)
      simp only [gl] at q1 q1l
      go_wp2_with fail
      go_quiet (fail)
      go_wp2_with fail
      go_ret2
      exact RdPost.no HX.out rfl (hc2.then (by repeat (first | exact Chg.refl _ _ | exact Chg.drewN _ _ | refine Chg.drew ?_ | refine Chg.drewsN ?_ _))) HT.out
    have hlI : ¬ (s.size : Int) - 4 < (n : Int) + (p : Int) := by omega
    go_enter Tryd.func154, Tryd.ntmps154
    go_wp2_with fail
    refine HV.out.mono ?_
    rintro e w2 ⟨rfl, hc2⟩
    obtain ⟨T, h2⟩ := HT.out.keep hc2 (fun f => f)
    have c0 := cell_of h2 0
    simp at c0
    clear h2
    obtain ⟨q1, q1l⟩ := (HE.out.keepN hc2).get (c := 1) (by simp)
    simp only [gl] at q1 q1l
    go_wp2_with fail
    refine (trim_any _ w2 (by rw [ByteArray.extract_extract, ByteArray.size_extract]; omega)).mono ?_
    rintro e w3 ⟨rfl, hc3⟩
    have hc := hc2.then hc3
    have hxx : (s.extract (4 + n) s.size).extract 0 p = s.extract (4 + n) (4 + n + p) := by rw [ByteArray.extract_extract, Nat.min_eq_left (by omega)]; rfl
    have hpa := pad_all s (4 + n) p (by omega)
    have HQ : Hid ((⟨(Lib.trimB ((s.extract (4 + n) s.size).extract 0 p).data.toList 0).toArray⟩ : ByteArray) = ⟨#[]⟩ ↔ ∀ j, j < p → s.data.toList[4 + n + j]? = some 0) := Lib.hid (by
      rw [← hpa, hxx, ← trim_nil]
      constructor
      · intro h
        have := congrArg (fun x => x.data.toList) h
        simpa using this
      · intro h; rw [h])
    obtain ⟨Z, hZ⟩ : ∃ Z, Z = (⟨(Lib.trimB ((s.extract (4 + n) s.size).extract 0 p).data.toList 0).toArray⟩ : ByteArray) := ⟨_, rfl⟩
    rw [← hZ] at HQ ⊢
    clear hZ hxx hpa
    obtain ⟨T, h3⟩ := HT.out.keep hc (fun f => f)
    have d0 := cell_of h3 0
    have f0 := free_of h3 0
    have gb := lt_of_block h3
    simp at d0
    clear h3
    by_cases hz : Z = ⟨#[]⟩
    · subst hz
      have HX := Lib.hid (rdItem_yes (s := s) (most := most) ⟨hf, by rw [← HN.out]; omega, by rw [← HP.out, ← HN.out]; omega, by rw [← HP.out, ← HN.out]; exact HQ.out.1 rfl⟩)
      have hes : (s.extract (4 + n) s.size).size = s.size - (4 + n) := by rw [ByteArray.size_extract]; omega
      have hes2 : p ≤ s.size - (4 + n) := by omega
      have HES := Lib.hid hes
      obtain ⟨q3, q3l⟩ := (HE.out.keepN hc).get (c := 1) (by simp)
      have hf2 : (s.extract (4 + n) s.size).extract p (s.size - (4 + n)) = s.extract (4 + n + p) s.size := by
        rw [ByteArray.extract_extract, Nat.min_eq_right (by omega)]
      have HF2 := Lib.hid hf2
      clear hf2
      go_wp2_with fail
      go_ret2
      rw [HF2.out]
      unfold RdPost
      rw [HX.out, ← HN.out]
      exact ⟨rfl, (hc.nil (S := (· = b))).setCell (p := ⟨b, 0, none⟩) (.inr rfl) _, by
        have h9 := (HT.out.keep hc (fun f => f)).put (s.extract (4 + n + p) s.size)
        rw [← show p = padN n by rw [HP.out, ← HN.out]]
        exact h9⟩
    · have HX : ¬ itemOk s most := fun h => hz (HQ.out.2 (by have := h.2.2.2; rw [← HP.out, ← HN.out] at this; exact this))
      have HX := Lib.hid HX
      have hzt := txt_full hz
      clear hz q1
      obtain ⟨q3, q3l⟩ := (HE.out.keepN hc).get (c := 1) (by simp)
      simp only [gl] at q3 q3l
      go_wp2_with fail
      go_quiet (fail)
      go_wp2_with fail
      go_ret2
      exact RdPost.no HX.out rfl (hc.then (by repeat (first | exact Chg.refl _ _ | exact Chg.drewN _ _ | refine Chg.drew ?_ | refine Chg.drewsN ?_ _))) HT.out
  · have HX : ¬ itemOk s most := fun h => hf h.1
    have HX := Lib.hid HX
    have e1 : decide (4 ≤ s.size) = false := by simpa using hf
    have e2 : (if s.size < 4 then 0 else numK s 4) = 0 := if_pos (by omega)
    rw [e1, e2] at HV
    clear e1 e2 hf
    go_enter Tryd.func154, Tryd.ntmps154
    go_wp2_with fail
    refine HV.out.mono ?_
    rintro e w2 ⟨rfl, hc2⟩
    obtain ⟨q1, q1l⟩ := (HE.out.keepN hc2).get (c := 1) (by simp)
    simp only [gl] at q1 q1l
    go_wp2_with fail
    go_quiet (fail)
    go_wp2_with fail
    go_ret2
    exact RdPost.no HX.out rfl (hc2.then (by repeat (first | exact Chg.refl _ _ | exact Chg.drewN _ _ | refine Chg.drew ?_ | refine Chg.drewsN ?_ _))) HT.out
set_option maxHeartbeats 1000000 in
theorem newReader_any (s : ByteArray) (w : World) :
    Calls Tryd.prog 152 #[.string s] w fun e w' => e = .returned (.pointer (some ⟨w.heap.size, 0, none⟩)) ∧ Chg Nil w w' ∧ RdAt w' w.heap.size s ∧ w.heap.size < w'.heap.size := by
  go_enter Tryd.func152, Tryd.ntmps152
  go_wp2_with fail
  go_ret
  exact ⟨rfl, (Chg.refl _ _).alloc _, RdAt.new _ _ _, by simp⟩
end Go.Proofs.YtofhnglgebllbaaDoor
