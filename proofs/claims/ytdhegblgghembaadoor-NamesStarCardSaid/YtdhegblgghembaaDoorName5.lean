/- names.Split by contract. -/
import Derived.Test.YtdhegblgghembaaDoorName4
import Derived.BigQuiet
import Derived.Deep.QuietTactic
namespace Go.Proofs.YtdhegblgghembaaDoor
open Go.RowKit Go.Lib
set_option linter.unusedVariables false
set_option linter.unusedSimpArgs false

def slash : ByteArray := ⟨#[47]⟩
def preS (s : ByteArray) : Bool := Lib.hasPrefix s.data.toList [47]
def sufS (s : ByteArray) : Bool := Lib.hasSuffix s.data.toList [47]
/-- A path's names, its fault. -/
def spC (s : ByteArray) : Nat × Int := if s = slash then (0, -1) else if preS s = false ∨ sufS s = true then (1, -1) else pathC (txtsL (s.extract 1 s.size))
def spL (s : ByteArray) : List ByteArray := if s = slash then [] else if preS s = false ∨ sufS s = true then [] else if (pathC (txtsL (s.extract 1 s.size))).1 = 0 then txtsL (s.extract 1 s.size) else []
theorem preS_pos {s : ByteArray} (h : preS s = true) : 1 ≤ s.size := by
  rcases Nat.eq_zero_or_pos s.size with h0 | h0
  · exfalso
    have : s = ⟨#[]⟩ := by apply ByteArray.ext; exact Array.eq_empty_of_size_eq_zero h0
    rw [this] at h
    revert h; decide
  · exact h0
def SplitPost (ad : Nat → Addr) (s : ByteArray) (w : World) (e : Ending) (w' : World) : Prop :=
  ∃ a n c v, e = .returned (.tuple #[.slice a n c, v]) ∧ NmErr ad w' v (spC s).1 (spC s).2 ∧ n = (spL s).length ∧ n ≤ c ∧ TextsAt w' w'.heap.size a (spL s) ∧ Chg Nil w w'
theorem SplitPost.nil {ad : Nat → Addr} {s : ByteArray} {w w' : World} {e : Ending} {v : Value} (hl : spL s = []) (he : e = .returned (.tuple #[.slice none 0 0, v])) (hv : NmErr ad w' v (spC s).1 (spC s).2) (hc : Chg Nil w w') : SplitPost ad s w e w' :=
  ⟨none, 0, 0, v, he, hv, by rw [hl]; rfl, Nat.le_refl _, by rw [hl]; exact fun k x hx => (by cases hx), hc⟩
set_option maxHeartbeats 2000000 in
set_option maxRecDepth 100000 in
theorem split_any {B : Nat} (ad : Nat → Addr) (s : ByteArray) (w : World) (he : Env B ad [1, 2, 4] w) (hs : s.size ≤ 1000000) (hm : ∃ m, w.cell? ⟨16, 0, none⟩ = some (.int .i64 m)) :
    Calls Tryd.prog 53 #[.string s] w (SplitPost ad s w) := by
  obtain ⟨q1, q1l⟩ := he.get (c := 1) (by simp)
  simp only [gl] at q1 q1l
  have HE := Lib.hid he
  have HM := Lib.hid hm
  clear he hm
  by_cases h0 : s = slash
  · have HL := Lib.hid (show spL s = [] from if_pos h0)
    have HX := Lib.hid (show spC s = (0, -1) from if_pos h0)
    subst h0
    unfold slash at *
    go_enter Tryd.func53, Tryd.ntmps53
    go_wp2_with fail
    go_ret2
    exact SplitPost.nil HL.out rfl (by rw [HX.out]; exact .inl ⟨rfl, rfl, rfl⟩) (Chg.refl _ _)
  have hne := txt_ne (l := [47]) h0
  have HP := Lib.hid (Go.Proofs.Tryd.strings_HasPrefix s ⟨#[47]⟩ w)
  have HS := Lib.hid (Go.Proofs.Tryd.strings_HasSuffix s ⟨#[47]⟩ w (by omega))
  have HPR := Lib.hid (rfl : preS s = Lib.hasPrefix s.data.toList [47])
  have HSR := Lib.hid (rfl : sufS s = Lib.hasSuffix s.data.toList [47])
  have hp0 : Lib.hasPrefix s.data.toList (⟨#[47]⟩ : ByteArray).data.toList = preS s := rfl
  have hs0 : Lib.hasSuffix s.data.toList (⟨#[47]⟩ : ByteArray).data.toList = sufS s := rfl
  rw [hp0] at HP
  rw [hs0] at HS
  clear hp0 hs0
  by_cases hb : preS s = false ∨ sufS s = true
  · have HL := Lib.hid (show spL s = [] by unfold spL; rw [if_neg h0, if_pos hb])
    have HX := Lib.hid (show spC s = (1, -1) by unfold spC; rw [if_neg h0, if_pos hb])
    clear h0
    cases hpr : preS s with
    | false =>
      rw [hpr] at HP
      clear hb hpr
      go_enter Tryd.func53, Tryd.ntmps53
      go_wp2_with fail
      refine HP.out.mono ?_
      rintro e w1 ⟨rfl, hw1⟩
      obtain rfl : w = w1 := hw1.symm
      go_wp2_with fail
      go_quiet (fail)
      go_wp2_with fail
      go_ret2
      exact SplitPost.nil HL.out rfl (by rw [HX.out]; exact .inr (.inl ⟨by omega, by omega, rfl, rfl⟩)) (Chg.drewN _ _)
    | true =>
      have hsu : sufS s = true := by rcases hb with hb | hb; rw [hpr] at hb; cases hb; exact hb
      rw [hpr] at HP
      rw [hsu] at HS
      clear hb hpr hsu
      go_enter Tryd.func53, Tryd.ntmps53
      go_wp2_with fail
      refine HP.out.mono ?_
      rintro e w1 ⟨rfl, hw1⟩
      obtain rfl : w = w1 := hw1.symm
      go_wp2_with fail
      refine HS.out.mono ?_
      rintro e w1 ⟨rfl, hw1⟩
      obtain rfl : w = w1 := hw1.symm
      go_wp2_with fail
      go_quiet (fail)
      go_wp2_with fail
      go_ret2
      exact SplitPost.nil HL.out rfl (by rw [HX.out]; exact .inr (.inl ⟨by omega, by omega, rfl, rfl⟩)) (Chg.drewN _ _)
  have hpr : preS s = true := by cases h : preS s; exact absurd (.inl h) hb; rfl
  have hsu : sufS s = false := by cases h : sufS s; rfl; exact absurd (.inr h) hb
  have hpos := preS_pos hpr
  have HX := Lib.hid (show spC s = pathC (txtsL (s.extract 1 s.size)) by unfold spC; rw [if_neg h0, if_neg hb])
  have HL := Lib.hid (show spL s = if (pathC (txtsL (s.extract 1 s.size))).1 = 0 then txtsL (s.extract 1 s.size) else [] by unfold spL; rw [if_neg h0, if_neg hb])
  rw [hpr] at HP
  rw [hsu] at HS
  clear hb hpr hsu h0 q1
  have hxs : (s.extract 1 s.size).size ≤ 1000000 := by rw [ByteArray.size_extract]; omega
  have hlt1 := txtsL_len (s.extract 1 s.size)
  have hlt2 : (txtsL (s.extract 1 s.size)).length ≤ 1000001 := by
    unfold txtsL
    rw [List.length_map]
    have := (wordsL_len (s.extract 1 s.size).data.toList).2
    have h9 : (s.extract 1 s.size).data.toList.length = (s.extract 1 s.size).size := Array.length_toList
    omega
  have HSP := Lib.hid (fun m hm => Go.Proofs.Tryd.strings_Split (s.extract 1 s.size) ⟨#[47]⟩ m w (by omega) hm (by decide))
  go_enter Tryd.func53, Tryd.ntmps53
  go_wp2_with fail
  refine HP.out.mono ?_
  rintro e w1 ⟨rfl, hw1⟩
  obtain rfl : w = w1 := hw1.symm
  go_wp2_with fail
  refine HS.out.mono ?_
  rintro e w1 ⟨rfl, hw1⟩
  obtain rfl : w = w1 := hw1.symm
  go_wp2_with fail
  obtain ⟨m, hm⟩ := HM.out
  refine (HSP.out m hm).mono ?_
  rintro e w2 ⟨rfl, hw2⟩
  rw [splitB_txts] at hw2
  rw [← hlt1]
  have HT := Lib.hid (show TextsAt w2 w2.heap.size (some ⟨w.heap.size, 0, none⟩) (txtsL (s.extract 1 s.size)) from fun k x hx => by
    refine ⟨?_, w.heap.size, 0, rfl, by rw [hw2]; simp, ?_⟩
    · have := txtsL_size _ x (List.mem_of_getElem? hx); omega
    · rw [hw2, cell_of (block_alloc w _)]
      simp [hx])
  have HC2 := Lib.hid (show Chg Nil w w2 by rw [hw2]; exact (Chg.refl _ _).alloc _)
  obtain ⟨L, hLL⟩ : ∃ L, L = txtsL (s.extract 1 s.size) := ⟨_, rfl⟩
  rw [← hLL] at HT HX HL hlt2 ⊢
  clear hlt1 hw2 hLL hm
  go_wp2_with fail
  refine (all_any ad _ _ L w2 ((HE.out.keepN HC2.out).sub (by decide)) HT.out (Nat.le_refl _) (Nat.le_refl _) (by omega)).mono ?_
  rintro e w3 ⟨v, rfl, hv, hc3⟩
  have HC3 := Lib.hid (HC2.out.then hc3)
  have HT3 := Lib.hid (HT.out.keep (Nat.le_refl _) hc3 (fun _ f => f.elim))
  have hz3 := hc3.size
  clear hc3
  rcases hv with ⟨h1, h2, rfl⟩ | ⟨h0, h1, h2, rfl⟩ | ⟨h0, h1, pb, rfl, hb⟩
  · have HLL := Lib.hid (HL.out.trans (if_pos h1))
    have HV := Lib.hid (And.intro h1 h2)
    clear h1 h2
    go_wp2_with fail
    go_ret2
    exact ⟨_, _, _, _, rfl, by rw [HX.out]; exact .inl ⟨HV.out.1, HV.out.2, rfl⟩, by rw [HLL.out], Nat.le_refl _, by
      rw [HLL.out]
      exact fun k x hx => by
        obtain ⟨h7, g, off, e, hg, hc⟩ := HT3.out k x hx
        exact ⟨h7, g, off, e, by omega, hc⟩, HC3.out⟩
  · have HLL := Lib.hid (HL.out.trans (if_neg (by omega)))
    have HV := Lib.hid (And.intro h0 (And.intro h1 h2))
    clear h0 h1 h2
    go_wp2_with fail
    go_ret2
    exact SplitPost.nil HLL.out rfl (by rw [HX.out]; exact .inr (.inl ⟨HV.out.1, HV.out.2.1, HV.out.2.2, rfl⟩)) HC3.out
  · have HLL := Lib.hid (HL.out.trans (if_neg (by omega)))
    have HV := Lib.hid (And.intro h0 (And.intro h1 hb))
    clear h0 h1 hb
    go_wp2_with fail
    go_ret2
    exact SplitPost.nil HLL.out rfl (by rw [HX.out]; exact .inr (.inr ⟨HV.out.1, HV.out.2.1, pb, rfl, HV.out.2.2⟩)) HC3.out
end Go.Proofs.YtdhegblgghembaaDoor
