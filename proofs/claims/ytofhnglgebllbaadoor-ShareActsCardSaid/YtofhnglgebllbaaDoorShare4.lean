/- package share: May, Anyone, Down by contract. -/
import Derived.Test.YtofhnglgebllbaaDoorShare3
namespace Go.Proofs.YtofhnglgebllbaaDoor
open Go.RowKit Go.Lib Go.Sort
set_option linter.unusedVariables false
set_option linter.unusedSimpArgs false

set_option maxHeartbeats 2000000 in
set_option maxRecDepth 100000 in
theorem shMay_any {B : Nat} (ad : Nat → Addr) (b : Nat) (n g o a : Int) (l : List Opn) (S : Nat → Prop) (w : World) (he : Env B ad [2, 5] w) (ht : ShAt w b l S) :
    Calls Tryd.prog 43 #[.pointer (some ⟨b, 0, none⟩), .agg #[.int .i64 n, .int .i64 g], .int .i64 o, .int .i64 a] w fun e w' => e = .returned (errV ad (shMay l (n, g) o a)) ∧ Chg Nil w w' := by
  obtain ⟨⟨v, T, Ss, hb, hs, hnb, hsub⟩, hS, hlt⟩ := ht
  have ha := (Chg.refl Nil w).alloc (.cells #[.int .i64 n, .int .i64 g] 29)
  have hbh := block_alloc w (.cells #[.int .i64 n, .int .i64 g] 29)
  have h0 := cell_of hbh 0
  have h1 := cell_of hbh 1
  simp at h0 h1
  have HA := Lib.hid ha
  have HE := Lib.hid (he.keepN ha)
  have hbw := ha.keep hb (fun f => f)
  have hsw := hs.keep ha (fun _ _ f => f)
  have HR := Lib.hid (right_any a 0 (w.alloc (.cells #[.int .i64 n, .int .i64 g] 29)))
  clear he hb hs ha hbh hlt hsub
  by_cases hr : rightP a 0 = false
  · have HX := Lib.hid (show shMay l (n, g) o a = 2 by unfold shMay; rw [if_pos hr])
    rw [hr] at HR
    obtain ⟨q1, q2⟩ := HE.out.get (c := 2) (by simp)
    simp only [gl] at q1 q2
    clear hr hbw hsw
    go_enter Tryd.func43, Tryd.ntmps43
    go_wp2_with fail
    refine HR.out.mono ?_
    rintro e w2 ⟨rfl, rfl⟩
    go_wp2_with fail
    go_ret
    exact ⟨by rw [HX.out]; rfl, HA.out⟩
  rw [show rightP a 0 = true by simpa using hr] at HR
  cases hf : l.findIdx? (mineP (n, g) o) with
  | none =>
    have HX := Lib.hid (show shMay l (n, g) o a = 5 by unfold shMay; rw [if_neg hr, hf])
    have HF := Lib.hid (find_none n g o b l v T Ss _ hbw hsw hf)
    clear hr hbw hsw hf
    go_enter Tryd.func43, Tryd.ntmps43
    go_wp2_with fail
    refine HR.out.mono ?_
    rintro e w2 ⟨rfl, rfl⟩
    go_wp2_with fail
    refine HF.out.mono ?_
    rintro e w3 ⟨rfl, hc3⟩
    obtain ⟨q1, q2⟩ := (HE.out.keepN hc3).get (c := 5) (by simp)
    simp only [gl] at q1 q2
    go_wp2_with fail
    go_ret
    exact ⟨by rw [HX.out]; rfl, HA.out.then hc3⟩
  | some i =>
    have hil : i < l.length := (List.findIdx?_eq_some_iff_getElem.1 hf).1
    obtain ⟨x, hx⟩ : ∃ x, l[i]? = some x := ⟨l[i], List.getElem?_eq_getElem hil⟩
    obtain ⟨g0, off, cap, cs, rfl, _⟩ := hsw.place (by omega)
    have HF := Lib.hid (find_some n g o b l i g0 off cap T Ss _ hbw hsw hf)
    have HSW := Lib.hid hsw
    have HXX := Lib.hid hx
    by_cases hov : 0 < bits .andNot .i64 a x.2.2.1
    case' pos => have HX := Lib.hid (show shMay l (n, g) o a = 5 by unfold shMay; rw [if_neg hr, hf]; simp only [hx]; rw [if_pos (by simp [ovP, hov])])
    case' neg => have HX := Lib.hid (show shMay l (n, g) o a = 0 by unfold shMay; rw [if_neg hr, hf]; simp only [hx]; rw [if_neg (by simp [ovP]; omega)])
    all_goals
      obtain ⟨⟨xn, xg⟩, xo, xa, xd⟩ := x
      simp only at hov
      clear hr hbw hsw hf hx
      go_enter Tryd.func43, Tryd.ntmps43
      go_wp2_with fail
      refine HR.out.mono ?_
      rintro e w2 ⟨rfl, rfl⟩
      go_wp2_with fail
      refine HF.out.mono ?_
      rintro e w3 ⟨rfl, hc3⟩
      have x3 := ((HSW.out.keep hc3 (fun _ _ f => f)).elem opnC_len HXX.out 3 _ rfl).1
      obtain ⟨q1, q2⟩ := (HE.out.keepN hc3).get (c := 5) (by simp)
      simp only [gl] at q1 q2
      go_wp2_with fail
      go_ret
      exact ⟨by rw [HX.out]; rfl, HA.out.then hc3⟩

set_option maxHeartbeats 2000000 in
set_option maxRecDepth 100000 in
theorem shDown_any {B : Nat} (ad : Nat → Addr) (b : Nat) (n g o a d : Int) (l : List Opn) (S : Nat → Prop) (w : World) (he : Env B ad [2, 3, 5] w) (ht : ShAt w b l S) :
    Calls Tryd.prog 39 #[.pointer (some ⟨b, 0, none⟩), .agg #[.int .i64 n, .int .i64 g], .int .i64 o, .int .i64 a, .int .i64 d] w fun e w' => e = .returned (errV ad (shDown l (n, g) o a d).2) ∧ ShPost S w b (shDown l (n, g) o a d).1 w' := by
  have HT := Lib.hid ht
  obtain ⟨⟨v, T, Ss, hb, hs, hnb, hsub⟩, hS, hlt⟩ := ht
  have ha := (Chg.refl Nil w).alloc (.cells #[.int .i64 n, .int .i64 g] 29)
  have hbh := block_alloc w (.cells #[.int .i64 n, .int .i64 g] 29)
  have h0 := cell_of hbh 0
  have h1 := cell_of hbh 1
  simp at h0 h1
  have HA := Lib.hid ha
  have HE := Lib.hid (he.keepN ha)
  have hbw := ha.keep hb (fun f => f)
  have hsw := hs.keep ha (fun _ _ f => f)
  have HR := Lib.hid (right_any a d)
  have HNB := Lib.hid hnb
  have HSUB := Lib.hid hsub
  have HSb := Lib.hid hS
  have HLT := Lib.hid hlt
  clear he hb hs ha hbh hlt hsub hnb hS
  cases hf : l.findIdx? (mineP (n, g) o) with
  | none =>
    have HX := Lib.hid (show shDown l (n, g) o a d = (l, 5) by unfold shDown; rw [hf])
    have HF := Lib.hid (find_none n g o b l v T Ss _ hbw hsw hf)
    clear hbw hsw hf
    go_enter Tryd.func39, Tryd.ntmps39
    go_wp2_with fail
    refine HF.out.mono ?_
    rintro e w3 ⟨rfl, hc3⟩
    obtain ⟨q1, q2⟩ := (HE.out.keepN hc3).get (c := 5) (by simp)
    simp only [gl] at q1 q2
    go_wp2_with fail
    go_ret
    exact ⟨by rw [HX.out]; rfl, by rw [HX.out]; exact row_same HT.out (HA.out.then hc3)⟩
  | some i =>
    have hil : i < l.length := (List.findIdx?_eq_some_iff_getElem.1 hf).1
    obtain ⟨x, hx⟩ : ∃ x, l[i]? = some x := ⟨l[i], List.getElem?_eq_getElem hil⟩
    obtain ⟨g0, off, cap, cs, rfl, _⟩ := hsw.place (by omega)
    have HF := Lib.hid (find_some n g o b l i g0 off cap T Ss _ hbw hsw hf)
    have HSW := Lib.hid hsw
    have HBW := Lib.hid hbw
    have HXX := Lib.hid hx
    by_cases hr : rightP a d = false
    · have HX := Lib.hid (show shDown l (n, g) o a d = (l, 2) by unfold shDown; rw [hf]; simp only [if_pos hr])
      rw [hr] at HR
      clear hr hbw hsw hf hx
      go_enter Tryd.func39, Tryd.ntmps39
      go_wp2_with fail
      refine HF.out.mono ?_
      rintro e w3 ⟨rfl, hc3⟩
      obtain ⟨q1, q2⟩ := (HE.out.keepN hc3).get (c := 2) (by simp)
      simp only [gl] at q1 q2
      go_wp2_with fail
      refine (HR.out _).mono ?_
      rintro e w4 ⟨rfl, rfl⟩
      go_wp2_with fail
      go_ret
      exact ⟨by rw [HX.out]; rfl, by rw [HX.out]; exact row_same HT.out (HA.out.then hc3)⟩
    rw [show rightP a d = true by simpa using hr] at HR
    have hcs : (0 < bits .andNot .i64 a x.2.2.1 ∧ True ∧ shDown l (n, g) o a d = (l, 3)) ∨ (¬ 0 < bits .andNot .i64 a x.2.2.1 ∧ 0 < bits .andNot .i64 d x.2.2.2 ∧ shDown l (n, g) o a d = (l, 3)) ∨ (¬ 0 < bits .andNot .i64 a x.2.2.1 ∧ ¬ 0 < bits .andNot .i64 d x.2.2.2 ∧ shDown l (n, g) o a d = (l.set i (x.1, x.2.1, a, d), 0)) := by
      unfold shDown
      rw [hf]
      simp only [if_neg hr, hx, ovP]
      by_cases h1 : 0 < bits .andNot .i64 a x.2.2.1 <;> by_cases h2 : 0 < bits .andNot .i64 d x.2.2.2 <;> simp [h1, h2]
    rcases hcs with ⟨e1, e2, hX⟩ | ⟨e1, e2, hX⟩ | ⟨e1, e2, hX⟩
    all_goals
      have HX := Lib.hid hX
      obtain ⟨⟨xn, xg⟩, xo, xa, xd⟩ := x
      simp only at e1
      (try simp only at e2)
      clear hr hbw hsw hf hx hX
      go_enter Tryd.func39, Tryd.ntmps39
      go_wp2_with fail
      refine HF.out.mono ?_
      rintro e w3 ⟨rfl, hc3⟩
      have x3 := ((HSW.out.keep hc3 (fun _ _ f => f)).elem opnC_len HXX.out 3 _ rfl).1
      have x4 := ((HSW.out.keep hc3 (fun _ _ f => f)).elem opnC_len HXX.out 4 _ rfl).1
      have y3 := ((HSW.out.keep hc3 (fun _ _ f => f)).elem opnC_len HXX.out 3 _ rfl).2
      have y4 := ((HSW.out.keep hc3 (fun _ _ f => f)).elem opnC_len HXX.out 4 _ rfl).2.1
      have y31 := y3.1
      have y32 := y3.2
      clear y3
      obtain ⟨q1, q2⟩ := (HE.out.keepN hc3).get (c := 3) (by simp)
      simp only [gl] at q1 q2
      go_wp2_with fail
      refine (HR.out _).mono ?_
      rintro e w4 ⟨rfl, rfl⟩
      go_wp2_with fail
      go_ret
    · exact ⟨by rw [HX.out]; rfl, by rw [HX.out]; exact row_same HT.out (HA.out.then hc3)⟩
    · exact ⟨by rw [HX.out]; rfl, by rw [HX.out]; exact row_same HT.out (HA.out.then hc3)⟩
    · exact ⟨by rw [HX.out]; rfl, by rw [HX.out]; exact row_two (HA.out.then hc3) (hc3.keep HBW.out (fun f => f)) HSb.out HLT.out HNB.out HSUB.out (HSW.out.keep hc3 (fun _ _ f => f)) HXX.out (Chg.refl _ _) (Chg.refl _ _)⟩

set_option maxHeartbeats 2000000 in
set_option maxRecDepth 100000 in
theorem shAnyone_any {B : Nat} (ad : Nat → Addr) (b : Nat) (n g a : Int) (l : List Opn) (S : Nat → Prop) (w : World) (he : Env B ad [2, 11] w) (ht : ShAt w b l S) :
    Calls Tryd.prog 62 #[.pointer (some ⟨b, 0, none⟩), .agg #[.int .i64 n, .int .i64 g], .int .i64 a] w fun e w' => e = .returned (errV ad (shAnyone l (n, g) a)) ∧ Chg Nil w w' := by
  obtain ⟨⟨v, T, Ss, hb, hs, hnb, hsub⟩, hS, hlt⟩ := ht
  have ha := ((Chg.refl Nil w).alloc (.cells #[.int .i64 n, .int .i64 g] 29)).alloc (.cells #[.int .i64 a] 3)
  have hbh := block_alloc_old (block_alloc w (.cells #[.int .i64 n, .int .i64 g] 29)) (.cells #[.int .i64 a] 3)
  have hba := block_alloc (w.alloc (.cells #[.int .i64 n, .int .i64 g] 29)) (.cells #[.int .i64 a] 3)
  simp only [World.size_alloc] at hba
  have a0 := cell_of hba 0
  have b0 := cell_of (ha.keep hb (fun f => f)) 0
  have gb := lt_of_block hb
  simp at a0 b0
  have HI := Lib.hid (hasOpen_any (fun x => x.1 == (n, g) && mtP x.2.2.2 a) 136 #[.pointer (some ⟨w.heap.size, 0, none⟩), .pointer (some ⟨w.heap.size + 1, 0, none⟩)] entersAnyone _ (hs.keep ha (fun _ _ f => f)) (fun W x hW => anyone1_any n g a x w.heap.size (w.heap.size + 1) _ _ W (hW.keep hbh (fun f => f)) (hW.keep hba (fun f => f))))
  have HA := Lib.hid ha
  have HE := Lib.hid (he.keepN ha)
  have HR := Lib.hid (right_any a 0)
  clear he hb hs ha hbh hba hlt hsub
  by_cases hr : rightP a 0 = false
  · have HX := Lib.hid (show shAnyone l (n, g) a = 2 by unfold shAnyone; rw [if_pos hr])
    rw [hr] at HR
    obtain ⟨q1, q2⟩ := HE.out.get (c := 2) (by simp)
    simp only [gl] at q1 q2
    clear hr
    go_enter Tryd.func62, Tryd.ntmps62
    go_wp2_with fail
    refine (HR.out _).mono ?_
    rintro e w2 ⟨rfl, rfl⟩
    go_wp2_with fail
    go_ret
    exact ⟨by rw [HX.out]; rfl, HA.out⟩
  rw [show rightP a 0 = true by simpa using hr] at HR
  cases hany : l.any (fun x => x.1 == (n, g) && mtP x.2.2.2 a)
  case' true => have HX := Lib.hid (show shAnyone l (n, g) a = 11 by unfold shAnyone; rw [if_neg hr, hany]; rfl)
  case' false => have HX := Lib.hid (show shAnyone l (n, g) a = 0 by unfold shAnyone; rw [if_neg hr, hany]; rfl)
  all_goals
    rw [hany] at HI
    clear hany hr
    go_enter Tryd.func62, Tryd.ntmps62
    go_wp2_with fail
    refine (HR.out _).mono ?_
    rintro e w2 ⟨rfl, rfl⟩
    go_wp2_with fail
    refine HI.out.mono ?_
    rintro e w3 ⟨rfl, hc3⟩
    obtain ⟨q1, q2⟩ := (HE.out.keepN hc3).get (c := 11) (by simp)
    simp only [gl] at q1 q2
    go_wp2_with fail
    go_ret
    exact ⟨by rw [HX.out]; rfl, HA.out.then hc3⟩
end Go.Proofs.YtofhnglgebllbaaDoor
