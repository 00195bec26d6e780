/- pigeonholesref1.Bytes: Write by contract. -/
import Derived.Test.YtfekiagdnlnggaaDoorBytes
import Derived.IntWalk
namespace Go.Proofs.YtfekiagdnlnggaaDoor
open Go.RowKit
set_option linter.unusedVariables false
set_option linter.unusedSimpArgs false

theorem holeC_one {c : Bool} : ∀ u ∈ holeC c, u.oneCell' = true := by
  intro u hu; simp [holeC] at hu; subst hu; rfl
theorem bytes_next {S S1 : Nat → Prop} {w w1 w2 : World} {b : Nat} {s' : ByteArray} {h' : List Bool} (hS : ∀ x, S x → x < w.heap.size) (c1 : Chg S w w1) (g1 : Grow S S1 w w1) (q : BytesPost S1 w1 b s' h' w2) : BytesPost S w b s' h' w2 := by
  obtain ⟨c2, S2, a2, g2⟩ := q
  have hz := c1.size
  have hz2 := c2.size
  refine ⟨c1.trans c2 (fun x hx h => by rcases g1 x h with h | h; exact h; omega), S2, a2, fun x hx => ?_⟩
  rcases g2 x hx with h | h
  · rcases g1 x h with h | h
    · exact .inl h
    · exact .inr ⟨h.1, by omega⟩
  · exact .inr ⟨by omega, h.2⟩
def bWrite (s : ByteArray) (h : List Bool) (p : Int) (t : ByteArray) : ByteArray × List Bool × Nat :=
  if p < 0 ∨ 4096 < p ∨ 4096 - p < t.size then (s, h, 2) else if t.size = 0 then (s, h, 0) else (⟨(wroteL s.data.toList p.toNat t.data.toList).toArray⟩, marks h (p.toNat / 64) ((p.toNat + t.size - 1) / 64 + 1 - p.toNat / 64), 0)
theorem wrote_size (s t : ByteArray) (p : Nat) : (⟨(wroteL s.data.toList p t.data.toList).toArray⟩ : ByteArray).size = max s.size (p + t.size) := by
  have h1 : t.data.toList.length = t.size := Array.length_toList
  have h2 : s.data.toList.length = s.size := Array.length_toList
  show (wroteL s.data.toList p t.data.toList).toArray.size = _
  rw [List.size_toArray, wroteL_len, h1, h2]
theorem text_far (s t : ByteArray) (p : Nat) (hp : s.size < p) : (s ++ zerosB (p - s.size)).extract 0 p ++ t = ⟨(wroteL s.data.toList p t.data.toList).toArray⟩ := by
  apply ba_ext
  have h2 : s.data.toList.length = s.size := Array.length_toList
  have h1 : t.data.toList.length = t.size := Array.length_toList
  rw [app_list, ext_list, app_list, List.drop_zero]
  simp only [wroteL, h2]
  rw [List.drop_eq_nil_of_le (by omega), List.append_nil]
  rfl
theorem zeros_nat (m : Nat) (w : World) (h1 : m ≤ 140737488355328) : Calls Tryd.prog 49 #[.int .i64 (m : Int)] w fun e w' => e = .returned (.string (zerosB m)) ∧ Chg Nil w w' := by
  have := zeros_any (m : Int) w (by omega) (by omega)
  rwa [Int.toNat_natCast] at this
theorem text_mid (s t : ByteArray) (p : Nat) (hp : p ≤ s.size) : s.extract 0 p ++ t ++ s.extract (p + t.size) s.size = ⟨(wroteL s.data.toList p t.data.toList).toArray⟩ := by
  apply ba_ext
  have h1 : t.data.toList.length = t.size := Array.length_toList
  have h2 : s.data.toList.length = s.size := Array.length_toList
  rw [app_list, app_list, ext_list, ext_list]
  simp only [wroteL, h1, h2]
  have e : p - s.size = 0 := by omega
  rw [e, List.replicate_zero, List.append_nil, List.drop_zero, List.take_of_length_le (l := s.data.toList) (i := s.size) (by omega)]
theorem ba_app_nil (a : ByteArray) : a ++ ⟨#[]⟩ = a := by
  apply ba_ext; rw [app_list]; simp
theorem text_end (s t : ByteArray) (p : Nat) (hp : p ≤ s.size) (hq : s.size ≤ p + t.size) : s.extract 0 p ++ t = ⟨(wroteL s.data.toList p t.data.toList).toArray⟩ := by
  rw [← text_mid s t p hp]
  have : s.extract (p + t.size) s.size = ⟨#[]⟩ := by
    apply ba_ext
    rw [ext_list]
    have h2 : s.data.toList.length = s.size := Array.length_toList
    rw [List.drop_eq_nil_of_le (by simp; omega)]
  rw [this]
  apply ba_ext
  rw [app_list, app_list, app_list]; simp

set_option maxHeartbeats 2000000 in
set_option maxRecDepth 100000 in
theorem bwrite_any (b : Nat) (p : Int) (t s : ByteArray) (h : List Bool) (S : Nat → Prop) (w : World) (ht : BytesAt w b s h S) :
    Calls Tryd.prog 50 #[.pointer (some ⟨b, 0, none⟩), .int .i64 p, .string t] w fun e w' =>
      e = .returned (.int .i64 (bWrite s h p t).2.2) ∧ BytesPost S w b (bWrite s h p t).1 (bWrite s h p t).2.1 w' := by
  have HS := Lib.hid (bytes_same ht)
  have HT := Lib.hid ht
  by_cases hbad : p < 0 ∨ 4096 < p ∨ 4096 - p < t.size
  · have e1 : bWrite s h p t = (s, h, 2) := if_pos hbad
    rw [e1]
    clear e1 ht
    have hgo : p < 0 ∨ ¬ p < 0 ∧ 4096 < p ∨ ¬ p < 0 ∧ p ≤ 4096 ∧ 4096 - p < t.size := by omega
    clear hbad
    rcases hgo with h' | ⟨h', h2⟩ | ⟨h', h2, h3⟩
    all_goals
      go_enter Tryd.func50, Tryd.ntmps50
      go_wp2_with fail
      go_ret
      exact ⟨rfl, HS.out⟩
  by_cases h0 : t.size = 0
  · have e1 : bWrite s h p t = (s, h, 0) := by rw [bWrite, if_neg hbad, if_pos h0]
    obtain rfl := empty_of_size h0
    rw [e1]
    have g1 : ¬ p < 0 := by omega
    have g2 : p ≤ 4096 := by omega
    have g3 : ¬ (4096 - p < 0) := by omega
    clear e1 ht hbad h0
    go_enter Tryd.func50, Tryd.ntmps50
    go_wp2_with fail
    go_ret
    exact ⟨rfl, HS.out⟩
  obtain ⟨p, rfl⟩ : ∃ n : Nat, p = n := ⟨p.toNat, by omega⟩
  obtain ⟨k0, hk0⟩ : ∃ k, k = p / 64 := ⟨_, rfl⟩
  obtain ⟨k1, hk1⟩ : ∃ k, k = (p + t.size - 1) / 64 := ⟨_, rfl⟩
  obtain ⟨s', hs'⟩ : ∃ s' : ByteArray, s' = ⟨(wroteL s.data.toList p t.data.toList).toArray⟩ := ⟨_, rfl⟩
  have e1 : bWrite s h p t = (s', marks h k0 (k1 + 1 - k0), 0) := by rw [bWrite, if_neg hbad, if_neg h0, hs', hk0, hk1]; rfl
  rw [e1]
  have g1 : ¬ ((p : Int) < 0) := by omega
  have g2 : (p : Int) ≤ 4096 := by omega
  have g3 : ¬ (4096 - (p : Int) < (t.size : Int)) := by omega
  have g4 := isEmpty_of_size (s := t) (by omega)
  have g5 : t.size ≤ 4096 - p := by omega
  have g7 : 0 < t.size := by omega
  have q1 : (p : Int) / 64 = (k0 : Int) := by omega
  have q2 : ((p : Int) + (t.size : Int) - 1) / 64 = (k1 : Int) := by omega
  have Q2 := Lib.hid q2
  have k01 : k0 ≤ k1 := by omega
  have k64 : k1 < 64 := by omega
  have hsm := ht.small
  have hsz' : s'.size ≤ 4096 := by rw [hs', wrote_size]; omega
  obtain ⟨⟨v, T, Ss, hb, hsl, hnb, hsub⟩, hS, hlt, _, hf⟩ := ht
  have hc0 := cell_of hb 0
  have hf0 := free_of hb 0
  have hbl := lt_of_block hb
  simp only [List.getElem?_toArray, List.getElem?_cons_zero] at hc0
  have HB := Lib.hid hb
  have HZ := Lib.hid hs'
  have HL := Lib.hid hlt
  clear q2 hbad h0 e1 hk0 hk1 hs' hb hsl hnb hsub hlt
  have hgo : s.size < p ∨ (p + t.size < s.size ∧ p ≤ s.size) ∨ (p ≤ s.size ∧ s.size ≤ p + t.size) := by omega
  rcases hgo with hfar | ⟨hmid, _⟩ | ⟨_, hend⟩
  case' inl =>
    have x1 : (s.size : Int) < (p : Int) := by omega
    have x2 : ¬ ((p : Int) + (t.size : Int) < (p : Int)) := by omega
    go_enter Tryd.func50, Tryd.ntmps50
    go_wp2_with fail
    obtain ⟨z, hz⟩ : ∃ z, z = p - s.size := ⟨_, rfl⟩
    have hw1 : IntKind.i64.wrap ((p : Int) - (s.size : Int)) = (z : Int) := by rw [IntWalk.i64_in _ (by omega)]; omega
    have HZZ := Lib.hid hz
    have hz64 : z ≤ 4096 := by omega
    have hzb : (zerosB z).size ≤ 4096 := by rw [zerosB_size]; exact hz64
    clear hz
    go_region_with ((go_at_call 49; refine (zeros_nat z _ (by omega)).mono ?_; rintro e w2 ⟨rfl, hc2⟩; have c2 := (((Chg.refl Nil w).drew.then hc2).cell (p := ⟨b, 0, none⟩) hbl (fun f => f)).trans hc0; have f2 := (((Chg.refl Nil w).drew.then hc2).frozen (p := ⟨b, 0, none⟩) hbl (fun f => f)).trans hf0; have b2 := Nat.lt_of_lt_of_le hbl ((Chg.refl Nil w).drew.then hc2).size))
    all_goals
      obtain ⟨S1, hS1⟩ : ∃ S1, S1 = s ++ zerosB z := ⟨_, rfl⟩
      have hS1z : S1.size = p := by rw [hS1, ByteArray.size_append, zerosB_size, HZZ.out]; omega
      have hP1 : BytesPost S w b S1 h (w2.setCell ⟨b, 0, none⟩ (.string (s ++ zerosB z))) := by rw [← hS1]; exact bytes_text HT.out (by first | exact (Chg.refl Nil w).drew.then hc2 | exact hc2) (by omega)
      obtain ⟨w3, hw3⟩ : ∃ w3, w3 = w2.setCell ⟨b, 0, none⟩ (.string (s ++ zerosB z)) := ⟨_, rfl⟩
      rw [← hw3] at hP1 ⊢
      obtain ⟨S3, ht3⟩ := hP1.2
      have d0 : w3.cell? ⟨b, 0, none⟩ = some (.string S1) := by obtain ⟨⟨_, _, _, hb3, _⟩, _⟩ := ht3.1; simpa using cell_of hb3 0
      have d1 : w3.frozen? ⟨b, 0, none⟩ = false := by obtain ⟨⟨_, _, _, hb3, _⟩, _⟩ := ht3.1; exact free_of hb3 0
      have hex : (S1.extract 0 p).size ≤ 4096 := by rw [ByteArray.size_extract]; omega
      have y1 : p ≤ S1.size := by omega
      have y2 : S1.size ≤ p := by omega
      have y3 : (p : Int) ≤ (S1.size : Int) := by omega
      have y4 : ¬ ((p : Int) + (t.size : Int) < (S1.size : Int)) := by omega
      have HP1 := Lib.hid hP1
      have HS1 := Lib.hid hS1
      clear hS1 hS1z hw3 c2 f2 hP1 ht3 hzb
      go_wp2_with fail
      have HP0 := Lib.hid (HP1.out.trans HL.out (fun S1' h1 => bytes_text (s' := S1.extract 0 p ++ t ++ ⟨#[]⟩) h1 (Chg.refl Nil w3) (by have := text_far s t p hfar; rw [HS1.out, ba_app_nil, HZZ.out, this, ← HZ.out]; exact hsz')))
      rw [show S1.extract 0 p ++ t ++ ⟨#[]⟩ = s' from by have := text_far s t p hfar; rw [HS1.out, ba_app_nil, HZZ.out, this, ← HZ.out]] at HP0 ⊢
      obtain ⟨w0, hw0⟩ : ∃ w0, w0 = w3.setCell ⟨b, 0, none⟩ (.string s') := ⟨_, rfl⟩
      rw [← hw0] at HP0 ⊢
      clear hw0 HP1 d0 d1 x1 x2
  case' inr.inl =>
    have y1 : p ≤ s.size := by omega
    have y3 : ¬ ((s.size : Int) < (p : Int)) := by omega
    have y4 : (p : Int) + (t.size : Int) < (s.size : Int) := by omega
    have hex : (s.extract 0 p).size ≤ 4096 := by rw [ByteArray.size_extract]; omega
    have hey : (s.extract (p + t.size) s.size).size ≤ 4096 := by rw [ByteArray.size_extract]; omega
    go_enter Tryd.func50, Tryd.ntmps50
    go_wp2_with fail
    have HP0 := Lib.hid (bytes_text (s' := s.extract 0 p ++ t ++ s.extract (p + t.size) s.size) HT.out (Chg.refl Nil w) (by rw [text_mid s t p y1, ← HZ.out]; exact hsz'))
    rw [text_mid s t p y1, ← HZ.out] at HP0 ⊢
    obtain ⟨w0, hw0⟩ : ∃ w0, w0 = w.setCell ⟨b, 0, none⟩ (.string s') := ⟨_, rfl⟩
    rw [← hw0] at HP0 ⊢
    clear hw0
  case' inr.inr =>
    have y1 : p ≤ s.size := by omega
    have y3 : ¬ ((s.size : Int) < (p : Int)) := by omega
    have y4 : ¬ ((p : Int) + (t.size : Int) < (s.size : Int)) := by omega
    have hex : (s.extract 0 p).size ≤ 4096 := by rw [ByteArray.size_extract]; omega
    go_enter Tryd.func50, Tryd.ntmps50
    go_wp2_with fail
    have HP0 := Lib.hid (bytes_text (s' := s.extract 0 p ++ t ++ ⟨#[]⟩) HT.out (Chg.refl Nil w) (by rw [ba_app_nil, text_end s t p y1 hend, ← HZ.out]; exact hsz'))
    rw [ba_app_nil, text_end s t p y1 hend, ← HZ.out] at HP0 ⊢
    obtain ⟨w0, hw0⟩ : ∃ w0, w0 = w.setCell ⟨b, 0, none⟩ (.string s') := ⟨_, rfl⟩
    rw [← hw0] at HP0 ⊢
    clear hw0
  all_goals
    clear hc0 hf0
    go_loopw [8] (fun i wr => RelM s' h b k0 (k1 + 1 - k0) S w i wr) (fun i _ => (k1 + 1 - intOf i).toNat)
    case atStart => exact ⟨0, Nat.zero_le _, rfl, HP0.out⟩
    case round =>
      rename_i wr _
      obtain ⟨j, hj, rfl, hP⟩ := hrel
      obtain ⟨kk, hkk⟩ : ∃ kk, kk = k0 + j := ⟨_, rfl⟩
      obtain ⟨hh, hhh⟩ : ∃ hh, hh = marks h k0 j := ⟨_, rfl⟩
      rw [← hkk]
      rw [← hhh] at hP
      by_cases hlt1 : kk ≤ k1
      · have hhl : hh.length ≤ 64 := by rw [hhh]; have := marks_len h k0 j; omega
        have hkk64 : kk < 64 := by omega
        have hdd : (kk : Int) ≤ ((p : Int) + (t.size : Int) - 1) / 64 := by rw [Q2.out]; omega
        have HPR := Lib.hid hP
        obtain ⟨hCw, S4, ht4, hG4⟩ := hP
        have hS4' := Lib.hid hG4
        obtain ⟨⟨v4, T4, Ss4, hb4, hs4, hnb4, hsub4⟩, hS4, hlt4, hsm4, hf4⟩ := ht4
        have hbl4 := lt_of_block hb4
        have d1 := cell_of hb4 1
        simp only [List.getElem?_toArray, List.getElem?_cons_zero, List.getElem?_cons_succ] at d1
        have HB4 := Lib.hid hb4
        have HS4 := Lib.hid hs4
        have HH := Lib.hid hhh
        have HKK := Lib.hid hkk
        have HSub4 := Lib.hid hsub4
        have HLt4 := Lib.hid hlt4
        clear hb4 hs4 hhh hkk hsub4 hlt4 hG4
        go_wp2_with fail
        go_loopw [9] (fun v wr' => RelP hh b kk (.cells #[.string s', v4] T4 (0, 0)) Ss4 wr v wr') (fun v _ => kk + 1 - lenOf v)
        case atStart => exact ⟨0, Ss4, .inl rfl, by simpa using HS4.out, fun x hx => .inl hx, Chg.refl _ _, HB4.out⟩
        case round =>
          obtain ⟨m, S9, hm, hs9, h9, hC9, hb9⟩ := hrel
          have HM := Lib.hid hm
          have HS9 := Lib.hid hs9
          have H9 := Lib.hid h9
          have HB9 := Lib.hid hb9
          clear hm h9 hb9
          by_cases hle : hh.length + m ≤ kk
          · obtain ⟨a9, cap9, rfl⟩ := hs9.shape
            clear hs9
            go_wp2_with (at_builtin; refine wpList_appendS rfl _ _ 88 rfl Tryd.underlying88 info_bool rfl (by decide) rfl (HS9.out.keep ((Chg.refl Nil wr).alloc _) (fun _ _ f => f)) rfl (holeC true) rfl (cell_new_list wr (holeC true) _) holeC_one (by unfold maxLen; omega) (by omega) ?_; intro v2 w2 S2 hs2 hc2 hg2; obtain ⟨a2, cap2, rfl⟩ := hs2.shape)
            go_roundw
            case rel => exact relP_step hle H9.out hC9 HB9.out hnb4 hbl4 hs2 hc2 hg2
            case measure => simp [lenOf]; omega
          · have hL : hh ++ List.replicate m true = hh ++ List.replicate (kk + 1 - hh.length) true := by
              have : m = kk + 1 - hh.length := by rcases HM.out with h | h <;> omega
              rw [this]
            obtain ⟨g9, off9, cap9, cs9, rfl, _, hn9, hcm9, _, hcl9, hg9, hgl9⟩ := hs9.place (by omega)
            have hgb : g9 ≠ b := fun e => by
              subst e
              rcases H9.out _ hg9 with h | h
              · exact hnb4 h
              · omega
            have hgb2 : b ≠ g9 := fun e => hgb e.symm
            have z0 := hs9.elem holeC_len (k := kk) (x := ((hh ++ List.replicate m true)[kk]'(by simp; omega))) (List.getElem?_eq_getElem _) 0 _ rfl
            simp only [Nat.mul_one, Nat.add_zero] at z0
            obtain ⟨z1, z2, z3⟩ := z0
            have d2 := cell_of HB9.out 1
            have d3 := free_of HB9.out 1
            have d4 := lt_of_block HB9.out
            simp only [List.getElem?_toArray, List.getElem?_cons_zero, List.getElem?_cons_succ] at d2
            have u1 : kk < hh.length + m := by omega
            have u2 : (kk : Int) < ((hh.length + m : Nat) : Int) := by omega
            have u3 : (0 : Int) ≤ (kk : Int) := by omega
            have u4 : ¬ ((hh.length : Int) + (m : Int) ≤ (kk : Int)) := by omega
            have HFin := Lib.hid (bytes_mark hS4 HLt4.out HSub4.out hnb4 hsm4 hkk64 hhl hL (by simp) HS9.out H9.out hC9 HB9.out)
            have HFin2 := Lib.hid (bytes_next HL.out hCw hS4'.out HFin.out)
            rw [show markH hh kk = marks h k0 (j + 1) by rw [HH.out, HKK.out]; rfl] at HFin2
            clear hcl9 hs9 hL
            go_wp2_with fail
            go_roundw
            case rel => exact ⟨j + 1, by have := HKK.out; omega, by rw [show k0 + (j + 1) = kk + 1 by have := HKK.out; omega]; go_num, HFin2.out⟩
            case measure => simp [intOf]; omega
      · have hjn : j = k1 + 1 - k0 := by omega
        have HPP : Hid (BytesPost S w b s' (marks h k0 (k1 + 1 - k0)) wr) := Lib.hid (by rw [← hjn, ← hhh]; exact hP)
        have hdd : ¬ ((kk : Int) ≤ ((p : Int) + (t.size : Int) - 1) / 64) := by rw [Q2.out]; omega
        clear hjn hhh hkk hP
        go_wp2_with fail
        go_ret
        exact ⟨rfl, HPP.out⟩
end Go.Proofs.YtfekiagdnlnggaaDoor
