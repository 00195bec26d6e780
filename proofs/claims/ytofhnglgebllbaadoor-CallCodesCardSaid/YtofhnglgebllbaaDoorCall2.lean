/- package call: Decode by contract; the reference's RequestOf. -/
import Derived.Test.YtofhnglgebllbaaDoorCall1
import Derived.Test.YtofhnglgebllbaaDoorXdr11
namespace Go.Proofs.YtofhnglgebllbaaDoor
open Go.RowKit Go.Lib
set_option linter.unusedVariables false
set_option linter.unusedSimpArgs false

theorem rdNum8_cases (s : ByteArray) : (∃ (q : Nat) (r : ByteArray), rdNum s 8 (fun q => decide (q < 9223372036854775808)) = (q, r, 0) ∧ cutB s 8 = ((q : Int), r) ∧ r.size ≤ s.size ∧ q < 9223372036854775808) ∨ (rdNum s 8 (fun q => decide (q < 9223372036854775808)) = (0, s, 1) ∧ cutB s 8 = (-1, s)) := by
  unfold rdNum cutB
  by_cases h : 8 ≤ s.size ∧ decide (numK s 8 < 9223372036854775808) = true
  · rw [if_pos h, if_pos ⟨h.1, fun _ => by simpa using h.2⟩]
    exact .inl ⟨_, _, rfl, rfl, by rw [ByteArray.size_extract]; omega, by simpa using h.2⟩
  · rw [if_neg h, if_neg (fun e => h ⟨e.1, by simpa using e.2 rfl⟩)]; exact .inr ⟨rfl, rfl⟩
theorem rdItem_cases (s : ByteArray) (most : Int) : (∃ t r, rdItem s most = (t, r, 0) ∧ cutI s most = (t, r, true) ∧ r.size ≤ s.size) ∨ (rdItem s most = (⟨#[]⟩, s, 1) ∧ cutI s most = (⟨#[]⟩, s, false)) := by
  by_cases h : itemOk s most
  · exact .inl ⟨_, _, rdItem_yes h, cutI_yes h, by rw [ByteArray.size_extract]; omega⟩
  · exact .inr ⟨rdItem_no h, cutI_no h⟩
theorem reqD_no1 {s : ByteArray} (h : rdNum s 8 (fun q => decide (q < 9223372036854775808)) = (0, s, 1)) : reqD s = (0, ⟨#[]⟩, 1) := by
  unfold reqD; rw [h]; rfl
theorem reqD_no2 {s r : ByteArray} {q : Nat} (h : rdNum s 8 (fun q => decide (q < 9223372036854775808)) = (q, r, 0)) (h2 : rdItem r 4000 = (⟨#[]⟩, r, 1)) : reqD s = (0, ⟨#[]⟩, 1) := by
  unfold reqD; rw [h]; simp only [h2]
theorem reqD_no3 {s r t r2 : ByteArray} {q : Nat} (h : rdNum s 8 (fun q => decide (q < 9223372036854775808)) = (q, r, 0)) (h2 : rdItem r 4000 = (t, r2, 0)) (h3 : r2 ≠ ⟨#[]⟩) : reqD s = (0, ⟨#[]⟩, 1) := by
  unfold reqD; rw [h]; simp only [h2, if_neg h3]
theorem reqD_yes {s r t : ByteArray} {q : Nat} (h : rdNum s 8 (fun q => decide (q < 9223372036854775808)) = (q, r, 0)) (h2 : rdItem r 4000 = (t, ⟨#[]⟩, 0)) : reqD s = ((q : Int), t, 0) := by
  unfold reqD; rw [h]; simp only [h2, if_true]
theorem reqD_cases (s : ByteArray) : (reqD s).2.2 = 0 ∨ reqD s = (0, ⟨#[]⟩, 1) := by
  rcases rdNum8_cases s with ⟨q, r, h1, _⟩ | ⟨h1, _⟩
  · rcases rdItem_cases r 4000 with ⟨t, r2, h2, _⟩ | ⟨h2, _⟩
    · by_cases h3 : r2 = ⟨#[]⟩
      · subst h3; rw [reqD_yes h1 h2]; exact .inl rfl
      · exact .inr (reqD_no3 h1 h2 h3)
    · exact .inr (reqD_no2 h1 h2)
  · exact .inr (reqD_no1 h1)

theorem store2 {w : World} {r : Nat} {T : TypeId} {a0 a1 : Value} (h : w.heap[r]? = some (.cells #[a0, a1] T (0, 0))) (u v : Value) :
    ∃ W, W = ((w.setCell ⟨r, 0, none⟩ u).setCell ⟨r, 1, none⟩ v) ∧ W.heap[r]? = some (.cells #[u, v] T (0, 0)) ∧ Chg (· = r) w W := by
  refine ⟨_, rfl, ?_, (chg_at w r 0 _).then (chg_at _ r 1 _)⟩
  have := block_setCell (block_setCell h 0 u) 1 v
  simpa using this
theorem newReader_at (s : ByteArray) (b : Nat) (w : World) (hb : b = w.heap.size) :
    Calls Tryd.prog 152 #[.string s] w fun e w' => e = .returned (.pointer (some ⟨b, 0, none⟩)) ∧ Chg Nil w w' ∧ RdAt w' b s := by
  subst hb
  exact (newReader_any s w).mono fun e w' ⟨h1, h2, h3, _⟩ => ⟨h1, h2, h3⟩
set_option maxHeartbeats 2000000 in
set_option maxRecDepth 100000 in
theorem decode_any {B : Nat} (ad : Nat → Addr) (s : ByteArray) (w : World) (he : Env B ad [1] w) (hs : s.size ≤ 1000000) :
    Calls Tryd.prog 85 #[.string s] w fun e w' => e = .returned (.tuple #[reqV (reqD s).1 (reqD s).2.1, errV ad (reqD s).2.2]) ∧ Chg Nil w w' := by
  have ha := (Chg.refl Nil w).alloc (.cells #[.int .i64 0, .string ⟨#[]⟩] 149)
  have HR := Lib.hid (block_alloc w (.cells #[.int .i64 0, .string ⟨#[]⟩] 149))
  have hBs := he.size
  have HE := Lib.hid (he.keepN ha)
  have HA := Lib.hid ha
  clear he ha
  rcases rdNum8_cases s with ⟨q, r, h1, _, hr, hq⟩ | ⟨h1, _⟩
  · have HL := Lib.hid h1
    rcases rdItem_cases r 4000 with ⟨t, r2, h2, _, hr2⟩ | ⟨h2, _⟩
    · have HI := Lib.hid h2
      by_cases h3 : r2 = ⟨#[]⟩
      · subst h3
        have HX := Lib.hid (reqD_yes h1 h2)
        clear h1 h2
        go_enter Tryd.func85, Tryd.ntmps85
        go_wp2_with fail
        refine (newReader_at s (w.heap.size + 1) _ (by simp)).mono ?_
        rintro e w1 ⟨rfl, hc1, ht1⟩
        have HE1 := Lib.hid (HE.out.keepN hc1)
        have HC1 := Lib.hid (HA.out.then hc1)
        have HR1 := Lib.hid (hc1.keep HR.out (fun f => f))
        have HT1 := Lib.hid ht1
        clear hc1 ht1
        go_wp2_with fail
        refine (rlong_any (B := B) ad (w.heap.size + 1) s w1 HE1.out (by omega) HT1.out (by omega)).mono ?_
        rintro e w2 ⟨rfl, hc2, ht2⟩
        rw [HL.out] at ht2 ⊢
        have HC2 := Lib.hid (HC1.out.trans hc2 (fun x hx e => by have : x = w.heap.size + 1 := e; omega))
        have HE2 := Lib.hid (HE1.out.keep hc2 (fun x e => by have : x = w.heap.size + 1 := e; omega))
        have HR2 := Lib.hid (hc2.keep HR1.out (fun e => by have : w.heap.size = w.heap.size + 1 := e; omega))
        have HT2 := Lib.hid ht2
        clear ht2 hc2
        simp only [errV_zero]
        go_wp2_with fail
        refine (rbytes_any (B := B) ad (w.heap.size + 1) r 4000 w2 HE2.out (by omega) HT2.out (by omega)).mono ?_
        rintro e w3 ⟨rfl, hc3, ht3⟩
        rw [HI.out] at ht3 ⊢
        have HC3 := Lib.hid (HC2.out.trans hc3 (fun x hx e => by have : x = w.heap.size + 1 := e; omega))
        have HE3 := Lib.hid (HE2.out.keep hc3 (fun x e => by have : x = w.heap.size + 1 := e; omega))
        have HR3 := Lib.hid (hc3.keep HR2.out (fun e => by have : w.heap.size = w.heap.size + 1 := e; omega))
        have HT3 := Lib.hid ht3
        clear ht3 hc3
        simp only [errV_zero]
        go_wp2_with fail
        refine (rend_any (B := B) ad (w.heap.size + 1) ⟨#[]⟩ w3 HE3.out HT3.out).mono ?_
        rintro e w4 ⟨rfl, hc4⟩
        rw [if_pos rfl]
        have HC4 := Lib.hid (HC3.out.then hc4)
        have HR4 := Lib.hid (hc4.keep HR3.out (fun f => f))
        clear hc4
        simp only [errV_zero]
        have hr := HR4.out
        have r0 := cell_of hr 0
        have r1 := cell_of hr 1
        have f0 := free_of hr 0
        have f1 := free_of hr 1
        have gr := lt_of_block hr
        simp at r0 r1
        clear hr
        go_wp2_with fail
        obtain ⟨W, hW, q1, q2⟩ := store2 HR4.out (.int .i64 q) (.string t)
        rw [← hW]
        clear hW
        have k0 := cell_of q1 0
        have k1 := cell_of q1 1
        simp at k0 k1
        (try simp only [Exit.inBlock, Exit.then])
        refine bodyPost_ret (by simp [results, Tryd.results85, go_sem, k0, k1]; try rfl) rfl ?_
        exact ⟨by rw [HX.out]; rfl, HC4.out.trans q2 (fun x hx e => by have : x = w.heap.size := e; omega)⟩
      · have HX := Lib.hid (reqD_no3 h1 h2 h3)
        have H3 := Lib.hid h3
        clear h1 h2 h3
        go_enter Tryd.func85, Tryd.ntmps85
        go_wp2_with fail
        refine (newReader_at s (w.heap.size + 1) _ (by simp)).mono ?_
        rintro e w1 ⟨rfl, hc1, ht1⟩
        have HE1 := Lib.hid (HE.out.keepN hc1)
        have HC1 := Lib.hid (HA.out.then hc1)
        have HR1 := Lib.hid (hc1.keep HR.out (fun f => f))
        have HT1 := Lib.hid ht1
        clear hc1 ht1
        go_wp2_with fail
        refine (rlong_any (B := B) ad (w.heap.size + 1) s w1 HE1.out (by omega) HT1.out (by omega)).mono ?_
        rintro e w2 ⟨rfl, hc2, ht2⟩
        rw [HL.out] at ht2 ⊢
        have HC2 := Lib.hid (HC1.out.trans hc2 (fun x hx e => by have : x = w.heap.size + 1 := e; omega))
        have HE2 := Lib.hid (HE1.out.keep hc2 (fun x e => by have : x = w.heap.size + 1 := e; omega))
        have HR2 := Lib.hid (hc2.keep HR1.out (fun e => by have : w.heap.size = w.heap.size + 1 := e; omega))
        have HT2 := Lib.hid ht2
        clear ht2 hc2
        simp only [errV_zero]
        go_wp2_with fail
        refine (rbytes_any (B := B) ad (w.heap.size + 1) r 4000 w2 HE2.out (by omega) HT2.out (by omega)).mono ?_
        rintro e w3 ⟨rfl, hc3, ht3⟩
        rw [HI.out] at ht3 ⊢
        have HC3 := Lib.hid (HC2.out.trans hc3 (fun x hx e => by have : x = w.heap.size + 1 := e; omega))
        have HE3 := Lib.hid (HE2.out.keep hc3 (fun x e => by have : x = w.heap.size + 1 := e; omega))
        have HR3 := Lib.hid (hc3.keep HR2.out (fun e => by have : w.heap.size = w.heap.size + 1 := e; omega))
        have HT3 := Lib.hid ht3
        clear ht3 hc3
        simp only [errV_zero]
        go_wp2_with fail
        refine (rend_any (B := B) ad (w.heap.size + 1) r2 w3 HE3.out HT3.out).mono ?_
        rintro e w4 ⟨rfl, hc4⟩
        rw [if_neg H3.out]
        have HC4 := Lib.hid (HC3.out.then hc4)
        have HR4 := Lib.hid (hc4.keep HR3.out (fun f => f))
        clear hc4
        rw [errV_pos (ad := ad) (c := 1) (by decide)]
        have hr := HR4.out
        have r0 := cell_of hr 0
        have r1 := cell_of hr 1
        have f0 := free_of hr 0
        have f1 := free_of hr 1
        have gr := lt_of_block hr
        simp at r0 r1
        clear hr
        go_wp2_with fail
        obtain ⟨W, hW, q1, q2⟩ := store2 HR4.out (.int .i64 0) (.string ⟨#[]⟩)
        rw [← hW]
        clear hW
        have k0 := cell_of q1 0
        have k1 := cell_of q1 1
        simp at k0 k1
        (try simp only [Exit.inBlock, Exit.then])
        refine bodyPost_ret (by simp [results, Tryd.results85, go_sem, k0, k1]; try rfl) rfl ?_
        exact ⟨by rw [HX.out]; rfl, HC4.out.trans q2 (fun x hx e => by have : x = w.heap.size := e; omega)⟩
    · have HX := Lib.hid (reqD_no2 h1 h2)
      have HI := Lib.hid h2
      clear h1 h2
      go_enter Tryd.func85, Tryd.ntmps85
      go_wp2_with fail
      refine (newReader_at s (w.heap.size + 1) _ (by simp)).mono ?_
      rintro e w1 ⟨rfl, hc1, ht1⟩
      have HE1 := Lib.hid (HE.out.keepN hc1)
      have HC1 := Lib.hid (HA.out.then hc1)
      have HR1 := Lib.hid (hc1.keep HR.out (fun f => f))
      have HT1 := Lib.hid ht1
      clear hc1 ht1
      go_wp2_with fail
      refine (rlong_any (B := B) ad (w.heap.size + 1) s w1 HE1.out (by omega) HT1.out (by omega)).mono ?_
      rintro e w2 ⟨rfl, hc2, ht2⟩
      rw [HL.out] at ht2 ⊢
      have HC2 := Lib.hid (HC1.out.trans hc2 (fun x hx e => by have : x = w.heap.size + 1 := e; omega))
      have HE2 := Lib.hid (HE1.out.keep hc2 (fun x e => by have : x = w.heap.size + 1 := e; omega))
      have HR2 := Lib.hid (hc2.keep HR1.out (fun e => by have : w.heap.size = w.heap.size + 1 := e; omega))
      have HT2 := Lib.hid ht2
      clear ht2 hc2
      simp only [errV_zero]
      go_wp2_with fail
      refine (rbytes_any (B := B) ad (w.heap.size + 1) r 4000 w2 HE2.out (by omega) HT2.out (by omega)).mono ?_
      rintro e w3 ⟨rfl, hc3, ht3⟩
      rw [HI.out] at ht3 ⊢
      have HC3 := Lib.hid (HC2.out.trans hc3 (fun x hx e => by have : x = w.heap.size + 1 := e; omega))
      have HE3 := Lib.hid (HE2.out.keep hc3 (fun x e => by have : x = w.heap.size + 1 := e; omega))
      have HR3 := Lib.hid (hc3.keep HR2.out (fun e => by have : w.heap.size = w.heap.size + 1 := e; omega))
      have HT3 := Lib.hid ht3
      clear ht3 hc3
      rw [errV_pos (ad := ad) (c := 1) (by decide)]
      have hr := HR3.out
      have r0 := cell_of hr 0
      have r1 := cell_of hr 1
      have f0 := free_of hr 0
      have f1 := free_of hr 1
      have gr := lt_of_block hr
      simp at r0 r1
      clear hr
      go_wp2_with fail
      obtain ⟨W, hW, q1, q2⟩ := store2 HR3.out (.int .i64 0) (.string ⟨#[]⟩)
      rw [← hW]
      clear hW
      have k0 := cell_of q1 0
      have k1 := cell_of q1 1
      simp at k0 k1
      (try simp only [Exit.inBlock, Exit.then])
      refine bodyPost_ret (by simp [results, Tryd.results85, go_sem, k0, k1]; try rfl) rfl ?_
      exact ⟨by rw [HX.out]; rfl, HC3.out.trans q2 (fun x hx e => by have : x = w.heap.size := e; omega)⟩
  · have HX := Lib.hid (reqD_no1 h1)
    have HL := Lib.hid h1
    clear h1
    go_enter Tryd.func85, Tryd.ntmps85
    go_wp2_with fail
    refine (newReader_at s (w.heap.size + 1) _ (by simp)).mono ?_
    rintro e w1 ⟨rfl, hc1, ht1⟩
    have HE1 := Lib.hid (HE.out.keepN hc1)
    have HC1 := Lib.hid (HA.out.then hc1)
    have HR1 := Lib.hid (hc1.keep HR.out (fun f => f))
    have HT1 := Lib.hid ht1
    clear hc1 ht1
    go_wp2_with fail
    refine (rlong_any (B := B) ad (w.heap.size + 1) s w1 HE1.out (by omega) HT1.out (by omega)).mono ?_
    rintro e w2 ⟨rfl, hc2, ht2⟩
    rw [HL.out] at ht2 ⊢
    have HC2 := Lib.hid (HC1.out.trans hc2 (fun x hx e => by have : x = w.heap.size + 1 := e; omega))
    have HE2 := Lib.hid (HE1.out.keep hc2 (fun x e => by have : x = w.heap.size + 1 := e; omega))
    have HR2 := Lib.hid (hc2.keep HR1.out (fun e => by have : w.heap.size = w.heap.size + 1 := e; omega))
    have HT2 := Lib.hid ht2
    clear ht2 hc2
    rw [errV_pos (ad := ad) (c := 1) (by decide)]
    have hr := HR2.out
    have r0 := cell_of hr 0
    have r1 := cell_of hr 1
    have f0 := free_of hr 0
    have f1 := free_of hr 1
    have gr := lt_of_block hr
    simp at r0 r1
    clear hr
    go_wp2_with fail
    obtain ⟨W, hW, q1, q2⟩ := store2 HR2.out (.int .i64 0) (.string ⟨#[]⟩)
    rw [← hW]
    clear hW
    have k0 := cell_of q1 0
    have k1 := cell_of q1 1
    simp at k0 k1
    (try simp only [Exit.inBlock, Exit.then])
    refine bodyPost_ret (by simp [results, Tryd.results85, go_sem, k0, k1]; try rfl) rfl ?_
    exact ⟨by rw [HX.out]; rfl, HC2.out.trans q2 (fun x hx e => by have : x = w.heap.size := e; omega)⟩

set_option maxHeartbeats 1000000 in
set_option maxRecDepth 100000 in
theorem requestOf_any (s : ByteArray) (w : World) (hs : s.size ≤ 1000000) :
    Calls Tryd.prog 86 #[.string s] w fun e w' => e = .returned (.tuple #[.int .i64 (reqD s).1, .string (reqD s).2.1, .bool ((reqD s).2.2 == 0)]) ∧ Chg Nil w w' := by
  have HC := Lib.hid (cut8_any s w (by omega))
  rcases rdNum8_cases s with ⟨q, r, h1, hc, hr, hq⟩ | ⟨h1, hc⟩
  · rw [hc] at HC
    rcases rdItem_cases r 4000 with ⟨t, r2, h2, hi, hr2⟩ | ⟨h2, hi⟩
    · by_cases h3 : r2 = ⟨#[]⟩
      · subst h3
        have HX := Lib.hid (reqD_yes h1 h2)
        have HI := Lib.hid hi
        clear h1 h2 hc hi
        go_enter Tryd.func86, Tryd.ntmps86
        go_wp2_with fail
        refine HC.out.mono ?_
        rintro e w1 ⟨rfl, hc1⟩
        go_wp2_with fail
        refine (cutItem_any r 4000 w1 (by omega)).mono ?_
        rintro e w2 ⟨rfl, hc2⟩
        rw [HI.out]
        go_wp2_with fail
        go_ret3
        exact ⟨by rw [HX.out]; rfl, hc1.then hc2⟩
      · have HX := Lib.hid (reqD_no3 h1 h2 h3)
        have HI := Lib.hid hi
        have hz := txt_ne (l := []) h3
        clear h1 h2 h3 hc hi
        go_enter Tryd.func86, Tryd.ntmps86
        go_wp2_with fail
        refine HC.out.mono ?_
        rintro e w1 ⟨rfl, hc1⟩
        go_wp2_with fail
        refine (cutItem_any r 4000 w1 (by omega)).mono ?_
        rintro e w2 ⟨rfl, hc2⟩
        rw [HI.out]
        go_wp2_with fail
        go_ret3
        exact ⟨by rw [HX.out]; rfl, hc1.then hc2⟩
    · have HX := Lib.hid (reqD_no2 h1 h2)
      have HI := Lib.hid hi
      clear h1 h2 hc hi
      go_enter Tryd.func86, Tryd.ntmps86
      go_wp2_with fail
      refine HC.out.mono ?_
      rintro e w1 ⟨rfl, hc1⟩
      go_wp2_with fail
      refine (cutItem_any r 4000 w1 (by omega)).mono ?_
      rintro e w2 ⟨rfl, hc2⟩
      rw [HI.out]
      go_wp2_with fail
      go_ret3
      exact ⟨by rw [HX.out]; rfl, hc1.then hc2⟩
  · rw [hc] at HC
    have HX := Lib.hid (reqD_no1 h1)
    clear h1 hc
    go_enter Tryd.func86, Tryd.ntmps86
    go_wp2_with fail
    refine HC.out.mono ?_
    rintro e w1 ⟨rfl, hc1⟩
    go_wp2_with fail
    go_ret3
    exact ⟨by rw [HX.out]; rfl, hc1⟩
end Go.Proofs.YtofhnglgebllbaaDoor
