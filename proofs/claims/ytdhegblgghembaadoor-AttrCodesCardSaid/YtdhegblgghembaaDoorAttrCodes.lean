/- The walk of law AttrCodes. -/
import Derived.Test.YtdhegblgghembaaDoorAttr5
import Derived.Test.YtdhegblgghembaaDoorAttr6
import Derived.Test.YtdhegblgghembaaDoorAttrSame
namespace Go.Proofs.YtdhegblgghembaaDoor
open Go.RowKit Go.Lib
set_option linter.unusedVariables false
set_option linter.unusedSimpArgs false

theorem attrF_le {W : World} {B : Nat} {x : XAttr} (h : shAttr.At W B x) (f : Nat) : attrF x f ≤ 9223372036854775807 := by
  obtain ⟨h0, h1, h2, h3, ⟨h4, h5, _⟩, _⟩ := h
  unfold attrF
  split
  · exact h0.2
  · exact h1.2
  · exact h2.2
  · exact h3.2
  · exact h4.2
  · exact h5.2
  · omega
theorem wF_c (a : Nat → Int) (t : List UInt8) (f : Nat) : (wF a t f).2 ≤ 15 := by unfold wF; split; exact wLong_c _ _; exact wInt_c _ _
theorem encS_c (a : Nat → Int) : ∀ (fs : List Nat) (r : List UInt8 × Nat), r.2 ≤ 15 → (encS a r fs).2 ≤ 15
  | [], r, h => h
  | f :: fs, r, h => by
    show (encS a (encStep a r f) fs).2 ≤ 15
    refine encS_c a fs _ ?_
    unfold encStep
    split
    · exact wF_c _ _ _
    · exact h
theorem encA_c (a : Nat → Int) (m : Nat) : (encA a m).2 ≤ 15 := by
  unfold encA
  split
  · simp
  · exact encS_c a _ _ (by simp)
theorem encA_empty {a : Nat → Int} {m : Nat} (h : (encA a m).2 ≠ 0) : (encA a m).1 = ⟨#[]⟩ := by
  unfold encA at h ⊢
  split
  · rename_i h1; rw [if_pos h1] at h; exact absurd rfl h
  · rfl
theorem rdF_big (a : Nat → Int) (t0 : List UInt8) (f : Nat) (u : List UInt8) (ha : a f ≤ 9223372036854775807) (h : refF a t0 f = (t0 ++ u, 0)) (rest : List UInt8) : ∃ n : Nat, a f = n ∧ rdF ⟨(u ++ rest).toArray⟩ f = (n, ⟨rest.toArray⟩, 0) := by
  unfold refF at h
  split at h
  · rename_i hb
    have := congrArg Prod.snd h
    simp at this
  · rename_i hb
    have h1 := congrArg Prod.fst h
    simp only [List.append_cancel_left_eq] at h1
    subst h1
    refine ⟨(a f).toNat, by omega, ?_⟩
    unfold rdF
    cases hl : longF f with
    | true =>
      simp only [if_true]
      exact rdNum_big _ rfl (by simp; omega) (by simp; omega)
    | false =>
      simp only [Bool.false_eq_true, if_false]
      have : a f < 4294967296 := by
        rcases Int.lt_or_le (a f) 4294967296 with h | h
        · exact h
        · exact absurd (.inr ⟨hl, h⟩) hb
      exact rdNum_big _ rfl (by simp; omega) rfl
theorem refF_shape (a : Nat → Int) (t : List UInt8) (f : Nat) : (∃ u, refF a t f = (t ++ u, 0) ∧ u.length ≤ 8) ∨ refF a t f = (t, 2) := by
  unfold refF
  split
  · exact .inr rfl
  · exact .inl ⟨_, rfl, by rw [bigL_len]; split <;> omega⟩
/-- What is encoded is decoded. -/
theorem enc_dec (a : Nat → Int) (ha : ∀ f, a f ≤ 9223372036854775807) : ∀ (fs : List Nat) (t0 t : List UInt8) (b : Nat → Int), t0.length + 8 * fs.length ≤ 4000 → encS a (t0, 0) fs = (t, 0) →
    ∃ u b', t = t0 ++ u ∧ (∀ rest, decS (⟨(u ++ rest).toArray⟩, b) fs = some (⟨rest.toArray⟩, b')) ∧ (∀ f, f ∈ fs → b' f = a f) ∧ (∀ f, ¬ f ∈ fs → b' f = b f)
  | [], t0, t, b, _, h => ⟨[], b, by have := congrArg Prod.fst h; simpa [encS] using this.symm, fun rest => by simp [decS], fun f hf => (by cases hf), fun f _ => rfl⟩
  | f :: fs, t0, t, b, hl, h => by
    simp only [List.length_cons] at hl
    change encS a (encStep a (t0, 0) f) fs = (t, 0) at h
    unfold encStep at h
    rw [if_pos rfl] at h
    simp only at h
    rw [refF_wF a t0 f (by omega)] at h
    rcases refF_shape a t0 f with ⟨u1, h1, hu1⟩ | h1
    · rw [h1] at h
      have hlen : (t0 ++ u1).length + 8 * fs.length ≤ 4000 := by rw [List.length_append]; omega
      obtain ⟨n, hn, _⟩ := rdF_big a t0 f u1 (ha f) h1 []
      obtain ⟨u, b', e1, e2, e3, e4⟩ := enc_dec a ha fs (t0 ++ u1) t (setF b f n) hlen h
      refine ⟨u1 ++ u, b', by rw [e1, List.append_assoc], fun rest => ?_, fun g hg => ?_, fun g hg => ?_⟩
      · obtain ⟨n', hn', hr⟩ := rdF_big a t0 f u1 (ha f) h1 (u ++ rest)
        have hnn : n' = n := by omega
        rw [hnn] at hr
        rw [List.append_assoc, decS, hr]
        simp only [if_true]
        exact e2 rest
      · by_cases hgf : g ∈ fs
        · exact e3 g hgf
        · rcases List.mem_cons.1 hg with rfl | hg
          · rw [e4 g hgf]; simp [setF, hn]
          · exact absurd hg hgf
      · rw [List.mem_cons] at hg
        rw [e4 g (fun h => hg (.inr h))]
        unfold setF
        rw [if_neg (fun e => hg (.inl e))]
    · rw [h1, encS_bad a t0 2 (by omega)] at h
      have := congrArg Prod.snd h
      simp at this
theorem idxs_flds_len (m : Nat) : ((idxs m 5).flatMap flds).length ≤ 10 := by
  have h1 := idxs_len m 5
  have : ∀ l : List Nat, (l.flatMap flds).length ≤ 2 * l.length := by
    intro l
    induction l with
    | nil => simp
    | cons x l ih => simp only [List.flatMap_cons, List.length_append, List.length_cons]; have := (flds_len x).1; omega
  have := this (idxs m 5)
  omega
theorem sameF_true {a b : Nat → Int} : ∀ {l : List Nat}, (∀ f ∈ l, b f = a f) → sameF a b l = true
  | [], _ => rfl
  | f :: l, h => by
    simp only [sameF, List.all_cons, Bool.and_eq_true, beq_iff_eq]
    exact ⟨(h f (by simp)).symm, sameF_true (fun g hg => h g (by simp [hg]))⟩
theorem codes_back (a : Nat → Int) (m : Nat) (hm : m ≤ 31) (ha : ∀ f, a f ≤ 9223372036854775807) (h : (encA a m).2 = 0) :
    ∃ b, decA (encA a m).1 = (b, m, 0) ∧ sameF a b ((idxs m 5).flatMap flds) = true ∧ (encA a m).1.size ≤ 1000000 := by
  unfold encA at h ⊢
  by_cases hc : (encS a (bigL 4 m, 0) ((idxs m 5).flatMap flds)).2 = 0
  · rw [if_pos hc]
    obtain ⟨t, ht⟩ : ∃ t, encS a (bigL 4 m, 0) ((idxs m 5).flatMap flds) = (t, 0) := ⟨_, Prod.ext rfl hc⟩
    have hl := idxs_flds_len m
    obtain ⟨u, b', e1, e2, e3, _⟩ := enc_dec a ha _ (bigL 4 m) t noF (by rw [bigL_len]; omega) ht
    have hlen := encS_len a ((idxs m 5).flatMap flds) (bigL 4 m) 0 (by rw [bigL_len]; omega)
    rw [ht] at hlen ⊢
    rw [bigL_len] at hlen
    simp only at hlen
    refine ⟨b', ?_, sameF_true e3, by show (⟨t.toArray⟩ : ByteArray).size ≤ _; simp only [ByteArray.size, List.size_toArray]; omega⟩
    show decA ⟨t.toArray⟩ = _
    have hrd : rdNum (⟨t.toArray⟩ : ByteArray) 4 (fun _ => true) = (m, ⟨u.toArray⟩, 0) := rdNum_big _ (by simp [e1]) (by simp; omega) rfl
    unfold decA
    rw [hrd, if_pos ⟨rfl, hm⟩]
    unfold decM
    have := e2 []
    rw [List.append_nil] at this
    rw [this]
    rfl
  · rw [if_neg hc] at h
    exact absurd h hc
set_option maxHeartbeats 8000000 in
set_option maxRecDepth 100000 in
theorem attrCodes_any (ad : Nat → Addr) (xa : XAttr) (m : Int) (w : World) (he : EnvA w.heap.size ad w) (hm63 : m ≤ 9223372036854775807) (hxa : ∀ f, attrF xa f ≤ 9223372036854775807) :
    Calls Tryd.prog 7 #[.agg (attrC (attrF xa)).toArray, .int .i64 m] w fun e w' => e = .returned (.bool true) ∧ Chg Nil w w' := by
  obtain ⟨a, ha⟩ : ∃ a, a = attrF xa := ⟨_, rfl⟩
  rw [← ha] at hxa ⊢
  clear ha
  have hba := block_alloc w (.cells (attrC a).toArray 36)
  have HBA := Lib.hid hba
  have HK0 := Lib.hid ((Chg.refl Nil w).alloc (.cells (attrC a).toArray 36))
  have HE := Lib.hid he
  have HXA := Lib.hid hxa
  clear he hba hxa
  go_enter Tryd.func7, Tryd.ntmps7
  go_wp2_with fail
  refine (askedLaw_any ad _ ((HE.out.keepN HK0.out).env.up.sub (by decide))).mono ?_
  rintro e w1 ⟨rfl, hc1⟩
  have HK1 := Lib.hid (HK0.out.then hc1)
  have hA1 := hc1.keep HBA.out (fun f => f)
  have HA1 := Lib.hid hA1
  have a0 := cell_of hA1 0
  have a1 := cell_of hA1 1
  have a2 := cell_of hA1 2
  have a3 := cell_of hA1 3
  have a4 := cell_of hA1 4
  have a5 := cell_of hA1 5
  simp [attrC] at a0 a1 a2 a3 a4 a5
  clear hA1 hc1
  by_cases hbad : m < 0 ∨ 31 < m
  · go_wp2_with fail
    refine (encode_bad ad a m hbad w1 ((HE.out.keepN HK1.out).env.up.sub (by decide))).mono ?_
    rintro e w2 ⟨rfl, hc2⟩
    have HK2 := Lib.hid (HK1.out.then hc2)
    have hA2 := hc2.keep HA1.out (fun f => f)
    have b0 := cell_of hA2 0
    have b1 := cell_of hA2 1
    have b2 := cell_of hA2 2
    have b3 := cell_of hA2 3
    have b4 := cell_of hA2 4
    have b5 := cell_of hA2 5
    simp [attrC] at b0 b1 b2 b3 b4 b5
    clear hA2 hc2
    go_wp2_with fail
    refine (attrOf_bad a m hbad w2).mono ?_
    rintro e w3 ⟨rfl, hc3⟩
    have HK3 := Lib.hid (HK2.out.then hc3)
    clear hbad hc3
    go_wp2_with fail
    refine (coded1_ok ad 2 2 _ (HE.out.keepN HK3.out) (by decide) rfl).mono ?_
    rintro e w9 ⟨rfl, hc9⟩
    go_wp2_with fail
    go_ret
    exact ⟨rfl, HK3.out.then hc9⟩
  obtain ⟨n, rfl⟩ : ∃ n : Nat, m = n := ⟨m.toNat, by omega⟩
  have hn : n ≤ 31 := by omega
  clear hbad
  have hcc := encA_c a n
  by_cases hz : (encA a n).2 = 0
  · obtain ⟨b, hb1, hb2, hb3⟩ := codes_back a n hn HXA.out hz
    have HB1 := Lib.hid hb1
    have HB2 := Lib.hid hb2
    have HZ := Lib.hid hz
    go_wp2_with fail
    refine (encode_any ad a n hn w1 ((HE.out.keepN HK1.out).env.up.sub (by decide)) HXA.out).mono ?_
    rintro e w2 ⟨rfl, hc2⟩
    have HK2 := Lib.hid (HK1.out.then hc2)
    have HA2 := Lib.hid (hc2.keep HA1.out (fun f => f))
    have b0 := cell_of HA2.out 0
    have b1 := cell_of HA2.out 1
    have b2 := cell_of HA2.out 2
    have b3 := cell_of HA2.out 3
    have b4 := cell_of HA2.out 4
    have b5 := cell_of HA2.out 5
    simp [attrC] at b0 b1 b2 b3 b4 b5
    clear hc2 hz hb1 hb2 a0 a1 a2 a3 a4 a5
    rw [HZ.out]
    simp only [errV_zero]
    go_wp2_with fail
    refine (attrOf_any a n hn w2 HXA.out).mono ?_
    rintro e w3 ⟨rfl, hc3⟩
    have HK3 := Lib.hid (HK2.out.then hc3)
    have HA3 := Lib.hid (hc3.keep HA2.out (fun f => f))
    rw [HZ.out]
    clear hc3
    obtain ⟨s, hs⟩ : ∃ s, s = (encA a n).1 := ⟨_, rfl⟩
    rw [← hs] at hb3 HB1 ⊢
    clear hs
    go_wp2_with fail
    refine (decode_any ad s w3 ((HE.out.keepN HK3.out).env.up.sub (by decide)) hb3).mono ?_
    rintro e w4 ⟨rfl, hc4⟩
    have HK4 := Lib.hid (HK3.out.then hc4)
    have HA4 := Lib.hid (hc4.keep HA3.out (fun f => f))
    rw [HB1.out]
    simp only [errV_zero, attrC]
    have HK5 := Lib.hid (HK4.out.alloc (.cells (attrC b).toArray 36))
    have d0 := cell_of (((Chg.refl Nil w4).alloc (.cells (attrC b).toArray 36)).keep HA4.out (fun f => f)) 0
    have d1 := cell_of (((Chg.refl Nil w4).alloc (.cells (attrC b).toArray 36)).keep HA4.out (fun f => f)) 1
    have d2 := cell_of (((Chg.refl Nil w4).alloc (.cells (attrC b).toArray 36)).keep HA4.out (fun f => f)) 2
    have d3 := cell_of (((Chg.refl Nil w4).alloc (.cells (attrC b).toArray 36)).keep HA4.out (fun f => f)) 3
    have d4 := cell_of (((Chg.refl Nil w4).alloc (.cells (attrC b).toArray 36)).keep HA4.out (fun f => f)) 4
    have d5 := cell_of (((Chg.refl Nil w4).alloc (.cells (attrC b).toArray 36)).keep HA4.out (fun f => f)) 5
    simp [attrC] at d0 d1 d2 d3 d4 d5
    clear hc4 b0 b1 b2 b3 b4 b5
    go_wp2_with fail
    refine (same_any a b n hn _).mono ?_
    rintro e w6 ⟨rfl, hc6⟩
    rw [HB2.out]
    go_wp2_with fail
    go_ret
    exact ⟨rfl, HK5.out.then hc6⟩
  · have HEM := Lib.hid (encA_empty hz)
    obtain ⟨c, hc⟩ : ∃ c, c = (encA a n).2 := ⟨_, rfl⟩
    have HCC := Lib.hid hc
    rw [← hc] at hcc hz
    have hc0 : 0 < (c : Int) := by omega
    clear hc
    go_wp2_with fail
    refine (encode_any ad a n hn w1 ((HE.out.keepN HK1.out).env.up.sub (by decide)) HXA.out).mono ?_
    rintro e w2 ⟨rfl, hc2⟩
    have HK2 := Lib.hid (HK1.out.then hc2)
    have HA2 := Lib.hid (hc2.keep HA1.out (fun f => f))
    have b0 := cell_of HA2.out 0
    have b1 := cell_of HA2.out 1
    have b2 := cell_of HA2.out 2
    have b3 := cell_of HA2.out 3
    have b4 := cell_of HA2.out 4
    have b5 := cell_of HA2.out 5
    simp [attrC] at b0 b1 b2 b3 b4 b5
    clear hc2 a0 a1 a2 a3 a4 a5
    rw [← HCC.out, HEM.out]
    go_wp2_with fail
    refine (attrOf_any a n hn w2 HXA.out).mono ?_
    rintro e w3 ⟨rfl, hc3⟩
    have HK3 := Lib.hid (HK2.out.then hc3)
    rw [← HCC.out, HEM.out]
    clear hc3
    go_wp2_with fail
    refine (coded1_ok ad c c _ (HE.out.keepN HK3.out) hcc rfl).mono ?_
    rintro e w9 ⟨rfl, hc9⟩
    go_wp2_with fail
    go_ret
    exact ⟨rfl, HK3.out.then hc9⟩
end Go.Proofs.YtdhegblgghembaaDoor
