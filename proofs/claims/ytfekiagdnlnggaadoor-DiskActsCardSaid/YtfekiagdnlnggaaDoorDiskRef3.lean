/- The reference's Disk: Do's other acts by contract. -/
import Derived.Test.YtfekiagdnlnggaaDoorDiskRef2
import Derived.BigRegion
namespace Go.Proofs.YtfekiagdnlnggaaDoor
open Go.RowKit
set_option linter.unusedVariables false
set_option linter.unusedSimpArgs false

set_option maxHeartbeats 4000000 in
set_option maxRecDepth 100000 in
theorem rdo_flush (b : Nat) (n : Int) (s : ByteArray) (ka : Option Addr) (kc : Nat) (keep : List Bool) (d : PDisk) (S : Nat → Prop) (B2 : Nat) (w : World) (h : DoAt w b d S B2 ka kc keep) :
    Calls Tryd.prog 58 #[.pointer (some ⟨b, 0, none⟩), .agg #[.string ⟨#[102, 108, 117, 115, 104]⟩, .int .i64 n, .string s, .slice ka keep.length kc]] w fun e w' => e = .returned (.int .i64 (pFlush d).2) ∧ RDiskPost S w b (pFlush d).1 w' := by
  have HBK := Lib.hid (block_alloc w (doBox ⟨#[102, 108, 117, 115, 104]⟩ n s ka kc keep))
  have HT := Lib.hid h.at'
  have f1 := h.f1
  have f2 := h.f2
  have f3 := h.f3
  obtain ⟨vk, vn, vw, T, Sk, Sn, Sw, hrd, h1, h2, h3⟩ := h.at'
  clear h hrd h1
  unfold pFlush
  obtain ⟨d1, hd1⟩ : ∃ d1, d1 = (pSpend d).1 := ⟨_, rfl⟩
  obtain ⟨t1, ht1⟩ : ∃ t1, t1 = (pSpend d).2 := ⟨_, rfl⟩
  have hnow := (pSpend_same d).2.1
  have hsp := fun W (c : Chg Nil w W) => rpower_any b d S W (HT.out.keep c (fun _ _ f => f))
  rw [← hd1] at hsp hnow ⊢
  rw [← ht1] at hsp ⊢
  have HSP := Lib.hid hsp
  have hn1 : 1 ≤ d1.now.length := by rw [hnow]; omega
  have hn2 : d1.now.length ≤ 4000 := by rw [hnow]; omega
  clear hd1 ht1 hsp hnow f1 f2 f3
  go_enter Tryd.func58, Tryd.ntmps58
  go_wp2_with fail
  refine (HSP.out _ (by repeat (first | exact Chg.refl _ _ | refine Chg.drew ?_ | refine Chg.drewsN ?_ _ | refine Chg.alloc ?_ _))).mono ?_
  rintro e w1 ⟨rfl, hp1⟩
  obtain ⟨hp, _, S1, hC1, hat1, hG1, _⟩ := do_power (o := doBox ⟨#[102, 108, 117, 115, 104]⟩ n s ka kc keep) h3 (by repeat (first | exact Chg.refl _ _ | refine Chg.drew ?_ | refine Chg.drewsN ?_ _ | refine Chg.alloc ?_ _)) HBK.out hp1
  clear hp1
  cases t1 with
  | false =>
    go_wp2_with fail
    go_ret
    exact ⟨rfl, hp⟩
  | true =>
  clear hp
  obtain ⟨vk1, vn1, vw1, T1, Sk1, Sn1, Sw1, hrd1, i1, i2, i3⟩ := hat1
  obtain ⟨g, off, cap, cs, rfl, _, _, _, _, _, hg9, hgl9⟩ := hrd1.now.place (by omega)
  have c0 := cell_of hrd1.blk 0
  have c1 := cell_of hrd1.blk 1
  have c2 := cell_of hrd1.blk 2
  have q0 := free_of hrd1.blk 0
  have q2 := free_of hrd1.blk 2
  have gb := lt_of_block hrd1.blk
  simp at c0 c1 c2
  have HRD := Lib.hid hrd1
  clear hrd1
  go_wp2_with (at_builtin; go_loud (refine wpList_appendS (n := 0) (m := d1.now.length) rfl _ _ 51 rfl Tryd.underlying51 info_str rfl (by decide) rfl (sliceAt_nil _ _ _ Nil) rfl (d1.now.flatMap strC) (flat_len strC strC_len _) HRD.out.now.cellsOf (strC_ones _) (by unfold maxLen; omega) (by omega) ?_); intro v2 w2 S2 hs2 hc2 hg2; obtain ⟨a2, cap2, rfl⟩ := hs2.shape; have hb2 := hc2.keep HRD.out.blk (fun f => f); have d0 := cell_of hb2 0; have d2 := cell_of hb2 2; have p0 := free_of hb2 0; have p2 := free_of hb2 2; have gb2 := lt_of_block hb2; simp at d0 d2; clear hb2)
  go_ret
  rw [Nat.zero_add, List.nil_append] at hs2
  refine ⟨rfl, ?_⟩
  have z1 := hC1.size
  have z2 := hc2.size
  have fr : ∀ x, S2 x → w1.heap.size ≤ x ∧ x < w2.heap.size := fun x hx => (hg2 x hx).elim (fun f => f.elim) id
  have hR := (((HRD.out.same hc2).putKept hs2 (fun e => by have := fr _ e; have := lt_of_block HRD.out.blk; omega) (fun x e e2 => by have := fr _ e; have := HRD.out.ln x e2; omega) (fun x e e2 => by have := fr _ e; have := HRD.out.lw x e2; omega) (fun x hx => (fr x hx).2)).putWaits (l := []) (sliceAt_nil _ _ _ Nil) (fun f => f) (fun _ f => f.elim) (fun _ f => f.elim) (fun _ f => f.elim))
  have hin : ∀ x, S1 x → S x ∨ w.heap.size ≤ x := fun x hx => (hG1 x hx).imp id (fun h => h.1)
  exact hR.post (((hC1.trans hc2 (fun _ _ f => f.elim)).setCell (p := ⟨b, 0, none⟩) (.inr h2) _).setCell (p := ⟨b, 2, none⟩) (.inr h2) _) h2 h3 (fun x hx => .inr (by have := (fr x hx).1; omega)) (fun x hx => hin x (i1 x (.inr (.inl hx)))) (fun _ f => f.elim)

set_option maxHeartbeats 4000000 in
set_option maxRecDepth 100000 in
theorem rdo_fail (b : Nat) (n : Int) (s : ByteArray) (ka : Option Addr) (kc : Nat) (keep : List Bool) (d : PDisk) (S : Nat → Prop) (B2 : Nat) (w : World) (h : DoAt w b d S B2 ka kc keep) (hn : n ≤ 9223372036854775807) :
    Calls Tryd.prog 58 #[.pointer (some ⟨b, 0, none⟩), .agg #[.string ⟨#[102, 97, 105, 108]⟩, .int .i64 n, .string s, .slice ka keep.length kc]] w fun e w' => e = .returned (.int .i64 (pFail d n).2) ∧ RDiskPost S w b (pFail d n).1 w' := by
  have HT := Lib.hid h.at'
  obtain ⟨vk, vn, vw, T, Sk, Sn, Sw, hrd, h1, h2, h3⟩ := h.at'
  have c3 := cell_of hrd.blk 3
  have q3 := free_of hrd.blk 3
  have gb := lt_of_block hrd.blk
  simp at c3
  have HRD := Lib.hid hrd
  clear h hrd
  unfold pFail
  by_cases hneg : n < 0
  · rw [if_pos hneg]
    go_enter Tryd.func58, Tryd.ntmps58
    go_wp2_with fail
    go_ret
    exact ⟨rfl, rdisk_still HT.out (by repeat (first | exact Chg.refl _ _ | refine Chg.drew ?_ | refine Chg.drewsN ?_ _ | refine Chg.alloc ?_ _))⟩
  · rw [if_neg hneg]
    have hn0 : -1 ≤ n := by omega
    go_enter Tryd.func58, Tryd.ntmps58
    go_wp2_with fail
    go_ret
    refine ⟨rfl, ?_⟩
    exact ((HRD.out.putLeft hn0 hn).same ((Chg.refl Nil _).alloc _)).post (((Chg.refl S w).setCell (p := ⟨b, 3, none⟩) (.inr h2) _).alloc _) h2 h3 (fun x hx => .inl (h1 x (.inl hx))) (fun x hx => .inl (h1 x (.inr (.inl hx)))) (fun x hx => .inl (h1 x (.inr (.inr hx))))

def RelRC (keep : List Bool) (d : PDisk) (w : World) (b : Nat) (vk vn vw : Value) (T : TypeId) (Sk Sn Sw : Nat → Prop) (i : Value) (wr : World) : Prop :=
  ∃ k : Nat, k ≤ d.waits.length ∧ i = .int .i64 k ∧ Chg Sk w wr ∧ RD wr b { d with kept := crashK keep d.waits d.kept k } vk vn vw T Sk Sn Sw
set_option maxHeartbeats 8000000 in
set_option maxRecDepth 100000 in
theorem rdo_crash (b : Nat) (n : Int) (s : ByteArray) (ka : Option Addr) (kc : Nat) (keep : List Bool) (d : PDisk) (S : Nat → Prop) (B2 : Nat) (w : World) (h : DoAt w b d S B2 ka kc keep) :
    Calls Tryd.prog 58 #[.pointer (some ⟨b, 0, none⟩), .agg #[.string ⟨#[99, 114, 97, 115, 104]⟩, .int .i64 n, .string s, .slice ka keep.length kc]] w fun e w' => e = .returned (.int .i64 0) ∧ RDiskPost S w b (pCrash d keep) w' := by
  have HBK := Lib.hid (block_alloc w (doBox ⟨#[99, 114, 97, 115, 104]⟩ n s ka kc keep))
  have HA := Lib.hid ((Chg.refl Nil w).alloc (doBox ⟨#[99, 114, 97, 115, 104]⟩ n s ka kc keep))
  obtain ⟨hat, hfew, hB2, hks, hSB, f1, f2, f3, hins⟩ := h
  obtain ⟨vk, vn, vw, T, Sk, Sn, Sw, hrd, h1, h2, h3⟩ := hat
  obtain ⟨g, off, cap, cs, rfl, _, hnk, _, _, _, hg9, hgl9⟩ := hrd.kept.place (by omega)
  obtain ⟨aw, cw, rfl⟩ := hrd.waits.shape
  have HRD := Lib.hid (hrd.same HA.out)
  have hwl := hrd.waits.le
  have hkl := hrd.kept.le
  have hkx : ¬ Sk w.heap.size := fun e => by have := hrd.lk _ e; omega
  have HKS := Lib.hid hks
  have HIN := Lib.hid hins
  have hSb3 : ∀ x, Sk x → B2 ≤ x := fun x hx => hSB x (h1 x (.inl hx))
  clear hrd hks hins
  go_enter Tryd.func58, Tryd.ntmps58
  go_wp2_with fail
  go_loopw [10] (fun i wr => RelRC keep d (w.alloc (doBox ⟨#[99, 114, 97, 115, 104]⟩ n s ka kc keep)) b (.slice (some ⟨g, off, none⟩) d.kept.length cap) vn (.slice aw d.waits.length cw) T Sk Sn Sw i wr) (fun i _ => (d.waits.length - intOf i).toNat)
  case atStart => exact ⟨0, Nat.zero_le _, rfl, Chg.refl _ _, HRD.out⟩
  case round =>
    obtain ⟨k, hkn, rfl, hC, hR⟩ := hrel
    have HR := Lib.hid hR
    have HC := Lib.hid hC
    have hz := hC.size
    have e0 := cell_of hR.blk 0
    have e2 := cell_of hR.blk 2
    have gb := lt_of_block hR.blk
    simp at e0 e2 hz
    have hbk := hC.keep HBK.out hkx
    obtain ⟨_, _, a3⟩ := xact_cells hbk
    clear hbk hR
    rcases Nat.lt_or_ge k d.waits.length with hlt2 | hge
    · obtain ⟨p, hp⟩ : ∃ p, d.waits[k]? = some p := ⟨d.waits[k], List.getElem?_eq_getElem hlt2⟩
      obtain ⟨gw, offw, capw, csw, e, _, hnw, _, _, _, hgw, hgwl⟩ := HRD.out.waits.place (by omega)
      cases e
      have w0 := (HR.out.waits.elem waitC_len hp 0 (.int .i64 p.1) rfl).1
      have w1 := (HR.out.waits.elem waitC_len hp 1 (.string p.2) rfl).1
      simp only [Nat.add_zero] at w0
      have hpin := HIN.out p (List.mem_of_getElem? hp)
      obtain ⟨p1, p2⟩ := p
      obtain ⟨q, rfl⟩ : ∃ q : Nat, p1 = q := ⟨p1.toNat, by have := hpin.1; simp at this; omega⟩
      have hq : q < d.kept.length := by have := hpin.2; simp at this; omega
      simp only at w0 w1
      have hkw : (k : Int) < (d.waits.length : Int) := by omega
      have hkc : k < cw := by omega
      have hw1 : IntKind.i64.wrap ((k : Int) + 1) = ((k + 1 : Nat) : Int) := by rw [IntWalk.i64_in _ (by omega)]; rfl
      have hstep : crashK keep d.waits d.kept (k + 1) = kStep keep (crashK keep d.waits d.kept k) k ((q : Int), p2) := by rw [crashK, hp]
      have HST := Lib.hid hstep
      clear hpin hC hstep hp
      by_cases hkk : k < keep.length
      · obtain ⟨x, hx⟩ : ∃ x, keep[k]? = some x := ⟨keep[k], List.getElem?_eq_getElem hkk⟩
        obtain ⟨_, gk, offk, rfl, hgk, hck⟩ := HKS.out.2.2 k x hx
        have x0 := hck 0 (.bool x) rfl
        simp only [Sh.size, Nat.mul_one, Nat.add_zero] at x0
        have x1 := ((HA.out.nil (S := Sk)).then HC.out).cell (p := ⟨gk, offk + k, none⟩) (Nat.lt_of_lt_of_le hgk hB2) (fun e => by have := hSb3 _ e; simp at this; omega)
        rw [x0] at x1
        have hkcb : k < kc := by have : keep.length ≤ kc := HKS.out.1; omega
        have hkl2 : (k : Int) < (keep.length : Int) := by omega
        have gkl : gk < wr.heap.size := by omega
        clear hck x0
        rcases x with _ | _
        · go_wp2_with fail
          refine ⟨⟨k + 1, by omega, by go_num, HC.out, ?_⟩, by simp [intOf]; omega⟩
          rw [HST.out, kStep, if_neg (by rw [hx]; simp)]
          exact HR.out
        · have hlq : q < (crashK keep d.waits d.kept k).length := by rw [crashK_len]; exact hq
          have hk9 : SliceAt wr (.slice (some ⟨g, off, none⟩) d.kept.length cap) 9 1 d.kept.length ((crashK keep d.waits d.kept k).flatMap strC) Sk := by have := HR.out.kept; simp only [crashK_len] at this; exact this
          have y := hk9.elem strC_len (List.getElem?_eq_getElem hlq) 0 _ rfl
          have y0 := y.1
          have y1 := y.2.1
          simp only [Nat.mul_one, Nat.add_zero] at y0 y1
          have gkk := y.2.2
          have hqk : q < cap := by omega
          have hqI : (q : Int) < (d.kept.length : Int) := by omega
          clear y
          go_wp2_with fail
          go_region
          go_wp2_with fail
          have hset := HR.out.setKept (k := q) (t := p2) (by simp only [crashK_len]; exact hq)
          refine ⟨⟨k + 1, by omega, by go_num, (HC.out.setCell (p := ⟨g, off + q, none⟩) (.inr hg9) _).drew, ?_⟩, by simp [intOf]; omega⟩
          rw [HST.out, kStep, if_pos hx]
          have hs2 := hset.same ((Chg.refl Nil _).drew)
          simpa using hs2
      · have hkl2 : ¬ ((k : Int) < (keep.length : Int)) := by omega
        have hx : keep[k]? = none := List.getElem?_eq_none (by omega)
        go_wp2_with fail
        refine ⟨⟨k + 1, by omega, by go_num, HC.out, ?_⟩, by simp [intOf]; omega⟩
        rw [HST.out, kStep, if_neg (by rw [hx]; simp)]
        exact HR.out
    · obtain rfl : k = d.waits.length := by omega
      have hcl := crashK_len keep d.waits d.kept d.waits.length
      obtain ⟨K, hK⟩ : ∃ K, K = crashK keep d.waits d.kept d.waits.length := ⟨_, rfl⟩
      have HPC := Lib.hid (show pCrash d keep = ⟨-1, K, K, []⟩ by unfold pCrash; rw [← hK])
      have HR' : Hid (RD wr b { d with kept := K } (.slice (some ⟨g, off, none⟩) d.kept.length cap) vn (.slice aw d.waits.length cw) T Sk Sn Sw) := Lib.hid (by rw [hK]; exact HR.out)
      rw [← hK] at hcl
      clear hK
      have hKs : SliceAt wr (.slice (some ⟨g, off, none⟩) d.kept.length cap) 9 1 d.kept.length (K.flatMap strC) Sk := by have := HR'.out.kept; simp only [hcl] at this; exact this
      have HKS2 := Lib.hid hKs
      clear HR hKs hC
      go_wp2_with (at_builtin; go_loud (refine wpList_appendS (n := 0) (m := d.kept.length) rfl _ _ 51 rfl Tryd.underlying51 info_str rfl (by decide) rfl (sliceAt_nil _ _ _ Nil) rfl (K.flatMap strC) (by rw [flat_len strC strC_len, hcl]) HKS2.out.cellsOf (strC_ones _) (by unfold maxLen; omega) (by omega) ?_); intro v2 w2 S2 hs2 hc2 hg2; obtain ⟨a2, cap2, rfl⟩ := hs2.shape; have hb2 := hc2.keep HR'.out.blk (fun f => f); have d1 := cell_of hb2 1; have d2 := cell_of hb2 2; have d3 := cell_of hb2 3; have p1 := free_of hb2 1; have p2 := free_of hb2 2; have p3 := free_of hb2 3; have gb2 := lt_of_block hb2; simp at d1 d2 d3; clear hb2)
      go_ret
      rw [Nat.zero_add, List.nil_append] at hs2
      refine ⟨rfl, ?_⟩
      have z2 := hc2.size
      have fr : ∀ x, S2 x → wr.heap.size ≤ x ∧ x < w2.heap.size := fun x hx => (hg2 x hx).elim (fun f => f.elim) id
      have hs3 : SliceAt w2 (.slice a2 d.kept.length cap2) 9 1 K.length (K.flatMap strC) S2 := by rw [hcl]; exact hs2
      have hR := ((((HR'.out.same hc2).putNow hs3 (fun e => by have := fr _ e; have := lt_of_block HR'.out.blk; omega) (fun x e e2 => by have := fr _ e; have := HR'.out.lk x e2; omega) (fun x e e2 => by have := fr _ e; have := HR'.out.lw x e2; omega) (fun x hx => (fr x hx).2)).putWaits (l := []) (sliceAt_nil _ _ _ Nil) (fun f => f) (fun _ f => f.elim) (fun _ f => f.elim) (fun _ f => f.elim)).putLeft (l := -1) (by omega) (by omega))
      have hca : Chg S w wr := (HA.out.nil (S := S)).trans HC.out (fun x _ h => h1 x (.inl h))
      rw [HPC.out]
      exact hR.post ((((hca.trans hc2 (fun _ _ f => f.elim)).setCell (p := ⟨b, 1, none⟩) (.inr h2) _).setCell (p := ⟨b, 2, none⟩) (.inr h2) _).setCell (p := ⟨b, 3, none⟩) (.inr h2) _) h2 h3 (fun x hx => .inl (h1 x (.inl hx))) (fun x hx => .inr (by have := (fr x hx).1; omega)) (fun _ f => f.elim)

set_option maxHeartbeats 4000000 in
set_option maxRecDepth 100000 in
theorem rdo_any (b : Nat) (k : ByteArray) (n : Int) (s : ByteArray) (ka : Option Addr) (kc : Nat) (keep : List Bool) (d : PDisk) (S : Nat → Prop) (B2 : Nat) (w : World) (h : DoAt w b d S B2 ka kc keep) (hn : n ≤ 9223372036854775807) :
    Calls Tryd.prog 58 #[.pointer (some ⟨b, 0, none⟩), .agg #[.string k, .int .i64 n, .string s, .slice ka keep.length kc]] w fun e w' => e = .returned (.int .i64 (pAct d k n s keep).2) ∧ RDiskPost S w b (pAct d k n s keep).1 w' := by
  unfold pAct
  by_cases k1 : k = kwW
  · rw [if_pos k1]; subst k1; exact rdo_write b n s ka kc keep d S B2 w h
  rw [if_neg k1]
  by_cases k2 : k = kwF
  · rw [if_pos k2]; subst k2; exact rdo_flush b n s ka kc keep d S B2 w h
  rw [if_neg k2]
  by_cases k3 : k = kwP
  · rw [if_pos k3]; subst k3; exact rdo_fail b n s ka kc keep d S B2 w h hn
  rw [if_neg k3]
  by_cases k4 : k = kwC
  · rw [if_pos k4]; subst k4; exact rdo_crash b n s ka kc keep d S B2 w h
  rw [if_neg k4]
  have q1 : (k.toList == [119, 114, 105, 116, 101]) = false := text_ne k1
  have q2 : (k.toList == [102, 108, 117, 115, 104]) = false := text_ne k2
  have q3 : (k.toList == [102, 97, 105, 108]) = false := text_ne k3
  have q4 : (k.toList == [99, 114, 97, 115, 104]) = false := text_ne k4
  have HT := Lib.hid h.at'
  clear k1 k2 k3 k4 h
  go_enter Tryd.func58, Tryd.ntmps58
  go_wp2_with fail
  go_ret
  exact ⟨rfl, rdisk_still HT.out (by repeat (first | exact Chg.refl _ _ | refine Chg.drew ?_ | refine Chg.drewsN ?_ _ | refine Chg.alloc ?_ _))⟩

theorem strC_uno (t : ByteArray) : ∀ u ∈ strC t, u.oneCell' = true := by intro u hu; simp [strC] at hu; subst hu; rfl
def RNewPost (w : World) (n : Nat) (e : Ending) (w' : World) : Prop := ∃ b S, e = .returned (.pointer (some ⟨b, 0, none⟩)) ∧ Chg Nil w w' ∧ RDiskAt w' b (pNew n) S ∧ ∀ x, S x → w.heap.size ≤ x
def RelRN (n : Nat) (w : World) (b : Nat) (i : Value) (wr : World) : Prop :=
  ∃ (k : Nat) (vk vn : Value) (T : TypeId) (Sk Sn : Nat → Prop), k ≤ n ∧ i = .int .i64 k ∧ Chg Nil w wr ∧ RD wr b ⟨-1, List.replicate k (zerosB 64), List.replicate k (zerosB 64), []⟩ vk vn (.slice none 0 0) T Sk Sn Nil ∧ w.heap.size ≤ b ∧ (∀ x, Sk x → w.heap.size ≤ x) ∧ (∀ x, Sn x → w.heap.size ≤ x)
set_option maxHeartbeats 4000000 in
set_option maxRecDepth 100000 in
theorem rnew_any (n : Nat) (w : World) (h2 : n ≤ 4000) :
    Calls Tryd.prog 57 #[.int .i64 n] w (RNewPost w n) := by
  go_enter Tryd.func57, Tryd.ntmps57
  go_wp2_with fail
  go_loopw [4] (fun i wr => RelRN n w w.heap.size i wr) (fun i _ => (n - intOf i).toNat)
  case atStart => exact ⟨0, .slice none 0 0, .slice none 0 0, _, Nil, Nil, Nat.zero_le _, rfl, (Chg.refl Nil w).alloc _, ⟨block_alloc w _, sliceAt_nil _ _ _ _, sliceAt_nil _ _ _ _, sliceAt_nil _ _ _ _, fun f => f, fun f => f, fun f => f, fun _ f => f.elim, fun _ f => f.elim, fun _ f => f.elim, fun _ f => f.elim, fun _ f => f.elim, fun _ f => f.elim, by decide, by decide⟩, Nat.le_refl _, fun _ f => f.elim, fun _ f => f.elim⟩
  case round =>
    obtain ⟨k, vk, vn, T, Sk, Sn, hk, rfl, hC, hR, hb, hk1, hn1⟩ := hrel
    have e0 := cell_of hR.blk 0
    have q0 := free_of hR.blk 0
    have gb := lt_of_block hR.blk
    have e1 := cell_of hR.blk 1
    have q1 := free_of hR.blk 1
    have hk9 := hR.kept
    have hn9 := hR.now
    simp only [List.length_replicate] at hk9 hn9
    obtain ⟨ak, ck, rfl⟩ := hk9.shape
    obtain ⟨an, cn, rfl⟩ := hn9.shape
    simp at e0 e1
    have HK9 := Lib.hid hk9
    have HN9 := Lib.hid hn9
    clear hk9 hn9
    have HR := Lib.hid hR
    clear hR
    by_cases hlt : k < n
    · have j1 : (k : Int) < (n : Int) := by omega
      have HC := Lib.hid hC
      clear hC
      go_wp2_with fail
      go_region_law ((first | (go_simp; go_at_call 49; refine (zeros_nat 64 _ (by omega)).mono ?_; rintro e w2 ⟨rfl, hc2⟩; have hC2 := ((Chg.refl Nil wr).drew).then hc2; have hb2 := hC2.keep HR.out.blk (fun f => f); have c2 := cell_of hb2 0; have gb2 := lt_of_block hb2; have p2 := free_of hb2 0; simp at c2; have HK2 := Lib.hid (HK9.out.keep hC2 (fun _ _ f => f)); have HB2 := Lib.hid hb2; have HC2 := Lib.hid hC2; clear hb2 hC2 hc2) | (refine step_appendS (n := k) (m := 1) (by rfl) _ _ 51 (by rfl) Tryd.underlying51 info_str rfl (by decide) (by first | rfl | simp [Act.put, Act.eval]) (HK2.out.keep (T := Nil) (by repeat (first | exact Chg.refl _ _ | refine Chg.drew ?_ | refine Chg.drewsN ?_ _ | refine Chg.alloc ?_ _)) (fun _ _ f => f)) (by first | rfl | simp [Act.put, Act.eval]) (strC (zerosB 64)) (by rfl) (cell_new_list _ (strC (zerosB 64)) _) (strC_uno _) (by unfold maxLen; omega) (by omega) ?_; intro v2 w4 S2 hs2 hg20 hg2; obtain ⟨a2, cc2, rfl⟩ := hs2.shape; have hb2 := hg20.keep ((show Chg Nil w2 _ by repeat (first | exact Chg.refl _ _ | refine Chg.drew ?_ | refine Chg.drewsN ?_ _ | refine Chg.alloc ?_ _)).keep HB2.out (fun f => f)) HR.out.bk; have k2 := cell_of hb2 0; have kg2 := lt_of_block hb2; have kp2 := free_of hb2 0; simp at k2; clear hb2)))
      all_goals
        go_wp2_with fail
        have hs2' : SliceAt w4 (.slice a2 (k + 1) cc2) 9 1 (List.replicate (k + 1) (zerosB 64)).length ((List.replicate (k + 1) (zerosB 64)).flatMap strC) S2 := by
          rw [List.length_replicate, List.replicate_succ', List.flatMap_append]; simpa using hs2
        have hq2 : Chg Nil w2 (w2.alloc (.cells #[.string (zerosB 64)] 9)) := (Chg.refl Nil w2).alloc _
        have HR4 := Lib.hid (((HR.out.same HC2.out).same hq2).moreKept hg20 hs2' hg2)
        have hz2 := HC2.out.size
        have hz3 := hq2.size
        have hz4 := hg20.size
        have hzC := HC.out.size
        have hC4 : Chg Nil w w4 := ((HC.out.then HC2.out).then hq2).trans hg20 (fun x hx h => by have := hk1 x h; omega)
        have HC4 := Lib.hid (hC4.setCell (p := ⟨w.heap.size, 0, none⟩) (.inl (by simp)) (.slice a2 (k + 1) cc2))
        have hk4 : ∀ x, S2 x → w.heap.size ≤ x := fun x hx => by
          rcases hg2 x hx with q | q
          · exact hk1 x q
          · omega
        obtain ⟨w5, hw5⟩ : ∃ w5, w5 = w4.setCell ⟨w.heap.size, 0, none⟩ (.slice a2 (k + 1) cc2) := ⟨_, rfl⟩
        rw [← hw5]
        rw [← hw5] at HR4 HC4
        have HN5 : Hid (SliceAt w5 (.slice an k cn) 9 1 k ((List.replicate k (zerosB 64)).flatMap strC) Sn) := Lib.hid (by have := HR4.out.now; simp only [List.length_replicate] at this; exact this)
        have e15 := cell_of HR4.out.blk 1
        have gb5 := lt_of_block HR4.out.blk
        simp at e15
        clear hw5 hg20 hg2 hs2 hs2' hq2 k2 kg2 kp2 gb2 p2 c2 hC4 hz2 hz3 hz4 hzC e0 e1 q0 q1 gb
        go_region_law ((first | (go_simp; go_at_call 49; refine (zeros_nat 64 _ (by omega)).mono ?_; rintro e w6 ⟨rfl, hc6⟩; have hC6 := ((Chg.refl Nil w5).drew).then hc6; have hb6 := hC6.keep HR4.out.blk (fun f => f); have c6 := cell_of hb6 1; have gb6 := lt_of_block hb6; have p6 := free_of hb6 1; simp at c6; have HK6 := Lib.hid (HN5.out.keep hC6 (fun _ _ f => f)); have HB6 := Lib.hid hb6; have HC6 := Lib.hid hC6; clear hb6 hC6 hc6) | (refine step_appendS (n := k) (m := 1) (by rfl) _ _ 51 (by rfl) Tryd.underlying51 info_str rfl (by decide) (by first | rfl | simp [Act.put, Act.eval]) (HK6.out.keep (T := Nil) (by repeat (first | exact Chg.refl _ _ | refine Chg.drew ?_ | refine Chg.drewsN ?_ _ | refine Chg.alloc ?_ _)) (fun _ _ f => f)) (by first | rfl | simp [Act.put, Act.eval]) (strC (zerosB 64)) (by rfl) (cell_new_list _ (strC (zerosB 64)) _) (strC_uno _) (by unfold maxLen; omega) (by omega) ?_; intro v6 w7 S6 hs6 hg60 hg6; obtain ⟨a6, cc6, rfl⟩ := hs6.shape; have hb6 := hg60.keep ((show Chg Nil w6 _ by repeat (first | exact Chg.refl _ _ | refine Chg.drew ?_ | refine Chg.drewsN ?_ _ | refine Chg.alloc ?_ _)).keep HB6.out (fun f => f)) HR4.out.bn; have k6 := cell_of hb6 1; have kg6 := lt_of_block hb6; have kp6 := free_of hb6 1; simp at k6; clear hb6)))
      all_goals
        go_wp2_with fail
        have hs6' : SliceAt w7 (.slice a6 (k + 1) cc6) 9 1 (List.replicate (k + 1) (zerosB 64)).length ((List.replicate (k + 1) (zerosB 64)).flatMap strC) S6 := by
          rw [List.length_replicate, List.replicate_succ', List.flatMap_append]; simpa using hs6
        have hq6 : Chg Nil w6 (w6.alloc (.cells #[.string (zerosB 64)] 9)) := (Chg.refl Nil w6).alloc _
        have hR7 := ((HR4.out.same HC6.out).same hq6).moreNow hg60 hs6' hg6
        have hz2 := HC6.out.size
        have hz3 := hq6.size
        have hz4 := hg60.size
        have hzC := HC4.out.size
        have hC7 : Chg Nil w w7 := ((HC4.out.then HC6.out).then hq6).trans hg60 (fun x hx h => by have := hn1 x h; omega)
        refine ⟨⟨k + 1, _, _, _, _, _, by omega, by go_num, hC7.setCell (p := ⟨w.heap.size, 1, none⟩) (.inl (by simp)) _, hR7, Nat.le_refl _, hk4, fun x hx => ?_⟩, by simp [intOf]; omega⟩
        rcases hg6 x hx with q | q
        · exact hn1 x q
        · omega
    · obtain rfl : k = n := by omega
      go_wp2_with fail
      go_ret
      exact ⟨w.heap.size, fun x => x = w.heap.size ∨ Sk x ∨ Sn x, rfl, hC, ⟨_, _, _, _, _, _, _, HR.out, fun x hx => by rcases hx with q | q | q; exact .inr (.inl q); exact .inr (.inr q); exact q.elim, .inl rfl, fun x hx => by rcases hx with q | q | q; omega; exact HR.out.lk x q; exact HR.out.ln x q⟩, fun x hx => by rcases hx with q | q | q; omega; exact hk1 x q; exact hn1 x q⟩
end Go.Proofs.YtfekiagdnlnggaaDoor
