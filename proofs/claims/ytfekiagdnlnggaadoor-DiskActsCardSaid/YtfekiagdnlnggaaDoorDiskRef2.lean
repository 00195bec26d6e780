/- The reference's Disk: Do by contract. -/
import Derived.Test.YtfekiagdnlnggaaDoorDiskRef
import Derived.Deep.RegionHeld3
namespace Go.Proofs.YtfekiagdnlnggaaDoor
open Go.RowKit
set_option linter.unusedVariables false
set_option linter.unusedSimpArgs false

theorem info_rwait : (Tryd.prog.info? 179).map (fun i => (i.zero, i.size, i.bytes)) = some (some (.agg #[.int .i64 0, .string ⟨#[]⟩]), 2, 24) := by kernel_rfl
/-- What an act's call knows at its start. -/
structure DoAt (w : World) (b : Nat) (d : PDisk) (S : Nat → Prop) (B2 : Nat) (ka : Option Addr) (kc : Nat) (keep : List Bool) : Prop where
  at' : RDiskAt w b d S
  few : (d.waits.length + 1) * 24 ≤ 140737488355328
  hB2 : B2 ≤ w.heap.size
  hks : (Sh.slice .bool).At w B2 (ka, kc, keep)
  hSB : ∀ x, S x → B2 ≤ x
  f1 : d.kept.length ≤ 4000
  f2 : d.now.length = d.kept.length
  f3 : 1 ≤ d.kept.length
  ins : ∀ p ∈ d.waits, 0 ≤ p.1 ∧ p.1 < d.kept.length
abbrev doBox (k : ByteArray) (n : Int) (s : ByteArray) (ka : Option Addr) (kc : Nat) (keep : List Bool) : Obj := .cells #[.string k, .int .i64 n, .string s, .slice ka keep.length kc] 90

theorem rdisk_still {S : Nat → Prop} {w w' : World} {b : Nat} {d : PDisk} (ht : RDiskAt w b d S) (c : Chg Nil w w') : RDiskPost S w b d w' := ⟨c.nil, S, ht.keep c (fun _ _ f => f), Grow.refl _ _ _⟩
theorem zeros_nat (m : Nat) (w : World) (h1 : m ≤ 4096) : Calls Tryd.prog 49 #[.int .i64 m] w fun e w' => e = .returned (.string (zerosB m)) ∧ Chg Nil w w' := by
  have := zeros_any m w (by omega) (by omega)
  rwa [Int.toNat_natCast] at this
theorem do_power {w W w1 : World} {b : Nat} {d1 : PDisk} {S : Nat → Prop} {o ob : Obj} (h3 : ∀ x, S x → x < w.heap.size) (hq : Chg Nil (w.alloc o) W) (hb : (w.alloc o).heap[w.heap.size]? = some ob) (hp : RDiskPost S W b d1 w1) :
    RDiskPost S w b d1 w1 ∧ w1.heap[w.heap.size]? = some ob ∧ ∃ S1, Chg S w w1 ∧ RDiskAt w1 b d1 S1 ∧ Grow S S1 w w1 ∧ ¬ S1 w.heap.size := by
  have hz := hq.size
  simp at hz
  obtain ⟨c1, S1, a1, g1⟩ := hp
  have q : Chg S w w1 := ((((Chg.refl Nil w).alloc o).then hq).nil).trans c1 (fun x _ h => h)
  have g : Grow S S1 w w1 := fun x hx => (g1 x hx).imp id (fun h => ⟨by omega, h.2⟩)
  refine ⟨⟨q, S1, a1, g⟩, c1.keep (hq.keep hb (fun f => f)) (fun hh => by have := h3 _ hh; omega), S1, q, a1, g, fun h => ?_⟩
  rcases g1 _ h with h | h
  · have := h3 _ h; omega
  · omega
set_option maxHeartbeats 4000000 in
set_option maxRecDepth 100000 in
theorem rdo_write (b : Nat) (n : Int) (s : ByteArray) (ka : Option Addr) (kc : Nat) (keep : List Bool) (d : PDisk) (S : Nat → Prop) (B2 : Nat) (w : World) (h : DoAt w b d S B2 ka kc keep) :
    Calls Tryd.prog 58 #[.pointer (some ⟨b, 0, none⟩), .agg #[.string ⟨#[119, 114, 105, 116, 101]⟩, .int .i64 n, .string s, .slice ka keep.length kc]] w fun e w' => e = .returned (.int .i64 (pWrite d n s).2) ∧ RDiskPost S w b (pWrite d n s).1 w' := by
  have HBK := Lib.hid (block_alloc w (doBox ⟨#[119, 114, 105, 116, 101]⟩ n s ka kc keep))
  have HT := Lib.hid h.at'
  have hfew := h.few
  obtain ⟨vk, vn, vw, T, Sk, Sn, Sw, hrd, h1, h2, h3⟩ := h.at'
  obtain ⟨an, cn, rfl⟩ := hrd.now.shape
  have c1 := cell_of hrd.blk 1
  simp at c1
  have hbl := lt_of_block hrd.blk
  clear h hrd h1
  unfold pWrite
  by_cases hbad : n < 0 ∨ d.now.length ≤ n
  · rw [if_pos hbad]
    have hgo : n < 0 ∨ (¬ n < 0 ∧ (d.now.length : Int) ≤ n) := by omega
    clear hbad
    rcases hgo with h | ⟨h, h'⟩
    all_goals
      go_enter Tryd.func58, Tryd.ntmps58
      go_wp2_with fail
      go_quiet (fail)
      go_wp2_with fail
      go_ret
      exact ⟨rfl, rdisk_still HT.out (by repeat (first | exact Chg.refl _ _ | refine Chg.drew ?_ | refine Chg.drewsN ?_ _ | refine Chg.alloc ?_ _))⟩
  rw [if_neg hbad]
  obtain ⟨k, rfl⟩ : ∃ k : Nat, n = k := ⟨n.toNat, by omega⟩
  have g1 : ¬ ((k : Int) < 0) := by omega
  have g2 : ¬ ((d.now.length : Int) ≤ (k : Int)) := by omega
  have hkl : k < d.now.length := by omega
  clear hbad
  by_cases hs : 64 < s.size
  · rw [if_pos hs]
    have g3 : (64 : Int) < (s.size : Int) := by omega
    go_enter Tryd.func58, Tryd.ntmps58
    go_wp2_with fail
    go_quiet (fail)
    go_wp2_with fail
    go_ret
    exact ⟨rfl, rdisk_still HT.out (by repeat (first | exact Chg.refl _ _ | refine Chg.drew ?_ | refine Chg.drewsN ?_ _ | refine Chg.alloc ?_ _))⟩
  rw [if_neg hs]
  have g3 : ¬ ((64 : Int) < (s.size : Int)) := by omega
  have hs64 : s.size ≤ 64 := by omega
  obtain ⟨d1, hd1⟩ : ∃ d1, d1 = (pSpend d).1 := ⟨_, rfl⟩
  obtain ⟨t1, ht1⟩ : ∃ t1, t1 = (pSpend d).2 := ⟨_, rfl⟩
  have hnow := (pSpend_same d).2.1
  have hwt := (pSpend_same d).2.2
  have hsp := fun W (c : Chg Nil w W) => rpower_any b d S W (HT.out.keep c (fun _ _ f => f))
  rw [← hd1] at hsp hnow hwt ⊢
  rw [← ht1] at hsp ⊢
  have HSP := Lib.hid hsp
  clear hd1 ht1 hsp
  have hsl := fun (x : Nat) (hx : S x) => h3 x hx
  go_enter Tryd.func58, Tryd.ntmps58
  go_wp2_with fail
  go_quiet (fail)
  go_wp2_with fail
  refine (HSP.out _ (by repeat (first | exact Chg.refl _ _ | refine Chg.drew ?_ | refine Chg.drewsN ?_ _ | refine Chg.alloc ?_ _))).mono ?_
  rintro e w1 ⟨rfl, hp1⟩
  obtain ⟨hp, hbk1, S1, hC1, hat1, hG1, hx1⟩ := do_power h3 (by repeat (first | exact Chg.refl _ _ | refine Chg.drew ?_ | refine Chg.drewsN ?_ _ | refine Chg.alloc ?_ _)) HBK.out hp1
  clear hp1
  have HBK1 := Lib.hid hbk1
  have HP := Lib.hid hp
  cases t1 with
  | false =>
    go_wp2_with fail
    go_ret
    exact ⟨rfl, hp⟩
  | true =>
  obtain ⟨vk1, vn1, vw1, T1, Sk1, Sn1, Sw1, hrd1, i1, i2, i3⟩ := hat1
  clear hp
  obtain ⟨_, a2, a3⟩ := xact_cells hbk1
  have a1 := (xact_cells hbk1).1
  clear hbk1
  rw [← hnow] at hkl
  rw [← hwt] at hfew
  obtain ⟨g, off, cap, cs, rfl, _, _, _, _, _, hg9, hgl9⟩ := hrd1.now.place (by omega)
  obtain ⟨aw, cw, rfl⟩ := hrd1.waits.shape
  have HRD := Lib.hid hrd1
  have hw1 : IntKind.i64.wrap (64 - (s.size : Int)) = ((64 - s.size : Nat) : Int) := by rw [IntWalk.i64_in _ (by omega)]; omega
  have hnsum : ¬ 9223372036854775807 < s.size + (zerosB (64 - s.size)).size := by rw [zerosB_size]; omega
  clear hrd1 c1 hbl hnow hwt
  go_wp2_with fail
  go_region_held3 (fun w' => w'.cell? ⟨w.heap.size, 2, none⟩ = some (.string s))
    (first | exact HK2.out | exact a2 | exact (xact_cells HBK1.out).2.1 | go_keep)
    (first | (go_at_call 49; refine (zeros_nat (64 - s.size) _ (by omega)).mono ?_; rintro e w2 ⟨rfl, hc2⟩; have HK2 := Lib.hid ((xact_cells (hc2.keep ((Chg.refl Nil _).drew.keep HBK1.out (fun f => f)) (fun f => f))).2.1)))
  go_wp2_with fail
  have hc2' : Chg Nil w1 w2 := ((Chg.refl Nil w1).drew).then hc2
  have HR2 := Lib.hid (HRD.out.same hc2')
  have hbk2 := hc2'.keep HBK1.out (fun f => f)
  have HBK2 := Lib.hid hbk2
  have b1 := (xact_cells hbk2).1
  have d1c := cell_of HR2.out.blk 1
  simp at d1c
  have e2 := HR2.out.now.elem strC_len (k := k) (List.getElem?_eq_getElem hkl) 0 _ rfl
  have e21 := e2.1
  have e22 := e2.2.1
  have e23 := e2.2.2
  simp only [Nat.mul_one, Nat.add_zero] at e21 e22
  have gcap : k < cap := by have := HR2.out.now.le; omega
  clear e2 hbk2 hc2
  have HC2 := Lib.hid hc2'
  clear hc2'
  go_region
  go_wp2_with fail
  obtain ⟨w3, hW3⟩ : ∃ w3, w3 = (w2.setCell ⟨g, off + k, none⟩ (.string (s ++ zerosB (64 - s.size)))).drew := ⟨_, rfl⟩
  have HR3 := Lib.hid (show RD w3 b { d1 with now := d1.now.set k (padS s) } _ _ _ _ _ _ _ by rw [hW3]; exact (HR2.out.setNow hkl).same ((Chg.refl Nil _).drew))
  have hc3 : Chg S1 w2 w3 := by rw [hW3]; exact ((Chg.refl S1 w2).setCell (p := ⟨g, off + k, none⟩) (.inr (i1 _ (.inr (.inl hg9)))) _).drew
  have HC3 := Lib.hid hc3
  have hbk3 := hc3.keep HBK2.out hx1
  rw [← hW3]
  clear hW3 b1 d1c e21 e22 e23 hc3
  have b1 := (xact_cells hbk3).1
  have HBK3 := Lib.hid hbk3
  clear hbk3
  have d2c := cell_of HR3.out.blk 2
  simp at d2c
  have HWT := Lib.hid HR3.out.waits
  have gb3 := lt_of_block HR3.out.blk
  have gx3 := lt_of_block HBK3.out
  go_region_law ((refine step_appendS (n := d1.waits.length) (m := 1) (by rfl) _ _ 110 (by rfl) Tryd.underlying110 info_rwait rfl (by decide) (by first | rfl | simp [Act.put, Act.eval]) (HWT.out.keep (T := Nil) (by repeat (first | exact Chg.refl _ _ | refine Chg.drew ?_ | refine Chg.drewsN ?_ _ | refine Chg.alloc ?_ _)) (fun _ _ f => f)) (by first | rfl | simp [Act.put, Act.eval]) (waitC ((k : Int), s ++ zerosB (64 - s.size))) (by rfl) (cell_new_list _ (waitC ((k : Int), s ++ zerosB (64 - s.size))) _) (waitC_one _) (by unfold maxLen; omega) (by omega) ?_; intro v4 w4 S4 hs4 hc4 hg4; obtain ⟨a4, c4, rfl⟩ := hs4.shape))
  all_goals
    have hq4 : Chg Nil w3 _ := ((Chg.refl Nil w3).alloc (.cells #[.int .i64 (k : Int), .string (s ++ zerosB (64 - s.size))] 179)).drew
    have hb4 := hc4.keep (hq4.keep HR3.out.blk (fun f => f)) HR3.out.bw
    have f4 := free_of hb4 2
    have k4 := cell_of hb4 2
    have gb4 := lt_of_block hb4
    simp at k4
    go_wp2_with fail
    go_ret
    refine ⟨rfl, ?_⟩
    have hs4' : SliceAt w4 (.slice a4 (d1.waits.length + 1) c4) 179 2 (d1.waits ++ [((k : Int), padS s)]).length ((d1.waits ++ [((k : Int), padS s)]).flatMap waitC) S4 := by simpa [List.flatMap_append, padS] using hs4
    have hR := (HR3.out.same hq4).moreWaits hc4 hs4' hg4
    have hin : ∀ x, S1 x → S x ∨ w.heap.size ≤ x := fun x hx => (hG1 x hx).imp id (fun h => h.1)
    have hz1 := hC1.size
    have hz2 := HC2.out.size
    have hz3 := HC3.out.size
    have hz4 := hq4.size
    have ca : Chg S w w3 := (hC1.trans (HC2.out.nil (S := S1)) (fun x hx h => by rcases hin x h with q | q; exact q; omega)).trans HC3.out (fun x hx h => by rcases hin x h with q | q; exact q; omega)
    have cb : Chg S w w4 := (ca.trans (hq4.nil (S := S)) (fun x _ h => h)).trans hc4 (fun x hx h => by rcases hin x (i1 x (.inr (.inr h))) with q | q; exact q; omega)
    have hS4 : ∀ x, S4 x → S x ∨ w.heap.size ≤ x := fun x hx => by
      rcases hg4 x hx with q | q
      · exact hin x (i1 x (.inr (.inr q)))
      · exact .inr (by omega)
    have := hR.post (cb.setCell (p := ⟨b, 2, none⟩) (.inr h2) _) h2 h3 (fun x hx => hin x (i1 x (.inl hx))) (fun x hx => hin x (i1 x (.inr (.inl hx)))) hS4
    simpa using this
end Go.Proofs.YtfekiagdnlnggaaDoor
