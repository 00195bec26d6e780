/- disk.Write by contract. -/
import Derived.Test.YtfekiagdnlnggaaDoorDisk3
namespace Go.Proofs.YtfekiagdnlnggaaDoor
open Go.RowKit
set_option linter.unusedVariables false
set_option linter.unusedSimpArgs false

def padS (s : ByteArray) : ByteArray := s ++ zerosB (64 - s.size)
theorem info_dwrite : (Tryd.prog.info? 175).map (fun i => (i.zero, i.size, i.bytes)) = some (some (.agg #[.int .i64 0, .string ⟨#[]⟩]), 2, 24) := by kernel_rfl
theorem waitC_one (p : Int × ByteArray) : ∀ u ∈ waitC p, u.oneCell' = true := by
  intro u hu; simp [waitC] at hu; rcases hu with rfl | rfl <;> rfl
theorem DiskPost.step {S S1 : Nat → Prop} {w w1 w2 : World} {b : Nat} {d' : PDisk} (c1 : Chg S w w1) (g1 : Grow S S1 w w1) (q : DiskPost S1 w1 b d' w2) (hS : ∀ x, S x → x < w.heap.size) : DiskPost S w b d' w2 := by
  obtain ⟨c2, S2, a2, g2⟩ := q
  have hz := c1.size
  have hz2 := c2.size
  refine ⟨c1.trans c2 (fun x hx h => by rcases g1 x h with h | h; exact h; omega), S2, a2, fun x hx => ?_⟩
  rcases g2 x hx with h | h
  · rcases g1 x h with h | h
    · exact .inl h
    · exact .inr ⟨h.1, by omega⟩
  · exact .inr ⟨by omega, h.2⟩
theorem cell_new_at (w : World) {b : Nat} (news : List Value) (T : TypeId) (hb : b = w.heap.size) : ∀ j u, news[j]? = some u → (w.alloc (.cells news.toArray T)).cell? ((⟨b, 0, none⟩ : Addr).add j) = some u := by
  subst hb; exact cell_new_list w news T
theorem slice_len {w : World} {a : Option Addr} {n cap E size m : Nat} {xs : List Value} {S : Nat → Prop} (hn : SliceAt w (.slice a n cap) E size m xs S) : n = m := by
  obtain ⟨_, ⟨e, h⟩ | ⟨g', off', cap', cs, e, _⟩⟩ := hn
  · cases e; omega
  · cases e; rfl
/-- One sector stored anew. -/
theorem disk_sector {w : World} {b k g off n cap : Nat} {d : PDisk} {S : Nat → Prop} {vk vw : Value} {T' : TypeId} {Sk Sn Sw : Nat → Prop} {t : ByteArray}
    (hb : w.heap[b]? = some (.cells #[.int .i64 d.left, vk, .slice (some ⟨g, off, none⟩) n cap, vw] T' (0, 0)))
    (hk : SliceAt w vk 9 1 d.kept.length (d.kept.flatMap strC) Sk) (hn : SliceAt w (.slice (some ⟨g, off, none⟩) n cap) 9 1 d.now.length (d.now.flatMap strC) Sn) (hw : SliceAt w vw 175 2 d.waits.length (d.waits.flatMap waitC) Sw)
    (h1 : ¬ Sk b ∧ ¬ Sn b ∧ ¬ Sw b) (h2 : ∀ x, Sk x → ¬ Sn x) (h3 : ∀ x, Sk x → ¬ Sw x) (h4 : ∀ x, Sn x → ¬ Sw x) (h5 : ∀ x, Sk x ∨ Sn x ∨ Sw x → S x) (hS : S b) (hl : ∀ x, S x → x < w.heap.size) (hi : -1 ≤ d.left ∧ d.left ≤ 9223372036854775807) (hkl : k < d.now.length) :
    DiskPost S w b { d with now := d.now.set k t } (w.setCell ⟨g, off + k, none⟩ (.string t)) ∧ Sn g ∧ (w.setCell ⟨g, off + k, none⟩ (.string t)).heap[b]? = w.heap[b]? ∧ SliceAt (w.setCell ⟨g, off + k, none⟩ (.string t)) vw 175 2 d.waits.length (d.waits.flatMap waitC) Sw := by
  have hnn : n = d.now.length := slice_len hn
  obtain ⟨g', off', cap', cs, e, hb9, _, _, _, _, hg, hgl⟩ := hn.place (by omega)
  cases e
  have hset := SliceAt.setElem strC_len hn (k := k) hkl t
  have hse : w.setCells g (off + k * 1) (strC t) = w.setCell ⟨g, off + k, none⟩ (.string t) := by rw [Nat.mul_one]; rfl
  rw [hse] at hset
  have hgb : g ≠ b := fun e => h1.2.1 (e ▸ hg)
  have hc : Chg (· = g) w (w.setCell ⟨g, off + k, none⟩ (.string t)) := (Chg.refl (· = g) w).setCell (p := ⟨g, off + k, none⟩) (.inr rfl) _
  have hc2 : Chg S w (w.setCell ⟨g, off + k, none⟩ (.string t)) := (Chg.refl S w).setCell (p := ⟨g, off + k, none⟩) (.inr (h5 _ (.inr (.inl hg)))) _
  have hb2 := hc.keep hb (fun e => hgb e.symm)
  refine ⟨⟨hc2, S, ⟨⟨vk, _, vw, T', Sk, Sn, Sw, hb2, hk.keep hc (fun x hx e => h2 x hx (e ▸ hg)), ?_, hw.keep hc (fun x hx e => h4 g hg (e ▸ hx)), h1, h2, h3, h4, h5⟩, hS, fun x hx => Nat.lt_of_lt_of_le (hl x hx) hc.size, hi⟩, fun x hx => .inl hx⟩, hg, by rw [hb2, hb], hw.keep hc (fun x hx e => h4 g hg (e ▸ hx))⟩
  simpa using hset
def pWrite (d : PDisk) (n : Int) (s : ByteArray) : PDisk × Nat :=
  if n < 0 ∨ d.now.length ≤ n then (d, 2) else if 64 < s.size then (d, 3) else
  if (pSpend d).2 = true then ({ (pSpend d).1 with now := (pSpend d).1.now.set n.toNat (padS s), waits := (pSpend d).1.waits ++ [(n, padS s)] }, 0) else ((pSpend d).1, 15)
theorem write_done {w1 w2 w3 : World} {b k g off n cap : Nat} {d : PDisk} {S : Nat → Prop} {vk vw v3 : Value} {T' : TypeId} {Sk Sn Sw S3 : Nat → Prop} {t : ByteArray} {o : Obj}
    (hb : w1.heap[b]? = some (.cells #[.int .i64 d.left, vk, .slice (some ⟨g, off, none⟩) n cap, vw] T' (0, 0)))
    (hk : SliceAt w1 vk 9 1 d.kept.length (d.kept.flatMap strC) Sk) (hn : SliceAt w1 (.slice (some ⟨g, off, none⟩) n cap) 9 1 d.now.length (d.now.flatMap strC) Sn) (hw : SliceAt w1 vw 175 2 d.waits.length (d.waits.flatMap waitC) Sw)
    (h1 : ¬ Sk b ∧ ¬ Sn b ∧ ¬ Sw b) (h2 : ∀ x, Sk x → ¬ Sn x) (h3 : ∀ x, Sk x → ¬ Sw x) (h4 : ∀ x, Sn x → ¬ Sw x) (h5 : ∀ x, Sk x ∨ Sn x ∨ Sw x → S x) (hS : S b) (hl : ∀ x, S x → x < w1.heap.size) (hi : -1 ≤ d.left ∧ d.left ≤ 9223372036854775807) (hkl : k < d.now.length)
    (hc : Chg Nil w1 w2) (hs3 : SliceAt w3 v3 175 2 (d.waits.length + 1) (d.waits.flatMap waitC ++ waitC ((k : Int), t)) S3) (hc3 : Chg Sw ((w2.setCell ⟨g, off + k, none⟩ (.string t)).alloc o) w3) (hg3 : Grow Sw S3 ((w2.setCell ⟨g, off + k, none⟩ (.string t)).alloc o) w3) :
    DiskPost S w1 b { d with now := d.now.set k t, waits := d.waits ++ [((k : Int), t)] } (w3.setCell ⟨b, 3, none⟩ v3) := by
  obtain rfl := slice_len hn
  have z1 := hc.size
  have z3 := hc3.size
  simp at z3
  have hb' := hc.keep hb (fun f => f)
  have hbl := lt_of_block hb
  obtain ⟨⟨c4, S4, a4, g4⟩, hg, _, _⟩ := disk_sector (t := t) hb' (hk.keep hc (fun _ _ f => f)) (hn.keep hc (fun _ _ f => f)) (hw.keep hc (fun _ _ f => f)) h1 h2 h3 h4 h5 hS (fun x hx => Nat.lt_of_lt_of_le (hl x hx) z1) hi hkl
  have hgb : g ≠ b := fun e => h1.2.1 (e ▸ hg)
  have hset := SliceAt.setElem strC_len (hn.keep hc (fun _ _ f => f)) (k := k) hkl t
  have hse : w2.setCells g (off + k * 1) (strC t) = w2.setCell ⟨g, off + k, none⟩ (.string t) := by rw [Nat.mul_one]; rfl
  rw [hse] at hset
  have hc5 : Chg (· = g) w2 (w2.setCell ⟨g, off + k, none⟩ (.string t)) := (Chg.refl (· = g) w2).setCell (p := ⟨g, off + k, none⟩) (.inr rfl) _
  have hc6 : Chg (· = g) w2 ((w2.setCell ⟨g, off + k, none⟩ (.string t)).alloc o) := hc5.alloc _
  have hb6 := hc6.keep hb' (fun e => hgb e.symm)
  have hb3 := hc3.keep hb6 h1.2.2
  have hb7 := block_setCell hb3 3 v3
  simp at hb7
  have hc7 : Chg (· = b) w3 (w3.setCell ⟨b, 3, none⟩ v3) := (Chg.refl (· = b) w3).setCell (p := ⟨b, 3, none⟩) (.inr rfl) _
  have hgl : ∀ x, S x → x < w3.heap.size := fun x hx => by have := hl x hx; omega
  have hS3 : ∀ x, S3 x → S x ∨ (w1.heap.size ≤ x ∧ x < w3.heap.size) := fun x hx => by
    rcases hg3 x hx with h | h
    · exact .inl (h5 x (.inr (.inr h)))
    · simp at h; exact .inr ⟨by omega, h.2⟩
  have hS3b : ∀ x, S3 x → Sw x ∨ w1.heap.size ≤ x := fun x hx => by
    rcases hg3 x hx with h | h
    · exact .inl h
    · simp at h; exact .inr (by omega)
  have hS3n : ¬ S3 b := fun h => by rcases hS3b b h with h | h; exact h1.2.2 h; omega
  refine ⟨?_, fun x => S x ∨ S3 x, ⟨⟨vk, _, v3, T', Sk, Sn, S3, hb7, ?_, ?_, ?_, ⟨h1.1, h1.2.1, hS3n⟩, h2, ?_, ?_, ?_⟩, .inl hS, ?_, hi⟩, ?_⟩
  · have a1 : Chg S w1 ((w2.setCell ⟨g, off + k, none⟩ (.string t)).alloc o) := ((hc.nil).setCell (p := ⟨g, off + k, none⟩) (.inr (h5 _ (.inr (.inl hg)))) _).alloc _
    exact (a1.trans (hc3.mono (fun x _ hx => h5 x (.inr (.inr hx)))) (fun x _ h => h)).setCell (p := ⟨b, 3, none⟩) (.inr hS) _
  · exact (((hk.keep hc (fun _ _ f => f)).keep hc6 (fun x hx e => h2 x hx (e ▸ hg))).keep hc3 h3).keep hc7 (fun x hx e => h1.1 (e ▸ hx))
  · have := ((hset.keep ((Chg.refl Nil _).alloc o) (fun _ _ f => f)).keep hc3 h4).keep hc7 (fun x hx e => h1.2.1 (e ▸ hx))
    simpa using this
  · have := hs3.keep hc7 (fun x hx e => hS3n (e ▸ hx))
    simpa using this
  · intro x hx h; rcases hS3b x h with h | h
    · exact h3 x hx h
    · have := hl x (h5 x (.inl hx)); omega
  · intro x hx h; rcases hS3b x h with h | h
    · exact h4 x hx h
    · have := hl x (h5 x (.inr (.inl hx))); omega
  · intro x h; rcases h with h | h | h
    · exact .inl (h5 x (.inl h))
    · exact .inl (h5 x (.inr (.inl h)))
    · exact .inr h
  · intro x h; have hz7 := hc7.size; rcases h with h | h
    · have := hgl x h; omega
    · rcases hS3 x h with h | h
      · have := hgl x h; omega
      · omega
  · intro x h; have hz7 := hc7.size; rcases h with h | h
    · exact .inl h
    · rcases hS3 x h with h | h
      · exact .inl h
      · exact .inr ⟨h.1, by omega⟩

theorem write_any {B : Nat} (ad : Nat → Addr) (b : Nat) (n : Int) (s : ByteArray) (d : PDisk) (S : Nat → Prop) (w : World) (he : Env B ad [2, 3, 15] w) (hB : ∀ x, S x → B ≤ x) (ht : DiskAt w b d S) (hf : (d.waits.length + 1) * 24 ≤ 140737488355328) :
    Calls Tryd.prog 47 #[.pointer (some ⟨b, 0, none⟩), .int .i64 n, .string s] w fun e w' => e = .returned (errV ad (pWrite d n s).2) ∧ DiskPost S w b (pWrite d n s).1 w' := by
  have hlt := ht.2.2.1
  have HE := Lib.hid he
  have HT := Lib.hid ht
  obtain ⟨q2, q2l⟩ := he.get (c := 2) (by simp)
  obtain ⟨q3, q3l⟩ := he.get (c := 3) (by simp)
  simp only [gl] at q2 q2l q3 q3l
  obtain ⟨⟨vk, vn, vw, T', Sk, Sn, Sw, hb, _, hn, _⟩, _⟩ := ht
  obtain ⟨an, cn, rfl⟩ := hn.shape
  have hbl := lt_of_block hb
  have k2 := cell_of hb 2
  simp at k2
  clear hb hn he
  unfold pWrite
  by_cases hbad : n < 0 ∨ d.now.length ≤ n
  · rw [if_pos hbad]
    have hgo : n < 0 ∨ (¬ n < 0 ∧ (d.now.length : Int) ≤ n) := by omega
    clear hbad
    rcases hgo with h | ⟨h, h'⟩
    all_goals
      go_enter Tryd.func47, Tryd.ntmps47
      go_wp2_with fail
      go_ret
      exact ⟨rfl, disk_same HT.out⟩
  rw [if_neg hbad]
  obtain ⟨k, rfl⟩ : ∃ k : Nat, n = k := ⟨n.toNat, by omega⟩
  have g1 : ¬ ((k : Int) < 0) := by omega
  have g2 : ¬ ((d.now.length : Int) ≤ (k : Int)) := by omega
  have hkl : k < d.now.length := by omega
  clear hbad
  by_cases hs : 64 < s.size
  · rw [if_pos hs]
    have g3 : (64 : Int) < (s.size : Int) := by omega
    go_enter Tryd.func47, Tryd.ntmps47
    go_wp2_with fail
    go_ret
    exact ⟨rfl, disk_same HT.out⟩
  rw [if_neg hs]
  have g3 : ¬ ((64 : Int) < (s.size : Int)) := by omega
  have hs64 : s.size ≤ 64 := by omega
  have hsp := spend_any b d S w HT.out
  obtain ⟨d1, hd1⟩ : ∃ d1, d1 = (pSpend d).1 := ⟨_, rfl⟩
  have hnow := (pSpend_same d).2.1
  have hwt := (pSpend_same d).2.2
  rw [← hd1] at hsp hnow hwt ⊢
  clear hd1
  by_cases h : (pSpend d).2 = true
  · rw [h] at hsp
    rw [if_pos h]
    clear h
    go_enter Tryd.func47, Tryd.ntmps47
    go_wp2_with fail
    refine hsp.mono ?_
    rintro e w1 ⟨rfl, hp1⟩
    have HP := Lib.hid hp1
    obtain ⟨hc1, S1, ht1, hg1⟩ := hp1
    have HT1 := Lib.hid ht1
    obtain ⟨⟨vk, vn, vw, T', Sk, Sn, Sw, hb, hk, hn, hw, h1, h2, h3, h4, h5⟩, hS, hl, hi⟩ := ht1
    rw [← hnow] at hkl
    rw [← hwt] at hf
    clear hnow hwt
    obtain ⟨g, off, cap, cs, rfl, hb9, hn9, hcm9, _, hcl9, hg9, hgl9⟩ := hn.place (by omega)
    obtain ⟨z0, hz0⟩ : ∃ z, d1.now[k]? = some z := ⟨d1.now[k], List.getElem?_eq_getElem hkl⟩
    have hel := SliceAt.elem strC_len hn hz0 0 (.string z0) rfl
    have hgb : g ≠ b := fun e => h1.2.1 (e ▸ hg9)
    obtain ⟨aw, cw, rfl⟩ := hw.shape
    have HB := Lib.hid hb
    have HK := Lib.hid hk
    have HN := Lib.hid hn
    have HW := Lib.hid hw
    have HEL := Lib.hid hel
    have HH := Lib.hid (And.intro h1 (And.intro h2 (And.intro h3 (And.intro h4 h5))))
    have HS := Lib.hid (And.intro hS (And.intro hl hi))
    have hzz : ¬ (9223372036854775807 < s.size + (zerosB (64 - s.size)).size) := by rw [zerosB_size]; omega
    have hw1 : IntKind.i64.wrap (64 - (s.size : Int)) = ((64 - s.size : Nat) : Int) := by rw [IntWalk.i64_in _ (by omega)]; omega
    have HCG := Lib.hid (And.intro hc1 hg1)
    clear hb hk hn hw hc1 hg1 hi hcl9 hel hz0 h1 h2 h3 h4 h5 hS hl k2 q2 q2l q3 q3l hbl
    go_wp2_with fail
    refine (nuls_any (64 - s.size) _ (by omega)).mono ?_
    rintro e w2 ⟨rfl, hc2⟩
    have hb2 := hc2.keep HB.out (fun f => f)
    have e2 := (HN.out.keep hc2 (fun _ _ f => f)).elem strC_len (k := k) (List.getElem?_eq_getElem hkl) 0 _ rfl
    have e21 := e2.1
    have e22 := e2.2.1
    simp only [Nat.mul_one, Nat.add_zero] at e21 e22
    have k2 := cell_of hb2 2
    have k3 := cell_of hb2 3
    have f3 := free_of hb2 3
    simp at k2 k3
    obtain ⟨hDP, hg, hbS, hwS⟩ := disk_sector (t := s ++ zerosB (64 - s.size)) hb2 (HK.out.keep hc2 (fun _ _ f => f)) (HN.out.keep hc2 (fun _ _ f => f)) (HW.out.keep hc2 (fun _ _ f => f)) HH.out.1 HH.out.2.1 HH.out.2.2.1 HH.out.2.2.2.1 HH.out.2.2.2.2 HS.out.1 (fun x hx => Nat.lt_of_lt_of_le (HS.out.2.1 x hx) hc2.size) HS.out.2.2 hkl
    have HWS := Lib.hid hwS
    have HBS := Lib.hid (hbS.trans hb2)
    have HC2 := Lib.hid hc2
    have gb2 := lt_of_block hb2
    have gg2 := e2.2.2
    have g5 : k < cap := by omega
    clear hDP hg hbS hwS hb2 e2 hc2 hb9 hgl9 hn9
    go_wp2_with (at_builtin; go_loud (refine wpList_appendS (m := 1) (n := d1.waits.length) rfl _ _ 171 rfl Tryd.underlying171 info_dwrite rfl (by decide) rfl (HWS.out.keep ((Chg.refl Nil _).alloc _) (fun _ _ f => f)) rfl (waitC ((k : Int), s ++ zerosB (64 - s.size))) rfl (cell_new_at (w2.setCell ⟨g, off + k, none⟩ (.string (s ++ zerosB (64 - s.size)))) (waitC ((k : Int), s ++ zerosB (64 - s.size))) _ (by simp)) (waitC_one _) (by unfold maxLen; omega) (by omega) ?_); intro v3 w3 S3 hs3 hc3 hg3; obtain ⟨a3, c3, rfl⟩ := hs3.shape; have hb3 := hc3.keep (((Chg.refl Nil _).alloc _).keep HBS.out (fun f => f)) HH.out.1.2.2; have c33 := cell_of hb3 3; have f33 := free_of hb3 3; have gb3 := lt_of_block hb3; simp at c33; have HS3 := Lib.hid hs3; have HC3 := Lib.hid hc3; have HG3 := Lib.hid hg3; clear hb3 hs3 hc3 hg3)
    go_ret
    exact ⟨rfl, DiskPost.step HCG.out.1 HCG.out.2 (write_done HB.out HK.out HN.out HW.out HH.out.1 HH.out.2.1 HH.out.2.2.1 HH.out.2.2.2.1 HH.out.2.2.2.2 HS.out.1 HS.out.2.1 HS.out.2.2 hkl HC2.out HS3.out HC3.out HG3.out) hlt⟩
  · have h' : (pSpend d).2 = false := by simpa using h
    rw [h'] at hsp
    rw [if_neg h]
    clear h h'
    go_enter Tryd.func47, Tryd.ntmps47
    go_wp2_with fail
    refine hsp.mono ?_
    rintro e w1 ⟨rfl, hp1⟩
    have HP := Lib.hid hp1
    obtain ⟨g1, g1l⟩ := (HE.out.keep hp1.1 hB).get (c := 15) (by simp)
    simp only [gl] at g1 g1l
    clear hp1
    go_wp2_with fail
    go_ret
    exact ⟨rfl, HP.out⟩
end Go.Proofs.YtfekiagdnlnggaaDoor
