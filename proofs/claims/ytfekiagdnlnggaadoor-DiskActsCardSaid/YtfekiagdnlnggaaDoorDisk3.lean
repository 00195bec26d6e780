/- disk.Flush, Write by contracts. -/
import Derived.Test.YtfekiagdnlnggaaDoorDisk2
namespace Go.Proofs.YtfekiagdnlnggaaDoor
open Go.RowKit
set_option linter.unusedVariables false
set_option linter.unusedSimpArgs false

theorem pSpend_same (d : PDisk) : (pSpend d).1.kept = d.kept ∧ (pSpend d).1.now = d.now ∧ (pSpend d).1.waits = d.waits := by
  unfold pSpend; split
  · exact ⟨rfl, rfl, rfl⟩
  · split <;> exact ⟨rfl, rfl, rfl⟩
theorem DiskPost.trans {S : Nat → Prop} {w w1 w2 : World} {b : Nat} {d d' : PDisk} (hS : ∀ x, S x → x < w.heap.size) (p : DiskPost S w b d w1) (q : ∀ S1, DiskAt w1 b d S1 → DiskPost S1 w1 b d' w2) : DiskPost S w b d' w2 := by
  obtain ⟨c1, S1, a1, g1⟩ := p
  obtain ⟨c2, S2, a2, g2⟩ := q S1 a1
  have hz := c1.size
  have hz2 := c2.size
  refine ⟨c1.trans c2 (fun x hx h => by rcases g1 x h with h | h; exact h; omega), S2, a2, fun x hx => ?_⟩
  rcases g2 x hx with h | h
  · rcases g1 x h with h | h
    · exact .inl h
    · exact .inr ⟨h.1, by omega⟩
  · exact .inr ⟨by omega, h.2⟩
theorem flush_done {w1 w2 : World} {b : Nat} {d : PDisk} {v2 : Value} {S S2 : Nat → Prop} (ht : DiskAt w1 b d S) (hc : Chg Nil w1 w2) (hs : SliceAt w2 v2 9 1 d.now.length (d.now.flatMap strC) S2) (hS2 : ∀ x, S2 x → w1.heap.size ≤ x ∧ x < w2.heap.size) :
    DiskPost S w1 b { d with kept := d.now, waits := [] } ((w2.setCell ⟨b, 1, none⟩ v2).setCell ⟨b, 3, none⟩ (.slice none 0 0)) := by
  obtain ⟨⟨vk, vn, vw, T', Sk, Sn, Sw, hb, hk, hn, hw, ⟨n1, n2, n3⟩, h3, h4, h5, h6⟩, hS, hl, hi⟩ := ht
  have hz := hc.size
  have hbl := lt_of_block hb
  have hb2 := block_setCell (block_setCell (hc.keep hb (fun f => f)) 1 v2) 3 (.slice none 0 0)
  simp at hb2
  have c2 : Chg (· = b) w2 ((w2.setCell ⟨b, 1, none⟩ v2).setCell ⟨b, 3, none⟩ (.slice none 0 0)) := ((Chg.refl (· = b) w2).setCell (p := ⟨b, 1, none⟩) (.inr rfl) _).setCell (p := ⟨b, 3, none⟩) (.inr rfl) _
  have c3 : Chg S w1 ((w2.setCell ⟨b, 1, none⟩ v2).setCell ⟨b, 3, none⟩ (.slice none 0 0)) := (hc.nil.setCell (p := ⟨b, 1, none⟩) (.inr hS) _).setCell (p := ⟨b, 3, none⟩) (.inr hS) _
  have hz2 := c2.size
  refine ⟨c3, fun x => x = b ∨ Sn x ∨ S2 x, ⟨⟨v2, vn, _, T', S2, Sn, Nil, hb2, ?_, ?_, sliceAt_nil _ _ _ _, ⟨?_, n2, fun f => f⟩, ?_, fun x _ f => f, fun x _ f => f, ?_⟩, .inl rfl, ?_, hi⟩, ?_⟩
  · exact hs.keep c2 (fun x hx e => by have := (hS2 x hx).1; have : x = b := e; omega)
  · exact (hn.keep hc (fun _ _ f => f)).keep c2 (fun x hx e => n2 (e ▸ hx))
  · intro e; have := (hS2 _ e).1; omega
  · intro x e e2; have := (hS2 _ e).1; have := hl x (h6 x (.inr (.inl e2))); omega
  · intro x h; rcases h with h | h | h
    · exact .inr (.inr h)
    · exact .inr (.inl h)
    · exact h.elim
  · intro x h; rcases h with h | h | h
    · omega
    · have := hl x (h6 x (.inr (.inl h))); omega
    · have := (hS2 _ h).2; omega
  · intro x h; rcases h with h | h | h
    · subst h; exact .inl hS
    · exact .inl (h6 x (.inr (.inl h)))
    · exact .inr ⟨(hS2 _ h).1, by have := (hS2 _ h).2; omega⟩
def pFlush (d : PDisk) : PDisk × Nat := if (pSpend d).2 = true then ({ (pSpend d).1 with kept := (pSpend d).1.now, waits := [] }, 0) else ((pSpend d).1, 15)
theorem flush_any {B : Nat} (ad : Nat → Addr) (b : Nat) (d : PDisk) (S : Nat → Prop) (w : World) (he : Env B ad [15] w) (hB : ∀ x, S x → B ≤ x) (ht : DiskAt w b d S) (hf : d.now.length ≤ 4000) :
    Calls Tryd.prog 45 #[.pointer (some ⟨b, 0, none⟩)] w fun e w' => e = .returned (errV ad (pFlush d).2) ∧ DiskPost S w b (pFlush d).1 w' := by
  have hlt := ht.2.2.1
  have HE := Lib.hid he
  have hsp := spend_any b d S w ht
  obtain ⟨d1, hd1⟩ : ∃ d1, d1 = (pSpend d).1 := ⟨_, rfl⟩
  have hnow := (pSpend_same d).2.1
  unfold pFlush
  rw [← hd1] at hsp hnow ⊢
  rw [← hnow] at hf
  have hbl := lt_of_block ht.1.choose_spec.choose_spec.choose_spec.choose_spec.choose_spec.choose_spec.choose_spec.1
  clear ht hd1 hnow
  by_cases h : (pSpend d).2 = true
  · rw [h] at hsp
    rw [if_pos h]
    clear h he
    go_enter Tryd.func45, Tryd.ntmps45
    go_wp2_with fail
    refine hsp.mono ?_
    rintro e w1 ⟨rfl, hp1⟩
    have HP := Lib.hid hp1
    obtain ⟨hc1, S1, ht1, hg1⟩ := hp1
    have HT := Lib.hid ht1
    obtain ⟨⟨vk, vn, vw, T', Sk, Sn, Sw, hb, hk, hn, hw, ⟨n1, n2, n3⟩, h3, h4, h5, h6⟩, hS, hl, hi⟩ := ht1
    have HN := Lib.hid hn
    have HBL := Lib.hid hb
    have d2 := cell_of hb 2
    simp at d2
    obtain ⟨an, cn, rfl⟩ := hn.shape
    clear hb hk hn hw hc1 hg1 hi
    go_wp2_with fail
    refine (clone_str _ _ _ Sn w1 HN.out (strC_ones _) (by omega)).mono ?_
    rintro e w2 ⟨v2, S2, rfl, hc2, hs2, hS2⟩
    have hb2 := hc2.keep HBL.out (fun f => f)
    have f1 := free_of hb2 1
    have f3 := free_of hb2 3
    have k1 := cell_of hb2 1
    have k3 := cell_of hb2 3
    simp at k1 k3
    obtain ⟨a2, c2, rfl⟩ := hs2.shape
    have HC2 := Lib.hid hc2
    have HS2 := Lib.hid hs2
    have hbl2 := lt_of_block hb2
    clear hb2 hc2 hs2
    go_wp2_with fail
    go_ret
    exact ⟨rfl, HP.out.trans hlt (fun S1' h1 => flush_done h1 HC2.out HS2.out hS2)⟩
  · have h' : (pSpend d).2 = false := by simpa using h
    rw [h'] at hsp
    rw [if_neg h]
    clear h h' he
    go_enter Tryd.func45, Tryd.ntmps45
    go_wp2_with fail
    refine hsp.mono ?_
    rintro e w1 ⟨rfl, hp1⟩
    have HP := Lib.hid hp1
    obtain ⟨g1, g1l⟩ := (HE.out.keep hp1.1 hB).get (c := 15) (by simp)
    simp only [gl] at g1 g1l
    clear hp1
    go_wp2_with fail
    go_ret
    exact ⟨rfl, HP.out⟩
end Go.Proofs.YtfekiagdnlnggaaDoor
