/- disk.Crash by contract. -/
import Derived.Test.YtfekiagdnlnggaaDoorDisk5
import Derived.Test.YtfekiagdnlnggaaDoorOps
namespace Go.Proofs.YtfekiagdnlnggaaDoor
open Go.RowKit
set_option linter.unusedVariables false
set_option linter.unusedSimpArgs false

def flagC (x : Bool) : List Value := [.bool x]
theorem flagC_len (x : Bool) : (flagC x).length = 1 := rfl
def kStep (keep : List Bool) (l : List ByteArray) (k : Nat) (p : Int × ByteArray) : List ByteArray := if keep[k]? = some true then l.set p.1.toNat p.2 else l
def crashK (keep : List Bool) (waits : List (Int × ByteArray)) (kept : List ByteArray) : Nat → List ByteArray
  | 0 => kept
  | k + 1 => match waits[k]? with
    | some p => kStep keep (crashK keep waits kept k) k p
    | none => crashK keep waits kept k
theorem kStep_len (keep : List Bool) (l : List ByteArray) (k : Nat) (p : Int × ByteArray) : (kStep keep l k p).length = l.length := by
  unfold kStep; split <;> simp
theorem crashK_len (keep : List Bool) (waits : List (Int × ByteArray)) (kept : List ByteArray) : ∀ k, (crashK keep waits kept k).length = kept.length
  | 0 => rfl
  | k + 1 => by
    have := crashK_len keep waits kept k
    unfold crashK
    split
    · rw [kStep_len, this]
    · exact this
def pCrash (d : PDisk) (keep : List Bool) : PDisk :=
  { left := -1, kept := crashK keep d.waits d.kept d.waits.length, now := crashK keep d.waits d.kept d.waits.length, waits := [] }
def RelCr (keep : List Bool) (waits : List (Int × ByteArray)) (kept : List ByteArray) (vk : Value) (Sk : Nat → Prop) (w : World) (i : Value) (wr : World) : Prop :=
  ∃ k : Nat, k ≤ waits.length ∧ i = .int .i64 k ∧ Chg Sk w wr ∧ SliceAt wr vk 9 1 kept.length ((crashK keep waits kept k).flatMap strC) Sk

theorem crash_done {w wr w2 : World} {b : Nat} {l0 : Int} {K : List ByteArray} {n : Nat} {vk vn vw v2 : Value} {T' : TypeId} {S Sk S2 : Nat → Prop} (hb : w.heap[b]? = some (.cells #[.int .i64 l0, vk, vn, vw] T' (0, 0))) (hkr : SliceAt wr vk 9 1 n (K.flatMap strC) Sk) (hKn : K.length = n)
    (n1 : ¬ Sk b) (h5 : ∀ x, Sk x → S x) (hS : S b) (hl : ∀ x, S x → x < w.heap.size) (hC : Chg Sk w wr) (hc : Chg Nil wr w2) (hs : SliceAt w2 v2 9 1 n (K.flatMap strC) S2) (hS2 : ∀ x, S2 x → wr.heap.size ≤ x ∧ x < w2.heap.size) :
    DiskPost S w b ⟨-1, K, K, []⟩ (((w2.setCell ⟨b, 2, none⟩ v2).setCell ⟨b, 3, none⟩ (.slice none 0 0)).setCell ⟨b, 0, none⟩ (.int .i64 (-1))) := by
  subst hKn
  have z1 := hC.size
  have z2 := hc.size
  have hbl := lt_of_block hb
  have hb1 := hc.keep (hC.keep hb n1) (fun f => f)
  have hb2 := block_setCell (block_setCell (block_setCell hb1 2 v2) 3 (.slice none 0 0)) 0 (.int .i64 (-1))
  simp at hb2
  have c2 : Chg (· = b) w2 (((w2.setCell ⟨b, 2, none⟩ v2).setCell ⟨b, 3, none⟩ (.slice none 0 0)).setCell ⟨b, 0, none⟩ (.int .i64 (-1))) := (((Chg.refl (· = b) w2).setCell (p := ⟨b, 2, none⟩) (.inr rfl) _).setCell (p := ⟨b, 3, none⟩) (.inr rfl) _).setCell (p := ⟨b, 0, none⟩) (.inr rfl) _
  have c1 : Chg S w w2 := (hC.mono (fun x _ hx => h5 x hx)).trans hc.nil (fun x _ h => h)
  have c3 : Chg S w (((w2.setCell ⟨b, 2, none⟩ v2).setCell ⟨b, 3, none⟩ (.slice none 0 0)).setCell ⟨b, 0, none⟩ (.int .i64 (-1))) := ((c1.setCell (p := ⟨b, 2, none⟩) (.inr hS) _).setCell (p := ⟨b, 3, none⟩) (.inr hS) _).setCell (p := ⟨b, 0, none⟩) (.inr hS) _
  have z3 := c2.size
  refine ⟨c3, fun x => x = b ∨ Sk x ∨ S2 x, ⟨⟨vk, v2, _, T', Sk, S2, Nil, hb2, (hkr.keep hc (fun _ _ f => f)).keep c2 (fun x hx e => n1 (e ▸ hx)), hs.keep c2 (fun x hx e => by have := (hS2 x hx).1; have : x = b := e; omega), sliceAt_nil _ _ _ _, ⟨n1, ?_, fun f => f⟩, ?_, fun x _ f => f, fun x _ f => f, ?_⟩, .inl rfl, ?_, by show (-1 : Int) ≤ -1; omega, by show (-1 : Int) ≤ 9223372036854775807; omega⟩, ?_⟩
  · intro e; have := (hS2 _ e).1; omega
  · intro x e e2; have := (hS2 _ e2).1; have := hl x (h5 x e); omega
  · intro x h; rcases h with h | h | h
    · exact .inr (.inl h)
    · exact .inr (.inr h)
    · exact h.elim
  · intro x h; rcases h with h | h | h
    · omega
    · have := hl x (h5 x h); omega
    · have := (hS2 _ h).2; omega
  · intro x h; rcases h with h | h | h
    · subst h; exact .inl hS
    · exact .inl (h5 x h)
    · exact .inr ⟨by have := (hS2 _ h).1; omega, by have := (hS2 _ h).2; omega⟩

set_option maxHeartbeats 2000000 in
set_option maxRecDepth 100000 in
theorem crash_any (b : Nat) (d : PDisk) (S Kb : Nat → Prop) (w : World) (keep : List Bool) (vkeep : Value) (ht : DiskAt w b d S) (hkp : SliceAt w vkeep 4 1 keep.length (keep.flatMap flagC) Kb) (hKl : ∀ x, Kb x → x < w.heap.size) (hKb : ∀ x, Kb x → ¬ S x) (f1 : d.kept.length ≤ 4000) (hin : ∀ p ∈ d.waits, 0 ≤ p.1 ∧ p.1 < d.kept.length) :
    Calls Tryd.prog 44 #[.pointer (some ⟨b, 0, none⟩), vkeep] w fun e w' => e = .returned (.tuple #[]) ∧ DiskPost S w b (pCrash d keep) w' := by
  have hlt := ht.2.2.1
  have HT := Lib.hid ht
  obtain ⟨⟨vk, vn, vw, T', Sk, Sn, Sw, hb, hk, hn, hw, ⟨n1, n2, n3⟩, h2, h3, h4, h5⟩, hS, _, _⟩ := ht
  obtain ⟨ak, ck, rfl⟩ := hk.shape
  obtain ⟨aw, cw, rfl⟩ := hw.shape
  obtain ⟨ab, cb, rfl⟩ := hkp.shape
  have hbl := lt_of_block hb
  have c1 := cell_of hb 1
  have c3 := cell_of hb 3
  simp at c1 c3
  have hwl := hw.le
  have hkl := hkp.le
  have HB := Lib.hid hb
  have HK := Lib.hid hk
  have HW := Lib.hid hw
  have HKP := Lib.hid hkp
  have HIN := Lib.hid hin
  clear hb hk hn hw hkp hin
  go_enter Tryd.func44, Tryd.ntmps44
  go_wp2_with fail
  go_loopw [11] (fun i wr => RelCr keep d.waits d.kept (.slice ak d.kept.length ck) Sk w i wr) (fun i _ => (d.waits.length - intOf i).toNat)
  case atStart => exact ⟨0, Nat.zero_le _, rfl, Chg.refl _ _, HK.out⟩
  case round =>
    obtain ⟨k, hkn, rfl, hC, hsk⟩ := hrel
    have HSK := Lib.hid hsk
    have HC := Lib.hid hC
    have hz := hC.size
    have d1 := (hC.keep HB.out n1)
    have e1 := cell_of d1 1
    simp at e1
    clear hsk
    rcases Nat.lt_or_ge k d.waits.length with hlt2 | hge
    · obtain ⟨p, hp⟩ : ∃ p, d.waits[k]? = some p := ⟨d.waits[k], List.getElem?_eq_getElem hlt2⟩
      obtain ⟨g, off, cap, cs, e, hb9, hn9, hcm9, _, hcl9, hg9, hgl9⟩ := HW.out.place (by omega)
      cases e
      have hwr := HW.out.keep hC (fun x hx h => h3 x h hx)
      have w0 := (hwr.elem waitC_len hp 0 (.int .i64 p.1) rfl).1
      have w1 := (hwr.elem waitC_len hp 1 (.string p.2) rfl).1
      simp only [Nat.add_zero] at w0
      have hpin := HIN.out p (List.mem_of_getElem? hp)
      obtain ⟨p1, p2⟩ := p
      obtain ⟨q, rfl⟩ : ∃ q : Nat, p1 = q := ⟨p1.toNat, by have := hpin.1; simp at this; omega⟩
      have hq : q < d.kept.length := by have := hpin.2; simp at this; omega
      simp only at w0 w1
      have gwr := Nat.lt_of_lt_of_le hgl9 hz
      have bwr := Nat.lt_of_lt_of_le hbl hz
      have hkw : (k : Int) < (d.waits.length : Int) := by omega
      have hkc : k < cw := by omega
      have hw1 : IntKind.i64.wrap ((k : Int) + 1) = ((k + 1 : Nat) : Int) := by rw [IntWalk.i64_in _ (by omega)]; rfl
      have hstep : crashK keep d.waits d.kept (k + 1) = kStep keep (crashK keep d.waits d.kept k) k ((q : Int), p2) := by rw [crashK, hp]
      have HST := Lib.hid hstep
      clear hb9 hcl9 hwr hpin d1 hC hstep hp
      by_cases hkk : k < keep.length
      · obtain ⟨x, hx⟩ : ∃ x, keep[k]? = some x := ⟨keep[k], List.getElem?_eq_getElem hkk⟩
        obtain ⟨gb, offb, capb, csb, e, _, hnb, _, _, _, hgb, hgbl⟩ := HKP.out.place (by omega)
        cases e
        have hkr := HKP.out.keep HC.out (fun y hy h => hKb y hy (h5 y (.inl h)))
        have x0 := (hkr.elem flagC_len hx 0 (.bool x) rfl).1
        simp only [Nat.mul_one, Nat.add_zero] at x0
        have gbr := Nat.lt_of_lt_of_le hgbl hz
        have hkcb : k < cb := by omega
        have hkl2 : (k : Int) < (keep.length : Int) := by omega
        clear hkr
        rcases x with _ | _
        · go_wp2_with fail
          refine ⟨⟨k + 1, by omega, rfl, HC.out.alloc _, ?_⟩, by simp [intOf]; omega⟩
          rw [HST.out, kStep, if_neg (by rw [hx]; simp)]
          exact HSK.out.keep ((Chg.refl Nil wr).alloc _) (fun _ _ f => f)
        · obtain ⟨gk, offk, capk, csk, e, _, hnk, _, _, _, hgk, hgkl⟩ := HSK.out.place (by omega)
          cases e
          have hlq : q < (crashK keep d.waits d.kept k).length := by rw [crashK_len]; exact hq
          have y := HSK.out.elem strC_len (List.getElem?_eq_getElem hlq) 0 _ rfl
          have y0 := y.1
          have y1 := y.2.1
          simp only [Nat.mul_one, Nat.add_zero] at y0 y1
          have hqk : q < ck := by omega
          have hqI : (q : Int) < (d.kept.length : Int) := by omega
          clear y
          go_wp2_with fail
          go_region
          go_wp2_with fail
          refine ⟨⟨k + 1, by omega, rfl, ((HC.out.setCell (p := ⟨gk, offk + q, none⟩) (.inr hgk) _).alloc _).drew, ?_⟩, by simp [intOf]; omega⟩
          have hset := SliceAt.setElem strC_len (HSK.out.mono (fun _ h => h)) (k := q) hlq p2
          have hse : wr.setCells gk (offk + q * 1) (strC p2) = wr.setCell ⟨gk, offk + q, none⟩ (.string p2) := by rw [Nat.mul_one]; rfl
          rw [hse] at hset
          rw [HST.out, kStep, if_pos hx]
          exact hset.keep (((Chg.refl Nil _).alloc _).drew) (fun _ _ f => f)
      · have hkl2 : ¬ ((k : Int) < (keep.length : Int)) := by omega
        have hx : keep[k]? = none := List.getElem?_eq_none (by omega)
        go_wp2_with fail
        refine ⟨⟨k + 1, by omega, rfl, HC.out.alloc _, ?_⟩, by simp [intOf]; omega⟩
        rw [HST.out, kStep, if_neg (by rw [hx]; simp)]
        exact HSK.out.keep ((Chg.refl Nil wr).alloc _) (fun _ _ f => f)
    · have hk : k = d.waits.length := by omega
      subst hk
      go_wp2_with fail
      refine (clone_str _ _ _ Sk wr HSK.out (strC_ones _) (by omega)).mono ?_
      rintro e w2 ⟨v2, S2, rfl, hc2, hs2, hS2⟩
      obtain ⟨a2, c2, rfl⟩ := hs2.shape
      have hb2 := hc2.keep d1 (fun f => f)
      have f0 := free_of hb2 0
      have f2 := free_of hb2 2
      have f3 := free_of hb2 3
      have k0 := cell_of hb2 0
      have k2 := cell_of hb2 2
      have k3 := cell_of hb2 3
      simp at k0 k2 k3
      have gb2 := lt_of_block hb2
      have HC2 := Lib.hid hc2
      have HS2 := Lib.hid hs2
      clear hb2 hc2 hs2 d1 hC
      go_wp2_with fail
      go_end0
      exact ⟨rfl, crash_done HB.out HSK.out (crashK_len _ _ _ _) n1 (fun x hx => h5 x (.inl hx)) hS hlt HC.out HC2.out HS2.out hS2⟩
end Go.Proofs.YtfekiagdnlnggaaDoor
