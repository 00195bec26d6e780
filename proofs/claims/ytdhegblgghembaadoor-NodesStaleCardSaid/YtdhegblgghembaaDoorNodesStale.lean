/- The walk of law NodesStale. -/
import Derived.Test.YtdhegblgghembaaDoorNodes5
import Derived.Test.YtdhegblgghembaaDoorCoded1
import Derived.Test.YtdhegblgghembaaDoorShape
namespace Go.Proofs.YtdhegblgghembaaDoor
open Go.RowKit
set_option linter.unusedVariables false
set_option linter.unusedSimpArgs false

def hC (i : Nat) : List Value := [.int .i64 0, .int .i64 i]
theorem hC_len (i : Nat) : (hC i).length = 2 := rfl
theorem hC_one (i : Nat) : ∀ u ∈ hC i, u.oneCell' = true := by intro u hu; simp [hC] at hu; rcases hu with rfl | rfl <;> rfl
theorem info_hdl : (Tryd.prog.info? 31).map (fun i => (i.zero, i.size, i.bytes)) = some (some (.agg #[.int .i64 0, .int .i64 0]), 2, 16) := by kernel_rfl
def gensM (most m : Nat) : List Int := (m : Int) :: List.replicate (most - 1) 0
theorem gensM_zero (most : Nat) (h : 1 ≤ most) : List.replicate most (0 : Int) = gensM most 0 := by
  obtain ⟨k, rfl⟩ : ∃ k, most = k + 1 := ⟨most - 1, by omega⟩
  rfl
theorem gensM_len (most m : Nat) (h : 1 ≤ most) : (List.replicate most (none : Option Nat)).length = (gensM most m).length := by simp [gensM]; omega
theorem gensM_rng (most m : Nat) (h : m ≤ 60) : ∀ x ∈ gensM most m, 0 ≤ x ∧ x ≤ 1000000 := by
  intro x hx
  simp only [gensM, List.mem_cons, List.mem_replicate] at hx
  omega
theorem set_back (most nb : Nat) : ((List.replicate most (none : Option Nat)).set 0 (some nb)).set 0 none = List.replicate most none := by rw [List.set_set]; cases most <;> simp [List.replicate_succ]
theorem atOf_gone (most : Nat) (gs : List Int) (n g : Int) : atOf (List.replicate most none) gs n g = none := by
  unfold atOf
  split
  · rfl
  · rename_i h
    have : (List.replicate most (none : Option Nat))[n.toNat]? = some none := by rw [List.getElem?_replicate]; simp at h ⊢; omega
    rw [this]
theorem atOf_new (most m nb : Nat) (h : 1 ≤ most) : atOf ((List.replicate most none).set 0 (some nb)) ((gensM most m).set 0 ((m : Int) + 1)) ((0 : Nat) : Int) m = some nb := by
  obtain ⟨k, rfl⟩ : ∃ k, most = k + 1 := ⟨most - 1, by omega⟩
  rw [atOf_in (k := 0) (x := (m : Int) + 1) (p := some nb) (by simp [List.replicate_succ]) (by simp [gensM])]
  simp
theorem usedN_rep (n : Nat) : usedN (List.replicate n none) = 0 := by
  induction n with
  | zero => rfl
  | succ n ih => rw [List.replicate_succ]; exact ih

structure StaleAt (ad : Nat → Addr) (w wr : World) (b most m : Nat) (vl vg vh : Value) (T : TypeId) (Sl Sg Sh : Nat → Prop) : Prop where
  env : EnvA w.heap.size ad wr
  chg : Chg Nil w wr
  tab : TabAt wr b (List.replicate most none) (gensM most m) vl vg T Sl Sg
  gone : SliceAt wr vh 31 2 m ((List.range m).flatMap hC) Sh
  gb : w.heap.size ≤ b
  gl1 : ∀ x, Sl x → w.heap.size ≤ x
  gg : ∀ x, Sg x → w.heap.size ≤ x
  gh : ∀ x, Sh x → w.heap.size ≤ x
  hb : ¬ Sh b
  hl : ∀ x, Sh x → ¬ Sl x
  hg : ∀ x, Sh x → ¬ Sg x
theorem StaleAt.same {ad : Nat → Addr} {w wr wr' : World} {b most m : Nat} {vl vg vh : Value} {T : TypeId} {Sl Sg Sh : Nat → Prop} (h : StaleAt ad w wr b most m vl vg vh T Sl Sg Sh) (c : Chg Nil wr wr') : StaleAt ad w wr' b most m vl vg vh T Sl Sg Sh :=
  ⟨h.env.keepN c, h.chg.then c, h.tab.same c, h.gone.keep c (fun _ _ f => f), h.gb, h.gl1, h.gg, h.gh, h.hb, h.hl, h.hg⟩
def RelNS (ad : Nat → Addr) (w : World) (b most n : Nat) (vl vg : Value) (T : TypeId) (Sl Sg : Nat → Prop) (vh i : Value) (wr : World) : Prop :=
  ∃ (k m : Nat) (Sh : Nat → Prop), k ≤ n ∧ m ≤ k ∧ i = .int .i64 k ∧ StaleAt ad w wr b most m vl vg vh T Sl Sg Sh
def RelN1 (m : Nat) (w : World) (i : Value) (wr : World) : Prop := ∃ j : Nat, j ≤ m ∧ i = .int .i64 j ∧ Chg Nil w wr

set_option maxHeartbeats 8000000 in
set_option maxRecDepth 100000 in
theorem nodesStale_any (ad : Nat → Addr) (most : Int) (a0 : Option Addr) (cap : Nat) (kinds : List Int) (w : World) (he : EnvA w.heap.size ad w) (hs : (Sh.slice .int).At w w.heap.size (a0, cap, kinds)) :
    Calls Tryd.prog 3 #[.int .i64 most, .slice a0 kinds.length cap] w fun e w' => e = .returned (.bool true) ∧ Chg Nil w w' := by
  have HT := Lib.hid (fresh_any w)
  have HE := Lib.hid he
  have hcap : kinds.length ≤ cap := hs.1
  have HS := Lib.hid hs.2.2
  clear he hs
  by_cases hbad : most < 1 ∨ 20 < most ∨ 60 < kinds.length
  · have hgo : most < 1 ∨ (¬ most < 1 ∧ 20 < most) ∨ (¬ most < 1 ∧ ¬ 20 < most ∧ 60 < kinds.length) := by omega
    clear hbad
    rcases hgo with h | ⟨h, h1⟩ | ⟨h, h1, h2⟩
    all_goals
      go_enter Tryd.func3, Tryd.ntmps3
      go_wp2_with fail
      refine HT.out.mono ?_
      rintro e w1 ⟨rfl, hc1⟩
      go_wp2_with fail
      go_ret
      exact ⟨rfl, hc1⟩
  obtain ⟨most, rfl⟩ : ∃ k : Nat, most = k := ⟨most.toNat, by omega⟩
  have g1 : ¬ (most : Int) < 1 := by omega
  have g2 : ¬ 20 < (most : Int) := by omega
  have g3 : ¬ 60 < kinds.length := by omega
  have hm1 : 1 ≤ most := by omega
  have hm2 : most ≤ 20 := by omega
  clear hbad
  go_enter Tryd.func3, Tryd.ntmps3
  go_wp2_with fail
  refine HT.out.mono ?_
  rintro e w1 ⟨rfl, hc1⟩
  go_wp2_with fail
  refine (nnew_any most w1 hm1 (by omega)).mono ?_
  rintro e w2 ⟨b, vl, vg, T, Sl, Sg, rfl, hc2, ht2, hb, hSl, hSg⟩
  have hz := hc1.size
  rw [gensM_zero most hm1] at ht2
  have HS0 : Hid (StaleAt ad w w2 b most 0 vl vg (.slice none 0 0) T Sl Sg Nil) := Lib.hid ⟨(HE.out.keepN hc1).keepN hc2, hc1.then hc2, ht2, sliceAt_nil _ _ _ _, by omega, fun x hx => by have := hSl x hx; omega, fun x hx => by have := hSg x hx; omega, fun _ f => f.elim, fun f => f, fun _ f => f.elim, fun _ f => f.elim⟩
  clear ht2
  go_wp2_with fail
  go_loopw [8, 9] (fun vh i wr => RelNS ad w b most kinds.length vl vg T Sl Sg vh i wr) (fun _ i _ => (kinds.length - intOf i).toNat)
  case atStart => exact ⟨0, 0, Nil, Nat.zero_le _, Nat.le_refl _, rfl, HS0.out⟩
  case round =>
    obtain ⟨k, m, Shh, hk, hmk, rfl, hH⟩ := hrel
    have HH := Lib.hid hH
    obtain ⟨ah, ch, rfl⟩ := hH.gone.shape
    by_cases hlt : k < kinds.length
    · obtain ⟨kind, hx⟩ : ∃ x, kinds[k]? = some x := ⟨kinds[k], List.getElem?_eq_getElem hlt⟩
      obtain ⟨_, g, off, rfl, hg, hcx⟩ := HS.out k kind hx
      have c0 := (hH.chg.cell (p := ⟨g, off + k * 1 + 0, none⟩) hg (fun f => f)).trans (hcx 0 _ rfl)
      simp only [Nat.mul_one, Nat.add_zero] at c0
      have hgr := Nat.lt_of_lt_of_le hg hH.chg.size
      have j0 : (0 : Int) ≤ (k : Int) := by omega
      have j1 : (k : Int) < (kinds.length : Int) := by omega
      have kc : k < cap := by omega
      clear hcx hx hH
      by_cases hkind : kind = 1 ∨ kind = 2
      · have HK := Lib.hid hkind
        clear hkind
        go_wp2_with fail
        refine (nadd_ok b 0 kind m _ _ vl vg T Sl Sg wr HH.out.tab HK.out (by simp; omega) (gensM_len most m hm1) (free0_rep most hm1) rfl (by omega)).mono ?_
        rintro e w3 ⟨nb, hnb, rfl, hc3, ht3, _⟩
        have HT3 := Lib.hid ht3
        have HC3 := Lib.hid hc3
        clear ht3 hc3
        have hG3 := HH.out.gone.keep HC3.out (fun x hx h => by rcases h with h | h; exact HH.out.hl x hx h; exact HH.out.hg x hx h)
        have HG3 := Lib.hid hG3
        clear hG3
        have HBX := Lib.hid (block_alloc w3 (.cells #[.int .i64 0, .int .i64 (m : Int)] 31))
        unfold hdlV
        go_wp2_with fail
        go_loopw [12] (fun i wr => RelN1 m (w3.alloc (.cells #[.int .i64 0, .int .i64 (m : Int)] 31)) i wr) (fun i _ => (m - intOf i).toNat)
        case atStart => exact ⟨0, Nat.zero_le _, rfl, Chg.refl _ _⟩
        case round =>
          obtain ⟨j, hj, rfl, hC4⟩ := hrel
          have hbx := hC4.keep HBX.out (fun f => f)
          have b0 := cell_of hbx 0
          have b1 := cell_of hbx 1
          have gbx := lt_of_block hbx
          simp at b0 b1
          by_cases hjm : j < m
          · have i0 : (0 : Int) ≤ (j : Int) := by omega
            have i1 : (j : Int) < (m : Int) := by omega
            have i2 : ¬ (j : Int) = (m : Int) := by omega
            have hjr : (List.range m)[j]? = some j := by simp [hjm]
            obtain ⟨gh, oh, cph, csh, e, _, nh, _, _, _, _, ghl⟩ := HG3.out.place (by omega)
            cases e
            have hG4 := (HG3.out.keep ((Chg.refl Nil w3).alloc (.cells #[.int .i64 0, .int .i64 (m : Int)] 31)) (fun _ _ f => f)).keep hC4 (fun _ _ f => f)
            have y0 := (hG4.elem hC_len hjr 0 _ rfl).1
            have y1 := (hG4.elem hC_len hjr 1 _ rfl).1
            simp only [Nat.add_zero] at y0
            have jc : j < ch := by omega
            clear hG4 hjr hbx
            go_wp2_with fail
            go_quiet (fail)
            go_wp2_with fail
            go_roundw
            case rel => exact ⟨j + 1, by omega, by go_num, hC4.drewsN _⟩
            case measure => simp [intOf]; omega
          · have HBX4 := Lib.hid hbx
            have HC4 := Lib.hid (((Chg.refl Nil w3).alloc (.cells #[.int .i64 0, .int .i64 (m : Int)] 31)).then hC4)
            have hT4 := HT3.out.same HC4.out
            have HT4 := Lib.hid hT4
            have hz3 := HC3.out.size
            have hzw := HH.out.chg.size
            have HE4 : Hid (EnvA w.heap.size ad wr) := Lib.hid ((HH.out.env.keep HC3.out (fun x h => by rcases h with h | h; exact HH.out.gl1 x h; exact HH.out.gg x h)).keepN HC4.out)
            clear hT4 hbx hC4
            go_wp2_with fail
            refine (nfree_ok (B := w.heap.size) ad b 0 nb m _ _ vl vg T Sl Sg wr (HE4.out.sub (by decide)) HT4.out (by simpa [gensM] using gensM_len most m hm1) (fun x hx => ?_) (by simp; omega) (atOf_new most m nb hm1)).mono ?_
            · have := gensM_rng most (m + 1) (by omega) x (by simpa [gensM] using hx); exact this
            rintro e w5 ⟨rfl, hc5, ht5⟩
            rw [set_back] at ht5
            have ht5' : TabAt w5 b (List.replicate most none) (gensM most (m + 1)) vl vg T Sl Sg := by simpa [gensM] using ht5
            have HT5 := Lib.hid ht5'
            have HC5 := Lib.hid hc5
            have hz4 := HC4.out.size
            have hz5 := hc5.size
            have hxS : ¬ Sl w3.heap.size := fun e => by have := HT3.out.lt1 _ e; omega
            have hb5 := hc5.keep HBX4.out hxS
            have b50 := cell_of hb5 0
            have b51 := cell_of hb5 1
            have gb5 := lt_of_block hb5
            simp at b50 b51
            have HG5 := Lib.hid ((HG3.out.keep HC4.out (fun _ _ f => f)).keep hc5 HH.out.hl)
            clear ht5 ht5' hb5 hc5 b0 b1 gbx
            go_wp2_with (at_builtin; go_loud (refine wpList_appendS (n := m) (m := 1) rfl _ _ 29 rfl Tryd.underlying29 info_hdl rfl (by decide) rfl (HG5.out.keep ((Chg.refl Nil _).alloc _) (fun _ _ f => f)) rfl (hC m) rfl (cell_new_list w5 (hC m) _) (hC_one m) (by unfold maxLen; omega) (by omega) ?_); intro v6 w6 S6 hs6 hc6 hg6; obtain ⟨a6, c6, rfl⟩ := hs6.shape)
            have hal := (Chg.refl Nil w5).alloc (.cells (hC m).toArray 31)
            have hT6 := (HT5.out.same hal).keep hc6 HH.out.hb (fun x h1 h2 => HH.out.hl x h2 h1) (fun x h1 h2 => HH.out.hg x h2 h1)
            have hTot := ((((HC3.out.mono (T := fun y => (Sl y ∨ Sg y) ∨ Shh y) (fun x _ h => Or.inl h)).trans HC4.out (fun _ _ f => f.elim)).trans HC5.out (fun x _ h => Or.inl (Or.inl h))).trans hal (fun _ _ f => f.elim)).trans hc6 (fun x _ h => Or.inr h)
            have hge : ∀ x, ((Sl x ∨ Sg x) ∨ Shh x) → w.heap.size ≤ x := fun x h => by
              rcases h with (h | h) | h
              · exact HH.out.gl1 x h
              · exact HH.out.gg x h
              · exact HH.out.gh x h
            have hg6' : ∀ x, S6 x → Shh x ∨ w5.heap.size + 1 ≤ x := fun x hx => by rcases hg6 x hx with h | h; exact .inl h; simp at h; exact .inr h.1
            have hb5l := lt_of_block HT5.out.blk
            have hrm : (List.range (m + 1)).flatMap hC = (List.range m).flatMap hC ++ hC m := by rw [List.range_succ, List.flatMap_append]; simp
            have HS6 : Hid (StaleAt ad w w6 b most (m + 1) vl vg (.slice a6 (m + 1) c6) T Sl Sg S6) := Lib.hid ⟨HH.out.env.keep hTot hge, HH.out.chg.trans hTot (fun x hx h => by have := hge x h; omega), hT6, by rw [hrm]; exact hs6, HH.out.gb, HH.out.gl1, HH.out.gg,
              fun x hx => (hg6' x hx).elim (HH.out.gh x) (fun h => by omega), fun e => (hg6' b e).elim HH.out.hb (fun h => by omega),
              fun x hx e => (hg6' x hx).elim (fun h => HH.out.hl x h e) (fun h => by have := HT3.out.lt1 x e; omega), fun x hx e => (hg6' x hx).elim (fun h => HH.out.hg x h e) (fun h => by have := HT3.out.lt2 x e; omega)⟩
            clear hT6 hs6 hg6 hc6 hrm hTot hal
            go_wp2_with fail
            go_loopw [13] (fun i wr => RelN1 (m + 1) w6 i wr) (fun i _ => (m + 1 - intOf i).toNat)
            case atStart => exact ⟨0, Nat.zero_le _, rfl, Chg.refl _ _⟩
            case round =>
              obtain ⟨q, hq, rfl, hC7⟩ := hrel
              by_cases hqm : q < m + 1
              · have i0 : (0 : Int) ≤ (q : Int) := by omega
                have i1 : (q : Int) < ((m + 1 : Nat) : Int) := by omega
                have i1' : (q : Int) < (m : Int) + 1 := by omega
                have hqr : (List.range (m + 1))[q]? = some q := by simp [hqm]
                obtain ⟨gh, oh, cph, csh, e, _, nh, _, _, _, _, ghl⟩ := HS6.out.gone.place (by omega)
                cases e
                have hS7 := HS6.out.same hC7
                have HS7 := Lib.hid hS7
                have y0 := (hS7.gone.elem hC_len hqr 0 _ rfl).1
                have y1 := (hS7.gone.elem hC_len hqr 1 _ rfl).1
                simp only [Nat.add_zero] at y0
                have jc : q < c6 := by omega
                have HQR := Lib.hid hqr
                clear hS7 hqr
                go_wp2_with fail
                refine (nattr_stale (B := w.heap.size) ad b 0 q _ _ vl vg T Sl Sg _ (HS7.out.env.sub (by decide)) HS7.out.tab (gensM_len most _ hm1) (gensM_rng most _ (by omega)) (atOf_gone most _ _ _)).mono ?_
                rintro e w8 ⟨rfl, hc8⟩
                go_wp2_with fail
                refine (coded1_ok ad 10 10 _ ((HS7.out.env.keepN hc8).alloc _) (by decide) rfl).mono ?_
                rintro e w9 ⟨rfl, hc9⟩
                have hC9 : Chg Nil wr w9 := (hc8.alloc _).then hc9
                have hS9 := HS7.out.same hC9
                have HS9 := Lib.hid hS9
                have z0 := (hS9.gone.elem hC_len HQR.out 0 _ rfl).1
                have z1 := (hS9.gone.elem hC_len HQR.out 1 _ rfl).1
                simp only [Nat.add_zero] at z0
                clear hS9
                go_wp2_with fail
                refine (nfree_stale (B := w.heap.size) ad b 0 q _ _ vl vg T Sl Sg _ (HS9.out.env.sub (by decide)) HS9.out.tab (gensM_len most _ hm1) (gensM_rng most _ (by omega)) (atOf_gone most _ _ _)).mono ?_
                rintro e w10 ⟨rfl, hc10⟩
                go_wp2_with fail
                refine (coded1_ok ad 10 10 _ (HS9.out.env.keepN hc10) (by decide) rfl).mono ?_
                rintro e w11 ⟨rfl, hc11⟩
                go_wp2_with fail
                go_roundw
                case rel => exact ⟨q + 1, by omega, by go_num, ((hC7.then hC9).then hc10).then hc11⟩
                case measure => simp [intOf]; omega
              · go_wp2_with fail
                go_roundw
                case rel => exact ⟨k + 1, m + 1, S6, by omega, by omega, by go_num, HS6.out.same hC7⟩
                case measure => simp [intOf]; omega
      · have k1 : ¬ kind = 1 := by omega
        have k2 : ¬ kind = 2 := by omega
        go_wp2_with fail
        refine (nadd_bad (B := w.heap.size) ad b kind wr (HH.out.env.sub (by decide)) k1 k2).mono ?_
        rintro e w3 ⟨rfl, hc3⟩
        unfold hdlV
        simp only [errV_pos (ad := ad) (c := 3) (by decide)]
        go_wp2_with fail
        go_roundw
        case rel => exact ⟨k + 1, m, Shh, by omega, by omega, by go_num, HH.out.same (hc3.alloc _)⟩
        case measure => simp [intOf]; omega
    · have hu := usedN_rep most
      have HU := Lib.hid hu
      clear hu
      go_wp2_with fail
      refine (ncount_any b _ _ vl vg T Sl Sg wr HH.out.tab (by simp; omega)).mono ?_
      rintro e w3 ⟨rfl, hc3⟩
      rw [HU.out]
      go_wp2_with fail
      go_ret
      exact ⟨rfl, HH.out.chg.then hc3⟩
end Go.Proofs.YtdhegblgghembaaDoor
