/- package attr: Encode by contract. -/
import Derived.Test.YtdhegblgghembaaDoorAttr1
namespace Go.Proofs.YtdhegblgghembaaDoor
open Go.RowKit Go.Lib
set_option linter.unusedVariables false
set_option linter.unusedSimpArgs false

/-- A writer beside blocks N that stay as they are in world w0. -/
structure WrN (ad : Nat → Addr) (w w0 wr : World) (b : Nat) (t : List UInt8) (N : Nat → Prop) : Prop where
  env : Env w.heap.size ad [2, 9] wr
  chg : Chg Nil w wr
  kept : Chg (fun x => ¬ N x) w0 wr
  tab : ∃ S, WrAt wr b t S ∧ ∀ x, S x → w.heap.size ≤ x ∧ ¬ N x
  few : t.length ≤ 4000
  lt : ∀ x, N x → x < w0.heap.size
theorem WrN.same {ad : Nat → Addr} {w w0 wr wr' : World} {b : Nat} {t : List UInt8} {N : Nat → Prop} (h : WrN ad w w0 wr b t N) (c : Chg Nil wr wr') : WrN ad w w0 wr' b t N := by
  obtain ⟨h1, h2, h3, ⟨S, h4, h5⟩, h6, h7⟩ := h
  exact ⟨h1.keepN c, h2.then c, h3.trans c (fun _ _ f => f.elim), ⟨S, h4.keep c (fun _ _ f => f), h5⟩, h6, h7⟩
theorem WrN.post {ad : Nat → Addr} {w w0 wr w2 : World} {b : Nat} {t t' : List UInt8} {N S : Nat → Prop} (h : WrN ad w w0 wr b t N) (hS : ∀ x, S x → w.heap.size ≤ x ∧ ¬ N x) (p : WrPost S wr b t' w2) (hl : t'.length ≤ 4000) : WrN ad w w0 w2 b t' N := by
  obtain ⟨c, S2, h2, g2⟩ := p
  have hz := h.chg.size
  have hz0 := h.kept.size
  refine ⟨h.env.keep c (fun x hx => (hS x hx).1), h.chg.trans c (fun x hx e => by have := (hS x e).1; omega), h.kept.trans c (fun x _ e => (hS x e).2), ⟨S2, h2, fun x hx => ?_⟩, hl, h.lt⟩
  rcases g2 x hx with g | g
  · exact hS x g
  · exact ⟨by omega, fun e => by have := h.lt x e; omega⟩
theorem WrN.sink {ad : Nat → Addr} {w w0 wr w1 : World} {b : Nat} {t : List UInt8} {N N1 : Nat → Prop} (h : WrN ad w w0 wr b t N) (c : Chg Nil wr w1) (hN : ∀ x, N1 x → N x ∨ (wr.heap.size ≤ x ∧ x < w1.heap.size)) : WrN ad w w1 w1 b t N1 := by
  obtain ⟨h1, h2, h3, ⟨S, h4, h5⟩, h6, h7⟩ := h
  have hl := wr_lt h4
  have := h3.size
  have := c.size
  refine ⟨h1.keepN c, h2.then c, Chg.refl _ _, ⟨S, h4.keep c (fun _ _ f => f), fun x hx => ⟨(h5 x hx).1, fun e => ?_⟩⟩, h6, fun x hx => ?_⟩
  · rcases hN x e with g | g
    · exact (h5 x hx).2 g
    · have := hl x hx; omega
  · rcases hN x hx with g | g
    · have := h7 x g; omega
    · exact g.2
theorem WrN.rise {ad : Nat → Addr} {w w0 wr w1 w2 : World} {b : Nat} {t t' : List UInt8} {N N1 : Nat → Prop} (h : WrN ad w w0 wr b t N) (c : Chg Nil wr w1) (h1 : WrN ad w w1 w2 b t' N1) (hN : ∀ x, N x → N1 x) : WrN ad w w0 w2 b t' N := by
  obtain ⟨a1, a2, a3, ⟨S, a4, a5⟩, a6, a7⟩ := h1
  exact ⟨a1, a2, (h.kept.trans c (fun _ _ f => f.elim)).trans a3 (fun x _ e n => e (hN x n)), ⟨S, a4, fun x hx => ⟨(a5 x hx).1, fun e => (a5 x hx).2 (hN x e)⟩⟩, a6, h.lt⟩

def attrC (a : Nat → Int) : List Value := [.int .i64 (a 0), .int .i64 (a 1), .int .i64 (a 2), .int .i64 (a 3), .int .i64 (a 4), .int .i64 (a 5)]
def wF (a : Nat → Int) (t : List UInt8) (f : Nat) : List UInt8 × Nat := if longF f then wLong t (a f) else wInt t (a f)
def encStep (a : Nat → Int) (r : List UInt8 × Nat) (f : Nat) : List UInt8 × Nat := if r.2 = 0 then wF a r.1 f else r
def encS (a : Nat → Int) (r : List UInt8 × Nat) (fs : List Nat) : List UInt8 × Nat := fs.foldl (encStep a) r
theorem encS_app (a : Nat → Int) (r : List UInt8 × Nat) (fs gs : List Nat) : encS a r (fs ++ gs) = encS a (encS a r fs) gs := List.foldl_append ..
theorem wPut_few (t : List UInt8) (s : ByteArray) (h : t.length ≤ 4000) : (wPut t s).1.length ≤ 4000 := by
  rcases wPut_cases t s with e | ⟨e, e2⟩
  · rw [e]; exact h
  · rw [e, List.length_append, ← size_list]; exact e2
theorem wInt_few (t : List UInt8) (n : Int) (h : t.length ≤ 4000) : (wInt t n).1.length ≤ 4000 := by
  unfold wInt; split
  · exact h
  · exact wPut_few t _ h
theorem wLong_few (t : List UInt8) (n : Int) (h : t.length ≤ 4000) : (wLong t n).1.length ≤ 4000 := by
  unfold wLong; split
  · exact h
  · exact wPut_few t _ h
theorem wPut_c (t : List UInt8) (s : ByteArray) : (wPut t s).2 ≤ 15 := by rcases wPut_cases t s with e | ⟨e, _⟩ <;> rw [e] <;> simp
theorem wInt_c (t : List UInt8) (n : Int) : (wInt t n).2 ≤ 15 := by unfold wInt; split; simp; exact wPut_c _ _
theorem wLong_c (t : List UInt8) (n : Int) : (wLong t n).2 ≤ 15 := by unfold wLong; split; simp; exact wPut_c _ _
theorem flds_long {i f : Nat} (hi : i < 5) (h : f ∈ flds i) : longF f = longF i ∧ f < 6 := by
  rcases (show i = 0 ∨ i = 1 ∨ i = 2 ∨ i = 3 ∨ i = 4 by omega) with rfl | rfl | rfl | rfl | rfl <;> simp [flds] at h
  · subst h; exact ⟨rfl, by omega⟩
  · subst h; exact ⟨rfl, by omega⟩
  · subst h; exact ⟨rfl, by omega⟩
  · subst h; exact ⟨rfl, by omega⟩
  · rcases h with rfl | rfl <;> exact ⟨rfl, by omega⟩
theorem flds_len (i : Nat) : (flds i).length ≤ 2 ∧ 1 ≤ (flds i).length := by unfold flds; split <;> simp
theorem take_flat {l : List Nat} {k i : Nat} (h : l[k]? = some i) : (l.take (k + 1)).flatMap flds = (l.take k).flatMap flds ++ flds i := by
  rw [List.take_add_one, h, List.flatMap_append]; simp
theorem take_one {l : List Nat} {k f : Nat} (h : l[k]? = some f) : l.take (k + 1) = l.take k ++ [f] := by rw [List.take_add_one, h]; rfl
theorem attrC_get (a : Nat → Int) {f : Nat} (h : f < 6) : (attrC a)[f]? = some (.int .i64 (a f)) := by
  rcases (show f = 0 ∨ f = 1 ∨ f = 2 ∨ f = 3 ∨ f = 4 ∨ f = 5 by omega) with rfl | rfl | rfl | rfl | rfl | rfl <;> rfl

/-- What Encode answers. -/
def encA (a : Nat → Int) (m : Nat) : ByteArray × Nat := if (encS a (bigL 4 m, 0) ((idxs m 5).flatMap flds)).2 = 0 then (⟨(encS a (bigL 4 m, 0) ((idxs m 5).flatMap flds)).1.toArray⟩, 0) else (⟨#[]⟩, (encS a (bigL 4 m, 0) ((idxs m 5).flatMap flds)).2)
def RelE1 (ad : Nat → Addr) (a : Nat → Int) (m : Nat) (w w0 : World) (b : Nat) (N : Nat → Prop) (v i : Value) (wr : World) : Prop :=
  ∃ (k : Nat) (t : List UInt8) (c : Nat), k ≤ (idxs m 5).length ∧ i = .int .i64 k ∧ v = errV ad c ∧ c ≤ 15 ∧ encS a (bigL 4 m, 0) (((idxs m 5).take k).flatMap flds) = (t, c) ∧ WrN ad w w0 wr b t N
def RelE2 (ad : Nat → Addr) (a : Nat → Int) (t0 : List UInt8) (c0 i : Nat) (w w0 : World) (b : Nat) (N : Nat → Prop) (v j : Value) (wr : World) : Prop :=
  ∃ (q : Nat) (t : List UInt8) (c : Nat), q ≤ (flds i).length ∧ j = .int .i64 q ∧ v = errV ad c ∧ c ≤ 15 ∧ encS a (t0, c0) ((flds i).take q) = (t, c) ∧ WrN ad w w0 wr b t N
set_option maxHeartbeats 8000000 in
set_option maxRecDepth 100000 in
theorem encode_any (ad : Nat → Addr) (a : Nat → Int) (m : Nat) (hm : m ≤ 31) (w : World) (he : Env w.heap.size ad [2, 9] w) (ha : ∀ f, a f ≤ 9223372036854775807) :
    Calls Tryd.prog 31 #[.agg (attrC a).toArray, .int .i64 m] w fun e w' => e = .returned (.tuple #[.string (encA a m).1, errV ad (encA a m).2]) ∧ Chg Nil w w' := by
  have HE := Lib.hid he
  have hBA := Lib.hid (block_alloc w (.cells (attrC a).toArray 36))
  have HWI := Lib.hid (show wInt [] (m : Int) = (bigL 4 m, 0) by
    unfold wInt
    rw [if_neg (by omega), Int.toNat_natCast]
    unfold wPut
    rw [if_neg (by simp [bigB_size])]
    rfl)
  clear he
  go_enter Tryd.func31, Tryd.ntmps31
  go_wp2_with fail
  refine (right_yes m hm _).mono ?_
  rintro e w1 ⟨rfl, rfl⟩
  go_wp2_with fail
  have h00 : WrN ad w ((w.alloc (.cells (attrC a).toArray 36)).alloc (.cells #[.slice none 0 0] 72)) ((w.alloc (.cells (attrC a).toArray 36)).alloc (.cells #[.slice none 0 0] 72)) (w.heap.size + 1) [] (· = w.heap.size) :=
    ⟨(HE.out.alloc _).alloc _, ((Chg.refl _ _).alloc _).alloc _, Chg.refl _ _, ⟨_, by have := wr_new (w.alloc (.cells (attrC a).toArray 36)) 72; simpa using this, fun x e => by have e1 : x = w.heap.size + 1 := (by simpa using e); exact ⟨by omega, fun e2 => by have : x = w.heap.size := e2; omega⟩⟩, by simp, fun x e => by have : x = w.heap.size := e; simp; omega⟩
  obtain ⟨S0, hW0, hS0⟩ := h00.tab
  have H00 := Lib.hid h00
  have HBA := Lib.hid (block_alloc_old hBA.out (.cells #[.slice none 0 0] 72))
  have HW0 := Lib.hid hW0
  have HS0 := Lib.hid hS0
  clear h00 hW0 hS0 hBA
  refine (wint_any (B := w.heap.size) ad (w.heap.size + 1) (m : Int) [] S0 _ H00.out.env HW0.out (by simp) (by omega)).mono ?_
  rintro e w3 ⟨rfl, hp3⟩
  rw [HWI.out] at hp3 ⊢
  have HBA3 := Lib.hid (hp3.1.keep HBA.out (fun e => (HS0.out _ e).2 rfl))
  have H3 := Lib.hid (H00.out.post HS0.out hp3 (by simp [bigL_len]))
  clear hp3
  simp only [errV_zero]
  go_wp2_with fail
  refine (asked_any m hm w3).mono ?_
  rintro e w4 ⟨v, Sp, rfl, hs4, hSp, hc4⟩
  have HBA4 := Lib.hid (hc4.keep HBA3.out (fun f => f))
  have H4 := Lib.hid (H3.out.sink (N1 := fun x => x = w.heap.size ∨ Sp x) hc4 (fun x h => h.imp id (hSp x)))
  have hn5 := idxs_len m 5
  obtain ⟨va, vc, rfl⟩ := hs4.shape
  have HS4 := Lib.hid hs4
  have HNL := Lib.hid (rfl : (idxs m 5).length = (idxs m 5).length)
  clear hc4 hs4 hSp
  go_wp2_with fail
  go_loopw [7, 25] (fun v i wr => RelE1 ad a m w w4 (w.heap.size + 1) (fun x => x = w.heap.size ∨ Sp x) v i wr) (fun _ i _ => ((idxs m 5).length - RowKit.intOf i).toNat)
  case atStart => exact ⟨0, _, 0, Nat.zero_le _, rfl, by rw [errV_zero], by omega, rfl, H4.out⟩
  case round =>
    obtain ⟨k, t, c, hk, rfl, rfl, hc15, hen, hH⟩ := hrel
    obtain ⟨wo, hwo⟩ : ∃ wo : World, wo = wr := ⟨_, rfl⟩
    subst hwo
    by_cases hlt : k < (idxs m 5).length
    · obtain ⟨i, hi⟩ : ∃ i, (idxs m 5)[k]? = some i := ⟨(idxs m 5)[k], List.getElem?_eq_getElem hlt⟩
      have hi5 : i < 5 := idxs_lt (List.mem_of_getElem? hi)
      have hsl := HS4.out.keep hH.kept (fun x hx hn => hn (.inr hx))
      obtain ⟨g, off, cap, cs, e, hb, hnc, hcm, hoff, hcells, hSg, hgl⟩ := hsl.place (by omega)
      cases e
      have c0 := (hsl.elem partC_len hi 0 _ rfl).1
      have c1 := (hsl.elem partC_len hi 1 _ rfl).1
      simp only [Nat.add_zero] at c0
      have j0 : (0 : Int) ≤ (k : Int) := by omega
      have j1 : (k : Int) < ((idxs m 5).length : Int) := by omega
      have kc : k < vc := by omega
      have HEN := Lib.hid hen
      have HTF := Lib.hid (take_flat hi)
      have HH := Lib.hid hH
      have HBO := Lib.hid (hH.kept.keep HBA4.out (fun hn => hn (.inl rfl)))
      clear hen hH hb hcells hoff hsl hi
      have hcf := part_enter i hi5
      go_wp2_with fail
      refine (of_any i w.heap.size hi5 _).mono ?_
      rintro e w5 ⟨rfl, hc5, hb5⟩
      have hcw : Chg Nil wo w5 := ((Chg.refl Nil wo).alloc _).then hc5
      have HBX := Lib.hid (hc5.keep (block_alloc wo (.cells (partC i).toArray 128)) (fun f => f))
      have HBP := Lib.hid hb5
      have HB5 := Lib.hid (hcw.keep HBO.out (fun f => f))
      have hz5 := hc5.size
      have hlb := lt_of_block hb5
      simp at hz5 hlb
      have H5 := Lib.hid (HH.out.sink (N1 := fun x => (x = w.heap.size ∨ Sp x) ∨ x = wo.heap.size ∨ x = wo.heap.size + 1) hcw (fun x h => h.imp id (fun h => by omega)))
      have HCW := Lib.hid hcw
      have hfl := flds_len i
      clear hc5 hb5 hcw c0 c1
      go_wp2_with fail
      go_loopw [7, 33] (fun v j wr => RelE2 ad a t c i w w5 (w.heap.size + 1) (fun x => (x = w.heap.size ∨ Sp x) ∨ x = wo.heap.size ∨ x = wo.heap.size + 1) v j wr) (fun _ j _ => ((flds i).length - RowKit.intOf j).toNat)
      case atStart => exact ⟨0, t, c, Nat.zero_le _, rfl, rfl, hc15, rfl, H5.out⟩
      case round =>
        obtain ⟨q, t2, c2, hq, rfl, rfl, hc2, hen2, hH2⟩ := hrel
        by_cases hqt : q < (flds i).length
        · obtain ⟨f, hf⟩ : ∃ f, (flds i)[q]? = some f := ⟨(flds i)[q], List.getElem?_eq_getElem hqt⟩
          have hfl2 := flds_long hi5 (List.mem_of_getElem? hf)
          have b0 := cell_of (hH2.kept.keep HBX.out (fun hn => hn (.inr (.inl rfl)))) 0
          have bp := cell_of (hH2.kept.keep HBP.out (fun hn => hn (.inr (.inr (by simp))))) q
          have bf := cell_of (hH2.kept.keep HB5.out (fun hn => hn (.inl (.inl rfl)))) f
          rw [List.getElem?_toArray, attrC_get a hfl2.2] at bf
          rw [List.getElem?_toArray, List.getElem?_map, hf] at bp
          simp [partC, ptrC] at b0 bp
          have i0 : (0 : Int) ≤ (q : Int) := by omega
          have i1 : (q : Int) < ((flds i).length : Int) := by omega
          have ga : w.heap.size < wr.heap.size := lt_of_block (hH2.kept.keep HB5.out (fun hn => hn (.inl (.inl rfl))))
          have HF1 := Lib.hid hfl2.1
          have hstep : encS a (t, c) ((flds i).take (q + 1)) = encStep a (t2, c2) f := by
            rw [take_one hf, encS_app, hen2]; rfl
          have HST := Lib.hid hstep
          have hfew2 := hH2.few
          obtain ⟨S2, hW2, hS2⟩ := hH2.tab
          have HW2 := Lib.hid hW2
          have HS2 := Lib.hid hS2
          have HH2 := Lib.hid hH2
          have HEN2 := Lib.hid hen2
          have hf63 := ha f
          clear hW2 hS2 hH2 hen2 hf hstep hfl2 ha
          by_cases hl : longF i = true
          · rw [hl] at b0
            have HL := Lib.hid hl
            clear hl
            by_cases hc0 : c2 = 0
            · subst hc0
              simp only [errV_zero]
              go_wp2_with fail
              refine (wlong_any (B := w.heap.size) ad (w.heap.size + 1) (a f) t2 S2 _ HH2.out.env HW2.out hfew2 hf63).mono ?_
              rintro e w7 ⟨rfl, hp7⟩
              have H7 := Lib.hid (HH2.out.post HS2.out hp7 (wLong_few t2 (a f) hfew2))
              clear hp7
              go_wp2_with fail
              go_roundw
              case rel => exact ⟨q + 1, _, _, by omega, by go_num, rfl, wLong_c t2 (a f), HST.out.trans (by unfold encStep wF; rw [if_pos rfl, HF1.out, HL.out]; rfl), H7.out⟩
              case measure => simp [RowKit.intOf]; omega
            · rw [errV_pos hc0]
              have HC0 := Lib.hid hc0
              clear hc0
              go_wp2_with fail
              go_roundw
              case rel => exact ⟨q + 1, t2, c2, by omega, by go_num, (errV_pos HC0.out).symm, hc2, HST.out.trans (by unfold encStep; rw [if_neg HC0.out]), HH2.out⟩
              case measure => simp [RowKit.intOf]; omega
          · have hl2 : longF i = false := by simpa using hl
            rw [hl2] at b0
            have HL := Lib.hid hl2
            clear hl hl2
            by_cases hc0 : c2 = 0
            · subst hc0
              simp only [errV_zero]
              go_wp2_with fail
              refine (wint_any (B := w.heap.size) ad (w.heap.size + 1) (a f) t2 S2 _ HH2.out.env HW2.out hfew2 hf63).mono ?_
              rintro e w7 ⟨rfl, hp7⟩
              have H7 := Lib.hid (HH2.out.post HS2.out hp7 (wInt_few t2 (a f) hfew2))
              clear hp7
              go_wp2_with fail
              go_roundw
              case rel => exact ⟨q + 1, _, _, by omega, by go_num, rfl, wInt_c t2 (a f), HST.out.trans (by unfold encStep wF; rw [if_pos rfl, HF1.out, HL.out]; rfl), H7.out⟩
              case measure => simp [RowKit.intOf]; omega
            · rw [errV_pos hc0]
              have HC0 := Lib.hid hc0
              clear hc0
              go_wp2_with fail
              go_roundw
              case rel => exact ⟨q + 1, t2, c2, by omega, by go_num, (errV_pos HC0.out).symm, hc2, HST.out.trans (by unfold encStep; rw [if_neg HC0.out]), HH2.out⟩
              case measure => simp [RowKit.intOf]; omega
        · obtain rfl : q = (flds i).length := by omega
          have HEN2 := Lib.hid hen2
          have HR := Lib.hid (HH.out.rise HCW.out hH2 (fun x h => .inl h))
          clear hen2 hH2
          go_wp2_with fail
          go_roundw
          case rel =>
            refine ⟨k + 1, t2, c2, by omega, by go_num, rfl, hc2, ?_, HR.out⟩
            have h9 := HEN2.out
            rw [List.take_of_length_le (Nat.le_refl _)] at h9
            rw [HTF.out, encS_app, HEN.out]; exact h9
          case measure => simp [RowKit.intOf]; omega
    · obtain rfl : k = (idxs m 5).length := by omega
      have hen' := hen
      rw [List.take_of_length_le (Nat.le_refl _)] at hen'
      obtain ⟨S2, hW2, hS2⟩ := hH.tab
      have HW2 := Lib.hid hW2
      have HH := Lib.hid hH
      by_cases hc0 : c = 0
      · subst hc0
        have HX := Lib.hid (show encA a m = (⟨t.toArray⟩, 0) by unfold encA; rw [hen', if_pos rfl])
        clear hen hen' hW2 hS2 hH
        simp only [errV_zero]
        go_wp2_with fail
        refine (wtext_any _ _ _ _ HW2.out).mono ?_
        rintro e w8 ⟨rfl, hc8⟩
        go_wp2_with fail
        go_ret2
        exact ⟨by rw [HX.out]; rfl, HH.out.chg.then hc8⟩
      · have HX := Lib.hid (show encA a m = (⟨#[]⟩, c) by unfold encA; rw [hen', if_neg hc0])
        have HEP := Lib.hid (errV_pos (ad := ad) hc0)
        rw [errV_pos hc0]
        clear hen hen' hW2 hS2 hH hc0
        go_wp2_with fail
        go_ret2
        exact ⟨by rw [HX.out, HEP.out]; rfl, HH.out.chg⟩
end Go.Proofs.YtdhegblgghembaaDoor
