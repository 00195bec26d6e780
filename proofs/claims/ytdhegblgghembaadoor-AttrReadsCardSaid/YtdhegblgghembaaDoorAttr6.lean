/- package attr: Decode by contract. -/
import Derived.Test.YtdhegblgghembaaDoorAttr4
namespace Go.Proofs.YtdhegblgghembaaDoor
open Go.RowKit Go.Lib
set_option linter.unusedVariables false
set_option linter.unusedSimpArgs false

def setF (b : Nat → Int) (f : Nat) (x : Int) (g : Nat) : Int := if g = f then x else b g
theorem attrC_set (b : Nat → Int) {f : Nat} (h : f < 6) (x : Int) : (attrC b).toArray.setIfInBounds f (.int .i64 x) = (attrC (setF b f x)).toArray := by
  rcases (show f = 0 ∨ f = 1 ∨ f = 2 ∨ f = 3 ∨ f = 4 ∨ f = 5 by omega) with rfl | rfl | rfl | rfl | rfl | rfl <;> rfl
def noF : Nat → Int := fun _ => 0
def rdF (s : ByteArray) (f : Nat) : Nat × ByteArray × Nat := if longF f then rdNum s 8 (fun q => decide (q < 9223372036854775808)) else rdNum s 4 (fun _ => true)
theorem rdNum_cases (s : ByteArray) (m : Nat) (ok : Nat → Bool) : (∃ q, rdNum s m ok = (q, s.extract m s.size, 0)) ∨ rdNum s m ok = (0, s, 1) := by
  unfold rdNum
  by_cases h : m ≤ s.size ∧ ok (numK s m) = true
  · rw [if_pos h]; exact .inl ⟨_, rfl⟩
  · rw [if_neg h]; exact .inr rfl
theorem rdF_cases (s : ByteArray) (f : Nat) : (∃ q r, rdF s f = (q, r, 0) ∧ r.size ≤ s.size) ∨ rdF s f = (0, s, 1) := by
  unfold rdF
  split
  · rcases rdNum_cases s 8 (fun q => decide (q < 9223372036854775808)) with ⟨q, h⟩ | h
    · exact .inl ⟨q, _, h, by rw [ByteArray.size_extract]; omega⟩
    · exact .inr h
  · rcases rdNum_cases s 4 (fun _ => true) with ⟨q, h⟩ | h
    · exact .inl ⟨q, _, h, by rw [ByteArray.size_extract]; omega⟩
    · exact .inr h
/-- Fields read one behind the other; none: one does not go. -/
def decS : ByteArray × (Nat → Int) → List Nat → Option (ByteArray × (Nat → Int))
  | r, [] => some r
  | (s, b), f :: fs => if (rdF s f).2.2 = 0 then decS ((rdF s f).2.1, setF b f (rdF s f).1) fs else none
theorem decS_app : ∀ (fs gs : List Nat) (r : ByteArray × (Nat → Int)), decS r (fs ++ gs) = (decS r fs).bind fun x => decS x gs
  | [], gs, r => by simp [decS]
  | f :: fs, gs, (s, b) => by
    simp only [List.cons_append, decS]
    split
    · exact decS_app fs gs _
    · rfl
theorem decS_one {s r : ByteArray} {b : Nat → Int} {f q : Nat} (h : rdF s f = (q, r, 0)) : decS (s, b) [f] = some (r, setF b f q) := by simp [decS, h]
theorem decS_none {s : ByteArray} {b : Nat → Int} {f : Nat} (h : rdF s f = (0, s, 1)) : decS (s, b) [f] = none := by simp [decS, h]
/-- What Decode answers. -/
def decM (s : ByteArray) (m : Nat) : (Nat → Int) × Nat × Nat := match decS (s, noF) ((idxs m 5).flatMap flds) with
  | some (r, b) => if r = ⟨#[]⟩ then (b, m, 0) else (noF, 0, 1)
  | none => (noF, 0, 1)
def decA (s : ByteArray) : (Nat → Int) × Nat × Nat := if (rdNum s 4 (fun _ => true)).2.2 = 0 ∧ (rdNum s 4 (fun _ => true)).1 ≤ 31 then decM (rdNum s 4 (fun _ => true)).2.1 (rdNum s 4 (fun _ => true)).1 else (noF, 0, 1)
/-- A reader beside an Attr. -/
structure DeS (ad : Nat → Addr) (w w0 wr : World) (bA bR : Nat) (s : ByteArray) (b : Nat → Int) : Prop where
  env : Env w.heap.size ad [1] wr
  chg : Chg Nil w wr
  kept : Chg (fun x => x = bA ∨ x = bR) w0 wr
  tab : RdAt wr bR s
  blk : wr.heap[bA]? = some (.cells (attrC b).toArray 36 (0, 0))
  ne : bA ≠ bR
  geA : w.heap.size ≤ bA
  geR : w.heap.size ≤ bR
  few : s.size ≤ 1000000
theorem DeS.same {ad : Nat → Addr} {w w0 wr wr' : World} {bA bR : Nat} {s : ByteArray} {b : Nat → Int} (h : DeS ad w w0 wr bA bR s b) (c : Chg Nil wr wr') : DeS ad w w0 wr' bA bR s b := by
  obtain ⟨h1, h2, h3, h4, h5, h6, h7, h8, h9⟩ := h
  exact ⟨h1.keepN c, h2.then c, h3.trans c (fun _ _ f => f.elim), h4.keep c (fun f => f), c.keep h5 (fun f => f), h6, h7, h8, h9⟩
theorem DeS.read {ad : Nat → Addr} {w w0 wr w2 : World} {bA bR : Nat} {s s' : ByteArray} {b : Nat → Int} (h : DeS ad w w0 wr bA bR s b) (c : Chg (· = bR) wr w2) (t : RdAt w2 bR s') (hs : s'.size ≤ s.size) : DeS ad w w0 w2 bA bR s' b := by
  obtain ⟨h1, h2, h3, h4, h5, h6, h7, h8, h9⟩ := h
  exact ⟨h1.keep c (fun x e => by have : x = bR := e; omega), h2.trans c (fun x hx e => by have : x = bR := e; omega), h3.trans c (fun x _ e => .inr e), t, c.keep h5 h6, h6, h7, h8, by omega⟩
theorem DeS.put {ad : Nat → Addr} {w w0 wr : World} {bA bR f : Nat} {s : ByteArray} {b : Nat → Int} (h : DeS ad w w0 wr bA bR s b) (hf : f < 6) (x : Int) : DeS ad w w0 (wr.setCell ⟨bA, f, none⟩ (.int .i64 x)) bA bR s (setF b f x) := by
  obtain ⟨h1, h2, h3, h4, h5, h6, h7, h8, h9⟩ := h
  have c : Chg (· = bA) wr (wr.setCell ⟨bA, f, none⟩ (.int .i64 x)) := chg_at wr bA f _
  refine ⟨h1.keep c (fun y e => by have : y = bA := e; omega), h2.trans c (fun y hy e => by have : y = bA := e; omega), h3.trans c (fun y _ e => .inl e), h4.keep c (fun e => h6 e.symm), ?_, h6, h7, h8, h9⟩
  have := block_setCell h5 f (.int .i64 x)
  rw [attrC_set b hf x] at this
  exact this
theorem DeS.sink {ad : Nat → Addr} {w w0 wr w1 : World} {bA bR : Nat} {s : ByteArray} {b : Nat → Int} (h : DeS ad w w0 wr bA bR s b) (c : Chg Nil wr w1) : DeS ad w w1 w1 bA bR s b :=
  let h' := h.same c
  ⟨h'.env, h'.chg, Chg.refl _ _, h'.tab, h'.blk, h'.ne, h'.geA, h'.geR, h'.few⟩
theorem DeS.rise {ad : Nat → Addr} {w w0 wr w1 w2 : World} {bA bR : Nat} {s s' : ByteArray} {b b' : Nat → Int} (h : DeS ad w w0 wr bA bR s b) (c : Chg Nil wr w1) (h1 : DeS ad w w1 w2 bA bR s' b') : DeS ad w w0 w2 bA bR s' b' :=
  ⟨h1.env, h1.chg, ((h.kept.trans c (fun _ _ f => f.elim)).then h1.kept), h1.tab, h1.blk, h1.ne, h1.geA, h1.geR, h1.few⟩
theorem dec_end {ad : Nat → Addr} {w w0 wr : World} {bA bR : Nat} {s : ByteArray} {b : Nat → Int} (h : DeS ad w w0 wr bA bR s b) : ∀ (vs : List Value), Chg Nil w (wr.setCells bA 0 vs) := fun vs =>
  h.chg.trans (chg_setCells vs 0 wr) (fun x hx e => by have : x = bA := e; have := h.geA; omega)
theorem res_attr {tmps : Array Value} {bA : Nat} {m v : Value} {W : World} {b : Nat → Int} (h2 : tmps.getD 2 undef = .pointer (some ⟨bA, 0, none⟩)) (h3 : tmps.getD 3 undef = m) (h4 : tmps.getD 4 undef = v) (hb : W.heap[bA]? = some (.cells (attrC b).toArray 36 (0, 0))) :
    (results Tryd.f29 tmps).run Tryd.prog W = .ok (.tuple #[.agg (attrC b).toArray, m, v]) W := by
  have k0 := cell_of hb 0
  have k1 := cell_of hb 1
  have k2 := cell_of hb 2
  have k3 := cell_of hb 3
  have k4 := cell_of hb 4
  have k5 := cell_of hb 5
  simp [attrC] at k0 k1 k2 k3 k4 k5
  simp at h2 h3 h4
  simp [results, Tryd.results29, go_sem, k0, k1, k2, k3, k4, k5, h2, h3, h4, attrC]
/-- The cells of the Attr. -/
theorem DeS.cells {ad : Nat → Addr} {w w0 wr : World} {bA bR : Nat} {s : ByteArray} {b : Nat → Int} (h : DeS ad w w0 wr bA bR s b) :
    (wr.cell? ⟨bA, 0, none⟩ = some (.int .i64 (b 0)) ∧ wr.cell? ⟨bA, 1, none⟩ = some (.int .i64 (b 1)) ∧ wr.cell? ⟨bA, 2, none⟩ = some (.int .i64 (b 2)) ∧ wr.cell? ⟨bA, 3, none⟩ = some (.int .i64 (b 3)) ∧ wr.cell? ⟨bA, 4, none⟩ = some (.int .i64 (b 4)) ∧ wr.cell? ⟨bA, 5, none⟩ = some (.int .i64 (b 5))) ∧
    (wr.frozen? ⟨bA, 0, none⟩ = false ∧ wr.frozen? ⟨bA, 1, none⟩ = false ∧ wr.frozen? ⟨bA, 2, none⟩ = false ∧ wr.frozen? ⟨bA, 3, none⟩ = false ∧ wr.frozen? ⟨bA, 4, none⟩ = false ∧ wr.frozen? ⟨bA, 5, none⟩ = false) ∧ bA < wr.heap.size :=
  ⟨⟨cell_of h.blk 0, cell_of h.blk 1, cell_of h.blk 2, cell_of h.blk 3, cell_of h.blk 4, cell_of h.blk 5⟩, ⟨free_of h.blk 0, free_of h.blk 1, free_of h.blk 2, free_of h.blk 3, free_of h.blk 4, free_of h.blk 5⟩, lt_of_block h.blk⟩
theorem dec_fail {ad : Nat → Addr} {w w0 wr : World} {bA bR : Nat} {s s0 : ByteArray} {b : Nat → Int} {a : Act} (h : DeS ad w w0 wr bA bR s b) (hx : decA s0 = (noF, 0, 1)) (hd : a.defers = []) (h2 : a.tmps.getD 2 undef = .pointer (some ⟨bA, 0, none⟩)) (h3 : a.tmps.getD 3 undef = .int .i64 0) (h4 : a.tmps.getD 4 undef = errV ad 1) :
    bodyPost Tryd.prog Tryd.f29 (fun e w' => e = .returned (.tuple #[.agg (attrC (decA s0).1).toArray, .int .i64 ((decA s0).2.1 : Nat), errV ad (decA s0).2.2]) ∧ Chg Nil w w') Exit.ret a
      ((((((wr.setCell ⟨bA, 0, none⟩ (.int .i64 0)).setCell ⟨bA, 1, none⟩ (.int .i64 0)).setCell ⟨bA, 2, none⟩ (.int .i64 0)).setCell ⟨bA, 3, none⟩ (.int .i64 0)).setCell ⟨bA, 4, none⟩ (.int .i64 0)).setCell ⟨bA, 5, none⟩ (.int .i64 0)) := by
  have H9 := (((((h.put (f := 0) (by omega) 0).put (f := 1) (by omega) 0).put (f := 2) (by omega) 0).put (f := 3) (by omega) 0).put (f := 4) (by omega) 0).put (f := 5) (by omega) 0
  refine bodyPost_ret (res_attr (bA := bA) h2 h3 h4 H9.blk) hd ⟨?_, H9.chg⟩
  rw [hx]; rfl
def RelD1 (ad : Nat → Addr) (s0 : ByteArray) (m : Nat) (w w0 : World) (bA bR : Nat) (v i : Value) (wr : World) : Prop :=
  ∃ (k : Nat) (s : ByteArray) (b : Nat → Int), k ≤ (idxs m 5).length ∧ v = .int .i64 m ∧ i = .int .i64 k ∧ decS (s0, noF) (((idxs m 5).take k).flatMap flds) = some (s, b) ∧ DeS ad w w0 wr bA bR s b
def RelD2 (ad : Nat → Addr) (s0 : ByteArray) (b0 : Nat → Int) (i m : Nat) (w w0 : World) (bA bR : Nat) (v j : Value) (wr : World) : Prop :=
  ∃ (q : Nat) (s : ByteArray) (b : Nat → Int), q ≤ (flds i).length ∧ v = .int .i64 m ∧ j = .int .i64 q ∧ decS (s0, b0) ((flds i).take q) = some (s, b) ∧ DeS ad w w0 wr bA bR s b
set_option maxHeartbeats 8000000 in
set_option maxRecDepth 100000 in
theorem decode_any (ad : Nat → Addr) (s : ByteArray) (w : World) (he : Env w.heap.size ad [1] w) (hs : s.size ≤ 1000000) :
    Calls Tryd.prog 29 #[.string s] w fun e w' => e = .returned (.tuple #[.agg (attrC (decA s).1).toArray, .int .i64 ((decA s).2.1 : Nat), errV ad (decA s).2.2]) ∧ Chg Nil w w' := by
  have hba := block_alloc w (.cells (attrC noF).toArray 36)
  have hk0 := (Chg.refl Nil w).alloc (.cells (attrC noF).toArray 36)
  have HE := Lib.hid (he.keepN hk0)
  have HBA := Lib.hid hba
  have HK0 := Lib.hid hk0
  clear he hba hk0
  go_enter Tryd.func29, Tryd.ntmps29
  go_wp2_with fail
  refine (newReader_any s _).mono ?_
  rintro e w1 ⟨rfl, hc1, ht1, hl1⟩
  simp at ht1 hl1
  have H1 := Lib.hid (show DeS ad w w1 w1 w.heap.size (w.heap.size + 1) s noF from ⟨HE.out.keepN hc1, HK0.out.then hc1, Chg.refl _ _, ht1, hc1.keep HBA.out (fun f => f), by omega, Nat.le_refl _, by omega, hs⟩)
  clear hc1 ht1
  go_wp2_with fail
  refine (rint_any (B := w.heap.size) ad (w.heap.size + 1) s w1 H1.out.env (by omega) H1.out.tab (by omega)).mono ?_
  rintro e w2 ⟨rfl, hc2, ht2⟩
  rcases rdNum_cases s 4 (fun _ => true) with ⟨m, hm⟩ | hm
  · rw [hm] at ht2 ⊢
    have H2 := Lib.hid (H1.out.read hc2 ht2 (by rw [ByteArray.size_extract]; omega))
    obtain ⟨s1, hs1⟩ : ∃ s1, s1 = s.extract 4 s.size := ⟨_, rfl⟩
    rw [← hs1] at H2 hm
    clear hc2 ht2 hs1
    simp only [errV_zero]
    by_cases hm31 : 31 < m
    · have HX := Lib.hid (show decA s = (noF, 0, 1) by unfold decA; rw [hm, if_neg (by simp; omega)])
      obtain ⟨⟨a0, a1, a2, a3, a4, a5⟩, ⟨f0, f1, f2, f3, f4, f5⟩, gb⟩ := H2.out.cells
      obtain ⟨q1, q1l⟩ := H2.out.env.get (c := 1) (by simp)
      simp only [gl] at q1 q1l
      clear hm
      go_wp2_with fail
      refine (right_no m (by omega) _).mono ?_
      rintro e w3 ⟨rfl, rfl⟩
      go_wp2_with fail
      exact dec_fail H2.out HX.out rfl rfl rfl rfl
    have HDM := Lib.hid (show decA s = decM s1 m by unfold decA; rw [hm, if_pos ⟨rfl, by simp; omega⟩])
    clear hm
    go_wp2_with fail
    refine (right_yes m (by omega) _).mono ?_
    rintro e w3 ⟨rfl, rfl⟩
    go_wp2_with fail
    refine (asked_any m (by omega) w2).mono ?_
    rintro e w4 ⟨v, Sp, rfl, hs4, hSp, hc4⟩
    have H4 := Lib.hid (H2.out.sink hc4)
    have hn5 := idxs_len m 5
    have hgeA := H2.out.geA
    have hgeR := H2.out.geR
    have hltA := lt_of_block H2.out.blk
    have hltR : w.heap.size + 1 < w2.heap.size := by obtain ⟨_, h⟩ := H2.out.tab; exact lt_of_block h
    obtain ⟨va, vc, rfl⟩ := hs4.shape
    have HS4 := Lib.hid hs4
    have HSP := Lib.hid (show ∀ x, Sp x → ¬ (x = w.heap.size ∨ x = w.heap.size + 1) from fun x hx e => by have := hSp x hx; omega)
    clear hc4 hs4 hSp
    go_wp2_with fail
    go_loopw [3, 31] (fun v i wr => RelD1 ad s1 m w w4 w.heap.size (w.heap.size + 1) v i wr) (fun _ i _ => ((idxs m 5).length - RowKit.intOf i).toNat)
    case atStart => exact ⟨0, s1, noF, Nat.zero_le _, rfl, rfl, rfl, H4.out⟩
    case round =>
      obtain ⟨k, t, c, hk, rfl, rfl, hen, hH⟩ := hrel
      obtain ⟨wo, hwo⟩ : ∃ wo : World, wo = wr := ⟨_, rfl⟩
      subst hwo
      by_cases hlt : k < (idxs m 5).length
      · obtain ⟨i, hi⟩ : ∃ i, (idxs m 5)[k]? = some i := ⟨(idxs m 5)[k], List.getElem?_eq_getElem hlt⟩
        have hi5 : i < 5 := idxs_lt (List.mem_of_getElem? hi)
        have hsl := HS4.out.keep hH.kept HSP.out
        obtain ⟨g, off, cap, cs, e, hb, hnc, hcm, hoff, hcells, hSg, hgl⟩ := hsl.place (by omega)
        cases e
        have c0 := (hsl.elem partC_len hi 0 _ rfl).1
        have c1 := (hsl.elem partC_len hi 1 _ rfl).1
        simp only [Nat.add_zero] at c0
        have j0 : (0 : Int) ≤ (k : Int) := by omega
        have j1 : (k : Int) < ((idxs m 5).length : Int) := by omega
        have kc : k < vc := by omega
        have HEN := Lib.hid hen
        have HTF := Lib.hid (take_flat hi)
        have HPR := Lib.hid (show ∃ r, (idxs m 5).flatMap flds = ((idxs m 5).take k).flatMap flds ++ (flds i ++ r) from ⟨((idxs m 5).drop (k + 1)).flatMap flds, by
          rw [← List.append_assoc, ← take_flat hi, ← List.flatMap_append, List.take_append_drop]⟩)
        have HH := Lib.hid hH
        clear hen hH hb hcells hoff hsl hi
        have hcf := part_enter i hi5
        go_wp2_with fail
        refine (of_any i w.heap.size hi5 _).mono ?_
        rintro e w5 ⟨rfl, hc5, hb5⟩
        have hcw : Chg Nil wo w5 := ((Chg.refl Nil wo).alloc _).then hc5
        have HBX := Lib.hid (hc5.keep (block_alloc wo (.cells (partC i).toArray 128)) (fun f => f))
        have HBP := Lib.hid hb5
        have hz5 := hc5.size
        have hlb := lt_of_block hb5
        have hlA := lt_of_block HH.out.blk
        have hlR : w.heap.size + 1 < wo.heap.size := by obtain ⟨_, h⟩ := HH.out.tab; exact lt_of_block h
        simp at hz5 hlb
        have H5 := Lib.hid (HH.out.sink hcw)
        have HCW := Lib.hid hcw
        have hfl := flds_len i
        clear hc5 hb5 hcw c0 c1
        go_wp2_with fail
        go_loopw [3, 39] (fun v j wr => RelD2 ad t c i m w w5 w.heap.size (w.heap.size + 1) v j wr) (fun _ j _ => ((flds i).length - RowKit.intOf j).toNat)
        case atStart => exact ⟨0, t, c, Nat.zero_le _, rfl, rfl, rfl, H5.out⟩
        case round =>
          obtain ⟨q, t2, c2, hq, rfl, rfl, hen2, hH2⟩ := hrel
          by_cases hqt : q < (flds i).length
          · obtain ⟨f, hf⟩ : ∃ f, (flds i)[q]? = some f := ⟨(flds i)[q], List.getElem?_eq_getElem hqt⟩
            have hfl2 := flds_long hi5 (List.mem_of_getElem? hf)
            have hf6 := hfl2.2
            have b0 := cell_of (hH2.kept.keep HBX.out (fun hn => by rcases hn with hn | hn <;> omega)) 0
            have bp := cell_of (hH2.kept.keep HBP.out (fun hn => by simp at hn; rcases hn with hn | hn <;> omega)) q
            rw [List.getElem?_toArray, List.getElem?_map, hf] at bp
            simp [partC, ptrC] at b0 bp
            have i0 : (0 : Int) ≤ (q : Int) := by omega
            have i1 : (q : Int) < ((flds i).length : Int) := by omega
            have HST := Lib.hid (show decS (t, c) ((flds i).take (q + 1)) = decS (t2, c2) [f] by rw [take_one hf, decS_app, hen2]; rfl)
            have HPR2 := Lib.hid (show ∃ r, flds i = (flds i).take q ++ ([f] ++ r) from ⟨(flds i).drop (q + 1), by rw [← List.append_assoc, ← take_one hf, List.take_append_drop]⟩)
            have HH2 := Lib.hid hH2
            have HEN2 := Lib.hid hen2
            have HLF := Lib.hid hfl2.1
            clear hH2 hen2 hf hfl2
            by_cases hl : longF i = true
            · rw [hl] at b0
              have HL := Lib.hid (HLF.out.trans hl)
              clear hl
              have HRF := Lib.hid (show rdF t2 f = rdNum t2 8 (fun q => decide (q < 9223372036854775808)) from (by unfold rdF; rw [HL.out]; rfl))
              rcases rdF_cases t2 f with ⟨x, r, h3, h4⟩ | h3
              · have HRD := Lib.hid (HRF.out.symm.trans h3)
                have HON := Lib.hid (decS_one (b := c2) h3)
                clear h3
                go_wp2_with fail
                refine (rlong_any (B := w.heap.size) ad (w.heap.size + 1) t2 _ HH2.out.env (by omega) HH2.out.tab (by have := HH2.out.few; omega)).mono ?_
                rintro e w7 ⟨rfl, hc7, ht7⟩
                rw [HRD.out] at ht7 ⊢
                have H7 := Lib.hid (HH2.out.read hc7 ht7 h4)
                clear hc7 ht7
                have bf := cell_of H7.out.blk f
                have ff := free_of H7.out.blk f
                have gf := lt_of_block H7.out.blk
                rw [List.getElem?_toArray, attrC_get c2 hf6] at bf
                simp only [errV_zero]
                go_wp2_with fail
                go_roundw
                case rel => exact ⟨q + 1, r, setF c2 f x, by omega, rfl, by go_num, HST.out.trans HON.out, H7.out.put hf6 x⟩
                case measure => simp [RowKit.intOf]; omega
              · have HRD := Lib.hid (HRF.out.symm.trans h3)
                have HX := Lib.hid (show decA s = (noF, 0, 1) by
                  rw [HDM.out]; unfold decM
                  obtain ⟨r1, e1⟩ := HPR.out
                  obtain ⟨r2, e2⟩ := HPR2.out
                  have h9 : decS (t, c) (flds i ++ r1) = none := by rw [e2, List.append_assoc, decS_app, HEN2.out, Option.bind_some, List.append_assoc, decS_app, decS_none h3]; rfl
                  rw [e1, decS_app, HEN.out, Option.bind_some, h9])
                clear h3
                go_wp2_with fail
                refine (rlong_any (B := w.heap.size) ad (w.heap.size + 1) t2 _ HH2.out.env (by omega) HH2.out.tab (by have := HH2.out.few; omega)).mono ?_
                rintro e w7 ⟨rfl, hc7, ht7⟩
                rw [HRD.out] at ht7 ⊢
                have H7 := Lib.hid (HH2.out.read hc7 ht7 (Nat.le_refl _))
                clear hc7 ht7
                have bf := cell_of H7.out.blk f
                have ff := free_of H7.out.blk f
                have gf := lt_of_block H7.out.blk
                rw [List.getElem?_toArray, attrC_get c2 hf6] at bf
                have H8 := Lib.hid (H7.out.put hf6 0)
                obtain ⟨⟨a0, a1, a2, a3, a4, a5⟩, ⟨f0, f1, f2, f3, f4, f5⟩, gb⟩ := H8.out.cells
                have HNZ := Lib.hid (errV_pos (ad := ad) (show (1 : Nat) ≠ 0 by omega))
                simp only [errV_pos (show (1 : Nat) ≠ 0 by omega)]
                go_wp2_with fail
                exact dec_fail H8.out HX.out rfl rfl rfl rfl
            · have hl2 : longF i = false := by simpa using hl
              rw [hl2] at b0
              have HL := Lib.hid (HLF.out.trans hl2)
              clear hl hl2
              have HRF := Lib.hid (show rdF t2 f = rdNum t2 4 (fun _ => true) from (by unfold rdF; rw [HL.out]; rfl))
              rcases rdF_cases t2 f with ⟨x, r, h3, h4⟩ | h3
              · have HRD := Lib.hid (HRF.out.symm.trans h3)
                have HON := Lib.hid (decS_one (b := c2) h3)
                clear h3
                go_wp2_with fail
                refine (rint_any (B := w.heap.size) ad (w.heap.size + 1) t2 _ HH2.out.env (by omega) HH2.out.tab (by have := HH2.out.few; omega)).mono ?_
                rintro e w7 ⟨rfl, hc7, ht7⟩
                rw [HRD.out] at ht7 ⊢
                have H7 := Lib.hid (HH2.out.read hc7 ht7 h4)
                clear hc7 ht7
                have bf := cell_of H7.out.blk f
                have ff := free_of H7.out.blk f
                have gf := lt_of_block H7.out.blk
                rw [List.getElem?_toArray, attrC_get c2 hf6] at bf
                simp only [errV_zero]
                go_wp2_with fail
                go_roundw
                case rel => exact ⟨q + 1, r, setF c2 f x, by omega, rfl, by go_num, HST.out.trans HON.out, H7.out.put hf6 x⟩
                case measure => simp [RowKit.intOf]; omega
              · have HRD := Lib.hid (HRF.out.symm.trans h3)
                have HX := Lib.hid (show decA s = (noF, 0, 1) by
                  rw [HDM.out]; unfold decM
                  obtain ⟨r1, e1⟩ := HPR.out
                  obtain ⟨r2, e2⟩ := HPR2.out
                  have h9 : decS (t, c) (flds i ++ r1) = none := by rw [e2, List.append_assoc, decS_app, HEN2.out, Option.bind_some, List.append_assoc, decS_app, decS_none h3]; rfl
                  rw [e1, decS_app, HEN.out, Option.bind_some, h9])
                clear h3
                go_wp2_with fail
                refine (rint_any (B := w.heap.size) ad (w.heap.size + 1) t2 _ HH2.out.env (by omega) HH2.out.tab (by have := HH2.out.few; omega)).mono ?_
                rintro e w7 ⟨rfl, hc7, ht7⟩
                rw [HRD.out] at ht7 ⊢
                have H7 := Lib.hid (HH2.out.read hc7 ht7 (Nat.le_refl _))
                clear hc7 ht7
                have bf := cell_of H7.out.blk f
                have ff := free_of H7.out.blk f
                have gf := lt_of_block H7.out.blk
                rw [List.getElem?_toArray, attrC_get c2 hf6] at bf
                have H8 := Lib.hid (H7.out.put hf6 0)
                obtain ⟨⟨a0, a1, a2, a3, a4, a5⟩, ⟨f0, f1, f2, f3, f4, f5⟩, gb⟩ := H8.out.cells
                have HNZ := Lib.hid (errV_pos (ad := ad) (show (1 : Nat) ≠ 0 by omega))
                simp only [errV_pos (show (1 : Nat) ≠ 0 by omega)]
                go_wp2_with fail
                exact dec_fail H8.out HX.out rfl rfl rfl rfl
          · obtain rfl : q = (flds i).length := by omega
            have HEN2 := Lib.hid hen2
            have HR := Lib.hid (HH.out.rise HCW.out hH2)
            clear hen2 hH2
            go_wp2_with fail
            go_roundw
            case rel =>
              refine ⟨k + 1, t2, c2, by omega, rfl, by go_num, ?_, HR.out⟩
              have h9 := HEN2.out
              rw [List.take_of_length_le (Nat.le_refl _)] at h9
              rw [HTF.out, decS_app, HEN.out, Option.bind_some]; exact h9
            case measure => simp [RowKit.intOf]; omega
      · obtain rfl : k = (idxs m 5).length := by omega
        rw [List.take_of_length_le (Nat.le_refl _)] at hen
        have HH := Lib.hid hH
        clear hH
        by_cases hte : t = ⟨#[]⟩
        · have HX := Lib.hid (show decA s = (c, m, 0) by rw [HDM.out]; unfold decM; rw [hen]; simp [hte])
          subst hte
          obtain ⟨⟨a0, a1, a2, a3, a4, a5⟩, ⟨f0, f1, f2, f3, f4, f5⟩, gb⟩ := HH.out.cells
          clear hen a0 a1 a2 a3 a4 a5 f0 f1 f2 f3 f4 f5 gb
          go_wp2_with fail
          refine (rend_any (B := w.heap.size) ad (w.heap.size + 1) _ _ HH.out.env HH.out.tab).mono ?_
          rintro e w7 ⟨rfl, hc7⟩
          have H7 := Lib.hid (HH.out.same hc7)
          rw [if_pos rfl]
          simp only [errV_zero]
          obtain ⟨⟨a0, a1, a2, a3, a4, a5⟩, ⟨f0, f1, f2, f3, f4, f5⟩, gb⟩ := H7.out.cells
          go_wp2_with fail
          have H9 := (((((H7.out.put (f := 0) (by omega) (c 0)).put (f := 1) (by omega) (c 1)).put (f := 2) (by omega) (c 2)).put (f := 3) (by omega) (c 3)).put (f := 4) (by omega) (c 4)).put (f := 5) (by omega) (c 5)
          have hb9 := H9.blk
          have hac : attrC (setF (setF (setF (setF (setF (setF c 0 (c 0)) 1 (c 1)) 2 (c 2)) 3 (c 3)) 4 (c 4)) 5 (c 5)) = attrC c := rfl
          rw [hac] at hb9
          refine bodyPost_ret (res_attr (bA := w.heap.size) rfl rfl rfl hb9) rfl ⟨?_, H9.chg⟩
          rw [HX.out]; rfl
        · have HX := Lib.hid (show decA s = (noF, 0, 1) by rw [HDM.out]; unfold decM; rw [hen]; simp [hte])
          have HTE := Lib.hid (show (if t = ⟨#[]⟩ then 0 else 1) = 1 from if_neg hte)
          clear hen hte
          go_wp2_with fail
          refine (rend_any (B := w.heap.size) ad (w.heap.size + 1) _ _ HH.out.env HH.out.tab).mono ?_
          rintro e w7 ⟨rfl, hc7⟩
          have H7 := Lib.hid (HH.out.same hc7)
          rw [HTE.out]
          simp only [errV_pos (show (1 : Nat) ≠ 0 by omega)]
          obtain ⟨⟨a0, a1, a2, a3, a4, a5⟩, ⟨f0, f1, f2, f3, f4, f5⟩, gb⟩ := H7.out.cells
          go_wp2_with fail
          exact dec_fail H7.out HX.out rfl rfl rfl rfl
  · have HX := Lib.hid (show decA s = (noF, 0, 1) by unfold decA; rw [hm, if_neg (by simp)])
    rw [hm] at ht2 ⊢
    have H2 := Lib.hid (H1.out.read hc2 ht2 (Nat.le_refl _))
    clear hc2 ht2 hm
    obtain ⟨⟨a0, a1, a2, a3, a4, a5⟩, ⟨f0, f1, f2, f3, f4, f5⟩, gb⟩ := H2.out.cells
    obtain ⟨q1, q1l⟩ := H2.out.env.get (c := 1) (by simp)
    simp only [gl] at q1 q1l
    simp only [errV_pos (show (1 : Nat) ≠ 0 by omega)]
    go_wp2_with fail
    exact dec_fail H2.out HX.out rfl rfl rfl rfl
end Go.Proofs.YtdhegblgghembaaDoor
