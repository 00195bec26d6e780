/- package share: Open by contract. -/
import Derived.Test.YtofhnglgebllbaaDoorShare5
import Derived.Deep.RegionHeld3
namespace Go.Proofs.YtofhnglgebllbaaDoor
open Go.RowKit Go.Lib Go.Sort
set_option linter.unusedVariables false
set_option linter.unusedSimpArgs false

/-- Behind an append: what the walk needs to store it back, and what is so then. -/
theorem push_pack {α : Type} {E k : Nat} {enc : α → List Value} {w4 W w5 : World} {b n : Nat} {l : List α} {p : α} {old v5 : Value} {T : TypeId} {o : Obj} {S Ss S5 : Nat → Prop} {B : Nat} (hfar : ∀ x, Ss x → x < B) (hb : w4.heap[b]? = some (.cells #[old] T (0, 0))) (hS : S b) (hlt : ∀ x, S x → x < w4.heap.size) (hnb : ¬ Ss b) (hsub : ∀ x, Ss x → S x)
    (hq : Chg Nil (w4.alloc o) W) (hn : n = l.length + 1) (hs : SliceAt w5 v5 E k n (l.flatMap enc ++ enc p) S5) (hc : Chg Ss W w5) (hg : Grow Ss S5 W w5) :
    ∃ a5 c5, v5 = .slice a5 n c5 ∧ w5.cell? ⟨b, 0, none⟩ = some old ∧ w5.frozen? ⟨b, 0, none⟩ = false ∧ b < w5.heap.size ∧ (∀ (p : Addr) (u : Value), B ≤ p.block → w4.cell? p = some u → w5.cell? p = some u) ∧ Hid (RowPost E k enc S w4 b (l ++ [p]) (w5.setCell ⟨b, 0, none⟩ (.slice a5 n c5))) := by
  obtain ⟨a5, c5, rfl⟩ := hs.shape
  have hq4 := (Chg.refl Nil w4).alloc o
  have hb5 := hc.keep (hq.keep (hq4.keep hb (fun f => f)) (fun f => f)) hnb
  have hz := hq.size
  refine ⟨a5, c5, rfl, cell_of hb5 0, free_of hb5 0, lt_of_block hb5, (fun p u hp hu => ?_), Lib.hid (row_push (o := o) hb hS hlt hnb hsub hs hn (hq.nil.then hc) fun x hx => ?_)⟩
  · have hl := World.block_lt_of_cell? _ _ hu
    have c4 := (hq4.then hq)
    rw [hc.cell (Nat.lt_of_lt_of_le hl c4.size) (fun h => by have := hfar _ h; omega), c4.cell hl (fun f => f)]; exact hu
  · rcases hg x hx with h | h
    · exact .inl h
    · exact .inr ⟨by omega, h.2⟩
set_option maxHeartbeats 4000000 in
set_option maxRecDepth 100000 in
theorem shOpen_some {B : Nat} (ad : Nat → Addr) (b : Nat) (n g o a d : Int) (l : List Opn) (S : Nat → Prop) (w : World) (he : Env B ad [2, 9, 11] w) (ht : ShAt w b l S) (hfew : l.length ≤ 1000) (hr : ¬ rightP a d = false) (hany : l.any (againstP (n, g) o a d) = false) (i : Nat) (hf : l.findIdx? (mineP (n, g) o) = some i) :
    Calls Tryd.prog 38 #[.pointer (some ⟨b, 0, none⟩), .agg #[.int .i64 n, .int .i64 g], .int .i64 o, .int .i64 a, .int .i64 d] w fun e w' => e = .returned (errV ad (shOpen l (n, g) o a d).2) ∧ ShPost S w b (shOpen l (n, g) o a d).1 w' := by
  have HT := Lib.hid ht
  obtain ⟨⟨v, T, Ss, hb, hs, hnb, hsub⟩, hS, hlt⟩ := ht
  obtain ⟨sa, cap, rfl⟩ := hs.shape
  have ha := ((((Chg.refl Nil w).alloc (.cells #[.int .i64 n, .int .i64 g] 29)).alloc (.cells #[.int .i64 o] 3)).alloc (.cells #[.int .i64 a] 3)).alloc (.cells #[.int .i64 d] 3)
  have hbh := block_alloc_old (block_alloc_old (block_alloc_old (block_alloc w (.cells #[.int .i64 n, .int .i64 g] 29)) (.cells #[.int .i64 o] 3)) (.cells #[.int .i64 a] 3)) (.cells #[.int .i64 d] 3)
  have hbo := block_alloc_old (block_alloc_old (block_alloc (w.alloc (.cells #[.int .i64 n, .int .i64 g] 29)) (.cells #[.int .i64 o] 3)) (.cells #[.int .i64 a] 3)) (.cells #[.int .i64 d] 3)
  have hba := block_alloc_old (block_alloc ((w.alloc (.cells #[.int .i64 n, .int .i64 g] 29)).alloc (.cells #[.int .i64 o] 3)) (.cells #[.int .i64 a] 3)) (.cells #[.int .i64 d] 3)
  have hbd := block_alloc (((w.alloc (.cells #[.int .i64 n, .int .i64 g] 29)).alloc (.cells #[.int .i64 o] 3)).alloc (.cells #[.int .i64 a] 3)) (.cells #[.int .i64 d] 3)
  simp only [World.size_alloc] at hbo hba hbd
  have hbw := ha.keep hb (fun f => f)
  have hsw := hs.keep ha (fun _ _ f => f)
  obtain ⟨wx, hwx⟩ : ∃ wx, wx = (((w.alloc (.cells #[.int .i64 n, .int .i64 g] 29)).alloc (.cells #[.int .i64 o] 3)).alloc (.cells #[.int .i64 a] 3)).alloc (.cells #[.int .i64 d] 3) := ⟨_, rfl⟩
  have HE := Lib.hid (he.keepN ha)
  rw [← hwx] at ha hbh hbo hba hbd hbw hsw HE
  have HWX := Lib.hid hwx
  clear hwx
  have h0 := cell_of hbh 0
  have h1 := cell_of hbh 1
  have o0 := cell_of hbo 0
  have a0 := cell_of hba 0
  have d0 := cell_of hbd 0
  have b0 := cell_of hbw 0
  have gb := lt_of_block hbw
  simp only [List.getElem?_toArray, List.getElem?_cons_zero, List.getElem?_cons_succ] at h0 h1 o0 a0 d0 b0
  have HI := Lib.hid (hasOpen_any (againstP (n, g) o a d) 113 #[.pointer (some ⟨w.heap.size, 0, none⟩), .pointer (some ⟨w.heap.size + 1, 0, none⟩), .pointer (some ⟨w.heap.size + 1 + 1, 0, none⟩), .pointer (some ⟨w.heap.size + 1 + 1 + 1, 0, none⟩)] entersOpen wx hsw (fun W x hW => open1_any n g o a d x w.heap.size (w.heap.size + 1) (w.heap.size + 1 + 1) (w.heap.size + 1 + 1 + 1) _ _ _ _ W (hW.keep hbh (fun f => f)) (hW.keep hbo (fun f => f)) (hW.keep hba (fun f => f)) (hW.keep hbd (fun f => f))))
  have HR := Lib.hid (right_any a d)
  have HA := Lib.hid ha
  have HBW := Lib.hid hbw
  have HSW := Lib.hid hsw
  have HBH := Lib.hid hbh
  have HBO := Lib.hid hbo
  have HBA := Lib.hid hba
  have HBD := Lib.hid hbd
  have HNB := Lib.hid hnb
  have HSUB := Lib.hid hsub
  have HSb := Lib.hid hS
  have HLT := Lib.hid hlt
  clear he hb hs ha hlt hsub hS hnb hbw hsw hbh hbo hba hbd
  rw [show rightP a d = true by simpa using hr] at HR
  rw [hany] at HI
  have HX := Lib.hid (show shOpen l (n, g) o a d = (l.modify i (fun x => (x.1, x.2.1, bits .or .i64 x.2.2.1 a, bits .or .i64 x.2.2.2 d)), 0) by unfold shOpen; rw [if_neg hr, if_neg (by rw [hany]; simp), hf])
  have hil : i < l.length := (List.findIdx?_eq_some_iff_getElem.1 hf).1
  obtain ⟨⟨⟨xn, xg⟩, xo, xa, xd⟩, hx⟩ : ∃ x, l[i]? = some x := ⟨l[i], List.getElem?_eq_getElem hil⟩
  have hmod : l.modify i (fun x => (x.1, x.2.1, bits .or .i64 x.2.2.1 a, bits .or .i64 x.2.2.2 d)) = l.set i ((xn, xg), xo, bits .or .i64 xa a, bits .or .i64 xd d) := by
    rw [List.modify_eq_set, hx]; rfl
  rw [hmod] at HX
  obtain ⟨g0, off, cap', cs, e', _⟩ := HSW.out.place (by omega)
  cases e'
  have HF := Lib.hid (fun W (hW : Chg Nil wx W) => find_some n g o b l i g0 off cap T Ss W (hW.keep HBW.out (fun f => f)) (HSW.out.keep hW (fun _ _ f => f)) hf)
  have HXX := Lib.hid hx
  clear hr hany hf hx hmod
  go_enter Tryd.func38, Tryd.ntmps38
  go_wp2_with fail
  rw [← HWX.out]
  refine (HR.out _).mono ?_
  rintro e w2 ⟨rfl, rfl⟩
  go_wp2_with fail
  refine HI.out.mono ?_
  rintro e w3 ⟨rfl, hc3⟩
  have h03 : w3.cell? ⟨w.heap.size, 0, none⟩ = some (.int .i64 n) := by rw [hc3.cell (World.block_lt_of_cell? _ _ h0) (fun f => f)]; exact h0
  have h13 : w3.cell? ⟨w.heap.size, 1, none⟩ = some (.int .i64 g) := by rw [hc3.cell (World.block_lt_of_cell? _ _ h1) (fun f => f)]; exact h1
  have o03 : w3.cell? ⟨w.heap.size + 1, 0, none⟩ = some (.int .i64 o) := by rw [hc3.cell (World.block_lt_of_cell? _ _ o0) (fun f => f)]; exact o0
  go_wp2_with fail
  refine (HF.out _ hc3).mono ?_
  rintro e w4 ⟨rfl, hc4⟩
  have hc34 := hc3.then hc4
  have HC4 := Lib.hid hc34
  have y3 := ((HSW.out.keep hc34 (fun _ _ f => f)).elem opnC_len HXX.out 3 _ rfl)
  have y4 := ((HSW.out.keep hc34 (fun _ _ f => f)).elem opnC_len HXX.out 4 _ rfl)
  obtain ⟨y30, y31, y32⟩ := y3
  obtain ⟨y40, y41, _⟩ := y4
  have a04 : w4.cell? ⟨w.heap.size + 1 + 1, 0, none⟩ = some (.int .i64 a) := by rw [hc34.cell (World.block_lt_of_cell? _ _ a0) (fun f => f)]; exact a0
  have d04 : w4.cell? ⟨w.heap.size + 1 + 1 + 1, 0, none⟩ = some (.int .i64 d) := by rw [hc34.cell (World.block_lt_of_cell? _ _ d0) (fun f => f)]; exact d0
  clear hc3 hc4 hc34 h03 h13 o03 h0 h1 o0 a0 d0 b0
  go_wp2_with fail
  go_region
  go_wp2_with fail
  obtain ⟨w5, hw5⟩ : ∃ w5, w5 = (w4.setCell ⟨g0, off + i * 5 + 3, none⟩ (.int .i64 (bits .or .i64 xa a))).drew := ⟨_, rfl⟩
  have hSg : Ss g0 := by
    obtain ⟨_, _, _, _, e, _, _, _, _, _, h, _⟩ := HSW.out.place (by omega)
    cases e; exact h
  have hgw := HLT.out g0 (HSUB.out g0 hSg)
  have c45 : Chg (· = g0) w4 w5 := by rw [hw5]; exact ((Chg.refl (· = g0) w4).setCell (p := ⟨g0, off + i * 5 + 3, none⟩) (.inr rfl) _).drew
  have c1 : Chg Nil (w4.setCell ⟨g0, off + i * 5 + 3, none⟩ (.int .i64 (bits .or .i64 xa a))) w5 := by rw [hw5]; exact (Chg.refl _ _).drew
  have hmul : (i + 1) * 5 ≤ l.length * 5 := Nat.mul_le_mul_right _ hil
  have s1 := (HSW.out.keep HC4.out (fun _ _ f => f)).setOne (j := i * 5 + 3) (by rw [flat_len opnC opnC_len]; omega) (.int .i64 (bits .or .i64 xa a))
  rw [flat_setO opnC_len l i 3 _ ((xn, xg), xo, bits .or .i64 xa a, xd) _ HXX.out (by decide) rfl, ← Nat.add_assoc] at s1
  have y5 := (s1.keep c1 (fun _ _ f => f)).elem opnC_len (show (l.set i ((xn, xg), xo, bits .or .i64 xa a, xd))[i]? = some ((xn, xg), xo, bits .or .i64 xa a, xd) by rw [List.getElem?_set_self hil]) 4 _ rfl
  obtain ⟨y50, y51, y52⟩ := y5
  have d05 : w5.cell? ⟨w.heap.size + 1 + 1 + 1, 0, none⟩ = some (.int .i64 d) := by rw [c45.cell (World.block_lt_of_cell? _ _ d04) (fun e => by have : w.heap.size + 1 + 1 + 1 = g0 := e; omega)]; exact d04
  have C1 := Lib.hid c1
  have HIL := Lib.hid hil
  rw [← hw5]
  clear hw5 c45 c1 s1 d04 a04 y30 y31 y40 y41 hmul hil
  go_region
  go_wp2_with fail
  go_ret
  exact ⟨by rw [HX.out]; rfl, by rw [HX.out]; exact row_two (HA.out.then HC4.out) (HC4.out.keep HBW.out (fun f => f)) HSb.out HLT.out HNB.out HSUB.out (HSW.out.keep HC4.out (fun _ _ f => f)) HXX.out C1.out (Chg.refl _ _).drew⟩
set_option maxHeartbeats 4000000 in
set_option maxRecDepth 100000 in
theorem shOpen_full {B : Nat} (ad : Nat → Addr) (b : Nat) (n g o a d : Int) (l : List Opn) (S : Nat → Prop) (w : World) (he : Env B ad [2, 9, 11] w) (ht : ShAt w b l S) (hfew : l.length ≤ 1000) (hr : ¬ rightP a d = false) (hany : l.any (againstP (n, g) o a d) = false) (hf : l.findIdx? (mineP (n, g) o) = none) (h40 : 40 ≤ l.length) :
    Calls Tryd.prog 38 #[.pointer (some ⟨b, 0, none⟩), .agg #[.int .i64 n, .int .i64 g], .int .i64 o, .int .i64 a, .int .i64 d] w fun e w' => e = .returned (errV ad (shOpen l (n, g) o a d).2) ∧ ShPost S w b (shOpen l (n, g) o a d).1 w' := by
  have HT := Lib.hid ht
  obtain ⟨⟨v, T, Ss, hb, hs, hnb, hsub⟩, hS, hlt⟩ := ht
  obtain ⟨sa, cap, rfl⟩ := hs.shape
  have ha := ((((Chg.refl Nil w).alloc (.cells #[.int .i64 n, .int .i64 g] 29)).alloc (.cells #[.int .i64 o] 3)).alloc (.cells #[.int .i64 a] 3)).alloc (.cells #[.int .i64 d] 3)
  have hbh := block_alloc_old (block_alloc_old (block_alloc_old (block_alloc w (.cells #[.int .i64 n, .int .i64 g] 29)) (.cells #[.int .i64 o] 3)) (.cells #[.int .i64 a] 3)) (.cells #[.int .i64 d] 3)
  have hbo := block_alloc_old (block_alloc_old (block_alloc (w.alloc (.cells #[.int .i64 n, .int .i64 g] 29)) (.cells #[.int .i64 o] 3)) (.cells #[.int .i64 a] 3)) (.cells #[.int .i64 d] 3)
  have hba := block_alloc_old (block_alloc ((w.alloc (.cells #[.int .i64 n, .int .i64 g] 29)).alloc (.cells #[.int .i64 o] 3)) (.cells #[.int .i64 a] 3)) (.cells #[.int .i64 d] 3)
  have hbd := block_alloc (((w.alloc (.cells #[.int .i64 n, .int .i64 g] 29)).alloc (.cells #[.int .i64 o] 3)).alloc (.cells #[.int .i64 a] 3)) (.cells #[.int .i64 d] 3)
  simp only [World.size_alloc] at hbo hba hbd
  have hbw := ha.keep hb (fun f => f)
  have hsw := hs.keep ha (fun _ _ f => f)
  obtain ⟨wx, hwx⟩ : ∃ wx, wx = (((w.alloc (.cells #[.int .i64 n, .int .i64 g] 29)).alloc (.cells #[.int .i64 o] 3)).alloc (.cells #[.int .i64 a] 3)).alloc (.cells #[.int .i64 d] 3) := ⟨_, rfl⟩
  have HE := Lib.hid (he.keepN ha)
  rw [← hwx] at ha hbh hbo hba hbd hbw hsw HE
  have HWX := Lib.hid hwx
  clear hwx
  have h0 := cell_of hbh 0
  have h1 := cell_of hbh 1
  have o0 := cell_of hbo 0
  have a0 := cell_of hba 0
  have d0 := cell_of hbd 0
  have b0 := cell_of hbw 0
  have gb := lt_of_block hbw
  simp only [List.getElem?_toArray, List.getElem?_cons_zero, List.getElem?_cons_succ] at h0 h1 o0 a0 d0 b0
  have HI := Lib.hid (hasOpen_any (againstP (n, g) o a d) 113 #[.pointer (some ⟨w.heap.size, 0, none⟩), .pointer (some ⟨w.heap.size + 1, 0, none⟩), .pointer (some ⟨w.heap.size + 1 + 1, 0, none⟩), .pointer (some ⟨w.heap.size + 1 + 1 + 1, 0, none⟩)] entersOpen wx hsw (fun W x hW => open1_any n g o a d x w.heap.size (w.heap.size + 1) (w.heap.size + 1 + 1) (w.heap.size + 1 + 1 + 1) _ _ _ _ W (hW.keep hbh (fun f => f)) (hW.keep hbo (fun f => f)) (hW.keep hba (fun f => f)) (hW.keep hbd (fun f => f))))
  have HR := Lib.hid (right_any a d)
  have HA := Lib.hid ha
  have HBW := Lib.hid hbw
  have HSW := Lib.hid hsw
  have HBH := Lib.hid hbh
  have HBO := Lib.hid hbo
  have HBA := Lib.hid hba
  have HBD := Lib.hid hbd
  have HNB := Lib.hid hnb
  have HSUB := Lib.hid hsub
  have HSb := Lib.hid hS
  have HLT := Lib.hid hlt
  clear he hb hs ha hlt hsub hS hnb hbw hsw hbh hbo hba hbd
  rw [show rightP a d = true by simpa using hr] at HR
  rw [hany] at HI
  have HF := Lib.hid (fun W (hW : Chg Nil wx W) => find_none n g o b l (.slice sa l.length cap) T Ss W (hW.keep HBW.out (fun f => f)) (HSW.out.keep hW (fun _ _ f => f)) hf)
  have HX := Lib.hid (show shOpen l (n, g) o a d = (l, 9) by unfold shOpen; rw [if_neg hr, if_neg (by rw [hany]; simp), hf]; simp only [if_pos h40])
  have hcI : (40 : Int) ≤ (l.length : Int) := by omega
  clear hr hany hf h40
  go_enter Tryd.func38, Tryd.ntmps38
  go_wp2_with fail
  rw [← HWX.out]
  refine (HR.out _).mono ?_
  rintro e w2 ⟨rfl, rfl⟩
  go_wp2_with fail
  refine HI.out.mono ?_
  rintro e w3 ⟨rfl, hc3⟩
  have h03 : w3.cell? ⟨w.heap.size, 0, none⟩ = some (.int .i64 n) := by rw [hc3.cell (World.block_lt_of_cell? _ _ h0) (fun f => f)]; exact h0
  have h13 : w3.cell? ⟨w.heap.size, 1, none⟩ = some (.int .i64 g) := by rw [hc3.cell (World.block_lt_of_cell? _ _ h1) (fun f => f)]; exact h1
  have o03 : w3.cell? ⟨w.heap.size + 1, 0, none⟩ = some (.int .i64 o) := by rw [hc3.cell (World.block_lt_of_cell? _ _ o0) (fun f => f)]; exact o0
  go_wp2_with fail
  refine (HF.out _ hc3).mono ?_
  rintro e w4 ⟨rfl, hc4⟩
  have hc34 := hc3.then hc4
  have HC4 := Lib.hid hc34
  have h04 : w4.cell? ⟨w.heap.size, 0, none⟩ = some (.int .i64 n) := by rw [hc34.cell (World.block_lt_of_cell? _ _ h0) (fun f => f)]; exact h0
  have h14 : w4.cell? ⟨w.heap.size, 1, none⟩ = some (.int .i64 g) := by rw [hc34.cell (World.block_lt_of_cell? _ _ h1) (fun f => f)]; exact h1
  have o04 : w4.cell? ⟨w.heap.size + 1, 0, none⟩ = some (.int .i64 o) := by rw [hc34.cell (World.block_lt_of_cell? _ _ o0) (fun f => f)]; exact o0
  have a04 : w4.cell? ⟨w.heap.size + 1 + 1, 0, none⟩ = some (.int .i64 a) := by rw [hc34.cell (World.block_lt_of_cell? _ _ a0) (fun f => f)]; exact a0
  have d04 : w4.cell? ⟨w.heap.size + 1 + 1 + 1, 0, none⟩ = some (.int .i64 d) := by rw [hc34.cell (World.block_lt_of_cell? _ _ d0) (fun f => f)]; exact d0
  have b04 : w4.cell? ⟨b, 0, none⟩ = some (.slice sa l.length cap) := by rw [hc34.cell (World.block_lt_of_cell? _ _ b0) (fun f => f)]; exact b0
  have gb4 := World.block_lt_of_cell? _ _ b04
  have l04 := World.block_lt_of_cell? _ _ h04
  have l14 := World.block_lt_of_cell? _ _ o04
  have l24 := World.block_lt_of_cell? _ _ a04
  have l34 := World.block_lt_of_cell? _ _ d04
  simp only at gb4 l04 l14 l24 l34
  have HSW4 := Lib.hid (HSW.out.keep hc34 (fun _ _ f => f))
  have HBW4 := Lib.hid (hc34.keep HBW.out (fun f => f))
  obtain ⟨q1, q2⟩ := (HE.out.keepN hc34).get (c := 9) (by simp)
  simp only [gl] at q1 q2
  clear hc3 hc4 hc34 h03 h13 o03 h0 h1 o0 a0 d0 b0 gb
  go_wp2_with fail
  go_ret
  exact ⟨by rw [HX.out]; rfl, by rw [HX.out]; exact row_same HT.out (HA.out.then HC4.out)⟩
end Go.Proofs.YtofhnglgebllbaaDoor
