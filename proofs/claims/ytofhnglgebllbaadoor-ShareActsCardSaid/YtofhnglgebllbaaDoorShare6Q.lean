/- package share: Open by contract: all of it. -/
import Derived.Test.YtofhnglgebllbaaDoorShare6P
import Derived.Deep.RegionHeld3
namespace Go.Proofs.YtofhnglgebllbaaDoor
open Go.RowKit Go.Lib Go.Sort
set_option linter.unusedVariables false
set_option linter.unusedSimpArgs false

set_option maxHeartbeats 4000000 in
set_option maxRecDepth 100000 in
theorem shOpen_any {B : Nat} (ad : Nat → Addr) (b : Nat) (n g o a d : Int) (l : List Opn) (S : Nat → Prop) (w : World) (he : Env B ad [2, 9, 11] w) (ht : ShAt w b l S) (hfew : l.length ≤ 1000) :
    Calls Tryd.prog 38 #[.pointer (some ⟨b, 0, none⟩), .agg #[.int .i64 n, .int .i64 g], .int .i64 o, .int .i64 a, .int .i64 d] w fun e w' => e = .returned (errV ad (shOpen l (n, g) o a d).2) ∧ ShPost S w b (shOpen l (n, g) o a d).1 w' := by
  have HE0 := Lib.hid he
  have HFEW := Lib.hid hfew
  have HT := Lib.hid ht
  obtain ⟨⟨v, T, Ss, hb, hs, hnb, hsub⟩, hS, hlt⟩ := ht
  obtain ⟨sa, cap, rfl⟩ := hs.shape
  have ha := ((((Chg.refl Nil w).alloc (.cells #[.int .i64 n, .int .i64 g] 29)).alloc (.cells #[.int .i64 o] 3)).alloc (.cells #[.int .i64 a] 3)).alloc (.cells #[.int .i64 d] 3)
  have hbh := block_alloc_old (block_alloc_old (block_alloc_old (block_alloc w (.cells #[.int .i64 n, .int .i64 g] 29)) (.cells #[.int .i64 o] 3)) (.cells #[.int .i64 a] 3)) (.cells #[.int .i64 d] 3)
  have hbo := block_alloc_old (block_alloc_old (block_alloc (w.alloc (.cells #[.int .i64 n, .int .i64 g] 29)) (.cells #[.int .i64 o] 3)) (.cells #[.int .i64 a] 3)) (.cells #[.int .i64 d] 3)
  have hba := block_alloc_old (block_alloc ((w.alloc (.cells #[.int .i64 n, .int .i64 g] 29)).alloc (.cells #[.int .i64 o] 3)) (.cells #[.int .i64 a] 3)) (.cells #[.int .i64 d] 3)
  have hbd := block_alloc (((w.alloc (.cells #[.int .i64 n, .int .i64 g] 29)).alloc (.cells #[.int .i64 o] 3)).alloc (.cells #[.int .i64 a] 3)) (.cells #[.int .i64 d] 3)
  simp only [World.size_alloc] at hbo hba hbd
  have hbw := ha.keep hb (fun f => f)
  have hsw := hs.keep ha (fun _ _ f => f)
  obtain ⟨wx, hwx⟩ : ∃ wx, wx = (((w.alloc (.cells #[.int .i64 n, .int .i64 g] 29)).alloc (.cells #[.int .i64 o] 3)).alloc (.cells #[.int .i64 a] 3)).alloc (.cells #[.int .i64 d] 3) := ⟨_, rfl⟩
  have HE := Lib.hid (he.keepN ha)
  rw [← hwx] at ha hbh hbo hba hbd hbw hsw HE
  have HWX := Lib.hid hwx
  clear hwx
  have h0 := cell_of hbh 0
  have h1 := cell_of hbh 1
  have o0 := cell_of hbo 0
  have a0 := cell_of hba 0
  have d0 := cell_of hbd 0
  have b0 := cell_of hbw 0
  have gb := lt_of_block hbw
  simp only [List.getElem?_toArray, List.getElem?_cons_zero, List.getElem?_cons_succ] at h0 h1 o0 a0 d0 b0
  have HI := Lib.hid (hasOpen_any (againstP (n, g) o a d) 113 #[.pointer (some ⟨w.heap.size, 0, none⟩), .pointer (some ⟨w.heap.size + 1, 0, none⟩), .pointer (some ⟨w.heap.size + 1 + 1, 0, none⟩), .pointer (some ⟨w.heap.size + 1 + 1 + 1, 0, none⟩)] entersOpen wx hsw (fun W x hW => open1_any n g o a d x w.heap.size (w.heap.size + 1) (w.heap.size + 1 + 1) (w.heap.size + 1 + 1 + 1) _ _ _ _ W (hW.keep hbh (fun f => f)) (hW.keep hbo (fun f => f)) (hW.keep hba (fun f => f)) (hW.keep hbd (fun f => f))))
  have HR := Lib.hid (right_any a d)
  have HA := Lib.hid ha
  have HBW := Lib.hid hbw
  have HSW := Lib.hid hsw
  have HBH := Lib.hid hbh
  have HBO := Lib.hid hbo
  have HBA := Lib.hid hba
  have HBD := Lib.hid hbd
  have HNB := Lib.hid hnb
  have HSUB := Lib.hid hsub
  have HSb := Lib.hid hS
  have HLT := Lib.hid hlt
  clear he hb hs ha hlt hsub hS hnb hbw hsw hbh hbo hba hbd
  by_cases hr : rightP a d = false
  · have HX := Lib.hid (show shOpen l (n, g) o a d = (l, 2) by unfold shOpen; rw [if_pos hr])
    rw [hr] at HR
    obtain ⟨q1, q2⟩ := HE.out.get (c := 2) (by simp)
    simp only [gl] at q1 q2
    clear hr
    go_enter Tryd.func38, Tryd.ntmps38
    go_wp2_with fail
    rw [← HWX.out]
    refine (HR.out _).mono ?_
    rintro e w2 ⟨rfl, rfl⟩
    go_wp2_with fail
    go_ret
    exact ⟨by rw [HX.out]; rfl, by rw [HX.out]; exact row_same HT.out HA.out⟩
  have HRR := Lib.hid hr
  rw [show rightP a d = true by simpa using hr] at HR
  cases hany : l.any (againstP (n, g) o a d) with
  | true =>
    have HX := Lib.hid (show shOpen l (n, g) o a d = (l, 11) by unfold shOpen; rw [if_neg hr, if_pos hany])
    rw [hany] at HI
    clear hr hany
    go_enter Tryd.func38, Tryd.ntmps38
    go_wp2_with fail
    rw [← HWX.out]
    refine (HR.out _).mono ?_
    rintro e w2 ⟨rfl, rfl⟩
    go_wp2_with fail
    refine HI.out.mono ?_
    rintro e w3 ⟨rfl, hc3⟩
    obtain ⟨q1, q2⟩ := (HE.out.keepN hc3).get (c := 11) (by simp)
    simp only [gl] at q1 q2
    go_wp2_with fail
    go_ret
    exact ⟨by rw [HX.out]; rfl, by rw [HX.out]; exact row_same HT.out (HA.out.then hc3)⟩
  | false =>
    cases hf : l.findIdx? (mineP (n, g) o) with
    | some i => exact shOpen_some ad b n g o a d l S w HE0.out HT.out HFEW.out HRR.out hany i hf
    | none =>
      by_cases h40 : 40 ≤ l.length
      · exact shOpen_full ad b n g o a d l S w HE0.out HT.out HFEW.out HRR.out hany hf h40
      · exact shOpen_push ad b n g o a d l S w HE0.out HT.out HFEW.out HRR.out hany hf h40
end Go.Proofs.YtofhnglgebllbaaDoor
