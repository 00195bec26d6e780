/- package share: Open by contract: a new open is appended. -/
import Derived.Test.YtofhnglgebllbaaDoorShare6
import Derived.Deep.RegionHeld3
namespace Go.Proofs.YtofhnglgebllbaaDoor
open Go.RowKit Go.Lib Go.Sort
set_option linter.unusedVariables false
set_option linter.unusedSimpArgs false

theorem box_far {w5 : World} {b z : Nat} {n g o a d : Value} (hb : b < z) (h0 : w5.cell? ⟨z, 0, none⟩ = some n) (h1 : w5.cell? ⟨z, 1, none⟩ = some g) (h2 : w5.cell? ⟨z + 1, 0, none⟩ = some o) (h3 : w5.cell? ⟨z + 1 + 1, 0, none⟩ = some a) (h4 : w5.cell? ⟨z + 1 + 1 + 1, 0, none⟩ = some d) (v : Value) :
    (w5.setCell ⟨b, 0, none⟩ v).cell? ⟨z, 0, none⟩ = some n ∧ (w5.setCell ⟨b, 0, none⟩ v).cell? ⟨z, 1, none⟩ = some g ∧ (w5.setCell ⟨b, 0, none⟩ v).cell? ⟨z + 1, 0, none⟩ = some o ∧ (w5.setCell ⟨b, 0, none⟩ v).cell? ⟨z + 1 + 1, 0, none⟩ = some a ∧ (w5.setCell ⟨b, 0, none⟩ v).cell? ⟨z + 1 + 1 + 1, 0, none⟩ = some d := by
  have c := (Chg.refl (· = b) w5).setCell (p := ⟨b, 0, none⟩) (.inr rfl) v
  refine ⟨?_, ?_, ?_, ?_, ?_⟩
  · rw [c.cell (World.block_lt_of_cell? _ _ h0) (fun e => by have : z = b := e; omega)]; exact h0
  · rw [c.cell (World.block_lt_of_cell? _ _ h1) (fun e => by have : z = b := e; omega)]; exact h1
  · rw [c.cell (World.block_lt_of_cell? _ _ h2) (fun e => by have : z + 1 = b := e; omega)]; exact h2
  · rw [c.cell (World.block_lt_of_cell? _ _ h3) (fun e => by have : z + 1 + 1 = b := e; omega)]; exact h3
  · rw [c.cell (World.block_lt_of_cell? _ _ h4) (fun e => by have : z + 1 + 1 + 1 = b := e; omega)]; exact h4
set_option maxHeartbeats 4000000 in
set_option maxRecDepth 100000 in
theorem shOpen_push {B : Nat} (ad : Nat → Addr) (b : Nat) (n g o a d : Int) (l : List Opn) (S : Nat → Prop) (w : World) (he : Env B ad [2, 9, 11] w) (ht : ShAt w b l S) (hfew : l.length ≤ 1000) (hr : ¬ rightP a d = false) (hany : l.any (againstP (n, g) o a d) = false) (hf : l.findIdx? (mineP (n, g) o) = none) (h40 : ¬ 40 ≤ l.length) :
    Calls Tryd.prog 38 #[.pointer (some ⟨b, 0, none⟩), .agg #[.int .i64 n, .int .i64 g], .int .i64 o, .int .i64 a, .int .i64 d] w fun e w' => e = .returned (errV ad (shOpen l (n, g) o a d).2) ∧ ShPost S w b (shOpen l (n, g) o a d).1 w' := by
  have HT := Lib.hid ht
  obtain ⟨⟨v, T, Ss, hb, hs, hnb, hsub⟩, hS, hlt⟩ := ht
  obtain ⟨sa, cap, rfl⟩ := hs.shape
  have ha := ((((Chg.refl Nil w).alloc (.cells #[.int .i64 n, .int .i64 g] 29)).alloc (.cells #[.int .i64 o] 3)).alloc (.cells #[.int .i64 a] 3)).alloc (.cells #[.int .i64 d] 3)
  have hbh := block_alloc_old (block_alloc_old (block_alloc_old (block_alloc w (.cells #[.int .i64 n, .int .i64 g] 29)) (.cells #[.int .i64 o] 3)) (.cells #[.int .i64 a] 3)) (.cells #[.int .i64 d] 3)
  have hbo := block_alloc_old (block_alloc_old (block_alloc (w.alloc (.cells #[.int .i64 n, .int .i64 g] 29)) (.cells #[.int .i64 o] 3)) (.cells #[.int .i64 a] 3)) (.cells #[.int .i64 d] 3)
  have hba := block_alloc_old (block_alloc ((w.alloc (.cells #[.int .i64 n, .int .i64 g] 29)).alloc (.cells #[.int .i64 o] 3)) (.cells #[.int .i64 a] 3)) (.cells #[.int .i64 d] 3)
  have hbd := block_alloc (((w.alloc (.cells #[.int .i64 n, .int .i64 g] 29)).alloc (.cells #[.int .i64 o] 3)).alloc (.cells #[.int .i64 a] 3)) (.cells #[.int .i64 d] 3)
  simp only [World.size_alloc] at hbo hba hbd
  have hbw := ha.keep hb (fun f => f)
  have hsw := hs.keep ha (fun _ _ f => f)
  obtain ⟨wx, hwx⟩ : ∃ wx, wx = (((w.alloc (.cells #[.int .i64 n, .int .i64 g] 29)).alloc (.cells #[.int .i64 o] 3)).alloc (.cells #[.int .i64 a] 3)).alloc (.cells #[.int .i64 d] 3) := ⟨_, rfl⟩
  have HE := Lib.hid (he.keepN ha)
  rw [← hwx] at ha hbh hbo hba hbd hbw hsw HE
  have HWX := Lib.hid hwx
  clear hwx
  have h0 := cell_of hbh 0
  have h1 := cell_of hbh 1
  have o0 := cell_of hbo 0
  have a0 := cell_of hba 0
  have d0 := cell_of hbd 0
  have b0 := cell_of hbw 0
  have gb := lt_of_block hbw
  simp only [List.getElem?_toArray, List.getElem?_cons_zero, List.getElem?_cons_succ] at h0 h1 o0 a0 d0 b0
  have HI := Lib.hid (hasOpen_any (againstP (n, g) o a d) 113 #[.pointer (some ⟨w.heap.size, 0, none⟩), .pointer (some ⟨w.heap.size + 1, 0, none⟩), .pointer (some ⟨w.heap.size + 1 + 1, 0, none⟩), .pointer (some ⟨w.heap.size + 1 + 1 + 1, 0, none⟩)] entersOpen wx hsw (fun W x hW => open1_any n g o a d x w.heap.size (w.heap.size + 1) (w.heap.size + 1 + 1) (w.heap.size + 1 + 1 + 1) _ _ _ _ W (hW.keep hbh (fun f => f)) (hW.keep hbo (fun f => f)) (hW.keep hba (fun f => f)) (hW.keep hbd (fun f => f))))
  have HR := Lib.hid (right_any a d)
  have HA := Lib.hid ha
  have HBW := Lib.hid hbw
  have HSW := Lib.hid hsw
  have HBH := Lib.hid hbh
  have HBO := Lib.hid hbo
  have HBA := Lib.hid hba
  have HBD := Lib.hid hbd
  have HNB := Lib.hid hnb
  have HSUB := Lib.hid hsub
  have HSb := Lib.hid hS
  have HLT := Lib.hid hlt
  clear he hb hs ha hlt hsub hS hnb hbw hsw hbh hbo hba hbd
  rw [show rightP a d = true by simpa using hr] at HR
  rw [hany] at HI
  have HF := Lib.hid (fun W (hW : Chg Nil wx W) => find_none n g o b l (.slice sa l.length cap) T Ss W (hW.keep HBW.out (fun f => f)) (HSW.out.keep hW (fun _ _ f => f)) hf)
  have HX := Lib.hid (show shOpen l (n, g) o a d = (l ++ [((n, g), o, a, d)], 0) by unfold shOpen; rw [if_neg hr, if_neg (by rw [hany]; simp), hf]; simp only [if_neg h40])
  have hcI : ¬ (40 : Int) ≤ (l.length : Int) := by omega
  clear hr hany hf h40
  go_enter Tryd.func38, Tryd.ntmps38
  go_wp2_with fail
  rw [← HWX.out]
  refine (HR.out _).mono ?_
  rintro e w2 ⟨rfl, rfl⟩
  go_wp2_with fail
  refine HI.out.mono ?_
  rintro e w3 ⟨rfl, hc3⟩
  have h03 : w3.cell? ⟨w.heap.size, 0, none⟩ = some (.int .i64 n) := by rw [hc3.cell (World.block_lt_of_cell? _ _ h0) (fun f => f)]; exact h0
  have h13 : w3.cell? ⟨w.heap.size, 1, none⟩ = some (.int .i64 g) := by rw [hc3.cell (World.block_lt_of_cell? _ _ h1) (fun f => f)]; exact h1
  have o03 : w3.cell? ⟨w.heap.size + 1, 0, none⟩ = some (.int .i64 o) := by rw [hc3.cell (World.block_lt_of_cell? _ _ o0) (fun f => f)]; exact o0
  go_wp2_with fail
  refine (HF.out _ hc3).mono ?_
  rintro e w4 ⟨rfl, hc4⟩
  have hc34 := hc3.then hc4
  have HC4 := Lib.hid hc34
  have h04 : w4.cell? ⟨w.heap.size, 0, none⟩ = some (.int .i64 n) := by rw [hc34.cell (World.block_lt_of_cell? _ _ h0) (fun f => f)]; exact h0
  have h14 : w4.cell? ⟨w.heap.size, 1, none⟩ = some (.int .i64 g) := by rw [hc34.cell (World.block_lt_of_cell? _ _ h1) (fun f => f)]; exact h1
  have o04 : w4.cell? ⟨w.heap.size + 1, 0, none⟩ = some (.int .i64 o) := by rw [hc34.cell (World.block_lt_of_cell? _ _ o0) (fun f => f)]; exact o0
  have a04 : w4.cell? ⟨w.heap.size + 1 + 1, 0, none⟩ = some (.int .i64 a) := by rw [hc34.cell (World.block_lt_of_cell? _ _ a0) (fun f => f)]; exact a0
  have d04 : w4.cell? ⟨w.heap.size + 1 + 1 + 1, 0, none⟩ = some (.int .i64 d) := by rw [hc34.cell (World.block_lt_of_cell? _ _ d0) (fun f => f)]; exact d0
  have b04 : w4.cell? ⟨b, 0, none⟩ = some (.slice sa l.length cap) := by rw [hc34.cell (World.block_lt_of_cell? _ _ b0) (fun f => f)]; exact b0
  have gb4 := World.block_lt_of_cell? _ _ b04
  have l04 := World.block_lt_of_cell? _ _ h04
  have l14 := World.block_lt_of_cell? _ _ o04
  have l24 := World.block_lt_of_cell? _ _ a04
  have l34 := World.block_lt_of_cell? _ _ d04
  simp only at gb4 l04 l14 l24 l34
  have HSW4 := Lib.hid (HSW.out.keep hc34 (fun _ _ f => f))
  have HBW4 := Lib.hid (hc34.keep HBW.out (fun f => f))
  obtain ⟨q1, q2⟩ := (HE.out.keepN hc34).get (c := 9) (by simp)
  simp only [gl] at q1 q2
  clear hc3 hc4 hc34 h03 h13 o03 h0 h1 o0 a0 d0 b0 gb
  go_wp2_with fail
  have HFAR := Lib.hid (show ∀ x, Ss x → x < w.heap.size from fun x hx => HLT.out x (HSUB.out x hx))
  have HLTB := Lib.hid (HLT.out b HSb.out)
  have HLT4 := Lib.hid (show ∀ x, S x → x < w4.heap.size from fun x hx => by have := HLT.out x hx; have := HA.out.size; have := HC4.out.size; omega)
  clear q1 q2
  refine wp_region_held_drew (S := (fun w' => w'.cell? ⟨w.heap.size, 0, none⟩ = some (.int .i64 n) ∧ w'.cell? ⟨w.heap.size, 1, none⟩ = some (.int .i64 g) ∧ w'.cell? ⟨w.heap.size + 1, 0, none⟩ = some (.int .i64 o) ∧ w'.cell? ⟨w.heap.size + 1 + 1, 0, none⟩ = some (.int .i64 a) ∧ w'.cell? ⟨w.heap.size + 1 + 1 + 1, 0, none⟩ = some (.int .i64 d))) (by kernel_rfl) (by exact ⟨h04, h14, o04, a04, d04⟩) (fun hHeld => ?_)
  first
    | (refine wpAnyH_take (i := 0) (v := ?_) (by rw [List.getElem?_toArray]; exact rfl) (by kernel_rfl) (by kernel_rfl) (by kernel_rfl) (by exact fun _ _ _ h => h) (Or.inl ⟨by rfl, ?_⟩) (by assumption) ?_
       rotate_left
       intro w hSw
       (try dsimp only at hSw)
       go_simp
       (try (with_reducible rfl))
       simp only [Act.put, List.setIfInBounds_toArray, List.set_cons_zero, List.set_cons_succ])
    | (refine wpAnyH_take (i := 0) (v := undef) (by rw [List.getElem?_toArray]; exact rfl) (by kernel_rfl) (by kernel_rfl) (by kernel_rfl) (by exact fun _ _ _ h => h) (Or.inr ⟨by rfl, rfl⟩) (by assumption) ?_
       simp only [Act.put, List.setIfInBounds_toArray, List.set_cons_zero, List.set_cons_succ])
  first
    | (refine wpAnyH_take (i := 1) (v := ?_) (by rw [List.getElem?_toArray]; exact rfl) (by kernel_rfl) (by kernel_rfl) (by kernel_rfl) (by exact fun _ _ _ h => h) (Or.inl ⟨by rfl, ?_⟩) (by assumption) ?_
       rotate_left
       intro w hSw
       (try dsimp only at hSw)
       go_simp
       (try (with_reducible rfl))
       simp only [Act.put, List.setIfInBounds_toArray, List.set_cons_zero, List.set_cons_succ])
    | (refine wpAnyH_take (i := 1) (v := undef) (by rw [List.getElem?_toArray]; exact rfl) (by kernel_rfl) (by kernel_rfl) (by kernel_rfl) (by exact fun _ _ _ h => h) (Or.inr ⟨by rfl, rfl⟩) (by assumption) ?_
       simp only [Act.put, List.setIfInBounds_toArray, List.set_cons_zero, List.set_cons_succ])
  first
    | (refine wpAnyH_take (i := 2) (v := ?_) (by rw [List.getElem?_toArray]; exact rfl) (by kernel_rfl) (by kernel_rfl) (by kernel_rfl) (by exact fun _ _ _ h => h) (Or.inl ⟨by rfl, ?_⟩) (by assumption) ?_
       rotate_left
       intro w hSw
       (try dsimp only at hSw)
       go_simp
       (try (with_reducible rfl))
       simp only [Act.put, List.setIfInBounds_toArray, List.set_cons_zero, List.set_cons_succ])
    | (refine wpAnyH_take (i := 2) (v := undef) (by rw [List.getElem?_toArray]; exact rfl) (by kernel_rfl) (by kernel_rfl) (by kernel_rfl) (by exact fun _ _ _ h => h) (Or.inr ⟨by rfl, rfl⟩) (by assumption) ?_
       simp only [Act.put, List.setIfInBounds_toArray, List.set_cons_zero, List.set_cons_succ])
  first
    | (refine wpAnyH_take (i := 3) (v := ?_) (by rw [List.getElem?_toArray]; exact rfl) (by kernel_rfl) (by kernel_rfl) (by kernel_rfl) (by exact fun _ _ _ h => h) (Or.inl ⟨by rfl, ?_⟩) (by assumption) ?_
       rotate_left
       intro w hSw
       (try dsimp only at hSw)
       go_simp
       (try (with_reducible rfl))
       simp only [Act.put, List.setIfInBounds_toArray, List.set_cons_zero, List.set_cons_succ])
    | (refine wpAnyH_take (i := 3) (v := undef) (by rw [List.getElem?_toArray]; exact rfl) (by kernel_rfl) (by kernel_rfl) (by kernel_rfl) (by exact fun _ _ _ h => h) (Or.inr ⟨by rfl, rfl⟩) (by assumption) ?_
       simp only [Act.put, List.setIfInBounds_toArray, List.set_cons_zero, List.set_cons_succ])
  first
    | (refine wpAnyH_take (i := 5) (v := ?_) (by rw [List.getElem?_toArray]; exact rfl) (by kernel_rfl) (by kernel_rfl) (by kernel_rfl) (by exact fun _ _ _ h => h) (Or.inl ⟨by rfl, ?_⟩) (by assumption) ?_
       rotate_left
       intro w hSw
       (try dsimp only at hSw)
       go_simp
       (try (with_reducible rfl))
       simp only [Act.put, List.setIfInBounds_toArray, List.set_cons_zero, List.set_cons_succ])
    | (refine wpAnyH_take (i := 5) (v := undef) (by rw [List.getElem?_toArray]; exact rfl) (by kernel_rfl) (by kernel_rfl) (by kernel_rfl) (by exact fun _ _ _ h => h) (Or.inr ⟨by rfl, rfl⟩) (by assumption) ?_
       simp only [Act.put, List.setIfInBounds_toArray, List.set_cons_zero, List.set_cons_succ])
  first
    | (refine wpAnyH_take (i := 6) (v := ?_) (by rw [List.getElem?_toArray]; exact rfl) (by kernel_rfl) (by kernel_rfl) (by kernel_rfl) (by exact fun _ _ _ h => h) (Or.inl ⟨by rfl, ?_⟩) (by assumption) ?_
       rotate_left
       intro w hSw
       (try dsimp only at hSw)
       go_simp
       (try (with_reducible rfl))
       simp only [Act.put, List.setIfInBounds_toArray, List.set_cons_zero, List.set_cons_succ])
    | (refine wpAnyH_take (i := 6) (v := undef) (by rw [List.getElem?_toArray]; exact rfl) (by kernel_rfl) (by kernel_rfl) (by kernel_rfl) (by exact fun _ _ _ h => h) (Or.inr ⟨by rfl, rfl⟩) (by assumption) ?_
       simp only [Act.put, List.setIfInBounds_toArray, List.set_cons_zero, List.set_cons_succ])
  first
    | (refine wpAnyH_take (i := 7) (v := ?_) (by rw [List.getElem?_toArray]; exact rfl) (by kernel_rfl) (by kernel_rfl) (by kernel_rfl) (by exact fun _ _ _ h => h) (Or.inl ⟨by rfl, ?_⟩) (by assumption) ?_
       rotate_left
       intro w hSw
       (try dsimp only at hSw)
       go_simp
       (try (with_reducible rfl))
       simp only [Act.put, List.setIfInBounds_toArray, List.set_cons_zero, List.set_cons_succ])
    | (refine wpAnyH_take (i := 7) (v := undef) (by rw [List.getElem?_toArray]; exact rfl) (by kernel_rfl) (by kernel_rfl) (by kernel_rfl) (by exact fun _ _ _ h => h) (Or.inr ⟨by rfl, rfl⟩) (by assumption) ?_
       simp only [Act.put, List.setIfInBounds_toArray, List.set_cons_zero, List.set_cons_succ])
  first
    | (refine wpAnyH_take (i := 8) (v := ?_) (by rw [List.getElem?_toArray]; exact rfl) (by kernel_rfl) (by kernel_rfl) (by kernel_rfl) (by exact fun _ _ _ h => h) (Or.inl ⟨by rfl, ?_⟩) (by assumption) ?_
       rotate_left
       intro w hSw
       (try dsimp only at hSw)
       go_simp
       (try (with_reducible rfl))
       simp only [Act.put, List.setIfInBounds_toArray, List.set_cons_zero, List.set_cons_succ])
    | (refine wpAnyH_take (i := 8) (v := undef) (by rw [List.getElem?_toArray]; exact rfl) (by kernel_rfl) (by kernel_rfl) (by kernel_rfl) (by exact fun _ _ _ h => h) (Or.inr ⟨by rfl, rfl⟩) (by assumption) ?_
       simp only [Act.put, List.setIfInBounds_toArray, List.set_cons_zero, List.set_cons_succ])
  first
    | (refine wpAnyH_take (i := 9) (v := ?_) (by rw [List.getElem?_toArray]; exact rfl) (by kernel_rfl) (by kernel_rfl) (by kernel_rfl) (by exact fun _ _ _ h => h) (Or.inl ⟨by rfl, ?_⟩) (by assumption) ?_
       rotate_left
       intro w hSw
       (try dsimp only at hSw)
       go_simp
       (try (with_reducible rfl))
       simp only [Act.put, List.setIfInBounds_toArray, List.set_cons_zero, List.set_cons_succ])
    | (refine wpAnyH_take (i := 9) (v := undef) (by rw [List.getElem?_toArray]; exact rfl) (by kernel_rfl) (by kernel_rfl) (by kernel_rfl) (by exact fun _ _ _ h => h) (Or.inr ⟨by rfl, rfl⟩) (by assumption) ?_
       simp only [Act.put, List.setIfInBounds_toArray, List.set_cons_zero, List.set_cons_succ])
  refine wpAnyH_ready (rs := [4, 10]) (by kernel_rfl) (by simp) ?_
  refine AllReadyH.cons rfl (fun K hK => ?_) (AllReadyH.cons rfl (fun K hK => ?_) AllReadyH.nil)
  · go_simp
    refine hK.out _ _ ?_ (fun hHeld => ?_)
    · first | exact ⟨h04, h14, o04, a04, d04⟩ | exact HBX.out | go_keep
    clear hK K
    (try simp only [Act.put, List.setIfInBounds_toArray, List.set_cons_zero, List.set_cons_succ])
    refine wpAnyH_ready (rs := [10]) (by kernel_rfl) (by simp) ?_
    refine AllReadyH.cons rfl (fun K hK => ?_) AllReadyH.nil
    go_simp
    refine hK.out _ _ ?_ (fun hHeld => ?_)
    · first | exact ⟨h04, h14, o04, a04, d04⟩ | exact HBX.out | go_keep
    clear hK K
    (try simp only [Act.put, List.setIfInBounds_toArray, List.set_cons_zero, List.set_cons_succ])
    refine wpAnyH_ready (rs := [11]) (by kernel_rfl) (by simp) ?_
    refine AllReadyH.cons rfl (fun K hK => ?_) AllReadyH.nil
    refine step_appendS (n := l.length) (m := 1) (by rfl) _ _ 67 (by rfl) Tryd.underlying67 infoOpen rfl (by decide) (by first | rfl | simp [Act.put, Act.eval]) (HSW4.out.keep (T := Nil) (by repeat (first | exact Chg.refl _ _ | refine Chg.drew ?_ | refine Chg.drewsN ?_ _ | refine Chg.alloc ?_ _)) (fun _ _ f => f)) (by first | rfl | simp [Act.put, Act.eval]) (opnC ((n, g), o, a, d)) (by rfl) (cell_new_list _ (opnC ((n, g), o, a, d)) _) (opnC_one _) (by unfold maxLen; omega) (by omega) ?_
    intro v5 w5 S5 hs5 hc5 hg5
    obtain ⟨a5, c5, rfl, k5, f5, gb5, HF5, HP5⟩ := push_pack (p := ((n, g), o, a, d)) HFAR.out HBW4.out HSb.out HLT4.out HNB.out HSUB.out ((Chg.refl _ _).drew) rfl hs5 hc5 hg5
    have m0 := HF5 _ _ (Nat.le_refl _) h04
    have m1 := HF5 _ _ (Nat.le_refl _) h14
    have m2 := HF5 _ _ (Nat.le_add_right _ 1) o04
    have m3 := HF5 _ _ (Nat.le_add_right _ 2) a04
    have m4 := HF5 _ _ (Nat.le_add_right _ 3) d04
    have HB5 := Lib.hid (box_far HLTB.out m0 m1 m2 m3 m4 (.slice a5 (l.length + 1) c5))
    clear hs5 hc5 hg5 HF5
    refine hK.out _ _ ?_ (fun hHeld => ?_)
    · exact ⟨m0, m1, m2, m3, m4⟩
    clear hK K
    (try simp only [Act.put, List.setIfInBounds_toArray, List.set_cons_zero, List.set_cons_succ])
    first
      | (refine wpAnyH_take (i := 12) (v := ?_) (by rw [List.getElem?_toArray]; exact rfl) (by kernel_rfl) (by kernel_rfl) (by kernel_rfl) (by exact fun _ _ _ h => h) (Or.inl ⟨by rfl, ?_⟩) (by assumption) ?_
         rotate_left
         intro w hSw
         (try dsimp only at hSw)
         go_simp
         (try (with_reducible rfl))
         simp only [Act.put, List.setIfInBounds_toArray, List.set_cons_zero, List.set_cons_succ])
      | (refine wpAnyH_take (i := 12) (v := undef) (by rw [List.getElem?_toArray]; exact rfl) (by kernel_rfl) (by kernel_rfl) (by kernel_rfl) (by exact fun _ _ _ h => h) (Or.inr ⟨by rfl, rfl⟩) (by assumption) ?_
         simp only [Act.put, List.setIfInBounds_toArray, List.set_cons_zero, List.set_cons_succ])
    first
      | (refine wpAnyH_take (i := 13) (v := ?_) (by rw [List.getElem?_toArray]; exact rfl) (by kernel_rfl) (by kernel_rfl) (by kernel_rfl) (by exact fun _ _ _ h => h) (Or.inl ⟨by rfl, ?_⟩) (by assumption) ?_
         rotate_left
         intro w hSw
         (try dsimp only at hSw)
         go_simp
         (try (with_reducible rfl))
         simp only [Act.put, List.setIfInBounds_toArray, List.set_cons_zero, List.set_cons_succ])
      | (refine wpAnyH_take (i := 13) (v := undef) (by rw [List.getElem?_toArray]; exact rfl) (by kernel_rfl) (by kernel_rfl) (by kernel_rfl) (by exact fun _ _ _ h => h) (Or.inr ⟨by rfl, rfl⟩) (by assumption) ?_
         simp only [Act.put, List.setIfInBounds_toArray, List.set_cons_zero, List.set_cons_succ])
    refine wpAnyH_ready (rs := [14]) (by kernel_rfl) (by simp) ?_
    refine AllReadyH.cons rfl (fun K hK => ?_) AllReadyH.nil
    go_simp
    refine hK.out _ _ ?_ (fun hHeld => ?_)
    · exact HB5.out
    clear hK K
    (try simp only [Act.put, List.setIfInBounds_toArray, List.set_cons_zero, List.set_cons_succ])
    refine wpAnyH_done (by kernel_rfl) ?_ _
    go_wp2_with fail
    go_ret
    refine ⟨by rw [HX.out]; rfl, ?_⟩
    rw [HX.out]
    exact RowPost.before (HA.out.then HC4.out) HP5.out
  · go_simp
    refine hK.out _ _ ?_ (fun hHeld => ?_)
    · first | exact ⟨h04, h14, o04, a04, d04⟩ | exact HBX.out | go_keep
    clear hK K
    (try simp only [Act.put, List.setIfInBounds_toArray, List.set_cons_zero, List.set_cons_succ])
    refine wpAnyH_ready (rs := [4]) (by kernel_rfl) (by simp) ?_
    refine AllReadyH.cons rfl (fun K hK => ?_) AllReadyH.nil
    go_simp
    refine hK.out _ _ ?_ (fun hHeld => ?_)
    · first | exact ⟨h04, h14, o04, a04, d04⟩ | exact HBX.out | go_keep
    clear hK K
    (try simp only [Act.put, List.setIfInBounds_toArray, List.set_cons_zero, List.set_cons_succ])
    refine wpAnyH_ready (rs := [11]) (by kernel_rfl) (by simp) ?_
    refine AllReadyH.cons rfl (fun K hK => ?_) AllReadyH.nil
    refine step_appendS (n := l.length) (m := 1) (by rfl) _ _ 67 (by rfl) Tryd.underlying67 infoOpen rfl (by decide) (by first | rfl | simp [Act.put, Act.eval]) (HSW4.out.keep (T := Nil) (by repeat (first | exact Chg.refl _ _ | refine Chg.drew ?_ | refine Chg.drewsN ?_ _ | refine Chg.alloc ?_ _)) (fun _ _ f => f)) (by first | rfl | simp [Act.put, Act.eval]) (opnC ((n, g), o, a, d)) (by rfl) (cell_new_list _ (opnC ((n, g), o, a, d)) _) (opnC_one _) (by unfold maxLen; omega) (by omega) ?_
    intro v5 w5 S5 hs5 hc5 hg5
    obtain ⟨a5, c5, rfl, k5, f5, gb5, HF5, HP5⟩ := push_pack (p := ((n, g), o, a, d)) HFAR.out HBW4.out HSb.out HLT4.out HNB.out HSUB.out ((Chg.refl _ _).drew) rfl hs5 hc5 hg5
    have m0 := HF5 _ _ (Nat.le_refl _) h04
    have m1 := HF5 _ _ (Nat.le_refl _) h14
    have m2 := HF5 _ _ (Nat.le_add_right _ 1) o04
    have m3 := HF5 _ _ (Nat.le_add_right _ 2) a04
    have m4 := HF5 _ _ (Nat.le_add_right _ 3) d04
    have HB5 := Lib.hid (box_far HLTB.out m0 m1 m2 m3 m4 (.slice a5 (l.length + 1) c5))
    clear hs5 hc5 hg5 HF5
    refine hK.out _ _ ?_ (fun hHeld => ?_)
    · exact ⟨m0, m1, m2, m3, m4⟩
    clear hK K
    (try simp only [Act.put, List.setIfInBounds_toArray, List.set_cons_zero, List.set_cons_succ])
    first
      | (refine wpAnyH_take (i := 12) (v := ?_) (by rw [List.getElem?_toArray]; exact rfl) (by kernel_rfl) (by kernel_rfl) (by kernel_rfl) (by exact fun _ _ _ h => h) (Or.inl ⟨by rfl, ?_⟩) (by assumption) ?_
         rotate_left
         intro w hSw
         (try dsimp only at hSw)
         go_simp
         (try (with_reducible rfl))
         simp only [Act.put, List.setIfInBounds_toArray, List.set_cons_zero, List.set_cons_succ])
      | (refine wpAnyH_take (i := 12) (v := undef) (by rw [List.getElem?_toArray]; exact rfl) (by kernel_rfl) (by kernel_rfl) (by kernel_rfl) (by exact fun _ _ _ h => h) (Or.inr ⟨by rfl, rfl⟩) (by assumption) ?_
         simp only [Act.put, List.setIfInBounds_toArray, List.set_cons_zero, List.set_cons_succ])
    first
      | (refine wpAnyH_take (i := 13) (v := ?_) (by rw [List.getElem?_toArray]; exact rfl) (by kernel_rfl) (by kernel_rfl) (by kernel_rfl) (by exact fun _ _ _ h => h) (Or.inl ⟨by rfl, ?_⟩) (by assumption) ?_
         rotate_left
         intro w hSw
         (try dsimp only at hSw)
         go_simp
         (try (with_reducible rfl))
         simp only [Act.put, List.setIfInBounds_toArray, List.set_cons_zero, List.set_cons_succ])
      | (refine wpAnyH_take (i := 13) (v := undef) (by rw [List.getElem?_toArray]; exact rfl) (by kernel_rfl) (by kernel_rfl) (by kernel_rfl) (by exact fun _ _ _ h => h) (Or.inr ⟨by rfl, rfl⟩) (by assumption) ?_
         simp only [Act.put, List.setIfInBounds_toArray, List.set_cons_zero, List.set_cons_succ])
    refine wpAnyH_ready (rs := [14]) (by kernel_rfl) (by simp) ?_
    refine AllReadyH.cons rfl (fun K hK => ?_) AllReadyH.nil
    go_simp
    refine hK.out _ _ ?_ (fun hHeld => ?_)
    · exact HB5.out
    clear hK K
    (try simp only [Act.put, List.setIfInBounds_toArray, List.set_cons_zero, List.set_cons_succ])
    refine wpAnyH_done (by kernel_rfl) ?_ _
    go_wp2_with fail
    go_ret
    refine ⟨by rw [HX.out]; rfl, ?_⟩
    rw [HX.out]
    exact RowPost.before (HA.out.then HC4.out) HP5.out
end Go.Proofs.YtofhnglgebllbaaDoor
