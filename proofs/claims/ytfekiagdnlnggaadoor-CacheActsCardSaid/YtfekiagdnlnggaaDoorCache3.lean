/- package cache: New; the closed fact 'kept' of package pigeonholeslaw3. -/
import Derived.Test.YtfekiagdnlnggaaDoorCache2
import Derived.Test.YtfekiagdnlnggaaDoorRef1
namespace Go.Proofs.YtfekiagdnlnggaaDoor
open Go.RowKit
set_option linter.unusedVariables false
set_option linter.unusedSimpArgs false

theorem cacheAt_new {w W : World} {most : Nat} (hm : 1 ≤ most ∧ most ≤ 20) (T : TypeId) (hW : Chg Nil ((w.alloc (.map #[] 0)).alloc (.cells #[.int .i64 most, .map (some w.heap.size), .slice none 0 0] T)) W) :
    CacheAt W (w.heap.size + 1) most [] (fun x => x = w.heap.size ∨ x = w.heap.size + 1) := by
  have hb : ((w.alloc (.map #[] 0)).alloc (.cells #[.int .i64 most, .map (some w.heap.size), .slice none 0 0] T)).heap[w.heap.size + 1]? = some (.cells #[.int .i64 most, .map (some w.heap.size), .slice none 0 0] T (0, 0)) := by
    have := block_alloc (w.alloc (.map #[] 0)) (.cells #[.int .i64 most, .map (some w.heap.size), .slice none 0 0] T)
    simpa using this
  have hA : MapA ((w.alloc (.map #[] 0)).alloc (.cells #[.int .i64 most, .map (some w.heap.size), .slice none 0 0] T)) w.heap.size ck (keptV []) :=
    (mapA_made w ck).keep ((Chg.refl Nil _).alloc _) (fun f => f)
  have hz := hW.size
  simp at hz
  refine ⟨⟨w.heap.size, .slice none 0 0, T, Nil, hW.keep hb (fun f => f), hA.keep hW (fun f => f), sliceAt_nil _ _ _ _, .inl rfl, fun x f => f.elim, fun f => f, fun f => f⟩, .inr rfl, ?_, Nat.zero_le _, hm⟩
  rintro x (rfl | rfl) <;> omega

set_option maxRecDepth 100000 in
theorem cnew_bad {B : Nat} (ad : Nat → Addr) (most : Int) (w : World) (he : Env B ad [2] w) (hm : most < 1 ∨ 20 < most) :
    Calls Tryd.prog 18 #[.int .i64 most] w fun e w' => e = .returned (.tuple #[.pointer none, errV ad 2]) ∧ Chg Nil w w' := by
  obtain ⟨h2, h2l⟩ := he.get (c := 2) (by simp)
  simp only [gl] at h2 h2l
  clear he
  rcases hm with hm | hm
  · go_enter Tryd.func18, Tryd.ntmps18
    go_wp2
    go_quiet (fail)
    go_wp2
    go_ret2
    exact ⟨rfl, Chg.drewN _ _⟩
  · have hm' : ¬ most < 1 := by omega
    go_enter Tryd.func18, Tryd.ntmps18
    go_wp2
    go_quiet (fail)
    go_wp2
    go_ret2
    exact ⟨rfl, Chg.drewN _ _⟩

set_option maxRecDepth 100000 in
theorem cnew_any (most : Nat) (w : World) (hm : 1 ≤ most ∧ most ≤ 20) :
    Calls Tryd.prog 18 #[.int .i64 most] w fun e w' => e = .returned (.tuple #[.pointer (some ⟨w.heap.size + 1, 0, none⟩), .nilIface]) ∧ Chg Nil w w' ∧ CacheAt w' (w.heap.size + 1) most [] (fun x => x = w.heap.size ∨ x = w.heap.size + 1) := by
  have h1 := hm.1
  have h2 := hm.2
  have hmm := @run_makeMap Tryd.prog
  go_enter Tryd.func18, Tryd.ntmps18
  go_wp2
  go_ret2
  refine ⟨rfl, (((Chg.refl Nil w).alloc _).alloc _), cacheAt_new hm _ (Chg.refl _ _)⟩

set_option maxHeartbeats 1000000 in
set_option maxRecDepth 100000 in
theorem kept_any {B : Nat} (ad : Nat → Addr) (w : World) (he : Env B ad [6, 12] w) : Calls Tryd.prog 17 #[] w fun e w' => e = .returned (.bool true) ∧ Chg Nil w w' := by
  have e1 : cKeep 1 [] (⟨#[97]⟩, 1) ⟨#[120]⟩ ⟨#[121]⟩ = ([((⟨#[97]⟩, 1), (⟨#[120]⟩, ⟨#[121]⟩))], 0) := rfl
  have e2 : cLook [((⟨#[97]⟩, 1), (⟨#[120]⟩, ⟨#[121]⟩))] (⟨#[97]⟩, 1) ⟨#[120]⟩ = (⟨#[121]⟩, true, 0) := by simp [cLook, aget]
  have H1 := Lib.hid e1
  have H2 := Lib.hid e2
  have HE := Lib.hid he
  have HN := Lib.hid (cnew_any 1 w (by omega))
  clear e1 e2 he
  go_enter Tryd.func17, Tryd.ntmps17
  go_wp2_with fail
  refine HN.out.mono ?_
  rintro e w1 ⟨rfl, hc1, ht1⟩
  have HE1 := Lib.hid (HE.out.keepN hc1)
  go_wp2_with fail
  refine (keep_any ad (w.heap.size + 1) 1 ⟨#[97]⟩ ⟨#[120]⟩ ⟨#[121]⟩ 1 [] _ w1 (HE1.out.sub (by decide)) ht1).mono ?_
  rintro e w2 ⟨rfl, hc2, S2, ht2, hg2⟩
  rw [H1.out] at ht2 ⊢
  simp only [errV_zero] at ht2 ⊢
  have HE2 := Lib.hid (HE1.out.keep hc2 (fun x hx => by have := HE.out.size; rcases hx with rfl | rfl <;> omega))
  go_wp2_with fail
  refine (look_any ad (w.heap.size + 1) 1 ⟨#[97]⟩ ⟨#[120]⟩ 1 [((⟨#[97]⟩, 1), (⟨#[120]⟩, ⟨#[121]⟩))] S2 w2 (HE2.out.sub (by decide)) ht2).mono ?_
  rintro e w3 ⟨rfl, hc3⟩
  rw [H2.out]
  simp only [errV_zero]
  have ht3 := ht2.keep hc3 (fun _ _ f => f)
  go_wp2_with fail
  refine (ccount_any (w.heap.size + 1) 1 [((⟨#[97]⟩, 1), (⟨#[120]⟩, ⟨#[121]⟩))] S2 w3 ht3).mono ?_
  rintro e w4 ⟨rfl, rfl⟩
  go_wp2_with fail
  go_ret
  refine ⟨rfl, ?_⟩
  exact (hc1.trans hc2 (fun x hx e => by rcases e with rfl | rfl <;> omega)).then hc3
end Go.Proofs.YtfekiagdnlnggaaDoor
