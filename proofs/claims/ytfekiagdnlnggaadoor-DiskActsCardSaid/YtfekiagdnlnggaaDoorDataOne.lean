/- package data: Blocks by contract; the closed fact 'one' of package pigeonholeslaw1. -/
import Derived.Test.YtfekiagdnlnggaaDoorDataLaw
namespace Go.Proofs.YtfekiagdnlnggaaDoor
open Go.RowKit
set_option linter.unusedVariables false
set_option linter.unusedSimpArgs false

theorem dblocks_any (b : Nat) (d : PData) (S : Nat → Prop) (w : World) (ht : DataAt w b d S) :
    Calls Tryd.prog 54 #[.pointer (some ⟨b, 0, none⟩)] w fun e w' => e = .returned (.int .i64 d.kv.length) ∧ w = w' := by
  obtain ⟨⟨mv, T, hb, hm, _⟩, _⟩ := ht
  have hc1 := cell_of hb 1
  simp only [List.getElem?_toArray, List.getElem?_cons_zero, List.getElem?_cons_succ] at hc1
  have hl : (Builtin.len_ #[41] 3 #[mv]).run Tryd.prog w = .ok (.int .i64 d.kv.length) w := by
    have := hm.run_len (ty := 3) Tryd.underlying41
    simpa [blkM] using this
  clear hb hm
  go_enter Tryd.func54, Tryd.ntmps54
  go_wp2
  go_ret
  exact ⟨rfl, rfl⟩

theorem dataAt_new (w : World) (T : TypeId) : DataAt (w.alloc (.cells #[.int .i64 0, .map none] T)) w.heap.size ⟨0, []⟩ (· = w.heap.size) :=
  ⟨⟨.map none, T, block_alloc _ _, .inl ⟨rfl, rfl⟩, fun r h => (by cases h)⟩, rfl, fun x e => (by subst e; simp), Nat.zero_le _, fun p h => (by cases h)⟩

def oneD : PData := (dWrite ⟨0, []⟩ 1 ⟨#[120]⟩).1

set_option maxRecDepth 100000 in
set_option maxHeartbeats 1000000 in
theorem one_any {B : Nat} (ad : Nat → Addr) (w : World) (he : Env B ad [2] w) : Calls Tryd.prog 21 #[] w fun e w' => e = .returned (.bool true) ∧ Chg Nil w w' := by
  have h1 : (dWrite ⟨0, []⟩ 1 ⟨#[120]⟩).2 = 0 := by rfl
  have h2 : dRead oneD 0 5 = (⟨#[0, 120]⟩, true, 0) := by rfl
  have h3 : oneD.size = 2 := by rfl
  have h4 : oneD.kv.length = 1 := by rfl
  have H1 := Lib.hid h1
  have H2 := Lib.hid h2
  have H3 := Lib.hid h3
  have H4 := Lib.hid h4
  have HE := Lib.hid he
  clear h1 h2 h3 h4 he
  go_enter Tryd.func21, Tryd.ntmps21
  go_wp2_with fail
  have hz : B ≤ w.heap.size := HE.out.size
  refine (dwrite_any (B := B) ad w.heap.size 1 ⟨#[120]⟩ ⟨0, []⟩ _ _ (HE.out.alloc _) (dataAt_new w _)).mono ?_
  rintro e w1 ⟨rfl, hc1, S1, ht1, hg1⟩
  rw [H1.out, errV_zero]
  rw [show (dWrite ⟨0, []⟩ 1 ⟨#[120]⟩).1 = oneD from rfl] at ht1
  have hC1 : Chg Nil w w1 := ((Chg.refl Nil w).alloc _).trans hc1 (fun x hx e => by have : x = w.heap.size := e; omega)
  have HE1 := Lib.hid (HE.out.keepN hC1)
  have HT1 := Lib.hid ht1
  clear ht1 hg1 hc1
  go_wp2_with fail
  refine (dread_any ad w.heap.size 0 5 oneD S1 w1 HE1.out HT1.out (by omega)).mono ?_
  rintro e w2 ⟨rfl, hc2⟩
  rw [H2.out]
  simp only [errV_zero]
  have HT2 := Lib.hid (HT1.out.keep hc2 (fun _ _ f => f))
  go_wp2_with fail
  refine (dsize_any w.heap.size oneD S1 w2 HT2.out).mono ?_
  rintro e w3 ⟨rfl, rfl⟩
  rw [H3.out]
  go_wp2_with fail
  refine (dblocks_any w.heap.size oneD S1 w2 HT2.out).mono ?_
  rintro e w3 ⟨rfl, rfl⟩
  rw [H4.out]
  go_wp2_with fail
  go_ret
  exact ⟨rfl, hC1.then hc2⟩
end Go.Proofs.YtfekiagdnlnggaaDoor
