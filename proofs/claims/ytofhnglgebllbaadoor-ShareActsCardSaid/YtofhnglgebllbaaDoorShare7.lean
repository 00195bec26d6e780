/- law2's bitsMeet and shared by contract; the acts' shape. -/
import Derived.Test.YtofhnglgebllbaaDoorShare6Q
import Derived.Test.YtofhnglgebllbaaDoorShape
namespace Go.Proofs.YtofhnglgebllbaaDoor
open Go.RowKit Go.Lib Go.Sort
set_option linter.unusedVariables false
set_option linter.unusedSimpArgs false

def shSAct : Sh := .and .str (.and (.and .int (.and .int .unit)) (.and .int (.and .int (.and .int .unit))))
abbrev SAct := ByteArray × (Int × Int × Unit) × Int × Int × Int × Unit
theorem kind_ne {k : ByteArray} {l : List UInt8} (h : ¬ k = ⟨l.toArray⟩) : (k.toList == l) = false := by
  rw [beq_eq_false_iff_ne]
  intro e
  apply h
  have e2 : k.data.toList = l := by rw [← e]; exact (ByteArray.toList_eq k).symm
  obtain ⟨d⟩ := k
  simp only at e2
  subst e2
  rfl
set_option maxHeartbeats 4000000 in
theorem meet_any {a b : Int} (ha : a = 0 ∨ a = 1 ∨ a = 2 ∨ a = 3) (hb : b = 0 ∨ b = 1 ∨ b = 2 ∨ b = 3) (w : World) :
    Calls Tryd.prog 44 #[.int .i64 a, .int .i64 b] w fun e w' => e = .returned (.bool (mtP a b)) ∧ w' = w := by
  rcases ha with rfl | rfl | rfl | rfl <;> rcases hb with rfl | rfl | rfl | rfl
  all_goals
    go_enter Tryd.func44, Tryd.ntmps44
    go_wp2_with fail
    go_ret
    exact ⟨rfl, rfl⟩

set_option maxHeartbeats 4000000 in
set_option maxRecDepth 100000 in
theorem shared_any (ad : Nat → Addr) (w : World) (he : Env w.heap.size ad [2, 9, 11] w) :
    Calls Tryd.prog 37 #[] w fun e w' => e = .returned (.bool true) ∧ Chg Nil w w' := by
  have HE := Lib.hid he
  clear he
  go_enter Tryd.func37, Tryd.ntmps37
  go_wp2_with fail
  have hc1 := (Chg.refl Nil w).alloc (.cells #[.slice none 0 0] 69)
  refine (shOpen_any (B := w.heap.size) ad w.heap.size 3 0 1 1 2 [] (· = w.heap.size) _ (HE.out.keepN hc1) (rowAt_new w _) (by decide)).mono ?_
  rintro e w2 ⟨rfl, hp2⟩
  have hx : shOpen [] (3, 0) 1 1 2 = ([((3, 0), 1, 1, 2)], 0) := by decide
  rw [hx] at hp2
  obtain ⟨hc2, S2, ht2, hg2⟩ := hp2
  have HC2 := Lib.hid (hc1.trans hc2 (fun x hx h => by have : x = w.heap.size := h; omega))
  have HT2 := Lib.hid ht2
  clear ht2 hg2 hc2 hc1
  rw [hx]
  simp only [errV_zero]
  clear hx
  go_wp2_with fail
  refine (shList_any _ _ _ _ HT2.out (by decide)).mono ?_
  rintro e w3 ⟨v', rfl, hL⟩
  obtain ⟨l', S', hp, _, hs, hc3, _⟩ := hL
  obtain rfl : l' = [((3, 0), 1, 1, 2)] := List.perm_singleton.1 hp
  obtain ⟨g, off, cap, cs, rfl, _⟩ := hs.place (by decide)
  have e1 := hs.elem opnC_len (k := 0) (x := ((3, 0), 1, 1, 2)) rfl 2 _ rfl
  have e2 := hs.elem opnC_len (k := 0) (x := ((3, 0), 1, 1, 2)) rfl 4 _ rfl
  have HC3 := Lib.hid (HC2.out.then hc3)
  obtain ⟨c1, f1, g1⟩ := e1
  obtain ⟨c2, f2, _⟩ := e2
  simp only [Nat.zero_mul, Nat.add_zero] at c1 c2 f1 f2
  clear hs hp hc3
  (try simp only [List.length_singleton])
  go_wp2_with fail
  go_ret
  exact ⟨rfl, HC3.out⟩
end Go.Proofs.YtofhnglgebllbaaDoor
