/- package share: the closures that its methods hand to package slices, by contract. -/
import Derived.Test.YtofhnglgebllbaaDoorShare1
namespace Go.Proofs.YtofhnglgebllbaaDoor
open Go.RowKit Go.Lib Go.Sort
set_option linter.unusedVariables false
set_option linter.unusedSimpArgs false

set_option maxHeartbeats 2000000 in
theorem find1_any (n g o : Int) (x : Opn) (bh bo : Nat) (Th To : TypeId) (w : World) (hh : w.heap[bh]? = some (.cells #[.int .i64 n, .int .i64 g] Th (0, 0))) (ho : w.heap[bo]? = some (.cells #[.int .i64 o] To (0, 0))) :
    Calls Tryd.prog 177 #[.agg (opnC x).toArray, .pointer (some ⟨bh, 0, none⟩), .pointer (some ⟨bo, 0, none⟩)] w fun e w' => e = .returned (.bool (mineP (n, g) o x)) ∧ Chg Nil w w' := by
  obtain ⟨⟨xn, xg⟩, xo, xa, xd⟩ := x
  have lh := lt_of_block hh
  have lo := lt_of_block ho
  have hb1 := block_alloc w (.cells #[.int .i64 xn, .int .i64 xg, .int .i64 xo, .int .i64 xa, .int .i64 xd] 76)
  have hh1 := block_alloc_old hh (.cells #[.int .i64 xn, .int .i64 xg, .int .i64 xo, .int .i64 xa, .int .i64 xd] 76)
  have ho1 := block_alloc_old ho (.cells #[.int .i64 xn, .int .i64 xg, .int .i64 xo, .int .i64 xa, .int .i64 xd] 76)
  have x0 := cell_of hb1 0
  have x1 := cell_of hb1 1
  have x2 := cell_of hb1 2
  have h0 := cell_of hh1 0
  have h1 := cell_of hh1 1
  have o0 := cell_of ho1 0
  simp at x0 x1 x2 h0 h1 o0
  clear hb1 hh1 ho1 hh ho
  unfold opnC
  have hcs : (xn = n ∧ xg = g ∧ xo = o ∧ mineP (n, g) o ((xn, xg), xo, xa, xd) = true) ∨ (xn = n ∧ xg = g ∧ ¬ xo = o ∧ mineP (n, g) o ((xn, xg), xo, xa, xd) = false) ∨ (xn = n ∧ ¬ xg = g ∧ True ∧ mineP (n, g) o ((xn, xg), xo, xa, xd) = false) ∨ (¬ xn = n ∧ True ∧ True ∧ mineP (n, g) o ((xn, xg), xo, xa, xd) = false) := by
    unfold mineP
    by_cases h1 : xn = n <;> by_cases h2 : xg = g <;> by_cases h3 : xo = o <;> simp [h1, h2, h3]
  rcases hcs with ⟨e1, e2, e3, hc⟩ | ⟨e1, e2, e3, hc⟩ | ⟨e1, e2, e3, hc⟩ | ⟨e1, e2, e3, hc⟩
  all_goals
    rw [hc]
    clear hc
    (try subst e1)
    (try subst e2)
    (try subst e3)
    go_enter Tryd.func177, Tryd.ntmps177
    go_wp2_with fail
    go_ret
    exact ⟨by first | rfl | simp [e3], (Chg.refl _ _).alloc _⟩

set_option maxHeartbeats 2000000 in
theorem close1_any (n g o : Int) (x : Opn) (bh bo : Nat) (Th To : TypeId) (w : World) (hh : w.heap[bh]? = some (.cells #[.int .i64 n, .int .i64 g] Th (0, 0))) (ho : w.heap[bo]? = some (.cells #[.int .i64 o] To (0, 0))) :
    Calls Tryd.prog 116 #[.agg (opnC x).toArray, .pointer (some ⟨bh, 0, none⟩), .pointer (some ⟨bo, 0, none⟩)] w fun e w' => e = .returned (.bool (mineP (n, g) o x)) ∧ Chg Nil w w' := by
  obtain ⟨⟨xn, xg⟩, xo, xa, xd⟩ := x
  have lh := lt_of_block hh
  have lo := lt_of_block ho
  have hb1 := block_alloc w (.cells #[.int .i64 xn, .int .i64 xg, .int .i64 xo, .int .i64 xa, .int .i64 xd] 76)
  have hh1 := block_alloc_old hh (.cells #[.int .i64 xn, .int .i64 xg, .int .i64 xo, .int .i64 xa, .int .i64 xd] 76)
  have ho1 := block_alloc_old ho (.cells #[.int .i64 xn, .int .i64 xg, .int .i64 xo, .int .i64 xa, .int .i64 xd] 76)
  have x0 := cell_of hb1 0
  have x1 := cell_of hb1 1
  have x2 := cell_of hb1 2
  have h0 := cell_of hh1 0
  have h1 := cell_of hh1 1
  have o0 := cell_of ho1 0
  simp at x0 x1 x2 h0 h1 o0
  clear hb1 hh1 ho1 hh ho
  unfold opnC
  have hcs : (xn = n ∧ xg = g ∧ xo = o ∧ mineP (n, g) o ((xn, xg), xo, xa, xd) = true) ∨ (xn = n ∧ xg = g ∧ ¬ xo = o ∧ mineP (n, g) o ((xn, xg), xo, xa, xd) = false) ∨ (xn = n ∧ ¬ xg = g ∧ True ∧ mineP (n, g) o ((xn, xg), xo, xa, xd) = false) ∨ (¬ xn = n ∧ True ∧ True ∧ mineP (n, g) o ((xn, xg), xo, xa, xd) = false) := by
    unfold mineP
    by_cases h1 : xn = n <;> by_cases h2 : xg = g <;> by_cases h3 : xo = o <;> simp [h1, h2, h3]
  rcases hcs with ⟨e1, e2, e3, hc⟩ | ⟨e1, e2, e3, hc⟩ | ⟨e1, e2, e3, hc⟩ | ⟨e1, e2, e3, hc⟩
  all_goals
    rw [hc]
    clear hc
    (try subst e1)
    (try subst e2)
    (try subst e3)
    go_enter Tryd.func116, Tryd.ntmps116
    go_wp2_with fail
    go_ret
    exact ⟨by first | rfl | simp [e3], (Chg.refl _ _).alloc _⟩

set_option maxHeartbeats 2000000 in
theorem drop1_any (o : Int) (x : Opn) (bo : Nat) (To : TypeId) (w : World) (ho : w.heap[bo]? = some (.cells #[.int .i64 o] To (0, 0))) :
    Calls Tryd.prog 117 #[.agg (opnC x).toArray, .pointer (some ⟨bo, 0, none⟩)] w fun e w' => e = .returned (.bool (x.2.1 == o)) ∧ Chg Nil w w' := by
  obtain ⟨⟨xn, xg⟩, xo, xa, xd⟩ := x
  have lo := lt_of_block ho
  have hb1 := block_alloc w (.cells #[.int .i64 xn, .int .i64 xg, .int .i64 xo, .int .i64 xa, .int .i64 xd] 76)
  have ho1 := block_alloc_old ho (.cells #[.int .i64 xn, .int .i64 xg, .int .i64 xo, .int .i64 xa, .int .i64 xd] 76)
  have x2 := cell_of hb1 2
  have o0 := cell_of ho1 0
  simp at x2 o0
  clear hb1 ho1 ho
  unfold opnC
  go_enter Tryd.func117, Tryd.ntmps117
  go_wp2_with fail
  go_ret
  exact ⟨rfl, (Chg.refl _ _).alloc _⟩

set_option maxHeartbeats 4000000 in
theorem open1_any (n g o a d : Int) (x : Opn) (bh bo ba bd : Nat) (Th To Ta Td : TypeId) (w : World) (hh : w.heap[bh]? = some (.cells #[.int .i64 n, .int .i64 g] Th (0, 0))) (ho : w.heap[bo]? = some (.cells #[.int .i64 o] To (0, 0)))
    (ha : w.heap[ba]? = some (.cells #[.int .i64 a] Ta (0, 0))) (hd : w.heap[bd]? = some (.cells #[.int .i64 d] Td (0, 0))) :
    Calls Tryd.prog 113 #[.agg (opnC x).toArray, .pointer (some ⟨bh, 0, none⟩), .pointer (some ⟨bo, 0, none⟩), .pointer (some ⟨ba, 0, none⟩), .pointer (some ⟨bd, 0, none⟩)] w fun e w' => e = .returned (.bool (againstP (n, g) o a d x)) ∧ Chg Nil w w' := by
  obtain ⟨⟨xn, xg⟩, xo, xa, xd⟩ := x
  have lh := lt_of_block hh
  have lo := lt_of_block ho
  have la := lt_of_block ha
  have ld := lt_of_block hd
  have hb1 := block_alloc w (.cells #[.int .i64 xn, .int .i64 xg, .int .i64 xo, .int .i64 xa, .int .i64 xd] 76)
  have hh1 := block_alloc_old hh (.cells #[.int .i64 xn, .int .i64 xg, .int .i64 xo, .int .i64 xa, .int .i64 xd] 76)
  have ho1 := block_alloc_old ho (.cells #[.int .i64 xn, .int .i64 xg, .int .i64 xo, .int .i64 xa, .int .i64 xd] 76)
  have ha1 := block_alloc_old ha (.cells #[.int .i64 xn, .int .i64 xg, .int .i64 xo, .int .i64 xa, .int .i64 xd] 76)
  have hd1 := block_alloc_old hd (.cells #[.int .i64 xn, .int .i64 xg, .int .i64 xo, .int .i64 xa, .int .i64 xd] 76)
  have x0 := cell_of hb1 0
  have x1 := cell_of hb1 1
  have x2 := cell_of hb1 2
  have x3 := cell_of hb1 3
  have x4 := cell_of hb1 4
  have h0 := cell_of hh1 0
  have h1 := cell_of hh1 1
  have o0 := cell_of ho1 0
  have a0 := cell_of ha1 0
  have d0 := cell_of hd1 0
  simp at x0 x1 x2 x3 x4 h0 h1 o0 a0 d0
  clear hb1 hh1 ho1 ha1 hd1 hh ho ha hd
  unfold opnC
  have hcs : (xn = n ∧ xg = g ∧ ¬ xo = o ∧ 0 < bits .and .i64 xd a ∧ True ∧ againstP (n, g) o a d ((xn, xg), xo, xa, xd) = true) ∨ (xn = n ∧ xg = g ∧ ¬ xo = o ∧ ¬ 0 < bits .and .i64 xd a ∧ 0 < bits .and .i64 xa d ∧ againstP (n, g) o a d ((xn, xg), xo, xa, xd) = true) ∨ (xn = n ∧ xg = g ∧ ¬ xo = o ∧ ¬ 0 < bits .and .i64 xd a ∧ ¬ 0 < bits .and .i64 xa d ∧ againstP (n, g) o a d ((xn, xg), xo, xa, xd) = false) ∨ (xn = n ∧ xg = g ∧ xo = o ∧ True ∧ True ∧ againstP (n, g) o a d ((xn, xg), xo, xa, xd) = false) ∨ (xn = n ∧ ¬ xg = g ∧ True ∧ True ∧ True ∧ againstP (n, g) o a d ((xn, xg), xo, xa, xd) = false) ∨ (¬ xn = n ∧ True ∧ True ∧ True ∧ True ∧ againstP (n, g) o a d ((xn, xg), xo, xa, xd) = false) := by
    unfold againstP mtP
    by_cases h1 : xn = n <;> by_cases h2 : xg = g <;> by_cases h3 : xo = o <;> by_cases h4 : 0 < bits .and .i64 xd a <;> by_cases h5 : 0 < bits .and .i64 xa d <;> simp [h1, h2, h3, h4, h5]
  rcases hcs with ⟨e1, e2, e3, e4, e5, hc⟩ | ⟨e1, e2, e3, e4, e5, hc⟩ | ⟨e1, e2, e3, e4, e5, hc⟩ | ⟨e1, e2, e3, e4, e5, hc⟩ | ⟨e1, e2, e3, e4, e5, hc⟩ | ⟨e1, e2, e3, e4, e5, hc⟩
  all_goals
    rw [hc]
    clear hc
    (try subst e1)
    (try subst e2)
    (try subst e3)
    go_enter Tryd.func113, Tryd.ntmps113
    go_wp2_with fail
    go_ret
    exact ⟨by first | rfl | simp [e3], (Chg.refl _ _).alloc _⟩

set_option maxHeartbeats 2000000 in
theorem anyone1_any (n g a : Int) (x : Opn) (bh ba : Nat) (Th Ta : TypeId) (w : World) (hh : w.heap[bh]? = some (.cells #[.int .i64 n, .int .i64 g] Th (0, 0)))
    (ha : w.heap[ba]? = some (.cells #[.int .i64 a] Ta (0, 0))) :
    Calls Tryd.prog 136 #[.agg (opnC x).toArray, .pointer (some ⟨bh, 0, none⟩), .pointer (some ⟨ba, 0, none⟩)] w fun e w' => e = .returned (.bool (x.1 == (n, g) && mtP x.2.2.2 a)) ∧ Chg Nil w w' := by
  obtain ⟨⟨xn, xg⟩, xo, xa, xd⟩ := x
  have lh := lt_of_block hh
  have la := lt_of_block ha
  have hb1 := block_alloc w (.cells #[.int .i64 xn, .int .i64 xg, .int .i64 xo, .int .i64 xa, .int .i64 xd] 76)
  have hh1 := block_alloc_old hh (.cells #[.int .i64 xn, .int .i64 xg, .int .i64 xo, .int .i64 xa, .int .i64 xd] 76)
  have ha1 := block_alloc_old ha (.cells #[.int .i64 xn, .int .i64 xg, .int .i64 xo, .int .i64 xa, .int .i64 xd] 76)
  have x0 := cell_of hb1 0
  have x1 := cell_of hb1 1
  have x4 := cell_of hb1 4
  have h0 := cell_of hh1 0
  have h1 := cell_of hh1 1
  have a0 := cell_of ha1 0
  simp at x0 x1 x4 h0 h1 a0
  clear hb1 hh1 ha1 hh ha
  unfold opnC
  have hcs : (xn = n ∧ xg = g ∧ 0 < bits .and .i64 xd a ∧ ((xn, xg) == (n, g) && mtP xd a) = true) ∨ (xn = n ∧ xg = g ∧ ¬ 0 < bits .and .i64 xd a ∧ ((xn, xg) == (n, g) && mtP xd a) = false) ∨ (xn = n ∧ ¬ xg = g ∧ True ∧ ((xn, xg) == (n, g) && mtP xd a) = false) ∨ (¬ xn = n ∧ True ∧ True ∧ ((xn, xg) == (n, g) && mtP xd a) = false) := by
    unfold mtP
    by_cases h1 : xn = n <;> by_cases h2 : xg = g <;> by_cases h4 : 0 < bits .and .i64 xd a <;> simp [h1, h2, h4]
  rcases hcs with ⟨e1, e2, e3, hc⟩ | ⟨e1, e2, e3, hc⟩ | ⟨e1, e2, e3, hc⟩ | ⟨e1, e2, e3, hc⟩
  all_goals
    rw [hc]
    clear hc
    (try subst e1)
    (try subst e2)
    go_enter Tryd.func136, Tryd.ntmps136
    go_wp2_with fail
    go_ret
    exact ⟨by first | rfl | simp [e3], (Chg.refl _ _).alloc _⟩
end Go.Proofs.YtofhnglgebllbaaDoor
