/- package lock: ends, a run as a lock, take, sorted, by contract. -/
import Derived.Test.YtgebinfbbopnlaaDoorLock1
import Derived.Test.YtgebinfbbopnlaaDoorRow
import Derived.Test.YtgebinfbbopnlaaDoorEnv
namespace Go.Proofs.YtgebinfbbopnlaaDoor
open Go.RowKit Go.Lib Go.Sort
set_option linter.unusedVariables false
set_option linter.unusedSimpArgs false

abbrev LkAt := RowAt 104 6 runC
abbrev LkPost := RowPost 104 6 runC
def endsP (a s : Int) : Option (Int × Int) := if a < 0 ∨ 1099511627776 < a ∨ s < 0 ∨ 1099511627776 < s then none else if s = 0 then some (a, 1152921504606846976) else some (a, a + s)
theorem endsP_rng {a s f t : Int} (h : endsP a s = some (f, t)) : RngR f t := by
  unfold endsP at h
  split at h
  · cases h
  · split at h <;> cases h <;> unfold RngR <;> omega
def endsV : Option (Int × Int) → Value
  | none => .tuple #[.int .i64 0, .int .i64 0, .bool false]
  | some (f, t) => .tuple #[.int .i64 f, .int .i64 t, .bool true]
set_option maxHeartbeats 4000000 in
theorem ends_any (a s : Int) (w : World) : Calls Tryd.prog 35 #[.agg #[.int .i64 a, .int .i64 s]] w fun e w' => e = .returned (endsV (endsP a s)) ∧ Chg Nil w w' := by
  have hb := block_alloc w (.cells #[.int .i64 a, .int .i64 s] 63)
  have b0 := cell_of hb 0
  have b1 := cell_of hb 1
  simp at b0 b1
  have hcs : (a < 0 ∧ True ∧ True ∧ True ∧ endsP a s = none) ∨ (¬ a < 0 ∧ 1099511627776 < a ∧ True ∧ True ∧ endsP a s = none) ∨ (¬ a < 0 ∧ ¬ 1099511627776 < a ∧ s < 0 ∧ True ∧ endsP a s = none) ∨ (¬ a < 0 ∧ ¬ 1099511627776 < a ∧ ¬ s < 0 ∧ 1099511627776 < s ∧ endsP a s = none)
      ∨ (¬ a < 0 ∧ ¬ 1099511627776 < a ∧ ¬ s < 0 ∧ ¬ 1099511627776 < s ∧ s = 0 ∧ endsP a s = some (a, 1152921504606846976)) ∨ (¬ a < 0 ∧ ¬ 1099511627776 < a ∧ ¬ s < 0 ∧ ¬ 1099511627776 < s ∧ ¬ s = 0 ∧ endsP a s = some (a, a + s)) := by
    unfold endsP
    by_cases h1 : a < 0 <;> by_cases h2 : 1099511627776 < a <;> by_cases h3 : s < 0 <;> by_cases h4 : 1099511627776 < s <;> by_cases h5 : s = 0 <;> simp [h1, h2, h3, h4, h5]
  clear hb
  have HG := Lib.hid ((Chg.refl Nil w).alloc (.cells #[.int .i64 a, .int .i64 s] 63))
  rcases hcs with ⟨h1, h2, h3, h4, hc⟩ | ⟨h1, h2, h3, h4, hc⟩ | ⟨h1, h2, h3, h4, hc⟩ | ⟨h1, h2, h3, h4, hc⟩ | ⟨h1, h2, h3, h4, rfl, hc⟩ | ⟨h1, h2, h3, h4, h5, hc⟩
  · rw [hc]
    clear hc
    go_enter Tryd.func35, Tryd.ntmps35
    go_wp2_with fail
    go_ret3
    exact ⟨rfl, HG.out⟩
  · rw [hc]
    clear hc
    go_enter Tryd.func35, Tryd.ntmps35
    go_wp2_with fail
    go_ret3
    exact ⟨rfl, HG.out⟩
  · rw [hc]
    clear hc
    go_enter Tryd.func35, Tryd.ntmps35
    go_wp2_with fail
    go_ret3
    exact ⟨rfl, HG.out⟩
  · rw [hc]
    clear hc
    go_enter Tryd.func35, Tryd.ntmps35
    go_wp2_with fail
    go_ret3
    exact ⟨rfl, HG.out⟩
  · rw [hc]
    clear hc
    go_enter Tryd.func35, Tryd.ntmps35
    go_wp2_with fail
    go_ret3
    exact ⟨rfl, HG.out⟩
  · rw [hc]
    clear hc
    have hw : IntKind.i64.wrap (a + s) = a + s := IntWalk.i64_in _ (by omega)
    go_enter Tryd.func35, Tryd.ntmps35
    go_wp2_with fail
    go_quiet (fail)
    go_wp2_with fail
    go_ret3
    exact ⟨rfl, HG.out.then (Chg.drewN _ _)⟩

/-- A run as a lock. -/
def lockV (x : Run) : Value := .agg #[.int .i64 x.1.1, .int .i64 x.1.2, .int .i64 x.2.1, .int .i64 x.2.2.1, .int .i64 (if x.2.2.2.1 = 1152921504606846976 then 0 else x.2.2.2.1 - x.2.2.1), .bool x.2.2.2.2]
theorem res_lock {tm : Array Value} {b : Nat} {W : World} {c0 c1 c2 c3 c4 : Int} {c5 : Bool} (h2 : tm.getD 2 undef = .pointer (some ⟨b, 0, none⟩)) (hb : W.heap[b]? = some (.cells #[.int .i64 c0, .int .i64 c1, .int .i64 c2, .int .i64 c3, .int .i64 c4, .bool c5] 67 (0, 0))) :
    (results Tryd.f42 tm).run Tryd.prog W = .ok (.agg #[.int .i64 c0, .int .i64 c1, .int .i64 c2, .int .i64 c3, .int .i64 c4, .bool c5]) W := by
  have k0 := cell_of hb 0
  have k1 := cell_of hb 1
  have k2 := cell_of hb 2
  have k3 := cell_of hb 3
  have k4 := cell_of hb 4
  have k5 := cell_of hb 5
  simp only [List.getElem?_toArray, List.getElem?_cons_zero, List.getElem?_cons_succ] at k0 k1 k2 k3 k4 k5
  simp at h2
  simp [results, Tryd.results42, go_sem, h2, k0, k1, k2, k3, k4, k5]
set_option maxHeartbeats 4000000 in
theorem lock_any (x : Run) (w : World) (hx : BndR x) : Calls Tryd.prog 42 #[.agg (runC x).toArray] w fun e w' => e = .returned (lockV x) ∧ Chg Nil w w' := by
  obtain ⟨⟨n, g⟩, o, f, t, b⟩ := x
  have hw : IntKind.i64.wrap (t - f) = t - f := IntWalk.i64_in _ (by unfold BndR at hx; dsimp only at hx; omega)
  clear hx
  unfold runC
  have hb1 := block_alloc_old (block_alloc w (.cells #[.int .i64 n, .int .i64 g, .int .i64 o, .int .i64 f, .int .i64 t, .bool b] 104)) (.cells #[.int .i64 0, .int .i64 0, .int .i64 0, .int .i64 0, .int .i64 0, .bool false] 67)
  have hb2 := block_alloc (w.alloc (.cells #[.int .i64 n, .int .i64 g, .int .i64 o, .int .i64 f, .int .i64 t, .bool b] 104)) (.cells #[.int .i64 0, .int .i64 0, .int .i64 0, .int .i64 0, .int .i64 0, .bool false] 67)
  simp only [World.size_alloc] at hb2
  have HG := Lib.hid (((Chg.refl Nil w).alloc (.cells #[.int .i64 n, .int .i64 g, .int .i64 o, .int .i64 f, .int .i64 t, .bool b] 104)).alloc (.cells #[.int .i64 0, .int .i64 0, .int .i64 0, .int .i64 0, .int .i64 0, .bool false] 67))
  obtain ⟨wx, hwx⟩ : ∃ wx, wx = (w.alloc (.cells #[.int .i64 n, .int .i64 g, .int .i64 o, .int .i64 f, .int .i64 t, .bool b] 104)).alloc (.cells #[.int .i64 0, .int .i64 0, .int .i64 0, .int .i64 0, .int .i64 0, .bool false] 67) := ⟨_, rfl⟩
  rw [← hwx] at hb1 hb2 HG
  have HWX := Lib.hid hwx
  clear hwx
  have x0 := cell_of hb1 0
  have x1 := cell_of hb1 1
  have x2 := cell_of hb1 2
  have x3 := cell_of hb1 3
  have x4 := cell_of hb1 4
  have x5 := cell_of hb1 5
  simp only [List.getElem?_toArray, List.getElem?_cons_zero, List.getElem?_cons_succ] at x0 x1 x2 x3 x4 x5
  have HB2 := Lib.hid hb2
  have gb := lt_of_block hb2
  have hfr := free_of hb2 0
  clear hb1 hb2
  by_cases h : t = 1152921504606846976
  · subst h
    go_enter Tryd.func42, Tryd.ntmps42
    go_wp2_with fail
    have k0 := block_alloc (w.alloc (.cells #[.int .i64 n, .int .i64 g, .int .i64 o, .int .i64 f, .int .i64 1152921504606846976, .bool b] 104)) (.cells #[.int .i64 n, .int .i64 g, .int .i64 o, .int .i64 f, .int .i64 0, .bool b] 67)
    simp only [World.size_alloc] at k0
    refine bodyPost_ret (res_lock rfl k0) rfl ?_
    exact ⟨by simp [lockV], ((Chg.refl Nil w).alloc _).alloc _⟩
  · have hne : (t == 1152921504606846976) = false := by simpa using h
    go_enter Tryd.func42, Tryd.ntmps42
    go_wp2_with fail
    have k0 := block_alloc (w.alloc (.cells #[.int .i64 n, .int .i64 g, .int .i64 o, .int .i64 f, .int .i64 t, .bool b] 104)) (.cells #[.int .i64 n, .int .i64 g, .int .i64 o, .int .i64 f, .int .i64 (t - f), .bool b] 67)
    simp only [World.size_alloc] at k0
    refine bodyPost_ret (res_lock rfl k0) rfl ?_
    exact ⟨by simp [lockV, h], ((Chg.refl Nil w).alloc _).alloc _⟩

set_option maxHeartbeats 2000000 in
/-- take: the slice is stored, unless it is too long. -/
theorem take_full {B : Nat} (ad : Nat → Addr) (b n cap : Nat) (a : Option Addr) (w : World) (he : Env B ad [9] w) (hn : 60 < n) :
    Calls Tryd.prog 36 #[.pointer (some ⟨b, 0, none⟩), .slice a n cap] w fun e w' => e = .returned (errV ad 9) ∧ w' = w := by
  obtain ⟨q1, q2⟩ := he.get (c := 9) (by simp)
  simp only [gl] at q1 q2
  have hn' : (60 : Int) < (n : Int) := by omega
  clear he hn
  go_enter Tryd.func36, Tryd.ntmps36
  go_wp2_with fail
  go_ret
  exact ⟨rfl, rfl⟩
set_option maxHeartbeats 2000000 in
theorem take_some (b n cap : Nat) (a : Option Addr) (old : Value) (T : TypeId) (w : World) (hb : w.heap[b]? = some (.cells #[old] T (0, 0))) (hn : n ≤ 60) :
    Calls Tryd.prog 36 #[.pointer (some ⟨b, 0, none⟩), .slice a n cap] w fun e w' => e = .returned .nilIface ∧ w' = w.setCell ⟨b, 0, none⟩ (.slice a n cap) := by
  have hn' : ¬ (60 : Int) < (n : Int) := by omega
  have b0 := cell_of hb 0
  have f0 := free_of hb 0
  have gb := lt_of_block hb
  simp at b0
  clear hb hn
  go_enter Tryd.func36, Tryd.ntmps36
  go_wp2_with fail
  go_ret
  exact ⟨rfl, rfl⟩

theorem entersLOrder : ∀ args w, (callFunc 55 args).run Tryd.prog w = .ok (.enter 55 args) w := enters_of Tryd.func55 (by kernel_rfl) rfl
theorem entersJoin : ∀ args w, (callFunc 51 args).run Tryd.prog w = .ok (.enter 51 args) w := enters_of Tryd.func51 (by kernel_rfl) rfl
def LkListed (l : List Run) (w : World) (v' : Value) (w' : World) : Prop := ∃ (l' : List Run) (S' : Nat → Prop), l'.Perm l ∧ l'.Pairwise (fun x y => ¬ lockCf y x < 0) ∧ SliceAt w' v' 104 6 l.length (l'.flatMap runC) S' ∧ Chg Nil w w' ∧ Grow Nil S' w w'
set_option maxHeartbeats 2000000 in
set_option maxRecDepth 100000 in
theorem sorted_any (b : Nat) (l : List Run) (S : Nat → Prop) (w : World) (ht : LkAt w b l S) (hl : l.length ≤ 1000000) :
    Calls Tryd.prog 41 #[.pointer (some ⟨b, 0, none⟩)] w fun e w' => ∃ v', e = .returned v' ∧ LkListed l w v' w' := by
  obtain ⟨⟨v, T, Ss, hb, hs, hnb, hsub⟩, hS, hlt⟩ := ht
  have b0 := cell_of hb 0
  have gb := lt_of_block hb
  simp at b0
  have HC := Lib.hid (cloneRun_any w hs hl)
  have HL := Lib.hid hl
  clear hb hs hlt hsub hS hnb hl
  go_enter Tryd.func41, Tryd.ntmps41
  go_wp2_with fail
  refine HC.out.mono ?_
  rintro e w2 ⟨v', S', rfl, hs2, hc2, hg2⟩
  have HS := Lib.hid (sortRun_any lockCf swo_lock 55 #[] entersLOrder w2 hs2 HL.out (fun W x y _ => lockOrder_any x y W))
  have HC2 := Lib.hid hc2
  have HG2 := Lib.hid hg2
  clear hs2 hc2 hg2 b0
  go_wp2_with fail
  refine HS.out.mono ?_
  rintro e w3 ⟨rfl, l', hp, ho, hs3, hc3⟩
  go_wp2_with fail
  go_ret
  refine ⟨_, rfl, ?_⟩
  unfold LkListed
  refine ⟨l', S', hp, ho.imp (fun h => by omega), hs3, HC2.out.trans hc3 (fun x hx h => ?_), fun x hx => ?_⟩
  · rcases HG2.out x h with f | f
    · exact f
    · omega
  · have := hc3.size
    rcases HG2.out x hx with f | f
    · exact .inl f
    · exact .inr ⟨f.1, by omega⟩
end Go.Proofs.YtgebinfbbopnlaaDoor
