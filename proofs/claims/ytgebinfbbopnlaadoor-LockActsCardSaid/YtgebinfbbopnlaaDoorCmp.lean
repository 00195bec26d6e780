/- cmp.Compare and cmp.Or at int, by contract. -/
import Derived.Test.YtgebinfbbopnlaaDoorSort
namespace Go.Proofs.YtgebinfbbopnlaaDoor
open Go.RowKit Go.Lib Go.Sort
set_option linter.unusedVariables false
set_option linter.unusedSimpArgs false

/-- What cmp.Or gives: the first that is not nought. -/
def orI : List Int → Int
  | [] => 0
  | x :: l => if x ≠ 0 then x else orI l
set_option maxHeartbeats 1000000 in
theorem isnan_any (x : Int) (w : World) : Calls Tryd.prog 69 #[.int .i64 x] w fun e w' => e = .returned (.bool false) ∧ w' = w := by
  go_enter Tryd.func69, Tryd.ntmps69
  go_wp2_with fail
  go_ret
  exact ⟨rfl, rfl⟩
set_option maxHeartbeats 1000000 in
theorem compare_any (x y : Int) (w : World) : Calls Tryd.prog 53 #[.int .i64 x, .int .i64 y] w fun e w' => e = .returned (.int .i64 (Lib.compareInt x y)) ∧ w' = w := by
  have H : ∀ z w, Calls Tryd.prog 69 #[.int .i64 z] w fun e w' => e = .returned (.bool false) ∧ w' = w := isnan_any
  by_cases h1 : x < y
  case' pos => have HC := Lib.hid (show Lib.compareInt x y = -1 by simp [Lib.compareInt, h1])
  case' neg =>
    by_cases h2 : y < x
    case' pos => have HC := Lib.hid (show Lib.compareInt x y = 1 by simp [Lib.compareInt, h1, h2])
    case' neg => have HC := Lib.hid (show Lib.compareInt x y = 0 by simp [Lib.compareInt, h1, h2])
  all_goals
    rw [HC.out]
    go_enter Tryd.func53, Tryd.ntmps53
    go_wp2_with (go_at_call 69; refine (H _ _).mono ?_; rintro e w2 ⟨rfl, rfl⟩)
    go_ret
    exact ⟨rfl, rfl⟩
set_option maxHeartbeats 2000000 in
theorem or_any (l : List Int) (b : Nat) (T : TypeId) (w : World) (hb : w.heap[b]? = some (.cells (l.map fun x => Value.int .i64 x).toArray T (0, 0))) (hl : l.length ≤ 1000) :
    Calls Tryd.prog 52 #[.slice (some ⟨b, 0, none⟩) l.length l.length] w fun e w' => e = .returned (.int .i64 (orI l)) ∧ w' = w := by
  have HB := Lib.hid hb
  clear hb
  obtain ⟨r, hr⟩ : ∃ r, r = orI l := ⟨_, rfl⟩
  rw [← hr]
  have HR := Lib.hid hr
  clear hr
  go_enter Tryd.func52, Tryd.ntmps52
  go_wp2_with fail
  go_loopg [5, 8] l.length (fun gg _ s8 wr => ∃ kk : Nat, kk ≤ l.length ∧ l.length - kk ≤ gg ∧ s8 = .int .i64 kk ∧ wr = w ∧ Aside (r = orI (l.drop kk)))
  case atStart => exact ⟨0, Nat.zero_le _, by omega, rfl, rfl, (show Aside _ from by rw [List.drop_zero]; exact HR.out)⟩
  case round =>
    obtain ⟨kk, hkk, hg, rfl, rfl, A⟩ := hrel
    by_cases hlt : kk < l.length
    · have hltz : (kk : Int) < (l.length : Int) := by omega
      have e1 : l.drop kk = l[kk] :: l.drop (kk + 1) := (List.getElem_cons_drop hlt).symm
      have c0 : wr.cell? ⟨b, kk, none⟩ = some (.int .i64 l[kk]) := by
        rw [cell_of HB.out kk]; simp [hlt]
      have f0 := free_of HB.out kk
      obtain ⟨x, hx⟩ : ∃ x, x = l[kk] := ⟨_, rfl⟩
      rw [← hx] at c0 e1
      have A1 := Lib.hid A.out
      rw [e1] at A1
      have E1 := Lib.hid e1
      clear e1 hx A
      by_cases h0 : x = 0
      · subst h0
        go_wp2_with fail
        go_roundg (l.length - (kk + 1))
        case measure => omega
        case rel => exact ⟨kk + 1, by omega, by omega, by go_num, rfl, (show Aside _ from by have := A1.out; simp [orI] at this; exact this)⟩
      · go_wp2_with fail
        go_ret
        exact ⟨by rw [A1.out]; simp [orI, h0], rfl⟩
    · have hltz : ¬ (kk : Int) < (l.length : Int) := by omega
      have : kk = l.length := by omega
      go_wp2_with fail
      go_ret
      refine ⟨?_, rfl⟩
      have := A.out
      rw [List.drop_of_length_le (by omega)] at this
      rw [this]; rfl
end Go.Proofs.YtgebinfbbopnlaaDoor
