/- package xdr: the Writer's Text; law1's four; the reference's Item and IsInt. -/
import Derived.Test.YtofhnglgebllbaaDoorXdr3
namespace Go.Proofs.YtofhnglgebllbaaDoor
open Go.RowKit Go.Lib
set_option linter.unusedVariables false
set_option linter.unusedSimpArgs false

theorem strOf_txt (t : List UInt8) : strOfNums (t.map fun b => (b.toNat : Int)) = ⟨t.toArray⟩ := by
  simp [strOfNums, List.map_map, Function.comp_def]
set_option maxHeartbeats 1000000 in
set_option maxRecDepth 100000 in
theorem wtext_any (b : Nat) (t : List UInt8) (S : Nat → Prop) (w : World) (ht : WrTx w b t S) :
    Calls Tryd.prog 149 #[.pointer (some ⟨b, 0, none⟩)] w fun e w' => e = .returned (.string ⟨t.toArray⟩) ∧ Chg Nil w w' := by
  obtain ⟨v, T, Ss, h1, ⟨⟨hl, hcase⟩, _⟩, h3, h5, h6, h7⟩ := ht
  have e0 := cell_of h1 0
  simp at e0
  clear h1
  rcases hcase with ⟨rfl, hn⟩ | ⟨g, cap, cur, rfl, _, hgk, hnc, hcm, hcs, htake⟩
  · obtain rfl : t = [] := List.eq_nil_of_length_eq_zero hn
    have hcv : (convert 246 9 (.slice none 0 0)).run Tryd.prog w = .ok (.string ⟨#[]⟩) w := by
      exact run_convert_bytes_nil (P := Tryd.prog) w 246 5 Tryd.underlying246 Tryd.underlying5 0 0 9 Tryd.underlying9
    go_enter Tryd.func149, Tryd.ntmps149
    go_wp2_with fail
    go_ret
    exact ⟨rfl, Chg.refl _ _⟩
  · have hcv : (convert 246 9 (.slice (some ⟨g, 0, none⟩) t.length cap)).run Tryd.prog w = .ok (.string ⟨t.toArray⟩) w := by
      have := run_convert_bytes_arg (P := Tryd.prog) w 246 5 Tryd.underlying246 Tryd.underlying5 g 0 t.length cap (t.map fun b => (b.toNat : Int)) (by simp) (fun i hi => by
        rw [cell_of hgk]
        have h8 : (txtC t)[i]? = some (.int .u8 ((t[i]'hi).toNat : Int)) := by simp [txtC, hi]
        rw [← htake, List.getElem?_take, if_pos (by omega)] at h8
        simp only [Nat.zero_add]
        rw [← Array.getElem?_toList, h8]
        simp [List.getD, hi]) 9 Tryd.underlying9
      rw [this, strOf_txt]
    clear hgk htake hcs hl
    go_enter Tryd.func149, Tryd.ntmps149
    go_wp2_with fail
    go_ret
    exact ⟨rfl, Chg.refl _ _⟩
theorem wr_new (w : World) (T : TypeId) : WrTx (w.alloc (.cells #[.slice none 0 0] T)) w.heap.size [] (· = w.heap.size) :=
  ⟨_, T, Nil, block_alloc w _, ownAt_nil _ _ _, fun f => f, fun _ f => f.elim, rfl, fun x e => by subst e; simp⟩
theorem wInt_258 : wInt [] 258 = ([0, 0, 1, 2], 0) := by decide
def RelPad (p : Nat) (w : World) (i : Value) (wr : World) : Prop := ∃ k : Nat, k ≤ p ∧ i = .int .i64 k ∧ Chg Nil w wr
set_option maxHeartbeats 1000000 in
set_option maxRecDepth 100000 in
theorem item_any (s : ByteArray) (w : World) (hs : s.size ≤ 1000000) :
    Calls Tryd.prog 151 #[.string s] w fun e w' => e = .returned (.string (itemB s)) ∧ Chg Nil w w' := by
  have h1 : ¬ 9223372036854775807 < (bigB 4 s.size).size + s.size := by rw [bigB_size]; omega
  have h2 : ¬ 9223372036854775807 < (bigB 4 s.size ++ s).size + (zerosB ((4 - s.size % 4) % 4)).size := by rw [ByteArray.size_append, bigB_size, zerosB_size]; omega
  have h2' : ¬ 9223372036854775807 < (bigB 4 s.size).size + s.size + (zerosB ((4 - s.size % 4) % 4)).size := by rw [bigB_size, zerosB_size]; omega
  go_enter Tryd.func151, Tryd.ntmps151
  go_wp2_with fail
  go_loopw [3] (fun i wr => RelPad ((4 - s.size % 4) % 4) w i wr) (fun i _ => ((4 - s.size % 4) % 4 - (RowKit.intOf i).toNat))
  case atStart => exact ⟨0, Nat.zero_le _, rfl, Chg.refl _ _⟩
  case round =>
    obtain ⟨k, hk, rfl, hC⟩ := hrel
    by_cases hlt : k < (4 - s.size % 4) % 4
    · have j1 : (0 : Int) < ((s.size : Int) + (k : Int)) % 4 := by omega
      go_wp2_with fail
      go_roundw
      case rel => exact ⟨k + 1, by omega, by go_num, hC⟩
      case measure => simp [RowKit.intOf]; omega
    · obtain rfl : k = (4 - s.size % 4) % 4 := by omega
      have j1 : ¬ (0 : Int) < ((s.size : Int) + (((4 - s.size % 4) % 4 : Nat) : Int)) % 4 := by omega
      obtain ⟨p, hp⟩ : ∃ p, p = (4 - s.size % 4) % 4 := ⟨_, rfl⟩
      have hit : itemB s = bigB 4 s.size ++ s ++ zerosB p := by unfold itemB; rw [hp]
      have HIT := Lib.hid hit
      clear hit
      rw [← hp] at h2 h2' j1 ⊢
      have hp4 : p ≤ 4 := by omega
      have HP := Lib.hid hp
      clear hp hlt hk
      go_wp2_with fail
      refine (big_any s.size 4 wr (by omega) (by omega)).mono ?_
      rintro e w2 ⟨rfl, hc2⟩
      go_wp2_with fail
      refine (zeros_nat p w2 (by omega)).mono ?_
      rintro e w3 ⟨rfl, hc3⟩
      go_wp2_with fail
      go_ret
      exact ⟨by rw [HIT.out]; rfl, (hC.then hc2).then hc3⟩
end Go.Proofs.YtofhnglgebllbaaDoor
