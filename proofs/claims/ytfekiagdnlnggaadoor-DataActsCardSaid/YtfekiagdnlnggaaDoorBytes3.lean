/- pigeonholesref1.Bytes: Read, Resize, Blocks by contracts. -/
import Derived.Test.YtfekiagdnlnggaaDoorBytes
import Derived.IntWalk
namespace Go.Proofs.YtfekiagdnlnggaaDoor
open Go.RowKit
set_option linter.unusedVariables false
set_option linter.unusedSimpArgs false

def bRead (s : ByteArray) (p n : Int) : ByteArray × Bool × Nat :=
  if p < 0 ∨ n < 0 then (⟨#[]⟩, false, 2) else if (s.size : Int) ≤ p then (⟨#[]⟩, true, 0) else if (s.size : Int) - p ≤ n then (s.extract p.toNat s.size, true, 0) else (s.extract p.toNat (p + n).toNat, false, 0)

set_option maxHeartbeats 1000000 in
set_option maxRecDepth 100000 in
theorem bread_any (b : Nat) (p n : Int) (s : ByteArray) (h : List Bool) (S : Nat → Prop) (w : World) (ht : BytesAt w b s h S) (hp : p ≤ 9223372036854775807) (hn : n ≤ 9223372036854775807) :
    Calls Tryd.prog 51 #[.pointer (some ⟨b, 0, none⟩), .int .i64 p, .int .i64 n] w fun e w' =>
      e = .returned (.tuple #[.string (bRead s p n).1, .bool (bRead s p n).2.1, .int .i64 (bRead s p n).2.2]) ∧ w = w' := by
  have hsm := ht.small
  obtain ⟨⟨v, T, Ss, hb, _⟩, _⟩ := ht
  have hc0 := cell_of hb 0
  simp only [List.getElem?_toArray, List.getElem?_cons_zero] at hc0
  clear hb
  by_cases hbad : p < 0 ∨ n < 0
  · have e1 : bRead s p n = (⟨#[]⟩, false, 2) := if_pos hbad
    rw [e1]
    have hgo : p < 0 ∨ ¬ p < 0 ∧ n < 0 := by omega
    clear hbad e1
    rcases hgo with h | ⟨h, h'⟩
    all_goals
      go_enter Tryd.func51, Tryd.ntmps51
      go_wp2_with fail
      go_ret3
      exact ⟨rfl, rfl⟩
  have g1 : ¬ p < 0 := by omega
  have g2 : ¬ n < 0 := by omega
  by_cases h1 : (s.size : Int) ≤ p
  · have e1 : bRead s p n = (⟨#[]⟩, true, 0) := by rw [bRead, if_neg hbad, if_pos h1]
    rw [e1]
    clear e1 hbad
    go_enter Tryd.func51, Tryd.ntmps51
    go_wp2_with fail
    go_ret3
    exact ⟨rfl, rfl⟩
  obtain ⟨p, rfl⟩ : ∃ k : Nat, p = k := ⟨p.toNat, by omega⟩
  have h1' : (p : Int) < (s.size : Int) := by omega
  have h1'' : p ≤ s.size := by omega
  by_cases h2 : (s.size : Int) - p ≤ n
  · have e1 : bRead s p n = (s.extract p s.size, true, 0) := by rw [bRead, if_neg hbad, if_neg h1, if_pos h2]; rfl
    rw [e1]
    clear e1 hbad h1
    go_enter Tryd.func51, Tryd.ntmps51
    go_wp2_with fail
    go_ret3
    exact ⟨rfl, rfl⟩
  · obtain ⟨n, rfl⟩ : ∃ k : Nat, n = k := ⟨n.toNat, by omega⟩
    have e1 : bRead s p n = (s.extract p (p + n), false, 0) := by rw [bRead, if_neg hbad, if_neg h1, if_neg h2]; rfl
    rw [e1]
    have h3 : p + n ≤ s.size := by omega
    have h4 : (p : Int) + (n : Int) ≤ (s.size : Int) := by omega
    have h5 : (p : Int) ≤ (p : Int) + (n : Int) := by omega
    clear e1 hbad h1
    go_enter Tryd.func51, Tryd.ntmps51
    go_wp2_with fail
    go_ret3
    exact ⟨rfl, rfl⟩

/-- How many are no holes. -/
def noHoles (h : List Bool) : Nat := h.countP fun x => !x
theorem noHoles_snoc (h : List Bool) (k : Nat) (x : Bool) (hx : h[k]? = some x) : noHoles (h.take (k + 1)) = noHoles (h.take k) + if x then 0 else 1 := by
  have hk := (List.getElem?_eq_some_iff.1 hx).1
  rw [List.take_add_one, hx]
  unfold noHoles
  rw [List.countP_append]
  cases x <;> simp
theorem noHoles_le (h : List Bool) : noHoles h ≤ h.length := List.countP_le_length

set_option maxHeartbeats 1000000 in
set_option maxRecDepth 100000 in
theorem bblocks_any (b : Nat) (s : ByteArray) (h : List Bool) (S : Nat → Prop) (w : World) (ht : BytesAt w b s h S) :
    Calls Tryd.prog 55 #[.pointer (some ⟨b, 0, none⟩)] w fun e w' => e = .returned (.int .i64 (noHoles h)) ∧ w = w' := by
  have hf := ht.few
  obtain ⟨⟨v, T, Ss, hb, hs, _⟩, _⟩ := ht
  have hc0 := cell_of hb 1
  simp only [List.getElem?_toArray, List.getElem?_cons_zero, List.getElem?_cons_succ] at hc0
  obtain ⟨a, cap, rfl⟩ := hs.shape
  have HS := Lib.hid hs
  clear hb hs
  go_enter Tryd.func55, Tryd.ntmps55
  go_wp2_with fail
  go_loop [3, 4] (fun n i => ∃ k : Nat, k ≤ h.length ∧ i = .int .i64 k ∧ n = .int .i64 (noHoles (h.take k))) (fun _ i => (h.length - intOf i).toNat)
  case atStart => exact ⟨0, Nat.zero_le _, rfl, rfl⟩
  case round =>
    obtain ⟨k, hk, rfl, rfl⟩ := hrel
    have hle : noHoles (h.take k) ≤ 64 := by have := noHoles_le (h.take k); have := List.length_take_le k h; omega
    by_cases hlt : k < h.length
    · obtain ⟨x, hx⟩ : ∃ x, h[k]? = some x := ⟨h[k], List.getElem?_eq_getElem hlt⟩
      have HN := Lib.hid (noHoles_snoc h k x hx)
      obtain ⟨g, off, cap', cs, e, _⟩ := HS.out.place (by omega)
      cases e
      have h0 := (HS.out.elem holeC_len hx 0 _ rfl).1
      simp only [Nat.mul_one, Nat.add_zero] at h0
      have j1 : (k : Int) < (h.length : Int) := by omega
      have j0 : (0 : Int) ≤ (k : Int) := by omega
      clear hx
      cases x
      · go_wp2_with fail
        go_round
        case rel => exact ⟨k + 1, by omega, by go_num, by rw [HN.out]; go_num⟩
        case measure => simp [intOf]; omega
      · go_wp2_with fail
        go_round
        case rel => exact ⟨k + 1, by omega, by go_num, by rw [HN.out]; rfl⟩
        case measure => simp [intOf]; omega
    · have e : h.take k = h := List.take_of_length_le (by omega)
      have HE := Lib.hid e
      clear e
      go_wp2_with fail
      go_ret
      exact ⟨by rw [HE.out]; rfl, rfl⟩
end Go.Proofs.YtfekiagdnlnggaaDoor
