/- package names: Check by contract. -/
import Derived.Test.YtofhnglgebllbaaDoorName1
import Derived.Test.YtofhnglgebllbaaDoorPutX
import Derived.Test.YtofhnglgebllbaaDoorEnv
import Derived.Lib.ConvBytes
namespace Go.Proofs.YtofhnglgebllbaaDoor
open Go.RowKit Go.Lib
set_option linter.unusedVariables false
set_option linter.unusedSimpArgs false

def dot1 : ByteArray := ⟨#[46]⟩
def dot2 : ByteArray := ⟨#[46, 46]⟩
/-- Is a text a name? -/
def nameOk (s : ByteArray) : Prop := 1 ≤ s.size ∧ s.size ≤ 24 ∧ s ≠ dot1 ∧ s ≠ dot2 ∧ badAt s.data.toList = none
instance (s : ByteArray) : Decidable (nameOk s) := by unfold nameOk; infer_instance
def nameC (s : ByteArray) : Nat := if nameOk s then 0 else 4
theorem nameC_no {s : ByteArray} (h : ¬ nameOk s) : nameC s = 4 := if_neg h
theorem nameC_yes {s : ByteArray} (h : nameOk s) : nameC s = 0 := if_pos h
/-- A text as bytes: a new row. -/
theorem to_bytes (w : World) (s : ByteArray) : ∃ cap W, (convert 9 246 (.string s)).run Tryd.prog w = .ok (.slice (some ⟨w.heap.size, 0, none⟩) s.size cap) W ∧ Chg Nil w W ∧ s.size ≤ cap ∧ ∀ k b, s.data.toList[k]? = some b → W.cell? ⟨w.heap.size, k, none⟩ = some (.int .u8 b.toNat) := by
  refine ⟨_, _, Lib.run_convert_string_bytes (P := Tryd.prog) w 9 246 5 s Tryd.underlying9 Tryd.underlying246 Tryd.underlying5, ⟨rfl, rfl, rfl, by rw [Lib.bytesWorld_size]; omega, fun k hk _ => Lib.bytesWorld_at_old w _ s k hk⟩, grownCap_ge _ _ _ _, fun k b hb => ?_⟩
  have hk : k < s.size := by have := (List.getElem?_eq_some_iff.1 hb).1; rwa [Array.length_toList] at this
  rw [Lib.bytesWorld_cell w _ s k hk]
  simp [List.getD, hb]
set_option maxHeartbeats 2000000 in
set_option maxRecDepth 100000 in
theorem check_any {B : Nat} (ad : Nat → Addr) (s : ByteArray) (w : World) (he : Env B ad [4] w) (hs : s.size ≤ 9223372036854775807) :
    Calls Tryd.prog 104 #[.string s] w fun e w' => e = .returned (errV ad (nameC s)) ∧ Chg Nil w w' := by
  obtain ⟨q1, q1l⟩ := he.get (c := 4) (by simp)
  simp only [gl] at q1 q1l
  have HE := Lib.hid he
  clear he
  by_cases h0 : s = ⟨#[]⟩
  · have HX := Lib.hid (nameC_no (s := s) (fun h => by have := h.1; rw [h0] at this; simp [ByteArray.size] at this))
    rw [HX.out]
    subst h0
    go_enter Tryd.func104, Tryd.ntmps104
    go_wp2_with fail
    go_ret
    exact ⟨rfl, Chg.refl _ _⟩
  have hne := txt_ne (l := []) h0
  by_cases h1 : 24 < s.size
  · have HX := Lib.hid (nameC_no (s := s) (fun h => by have := h.2.1; omega))
    rw [HX.out]
    have h1d : decide ((s.size : Int) ≤ 24) = false := by simp; omega
    clear h0
    go_enter Tryd.func104, Tryd.ntmps104
    go_wp2_with fail
    go_ret
    exact ⟨rfl, Chg.refl _ _⟩
  have h1I : (s.size : Int) ≤ 24 := by omega
  by_cases h2 : s = dot1
  · have HX := Lib.hid (nameC_no (s := s) (fun h => h.2.2.1 h2))
    rw [HX.out]
    subst h2
    unfold dot1 at *
    go_enter Tryd.func104, Tryd.ntmps104
    go_wp2_with fail
    go_ret
    exact ⟨rfl, Chg.refl _ _⟩
  have h2n := txt_ne (l := [46]) h2
  by_cases h3 : s = dot2
  · have HX := Lib.hid (nameC_no (s := s) (fun h => h.2.2.2.1 h3))
    rw [HX.out]
    subst h3
    unfold dot2 at *
    go_enter Tryd.func104, Tryd.ntmps104
    go_wp2_with fail
    go_ret
    exact ⟨rfl, Chg.refl _ _⟩
  have h3n := txt_ne (l := [46, 46]) h3
  have hp : 1 ≤ s.size := by
    rcases Nat.eq_zero_or_pos s.size with h | h
    · exfalso; apply h0; apply ByteArray.ext; exact Array.eq_empty_of_size_eq_zero h
    · exact h
  have HOK := Lib.hid (show nameOk s ↔ badAt s.data.toList = none from ⟨fun h => h.2.2.2.2, fun h => ⟨hp, by omega, h2, h3, h⟩⟩)
  clear h0 h2 h3
  go_enter Tryd.func104, Tryd.ntmps104
  obtain ⟨cap, W, hcv, hcw, hcap, hcell⟩ := to_bytes w s
  have HCW := Lib.hid hcw
  have HCC := Lib.hid (contains_any w.heap.size s.size cap s.data.toList Array.length_toList.symm hcap hs W hcell)
  obtain ⟨q2, q2l⟩ := (HE.out.keepN hcw).get (c := 4) (by simp)
  simp only [gl] at q2 q2l
  clear hcw hcap hcell
  cases hb : badAt s.data.toList with
  | none =>
    have HX := Lib.hid (nameC_yes (HOK.out.2 hb))
    rw [hb] at HCC
    clear hb
    go_wp2_with fail
    refine HCC.out.mono ?_
    rintro e w2 ⟨rfl, rfl⟩
    go_wp2_with fail
    go_ret
    exact ⟨by rw [HX.out]; rfl, HCW.out⟩
  | some k =>
    have HX := Lib.hid (nameC_no (s := s) (fun h => by have := HOK.out.1 h; rw [hb] at this; cases this))
    rw [hb] at HCC
    clear hb
    go_wp2_with fail
    refine HCC.out.mono ?_
    rintro e w2 ⟨rfl, rfl⟩
    go_wp2_with fail
    go_ret
    exact ⟨by rw [HX.out]; rfl, HCW.out⟩
end Go.Proofs.YtofhnglgebllbaaDoor
