/- package disk by contracts over a plain disk. -/
import Derived.Test.YtfekiagdnlnggaaDoorDiskLib
import Derived.Test.YtfekiagdnlnggaaDoorEnv
import Derived.StillTailTactics
namespace Go.Proofs.YtfekiagdnlnggaaDoor
open Go.RowKit
set_option linter.unusedVariables false
set_option linter.unusedSimpArgs false

structure PDisk where
  left : Int
  kept : List ByteArray
  now : List ByteArray
  waits : List (Int × ByteArray)
def waitC (p : Int × ByteArray) : List Value := [.int .i64 p.1, .string p.2]
theorem waitC_len (p : Int × ByteArray) : (waitC p).length = 2 := rfl
theorem waitC_ones (l : List (Int × ByteArray)) : ∀ u ∈ l.flatMap waitC, u.oneCell' = true := fun u hu => by
  obtain ⟨p, _, hp⟩ := List.mem_flatMap.1 hu
  simp [waitC] at hp; rcases hp with rfl | rfl <;> rfl
/-- The disk d lies at block b; the blocks it owns lie in S. -/
def DiskAt (w : World) (b : Nat) (d : PDisk) (S : Nat → Prop) : Prop :=
  (∃ vk vn vw T Sk Sn Sw, w.heap[b]? = some (.cells #[.int .i64 d.left, vk, vn, vw] T (0, 0)) ∧
    SliceAt w vk 9 1 d.kept.length (d.kept.flatMap strC) Sk ∧ SliceAt w vn 9 1 d.now.length (d.now.flatMap strC) Sn ∧ SliceAt w vw 175 2 d.waits.length (d.waits.flatMap waitC) Sw ∧
    (¬ Sk b ∧ ¬ Sn b ∧ ¬ Sw b) ∧ (∀ x, Sk x → ¬ Sn x) ∧ (∀ x, Sk x → ¬ Sw x) ∧ (∀ x, Sn x → ¬ Sw x) ∧ (∀ x, Sk x ∨ Sn x ∨ Sw x → S x)) ∧ S b ∧ (∀ x, S x → x < w.heap.size) ∧ (-1 ≤ d.left ∧ d.left ≤ 9223372036854775807)
theorem DiskAt.keep {w w' : World} {b : Nat} {d : PDisk} {S T : Nat → Prop} (h : DiskAt w b d S) (c : Chg T w w') (hd : ∀ x, S x → ¬ T x) : DiskAt w' b d S := by
  obtain ⟨⟨vk, vn, vw, T', Sk, Sn, Sw, hb, hk, hn, hw, h1, h2, h3, h4, h5⟩, hS, hl, hi⟩ := h
  have hz := c.size
  exact ⟨⟨vk, vn, vw, T', Sk, Sn, Sw, c.keep hb (hd b hS), hk.keep c (fun x hx => hd x (h5 x (.inl hx))), hn.keep c (fun x hx => hd x (h5 x (.inr (.inl hx)))), hw.keep c (fun x hx => hd x (h5 x (.inr (.inr hx)))), h1, h2, h3, h4, h5⟩, hS, fun x hx => Nat.lt_of_lt_of_le (hl x hx) hz, hi⟩
def DiskPost (S : Nat → Prop) (w : World) (b : Nat) (d : PDisk) (w' : World) : Prop := Chg S w w' ∧ ∃ S', DiskAt w' b d S' ∧ Grow S S' w w'
theorem disk_same {S : Nat → Prop} {w : World} {b : Nat} {d : PDisk} (ht : DiskAt w b d S) : DiskPost S w b d w := ⟨Chg.refl _ _, S, ht, Grow.refl _ _ _⟩
/-- The count of acts stored anew. -/
theorem disk_left {S : Nat → Prop} {w : World} {b : Nat} {d : PDisk} {l : Int} (ht : DiskAt w b d S) (h1 : -1 ≤ l) (h2 : l ≤ 9223372036854775807) : DiskPost S w b { d with left := l } (w.setCell ⟨b, 0, none⟩ (.int .i64 l)) := by
  obtain ⟨⟨vk, vn, vw, T', Sk, Sn, Sw, hb, hk, hn, hw, ⟨n1, n2, n3⟩, h3, h4, h5, h6⟩, hS, hl, hi⟩ := ht
  have hb2 := block_setCell hb 0 (.int .i64 l)
  simp at hb2
  have hc : Chg (· = b) w (w.setCell ⟨b, 0, none⟩ (.int .i64 l)) := (Chg.refl (· = b) w).setCell (p := ⟨b, 0, none⟩) (.inr rfl) _
  have hc2 : Chg S w (w.setCell ⟨b, 0, none⟩ (.int .i64 l)) := (Chg.refl S w).setCell (p := ⟨b, 0, none⟩) (.inr hS) _
  exact ⟨hc2, S, ⟨⟨vk, vn, vw, T', Sk, Sn, Sw, hb2, hk.keep hc (fun x hx e => n1 (e ▸ hx)), hn.keep hc (fun x hx e => n2 (e ▸ hx)), hw.keep hc (fun x hx e => n3 (e ▸ hx)), ⟨n1, n2, n3⟩, h3, h4, h5, h6⟩, hS, fun x hx => Nat.lt_of_lt_of_le (hl x hx) hc.size, h1, h2⟩, fun x hx => .inl hx⟩

def pSpend (d : PDisk) : PDisk × Bool := if d.left = 0 then (d, false) else if 0 < d.left then ({ d with left := d.left - 1 }, true) else (d, true)
theorem spend_any (b : Nat) (d : PDisk) (S : Nat → Prop) (w : World) (ht : DiskAt w b d S) :
    Calls Tryd.prog 85 #[.pointer (some ⟨b, 0, none⟩)] w fun e w' => e = .returned (.bool (pSpend d).2) ∧ DiskPost S w b (pSpend d).1 w' := by
  have HT := Lib.hid ht
  obtain ⟨⟨vk, vn, vw, T', Sk, Sn, Sw, hb, _⟩, _, _, hi1, hi2⟩ := ht
  have hc0 := cell_of hb 0
  have hf0 := free_of hb 0
  have hbl := lt_of_block hb
  simp only [List.getElem?_toArray, List.getElem?_cons_zero] at hc0
  clear hb
  obtain ⟨l, hl⟩ : ∃ l, l = d.left := ⟨_, rfl⟩
  rw [← hl] at hc0 hi1 hi2
  unfold pSpend
  rw [← hl]
  have HL := Lib.hid hl
  clear hl
  have hgo : l = 0 ∨ 0 < l ∨ (l < 0 ∧ l = -1) := by omega
  rcases hgo with rfl | hp | ⟨_, rfl⟩
  · rw [if_pos rfl]
    go_enter Tryd.func85, Tryd.ntmps85
    go_wp2_with fail
    go_ret
    exact ⟨rfl, disk_same HT.out⟩
  · have h0 : ¬ l = 0 := by omega
    have hw1 : IntKind.i64.wrap (l - 1) = l - 1 := IntWalk.i64_in _ (by omega)
    rw [if_neg h0, if_pos hp]
    go_enter Tryd.func85, Tryd.ntmps85
    go_wp2_with fail
    go_ret
    exact ⟨rfl, disk_left HT.out (by omega) (by omega)⟩
  · rw [if_neg (by decide), if_neg (by decide)]
    go_enter Tryd.func85, Tryd.ntmps85
    go_wp2_with fail
    go_ret
    exact ⟨rfl, disk_same HT.out⟩

def pFail (d : PDisk) (n : Int) : PDisk × Nat := if n < 0 then (d, 2) else ({ d with left := n }, 0)
theorem fail_any {B : Nat} (ad : Nat → Addr) (b : Nat) (n : Int) (d : PDisk) (S : Nat → Prop) (w : World) (he : Env B ad [2] w) (ht : DiskAt w b d S) (hn : n ≤ 9223372036854775807) :
    Calls Tryd.prog 84 #[.pointer (some ⟨b, 0, none⟩), .int .i64 n] w fun e w' => e = .returned (errV ad (pFail d n).2) ∧ DiskPost S w b (pFail d n).1 w' := by
  have HT := Lib.hid ht
  obtain ⟨h2, h2l⟩ := he.get (c := 2) (by simp)
  simp only [gl] at h2 h2l
  obtain ⟨⟨vk, vn, vw, T', Sk, Sn, Sw, hb, _⟩, _⟩ := ht
  have hc0 := cell_of hb 0
  have hf0 := free_of hb 0
  have hbl := lt_of_block hb
  simp only [List.getElem?_toArray, List.getElem?_cons_zero] at hc0
  clear hb he
  unfold pFail
  by_cases h : n < 0
  · rw [if_pos h]
    go_enter Tryd.func84, Tryd.ntmps84
    go_wp2_with fail
    go_ret
    exact ⟨rfl, disk_same HT.out⟩
  · rw [if_neg h]
    go_enter Tryd.func84, Tryd.ntmps84
    go_wp2_with fail
    go_ret
    exact ⟨rfl, disk_left HT.out (by omega) (by omega)⟩

theorem sectors_any (b : Nat) (d : PDisk) (S : Nat → Prop) (w : World) (ht : DiskAt w b d S) :
    Calls Tryd.prog 79 #[.pointer (some ⟨b, 0, none⟩)] w fun e w' => e = .returned (.int .i64 d.now.length) ∧ w' = w := by
  obtain ⟨⟨vk, vn, vw, T', Sk, Sn, Sw, hb, _, hn, _⟩, _⟩ := ht
  obtain ⟨a, cap, rfl⟩ := hn.shape
  have hc2 := cell_of hb 2
  simp at hc2
  clear hb hn
  go_enter Tryd.func79, Tryd.ntmps79
  go_wp2_with fail
  go_ret
  exact ⟨rfl, rfl⟩
theorem waiting_any (b : Nat) (d : PDisk) (S : Nat → Prop) (w : World) (ht : DiskAt w b d S) :
    Calls Tryd.prog 80 #[.pointer (some ⟨b, 0, none⟩)] w fun e w' => e = .returned (.int .i64 d.waits.length) ∧ w' = w := by
  obtain ⟨⟨vk, vn, vw, T', Sk, Sn, Sw, hb, _, _, hw, _⟩, _⟩ := ht
  obtain ⟨a, cap, rfl⟩ := hw.shape
  have hc2 := cell_of hb 3
  simp at hc2
  clear hb hw
  go_enter Tryd.func80, Tryd.ntmps80
  go_wp2_with fail
  go_ret
  exact ⟨rfl, rfl⟩

def pRead (d : PDisk) (n : Int) : ByteArray × Nat := if n < 0 ∨ d.now.length ≤ n then (⟨#[]⟩, 2) else (d.now.getD n.toNat ⟨#[]⟩, 0)
theorem kread_any {B : Nat} (ad : Nat → Addr) (b : Nat) (n : Int) (d : PDisk) (S : Nat → Prop) (w : World) (he : Env B ad [2] w) (ht : DiskAt w b d S) :
    Calls Tryd.prog 46 #[.pointer (some ⟨b, 0, none⟩), .int .i64 n] w fun e w' => e = .returned (.tuple #[.string (pRead d n).1, errV ad (pRead d n).2]) ∧ Chg Nil w w' := by
  obtain ⟨h2, h2l⟩ := he.get (c := 2) (by simp)
  simp only [gl] at h2 h2l
  obtain ⟨⟨vk, vn, vw, T', Sk, Sn, Sw, hb, _, hn, _⟩, _⟩ := ht
  have hbl := lt_of_block hb
  by_cases hbad : n < 0 ∨ d.now.length ≤ n
  · have e1 : pRead d n = (⟨#[]⟩, 2) := if_pos hbad
    rw [e1]
    obtain ⟨a, cap, rfl⟩ := hn.shape
    have hc2 := cell_of hb 2
    simp at hc2
    clear hb hn he e1
    have hgo : n < 0 ∨ (¬ n < 0 ∧ (d.now.length : Int) ≤ n) := by omega
    clear hbad
    rcases hgo with h | ⟨h, h'⟩
    all_goals
      go_enter Tryd.func46, Tryd.ntmps46
      go_wp2_with fail
      go_quiet (fail)
      go_wp2_with fail
      go_ret2
      exact ⟨rfl, Chg.drewN _ _⟩
  · have e1 : pRead d n = (d.now.getD n.toNat ⟨#[]⟩, 0) := if_neg hbad
    rw [e1]
    obtain ⟨k, rfl⟩ : ∃ k : Nat, n = k := ⟨n.toNat, by omega⟩
    have hk : k < d.now.length := by omega
    obtain ⟨z, hz⟩ : ∃ z, d.now[k]? = some z := ⟨d.now[k], List.getElem?_eq_getElem hk⟩
    have ez : d.now.getD (k : Int).toNat ⟨#[]⟩ = z := by simp [List.getD, hz]
    rw [ez]
    obtain ⟨g, off, cap, cs, rfl, hb9, hn9, hcm9, _, hcl9, hg9, hgl9⟩ := hn.place (by omega)
    have hel := SliceAt.elem strC_len hn hz 0 (.string z) rfl
    have hel1 := hel.1
    have hel2 := hel.2.1
    simp only [Nat.mul_one, Nat.add_zero] at hel1 hel2
    have hc2 := cell_of hb 2
    simp at hc2
    have h1 : ¬ ((k : Int) < 0) := by omega
    have h3 : ¬ ((d.now.length : Int) ≤ (k : Int)) := by omega
    have h4 : k < cap := by omega
    clear hb hn he e1 hbad hcl9 hel hb9 ez
    go_enter Tryd.func46, Tryd.ntmps46
    go_wp2_with fail
    go_ret2
    exact ⟨rfl, Chg.refl _ _⟩
end Go.Proofs.YtfekiagdnlnggaaDoor
