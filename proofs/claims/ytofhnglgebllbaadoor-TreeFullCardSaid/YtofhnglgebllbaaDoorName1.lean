/- package names: sign, and what slices.ContainsFunc does with it, by contract. -/
import Derived.Test.YtofhnglgebllbaaDoorSteps
import Derived.IntWalk
namespace Go.Proofs.YtofhnglgebllbaaDoor
open Go.RowKit Go.Lib
set_option linter.unusedVariables false
set_option linter.unusedSimpArgs false

/-- Is a byte a name's? -/
def signN (n : Nat) : Bool := decide (97 ≤ n ∧ n ≤ 122) || decide (65 ≤ n ∧ n ≤ 90) || decide (48 ≤ n ∧ n ≤ 57) || n == 46 || n == 45 || n == 95
def lowN (n : Nat) : Int := bits .or .u8 (n : Int) 32
theorem low_letter : ∀ n : Fin 256, (decide (97 ≤ lowN n.val) && decide (lowN n.val ≤ 122)) = (decide (97 ≤ n.val ∧ n.val ≤ 122) || decide (65 ≤ n.val ∧ n.val ≤ 90)) := by decide +kernel
set_option maxHeartbeats 4000000 in
theorem sign_any (n : Nat) (hn : n < 256) (w : World) : Calls Tryd.prog 173 #[.int .u8 n] w fun e w' => e = .returned (.bool (signN n)) ∧ w = w' := by
  have hl := low_letter ⟨n, hn⟩
  simp only at hl
  obtain ⟨q, hq⟩ : ∃ q, q = bits .or .u8 (n : Int) 32 := ⟨_, rfl⟩
  have hq2 : lowN n = q := hq.symm
  rw [hq2] at hl
  have hS : signN n = ((decide (97 ≤ q) && decide (q ≤ 122)) || decide (48 ≤ n ∧ n ≤ 57) || n == 46 || n == 45 || n == 95) := by unfold signN; rw [hl]
  have HS := Lib.hid hS
  have hbo : bits .or .u8 (n : Int) 32 = q := hq.symm
  clear hl hq hq2 hS
  by_cases h1 : 97 ≤ q
  · by_cases h2 : q ≤ 122
    · have HX := Lib.hid (show signN n = true by rw [HS.out]; simp [h1, h2])
      go_enter Tryd.func173, Tryd.ntmps173
      go_wp2_with fail
      go_ret
      exact ⟨by rw [HX.out]; rfl, rfl⟩
    · have hB : decide (q ≤ 122) = false := by simpa using h2
      have HQ := Lib.hid (show (decide (97 ≤ q) && decide (q ≤ 122)) = false by rw [hB, Bool.and_false])
      clear h2
      by_cases d1 : 48 ≤ n
      · by_cases d2 : n ≤ 57
        · have HX := Lib.hid (show signN n = true by rw [HS.out]; simp [d1, d2])
          have e1 : (48 : Int) ≤ (n : Int) := by omega
          have e2 : (n : Int) ≤ 57 := by omega
          clear d1 d2
          go_enter Tryd.func173, Tryd.ntmps173
          go_wp2_with fail
          go_ret
          exact ⟨by rw [HX.out]; rfl, rfl⟩
        · have e1 : (48 : Int) ≤ (n : Int) := by omega
          have e2 : decide ((n : Int) ≤ 57) = false := by simp; omega
          have HD := Lib.hid (show decide (48 ≤ n ∧ n ≤ 57) = false by simp; omega)
          clear d1
          by_cases n46 : n = 46
          · have HX := Lib.hid (show signN n = true by rw [HS.out]; simp [n46])
            have s46 : ((n : Int) == 46) = true := by simp; omega
            clear n46 
            go_enter Tryd.func173, Tryd.ntmps173
            go_wp2_with fail
            go_ret
            exact ⟨by rw [HX.out]; rfl, rfl⟩
          by_cases n45 : n = 45
          · have HX := Lib.hid (show signN n = true by rw [HS.out]; simp [n45])
            have s45 : ((n : Int) == 45) = true := by simp; omega
            have s46 : ((n : Int) == 46) = false := by simp; omega
            clear n45 n46
            go_enter Tryd.func173, Tryd.ntmps173
            go_wp2_with fail
            go_ret
            exact ⟨by rw [HX.out]; rfl, rfl⟩
          by_cases n95 : n = 95
          · have HX := Lib.hid (show signN n = true by rw [HS.out]; simp [n95])
            have s95 : ((n : Int) == 95) = true := by simp; omega
            have s46 : ((n : Int) == 46) = false := by simp; omega
            have s45 : ((n : Int) == 45) = false := by simp; omega
            clear n95 n46 n45
            go_enter Tryd.func173, Tryd.ntmps173
            go_wp2_with fail
            go_ret
            exact ⟨by rw [HX.out]; rfl, rfl⟩
          have HX := Lib.hid (show signN n = false by rw [HS.out, HD.out, HQ.out]; simp [n46, n45, n95])
          have s46 : ((n : Int) == 46) = false := by simp; omega
          have s45 : ((n : Int) == 45) = false := by simp; omega
          have s95 : ((n : Int) == 95) = false := by simp; omega
          clear n46 n45 n95
          go_enter Tryd.func173, Tryd.ntmps173
          go_wp2_with fail
          go_ret
          exact ⟨by rw [HX.out]; rfl, rfl⟩
      · have e1 : decide ((48 : Int) ≤ (n : Int)) = false := by simp; omega
        have HD := Lib.hid (show decide (48 ≤ n ∧ n ≤ 57) = false by simp; omega)
        clear d1
        by_cases n46 : n = 46
        · have HX := Lib.hid (show signN n = true by rw [HS.out]; simp [n46])
          have s46 : ((n : Int) == 46) = true := by simp; omega
          clear n46 
          go_enter Tryd.func173, Tryd.ntmps173
          go_wp2_with fail
          go_ret
          exact ⟨by rw [HX.out]; rfl, rfl⟩
        by_cases n45 : n = 45
        · have HX := Lib.hid (show signN n = true by rw [HS.out]; simp [n45])
          have s45 : ((n : Int) == 45) = true := by simp; omega
          have s46 : ((n : Int) == 46) = false := by simp; omega
          clear n45 n46
          go_enter Tryd.func173, Tryd.ntmps173
          go_wp2_with fail
          go_ret
          exact ⟨by rw [HX.out]; rfl, rfl⟩
        by_cases n95 : n = 95
        · have HX := Lib.hid (show signN n = true by rw [HS.out]; simp [n95])
          have s95 : ((n : Int) == 95) = true := by simp; omega
          have s46 : ((n : Int) == 46) = false := by simp; omega
          have s45 : ((n : Int) == 45) = false := by simp; omega
          clear n95 n46 n45
          go_enter Tryd.func173, Tryd.ntmps173
          go_wp2_with fail
          go_ret
          exact ⟨by rw [HX.out]; rfl, rfl⟩
        have HX := Lib.hid (show signN n = false by rw [HS.out, HD.out, HQ.out]; simp [n46, n45, n95])
        have s46 : ((n : Int) == 46) = false := by simp; omega
        have s45 : ((n : Int) == 45) = false := by simp; omega
        have s95 : ((n : Int) == 95) = false := by simp; omega
        clear n46 n45 n95
        go_enter Tryd.func173, Tryd.ntmps173
        go_wp2_with fail
        go_ret
        exact ⟨by rw [HX.out]; rfl, rfl⟩
  · have hA : decide (97 ≤ q) = false := by simpa using h1
    have HQ := Lib.hid (show (decide (97 ≤ q) && decide (q ≤ 122)) = false by rw [hA, Bool.false_and])
    clear h1
    by_cases d1 : 48 ≤ n
    · by_cases d2 : n ≤ 57
      · have HX := Lib.hid (show signN n = true by rw [HS.out]; simp [d1, d2])
        have e1 : (48 : Int) ≤ (n : Int) := by omega
        have e2 : (n : Int) ≤ 57 := by omega
        clear d1 d2
        go_enter Tryd.func173, Tryd.ntmps173
        go_wp2_with fail
        go_ret
        exact ⟨by rw [HX.out]; rfl, rfl⟩
      · have e1 : (48 : Int) ≤ (n : Int) := by omega
        have e2 : decide ((n : Int) ≤ 57) = false := by simp; omega
        have HD := Lib.hid (show decide (48 ≤ n ∧ n ≤ 57) = false by simp; omega)
        clear d1
        by_cases n46 : n = 46
        · have HX := Lib.hid (show signN n = true by rw [HS.out]; simp [n46])
          have s46 : ((n : Int) == 46) = true := by simp; omega
          clear n46 
          go_enter Tryd.func173, Tryd.ntmps173
          go_wp2_with fail
          go_ret
          exact ⟨by rw [HX.out]; rfl, rfl⟩
        by_cases n45 : n = 45
        · have HX := Lib.hid (show signN n = true by rw [HS.out]; simp [n45])
          have s45 : ((n : Int) == 45) = true := by simp; omega
          have s46 : ((n : Int) == 46) = false := by simp; omega
          clear n45 n46
          go_enter Tryd.func173, Tryd.ntmps173
          go_wp2_with fail
          go_ret
          exact ⟨by rw [HX.out]; rfl, rfl⟩
        by_cases n95 : n = 95
        · have HX := Lib.hid (show signN n = true by rw [HS.out]; simp [n95])
          have s95 : ((n : Int) == 95) = true := by simp; omega
          have s46 : ((n : Int) == 46) = false := by simp; omega
          have s45 : ((n : Int) == 45) = false := by simp; omega
          clear n95 n46 n45
          go_enter Tryd.func173, Tryd.ntmps173
          go_wp2_with fail
          go_ret
          exact ⟨by rw [HX.out]; rfl, rfl⟩
        have HX := Lib.hid (show signN n = false by rw [HS.out, HD.out, HQ.out]; simp [n46, n45, n95])
        have s46 : ((n : Int) == 46) = false := by simp; omega
        have s45 : ((n : Int) == 45) = false := by simp; omega
        have s95 : ((n : Int) == 95) = false := by simp; omega
        clear n46 n45 n95
        go_enter Tryd.func173, Tryd.ntmps173
        go_wp2_with fail
        go_ret
        exact ⟨by rw [HX.out]; rfl, rfl⟩
    · have e1 : decide ((48 : Int) ≤ (n : Int)) = false := by simp; omega
      have HD := Lib.hid (show decide (48 ≤ n ∧ n ≤ 57) = false by simp; omega)
      clear d1
      by_cases n46 : n = 46
      · have HX := Lib.hid (show signN n = true by rw [HS.out]; simp [n46])
        have s46 : ((n : Int) == 46) = true := by simp; omega
        clear n46 
        go_enter Tryd.func173, Tryd.ntmps173
        go_wp2_with fail
        go_ret
        exact ⟨by rw [HX.out]; rfl, rfl⟩
      by_cases n45 : n = 45
      · have HX := Lib.hid (show signN n = true by rw [HS.out]; simp [n45])
        have s45 : ((n : Int) == 45) = true := by simp; omega
        have s46 : ((n : Int) == 46) = false := by simp; omega
        clear n45 n46
        go_enter Tryd.func173, Tryd.ntmps173
        go_wp2_with fail
        go_ret
        exact ⟨by rw [HX.out]; rfl, rfl⟩
      by_cases n95 : n = 95
      · have HX := Lib.hid (show signN n = true by rw [HS.out]; simp [n95])
        have s95 : ((n : Int) == 95) = true := by simp; omega
        have s46 : ((n : Int) == 46) = false := by simp; omega
        have s45 : ((n : Int) == 45) = false := by simp; omega
        clear n95 n46 n45
        go_enter Tryd.func173, Tryd.ntmps173
        go_wp2_with fail
        go_ret
        exact ⟨by rw [HX.out]; rfl, rfl⟩
      have HX := Lib.hid (show signN n = false by rw [HS.out, HD.out, HQ.out]; simp [n46, n45, n95])
      have s46 : ((n : Int) == 46) = false := by simp; omega
      have s45 : ((n : Int) == 45) = false := by simp; omega
      have s95 : ((n : Int) == 95) = false := by simp; omega
      clear n46 n45 n95
      go_enter Tryd.func173, Tryd.ntmps173
      go_wp2_with fail
      go_ret
      exact ⟨by rw [HX.out]; rfl, rfl⟩

set_option maxHeartbeats 1000000 in
theorem notSign_any (n : Nat) (hn : n < 256) (w : World) : Calls Tryd.prog 172 #[.int .u8 n] w fun e w' => e = .returned (.bool (!(signN n))) ∧ w = w' := by
  go_enter Tryd.func172, Tryd.ntmps172
  go_wp2_with fail
  refine (sign_any n hn w).mono ?_
  rintro e w1 ⟨rfl, rfl⟩
  go_wp2_with fail
  go_ret
  exact ⟨rfl, rfl⟩
/-- Where the first byte lies that is no name's. -/
def badAt (l : List UInt8) : Option Nat := l.findIdx? fun b => !(signN b.toNat)
def ixI : Option Nat → Int
  | some k => (k : Int)
  | none => -1
theorem take_snoc1 {l : List UInt8} {k : Nat} {f : UInt8} (h : l[k]? = some f) : l.take (k + 1) = l.take k ++ [f] := by rw [List.take_add_one, h]; rfl
def RelIx (l : List UInt8) (w : World) (i : Value) (wr : World) : Prop := ∃ k : Nat, k ≤ l.length ∧ i = .int .i64 k ∧ w = wr ∧ ∀ b ∈ l.take k, signN b.toNat = true
set_option maxHeartbeats 2000000 in
set_option maxRecDepth 100000 in
theorem indexFunc_any (g n c : Nat) (l : List UInt8) (hl : n = l.length) (hc : n ≤ c) (h63 : n ≤ 9223372036854775807) (w : World) (hcell : ∀ k b, l[k]? = some b → w.cell? ⟨g, k, none⟩ = some (.int .u8 b.toNat)) :
    Calls Tryd.prog 207 #[.slice (some ⟨g, 0, none⟩) n c, .func (.func 172) #[] #[]] w fun e w' => e = .returned (.int .i64 (ixI (badAt l))) ∧ w = w' := by
  have HL := Lib.hid hl
  have HCE := Lib.hid hcell
  clear hl hcell
  go_enter Tryd.func207, Tryd.ntmps207
  go_wp2_with fail
  go_loopw [8] (fun i wr => RelIx l w i wr) (fun i _ => (n - RowKit.intOf i).toNat)
  case atStart => exact ⟨0, Nat.zero_le _, rfl, rfl, by simp⟩
  case round =>
    obtain ⟨k, hk, rfl, rfl, hall⟩ := hrel
    have HA := Lib.hid hall
    clear hall
    have hkn : k ≤ n := by rw [HL.out]; exact hk
    by_cases hlt : k < n
    · obtain ⟨b, hb⟩ : ∃ b, l[k]? = some b := ⟨l[k]'(by rw [← HL.out]; exact hlt), List.getElem?_eq_getElem _⟩
      have c0 := HCE.out k b hb
      have j0 : (0 : Int) ≤ (k : Int) := by omega
      have j1 : (k : Int) < (n : Int) := by omega
      have HB := Lib.hid hb
      clear hb
      have hb256 := b.toNat_lt
      by_cases hs : signN b.toNat = true
      · have HS := Lib.hid hs
        clear hs
        go_wp2_with fail
        refine (notSign_any b.toNat hb256 _).mono ?_
        rintro e w1 ⟨rfl, rfl⟩
        rw [HS.out]
        go_wp2_with fail
        go_roundw
        case rel => exact ⟨k + 1, by rw [← HL.out]; omega, by go_num, rfl, fun x hx => by
          rw [take_snoc1 HB.out] at hx
          rcases List.mem_append.1 hx with hx | hx
          · exact HA.out x hx
          · rw [List.mem_singleton.1 hx]; exact HS.out⟩
        case measure => simp [RowKit.intOf]; omega
      · have hs2 : signN b.toNat = false := by simpa using hs
        have HS := Lib.hid hs2
        have HX := Lib.hid (show badAt l = some k by
          unfold badAt
          rw [List.findIdx?_eq_some_iff_getElem]
          obtain ⟨hkl, e⟩ := List.getElem?_eq_some_iff.1 HB.out
          refine ⟨hkl, by rw [e, hs2]; rfl, fun j hj => ?_⟩
          have := HA.out (l[j]'(by omega)) (by rw [List.mem_iff_getElem?]; exact ⟨j, by rw [List.getElem?_take, if_pos hj]; exact List.getElem?_eq_getElem _⟩)
          simp [this])
        clear hs hs2
        go_wp2_with fail
        refine (notSign_any b.toNat hb256 _).mono ?_
        rintro e w1 ⟨rfl, rfl⟩
        rw [HS.out]
        go_wp2_with fail
        go_ret
        exact ⟨by rw [HX.out]; rfl, rfl⟩
    · obtain rfl : k = n := by omega
      have HX := Lib.hid (show badAt l = none by
        unfold badAt
        rw [List.findIdx?_eq_none_iff]
        intro x hx
        have := HA.out x (by rw [HL.out, List.take_of_length_le (Nat.le_refl _)]; exact hx)
        simp [this])
      go_wp2_with fail
      go_ret
      exact ⟨by rw [HX.out]; rfl, rfl⟩
set_option maxHeartbeats 2000000 in
theorem contains_any (g n c : Nat) (l : List UInt8) (hl : n = l.length) (hc : n ≤ c) (h63 : n ≤ 9223372036854775807) (w : World) (hcell : ∀ k b, l[k]? = some b → w.cell? ⟨g, k, none⟩ = some (.int .u8 b.toNat)) :
    Calls Tryd.prog 171 #[.slice (some ⟨g, 0, none⟩) n c, .func (.func 172) #[] #[]] w fun e w' => e = .returned (.bool (badAt l).isSome) ∧ w = w' := by
  have HI := Lib.hid (indexFunc_any g n c l hl hc h63 w hcell)
  clear hl hcell
  cases hb : badAt l with
  | none =>
    rw [hb] at HI
    simp only [ixI] at HI
    clear hb
    go_enter Tryd.func171, Tryd.ntmps171
    go_wp2_with fail
    refine HI.out.mono ?_
    rintro e w1 ⟨rfl, rfl⟩
    go_wp2_with fail
    go_ret
    exact ⟨rfl, rfl⟩
  | some k =>
    rw [hb] at HI
    simp only [ixI] at HI
    clear hb
    have hk0 : (0 : Int) ≤ (k : Int) := by omega
    go_enter Tryd.func171, Tryd.ntmps171
    go_wp2_with fail
    refine HI.out.mono ?_
    rintro e w1 ⟨rfl, rfl⟩
    go_wp2_with fail
    go_ret
    exact ⟨rfl, rfl⟩
end Go.Proofs.YtofhnglgebllbaaDoor
