/- pigeonholesref2.Turns by contracts over the same plain list of owners as the program's table. -/
import Derived.Test.YtfekiagdnlnggaaDoorTurn
namespace Go.Proofs.YtfekiagdnlnggaaDoor
open Go.RowKit
set_option linter.unusedVariables false
set_option linter.unusedSimpArgs false

def lastC (p : Int × (Int × ByteArray)) : List Value := [.int .i64 p.1, .int .i64 p.2.1, .string p.2.2]
theorem lastC_len (p : Int × (Int × ByteArray)) : (lastC p).length = 3 := rfl

/-- The reference's table at block b. -/
structure TurnsAt (w : World) (b : Nat) (kv : Owners) (S : Nat → Prop) : Prop where
  at_ : ∃ v T Ss, w.heap[b]? = some (.cells #[v] T (0, 0)) ∧ SliceAt w v 165 3 kv.length (kv.flatMap lastC) Ss ∧ ¬ Ss b ∧ ∀ x, Ss x → S x
  own : S b
  lt : ∀ x, S x → x < w.heap.size

theorem TurnsAt.keep {S T : Nat → Prop} {w w' : World} {b : Nat} {kv : Owners} (h : TurnsAt w b kv S) (c : Chg T w w') (hd : ∀ x, S x → ¬ T x) : TurnsAt w' b kv S := by
  obtain ⟨⟨v, E, Ss, h1, h2, h3, h6⟩, h4, h5⟩ := h
  exact ⟨⟨v, E, Ss, c.keep h1 (hd b h4), h2.keep c (fun x hx => hd x (h6 x hx)), h3, h6⟩, h4, fun x hx => Nat.lt_of_lt_of_le (h5 x hx) c.size⟩

/-- Where an owner stands (-1: nowhere). -/
def idxOf (kv : Owners) (o : Int) : Int := match findA kv o 0 with | some (i, _) => i | none => -1
theorem findA_at {α β : Type} [DecidableEq α] {k : α} : ∀ {kv : List (α × β)} {i n : Nat} {v : β}, kv[n]? = some (k, v) → (∀ j, j < n → ∀ p, kv[j]? = some p → p.1 ≠ k) → findA kv k i = some (i + n, v)
  | [], _, _, _, h, _ => by cases h
  | p :: r, i, 0, v, h, _ => by
    simp only [List.getElem?_cons_zero, Option.some.injEq] at h
    subst h
    simp [findA]
  | p :: r, i, n + 1, v, h, hn => by
    have h0 := hn 0 (by omega) p rfl
    unfold findA
    rw [if_neg (fun e => h0 e.symm), findA_at (n := n) (by simpa using h) (fun j hj q hq => hn (j + 1) (by omega) q (by simpa using hq))]
    congr 2; omega
theorem findA_no {α β : Type} [DecidableEq α] {k : α} : ∀ {kv : List (α × β)} {i : Nat}, (∀ p ∈ kv, p.1 ≠ k) → findA kv k i = none
  | [], _, _ => rfl
  | p :: r, i, h => by
    unfold findA
    rw [if_neg (fun e => h p (List.mem_cons_self ..) e.symm), findA_no (fun q hq => h q (List.mem_cons_of_mem _ hq))]

def Find1 (kv : Owners) (o : Int) (i : Value) : Prop := ∃ k : Nat, k ≤ kv.length ∧ i = .int .i64 k ∧ ∀ j, j < k → ∀ p, kv[j]? = some p → p.1 ≠ o

set_option maxHeartbeats 1000000 in
theorem find_any (b : Nat) (o : Int) (kv : Owners) (S : Nat → Prop) (w : World) (ht : TurnsAt w b kv S) :
    Calls Tryd.prog 78 #[.pointer (some ⟨b, 0, none⟩), .int .i64 o] w fun e w' => e = .returned (.int .i64 (idxOf kv o)) ∧ w = w' := by
  obtain ⟨⟨v, E, Ss, hb, hs, _, _⟩, _, _⟩ := ht
  have hc := cell_of hb 0
  simp only [List.getElem?_toArray, List.getElem?_cons_zero] at hc
  obtain ⟨a, cap, rfl⟩ := hs.shape
  have hmx : kv.length ≤ 9223372036854775807 := by
    rcases Nat.eq_zero_or_pos kv.length with h | h
    · omega
    · obtain ⟨_, _, _, _, e, _, h1, h2, _⟩ := hs.place h
      unfold maxLen at h2; omega
  go_enter Tryd.func78, Tryd.ntmps78
  go_wp2_with fail
  go_loop [5] (fun i => Find1 kv o i) (fun i => (kv.length - intOf i).toNat)
  case atStart => exact ⟨0, Nat.zero_le _, rfl, fun j hj => absurd hj (Nat.not_lt_zero _)⟩
  case round =>
    obtain ⟨k, hk, rfl, hno⟩ := hrel
    have HNO := Lib.hid hno
    clear hno
    by_cases hlt : k < kv.length
    · obtain ⟨g, off, cap', cs, e, _, _, _, _, hcell, _⟩ := hs.place (by omega)
      cases e
      obtain ⟨p, hp⟩ : ∃ p, kv[k]? = some p := ⟨kv[k], List.getElem?_eq_getElem hlt⟩
      have h0 := hcell (k * 3 + 0) _ (by rw [flat_get lastC lastC_len kv k 0 p hp (by omega)]; rfl)
      simp only [Nat.add_zero, lastC] at h0
      have HP := Lib.hid hp
      have HS := Lib.hid hs
      clear hp hcell hs
      by_cases hpo : p.1 = o
      · have hq : (p.1 == o) = true := by simpa using hpo
        have e1 : idxOf kv o = k := by
          obtain ⟨p1, p2⟩ := p
          simp only at hpo; subst hpo
          simp only [idxOf]
          rw [findA_at (i := 0) (n := k) HP.out HNO.out]; simp
        have H1 := Lib.hid e1
        clear hpo e1
        go_wp2_with fail
        go_ret
        exact ⟨by rw [H1.out]; rfl, rfl⟩
      · have hq : (p.1 == o) = false := by simpa using hpo
        have HN := Lib.hid hpo
        clear hpo
        go_wp2_with fail
        go_round
        case rel => exact ⟨k + 1, by omega, by go_num, fun j hj q hq' => by
          rcases Nat.lt_or_ge j k with h | h
          · exact HNO.out j h q hq'
          · obtain rfl : j = k := by omega
            rw [HP.out] at hq'; cases hq'; exact HN.out⟩
        case measure => simp [intOf]; omega
    · have e1 : idxOf kv o = -1 := by
        simp only [idxOf]
        rw [findA_no (fun p hp => ?_)]
        obtain ⟨j, hj⟩ := List.getElem?_of_mem hp
        exact HNO.out j (by have := (List.getElem?_eq_some_iff.1 hj).1; omega) p hj
      have H1 := Lib.hid e1
      clear e1 hs
      go_wp2_with fail
      go_ret
      exact ⟨by rw [H1.out]; rfl, rfl⟩

/-- A table whose numbers are in range. -/
def Rng (kv : Owners) : Prop := ∀ p ∈ kv, 0 ≤ p.2.1 ∧ p.2.1 ≤ 4294967295

set_option maxHeartbeats 1000000 in
set_option maxRecDepth 100000 in
theorem rbegin_any (b : Nat) (o s : Int) (kv : Owners) (S : Nat → Prop) (w : World) (ht : TurnsAt w b kv S) (hr : Rng kv) :
    Calls Tryd.prog 34 #[.pointer (some ⟨b, 0, none⟩), .int .i64 o, .int .i64 s] w fun e w' =>
      e = .returned (.tuple #[.string (tBegin kv o s).1, .bool (tBegin kv o s).2.1, .int .i64 (tBegin kv o s).2.2]) ∧ w = w' := by
  have hfind := find_any b o kv S w ht
  obtain ⟨⟨v, E, Ss, hb, hs, _, _⟩, _, _⟩ := ht
  have hc := cell_of hb 0
  simp only [List.getElem?_toArray, List.getElem?_cons_zero] at hc
  obtain ⟨a, cap, rfl⟩ := hs.shape
  by_cases h0 : s < 0
  · have e1 : tBegin kv o s = (⟨#[]⟩, false, 2) := by simp [tBegin, h0]
    rw [e1]
    clear e1 hs hfind
    go_enter Tryd.func34, Tryd.ntmps34
    go_wp2_with fail
    go_ret3
    exact ⟨rfl, rfl⟩
  by_cases h1 : 4294967296 ≤ s
  · have e1 : tBegin kv o s = (⟨#[]⟩, false, 2) := by rw [tBegin, if_pos (by omega)]
    rw [e1]
    clear e1 hs hfind
    go_enter Tryd.func34, Tryd.ntmps34
    go_wp2_with fail
    go_ret3
    exact ⟨rfl, rfl⟩
  have hs' : ¬ (s < 0 ∨ 4294967295 < s) := by omega
  cases hf : findA kv o 0 with
  | none =>
    have hg := (findA_none hf).1
    simp only [idxOf, hf] at hfind
    have HF := Lib.hid hfind
    clear hfind
    by_cases hn : 30 ≤ kv.length
    · have e1 : tBegin kv o s = (⟨#[]⟩, false, 9) := by rw [tBegin, if_neg hs', hg]; exact if_pos hn
      rw [e1]
      clear e1 hs hf hg
      go_enter Tryd.func34, Tryd.ntmps34
      go_wp2_with fail
      refine HF.out.mono ?_
      rintro e w1 ⟨rfl, rfl⟩
      go_wp2_with fail
      go_ret3
      exact ⟨rfl, rfl⟩
    · have e1 : tBegin kv o s = (⟨#[]⟩, false, 0) := by rw [tBegin, if_neg hs', hg]; exact if_neg hn
      rw [e1]
      clear e1 hs hf hg
      go_enter Tryd.func34, Tryd.ntmps34
      go_wp2_with fail
      refine HF.out.mono ?_
      rintro e w1 ⟨rfl, rfl⟩
      go_wp2_with fail
      go_ret3
      exact ⟨rfl, rfl⟩
  | some x =>
    obtain ⟨i, q, r⟩ := x
    obtain ⟨n, e0, hp, hg, _⟩ := findA_some hf
    obtain rfl : i = n := by omega
    clear e0
    have hil := (List.getElem?_eq_some_iff.1 hp).1
    obtain ⟨hq0, hq1⟩ : 0 ≤ q ∧ q ≤ 4294967295 := hr _ (List.mem_of_getElem? hp)
    simp only [idxOf, hf] at hfind
    have HF := Lib.hid hfind
    obtain ⟨g, off, cap', cs, e, _, _, _, _, hcell, _⟩ := hs.place (by omega)
    cases e
    have c1 := hcell (i * 3 + 1) _ (by rw [flat_get lastC lastC_len kv i 1 _ hp (by omega)]; rfl)
    have c2 := hcell (i * 3 + 2) _ (by rw [flat_get lastC lastC_len kv i 2 _ hp (by omega)]; rfl)
    have a1 : off + (i * 3 + 1) = off + i * 3 + 1 := by omega
    have a2 : off + (i * 3 + 2) = off + i * 3 + 2 := by omega
    simp only [a1, a2] at c1 c2
    have hii : (0 : Int) ≤ (i : Int) := by omega
    clear hcell hs hfind hp hr a1 a2
    by_cases hsq : q = s
    · have hsn : ¬ s = nextSeq q := by unfold nextSeq; split <;> omega
      have e1 : tBegin kv o s = (r, true, 0) := by rw [tBegin, if_neg hs', hg]; exact (if_neg hsn).trans (if_pos hsq.symm)
      have hb1 : (q == s) = true := by simpa using hsq
      rw [e1]
      clear e1 hf hg hsq hsn
      go_enter Tryd.func34, Tryd.ntmps34
      go_wp2_with fail
      refine HF.out.mono ?_
      rintro e w1 ⟨rfl, rfl⟩
      go_wp2_with fail
      go_ret3
      exact ⟨rfl, rfl⟩
    · have hb1 : (q == s) = false := by simpa using hsq
      have hb2 : (q + 1 == 4294967296) = decide (q = 4294967295) := by rw [Bool.eq_iff_iff]; simp; omega
      by_cases hsn : s = nextSeq q
      · have e1 : tBegin kv o s = (⟨#[]⟩, false, 0) := by rw [tBegin, if_neg hs', hg]; exact if_pos hsn
        rw [e1]
        clear e1 hf hg hsq
        by_cases hqm : q = 4294967295
        · have hb3 : (q + 1 == 4294967296) = true := by simp; omega
          have hb4 : (s != 0) = false := by rw [hsn]; simp [nextSeq, hqm]
          clear hsn hqm hb2
          go_enter Tryd.func34, Tryd.ntmps34
          go_wp2_with fail
          refine HF.out.mono ?_
          rintro e w1 ⟨rfl, rfl⟩
          go_wp2_with fail
          go_ret3
          exact ⟨rfl, rfl⟩
        · have hb3 : (q + 1 == 4294967296) = false := by simp; omega
          have hb4 : (s != q + 1) = false := by rw [hsn]; simp [nextSeq, hqm]
          clear hsn hqm hb2
          go_enter Tryd.func34, Tryd.ntmps34
          go_wp2_with fail
          refine HF.out.mono ?_
          rintro e w1 ⟨rfl, rfl⟩
          go_wp2_with fail
          go_ret3
          exact ⟨rfl, rfl⟩
      · have e1 : tBegin kv o s = (⟨#[]⟩, false, 12) := by rw [tBegin, if_neg hs', hg]; exact (if_neg hsn).trans (if_neg (fun e => hsq e.symm))
        rw [e1]
        clear e1 hf hg hsq
        by_cases hqm : q = 4294967295
        · have hb3 : (q + 1 == 4294967296) = true := by simp; omega
          have hb4 : (s != 0) = true := by simp [nextSeq, hqm] at hsn ⊢; exact hsn
          clear hsn hqm hb2
          go_enter Tryd.func34, Tryd.ntmps34
          go_wp2_with fail
          refine HF.out.mono ?_
          rintro e w1 ⟨rfl, rfl⟩
          go_wp2_with fail
          go_ret3
          exact ⟨rfl, rfl⟩
        · have hb3 : (q + 1 == 4294967296) = false := by simp; omega
          have hb4 : (s != q + 1) = true := by simp [nextSeq, hqm] at hsn ⊢; exact hsn
          clear hsn hqm hb2
          go_enter Tryd.func34, Tryd.ntmps34
          go_wp2_with fail
          refine HF.out.mono ?_
          rintro e w1 ⟨rfl, rfl⟩
          go_wp2_with fail
          go_ret3
          exact ⟨rfl, rfl⟩
end Go.Proofs.YtfekiagdnlnggaaDoor
