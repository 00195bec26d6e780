/- names.Match by contract: the walk. -/
import Derived.Test.YtdhegblgghembaaDoorName15
import Derived.Test.YtdhegblgghembaaDoorName7
import Derived.BigQuiet
import Derived.Deep.QuietTactic
namespace Go.Proofs.YtdhegblgghembaaDoor
open Go.RowKit Go.Lib
set_option linter.unusedVariables false
set_option linter.unusedSimpArgs false

def RelMt (p s : ByteArray) (w : World) (v5 v6 v7 v8 : Value) (wr : World) : Prop :=
  ∃ (st fr : Int) (a b : Nat), v5 = .int .i64 st ∧ v6 = .int .i64 fr ∧ v7 = .int .i64 a ∧ v8 = .int .i64 b ∧ -1 ≤ st ∧ st ≤ p.size ∧ 0 ≤ fr ∧ fr ≤ s.size ∧ MInv p.data.toList s.data.toList st fr a b a b ∧ Chg Nil w wr
theorem sz (s : ByteArray) : s.data.toList.length = s.size := Array.length_toList
theorem drop_at {p : List UInt8} {a : Nat} {x : UInt8} (h : p[a]? = some x) : p.drop a = x :: p.drop (a + 1) := by
  obtain ⟨hal, ep⟩ := List.getElem?_eq_some_iff.1 h
  rw [List.drop_eq_getElem_cons hal, ep]
theorem bad_sign {p : List UInt8} {a : Nat} {x c : UInt8} (h : p[a]? = some x) (hx : x ≠ 42) (ho : okS x c = false) : ∀ t, ¬ Mt (p.drop a) (c :: t) := fun t => by
  rw [drop_at h]; exact no_sign hx ho
theorem bad_end {p : List UInt8} {a : Nat} {c : UInt8} (h : p.length ≤ a) : ∀ t, ¬ Mt (p.drop a) (c :: t) := fun t => by
  rw [List.drop_eq_nil_of_le h]; exact no_more
theorem trim_none (l : List UInt8) (c : UInt8) : Lib.trimB l c = [] ↔ ∀ b ∈ l, b = c := by
  unfold Lib.trimB Lib.trimLeftB Lib.trimRightB
  constructor
  · intro h b hb
    have h1 := dropWhile_all _ h
    rcases hr : l.reverse.dropWhile (fun x => x == c) with _ | ⟨a, r⟩
    · have := dropWhile_all _ hr b (by simpa using hb)
      simpa using this
    · have h2 := dropWhile_head _ _ _ hr
      have h3 := h1 a (by rw [hr]; simp)
      rw [h2] at h3; cases h3
  · intro h
    rw [dropWhile_none l.reverse (fun b hb => by rw [h b (by simpa using hb)]; simp)]
    rfl
theorem trim_star (s : ByteArray) (w : World) (hs : s.size ≤ 9223372036854775807) :
    Calls Tryd.prog 73 #[.string s, .string ⟨#[42]⟩] w fun e w' => e = .returned (.string ⟨(Lib.trimB s.data.toList 42).toArray⟩) ∧ Chg Nil w w' := by
  refine (Go.Proofs.Tryd.strings_Trim_one s 42 (by decide) w hs).mono ?_
  rintro e w' ⟨rfl, hb⟩
  refine ⟨rfl, ?_⟩
  rcases hb with rfl | rfl
  · exact Chg.refl _ _
  · exact (Chg.refl _ _).drew
theorem MInv.le {p s : List UInt8} {st fr pi i : Int} {a b : Nat} (h : MInv p s st fr pi i a b) : fr ≤ b := by
  obtain ⟨_, _, _, _, h | ⟨k, f, _, h2, h3, _⟩⟩ := h
  · omega
  · omega
theorem me_star {S P fr a b : Int} (h : fr ≤ b) (hb : b ≤ S) (ha : a < P) (ha0 : 0 ≤ a) : ((S - b) * (P + 1) + (P - (a + 1))).toNat < ((S - fr) * (P + 1) + (P - a)).toNat := by
  have h1 : (S - b) * (P + 1) ≤ (S - fr) * (P + 1) := Int.mul_le_mul_of_nonneg_right (by omega) (by omega)
  have h2 : 0 ≤ (S - b) * (P + 1) := Int.mul_nonneg (by omega) (by omega)
  omega
theorem me_sign {S P fr a : Int} (hb : fr ≤ S) (ha : a < P) (ha0 : 0 ≤ a) : ((S - fr) * (P + 1) + (P - (a + 1))).toNat < ((S - fr) * (P + 1) + (P - a)).toNat := by
  have h2 : 0 ≤ (S - fr) * (P + 1) := Int.mul_nonneg (by omega) (by omega)
  omega
theorem me_back {S P fr a st : Int} (hb : fr < S) (ha : a ≤ P) (ha0 : 0 ≤ a) (h0 : 0 ≤ st) (h1 : st ≤ P) : ((S - (fr + 1)) * (P + 1) + (P - (st + 1))).toNat < ((S - fr) * (P + 1) + (P - a)).toNat := by
  have h2 : 0 ≤ (S - (fr + 1)) * (P + 1) := Int.mul_nonneg (by omega) (by omega)
  have h3 : (S - fr) * (P + 1) = (S - (fr + 1)) * (P + 1) + (P + 1) := by
    rw [show S - fr = (S - (fr + 1)) + 1 by omega, Int.add_mul]; omega
  omega
theorem byte_neI {x : UInt8} {k : Nat} (hk : k < 256) (h : x ≠ UInt8.ofNat k) : (((x.toNat : Nat) : Int) == (k : Int)) = false := by
  rw [beq_eq_false_iff_ne]
  intro e
  apply h
  apply UInt8.toNat_inj.1
  rw [UInt8.toNat_ofNat', Nat.mod_eq_of_lt hk]
  omega
theorem byte_neB {x y : UInt8} (h : x ≠ y) : (((x.toNat : Nat) : Int) == ((y.toNat : Nat) : Int)) = false := by
  rw [beq_eq_false_iff_ne]
  intro e
  apply h
  apply UInt8.toNat_inj.1
  omega
theorem extract_all (s : ByteArray) (a : Nat) : (s.extract a s.size).data.toList = s.data.toList.drop a := by
  rw [ByteArray.data_extract, Array.toList_extract, List.extract_eq_take_drop, List.take_of_length_le]
  rw [List.length_drop, Array.length_toList]
  exact Nat.le_refl _
theorem trim_iff {p s : List UInt8} {l : List UInt8} (h : Mt p s ↔ ∀ x ∈ l, x = 42) : (⟨(Lib.trimB l 42).toArray⟩ : ByteArray) = ⟨#[]⟩ ↔ Mt p s := by
  rw [h, ← trim_none l 42]
  constructor
  · intro e
    have := congrArg (fun z => z.data.toList) e
    simpa using this
  · intro e
    rw [e]
set_option maxHeartbeats 4000000 in
set_option maxRecDepth 100000 in
theorem match_any (p s : ByteArray) (w : World) (hp : p.size ≤ 1000) (hs : s.size ≤ 1000) :
    Calls Tryd.prog 59 #[.string p, .string s] w fun e w' => e = .returned (.bool (mtB p.data.toList s.data.toList)) ∧ Chg Nil w w' := by
  go_enter Tryd.func59, Tryd.ntmps59
  go_wp2_with fail
  go_loopw [5, 6, 7, 8] (fun v5 v6 v7 v8 wr => RelMt p s w v5 v6 v7 v8 wr) (fun _ v6 v7 _ _ => (((s.size : Int) - RowKit.intOf v6) * ((p.size : Int) + 1) + ((p.size : Int) - RowKit.intOf v7)).toNat)
  case atStart => exact ⟨-1, 0, 0, 0, rfl, rfl, rfl, rfl, by omega, by omega, by omega, by omega, MInv.start _ _, Chg.refl _ _⟩
  case round =>
    obtain ⟨st, fr, a, b, rfl, rfl, rfl, rfl, hst0, hst1, hfr0, hfr1, hI, hC⟩ := hrel
    have HI := Lib.hid hI
    have HC := Lib.hid hC
    have hap : a ≤ p.size := by rw [← sz]; exact hI.2.2.1
    have hbs : b ≤ s.size := by rw [← sz]; exact hI.2.2.2.1
    have hfb : fr ≤ b := hI.le
    clear hI hC
    by_cases hlt : b < s.size
    · have j0 : (0 : Int) ≤ (b : Int) := by omega
      have j1 : (b : Int) < (s.size : Int) := by omega
      have HSB := Lib.hid (byte_list hlt)
      by_cases hpa : a < p.size
      · have i0 : (0 : Int) ≤ (a : Int) := by omega
        have i1 : (a : Int) < (p.size : Int) := by omega
        have HPA := Lib.hid (byte_list hpa)
        by_cases hx : p[a] = 42
        · have hxI : ((p[a].toNat : Nat) : Int) = 42 := by rw [hx]; rfl
          have HN := Lib.hid (HI.out.star (by rw [HPA.out, hx]))
          have HM := Lib.hid (me_star (S := s.size) (P := p.size) hfb (by omega) i1 i0)
          clear hx
          go_wp2_with fail
          exact ⟨⟨a, b, a + 1, b, rfl, rfl, by go_num, rfl, by omega, by omega, by omega, by omega, by simpa using HN.out, HC.out⟩, by simpa [RowKit.intOf] using HM.out⟩
        · have hxI : (((p[a].toNat : Nat) : Int) == 42) = false := byte_neI (k := 42) (by decide) hx
          have HX := Lib.hid hx
          by_cases hq : p[a] = 63
          · have hqI : ((p[a].toNat : Nat) : Int) = 63 := by rw [hq]; rfl
            have HN := Lib.hid (HI.out.sign HPA.out HSB.out hx (by rw [hq]; simp [okS]))
            have HM := Lib.hid (me_sign (S := s.size) (P := p.size) hfr1 i1 i0)
            clear hx hq
            go_wp2_with fail
            go_quiet (fail)
            go_wp2_with fail
            exact ⟨⟨st, fr, a + 1, b + 1, rfl, rfl, by go_num, by go_num, hst0, hst1, hfr0, hfr1, by simpa using HN.out, HC.out.drewsN _⟩, by simpa [RowKit.intOf] using HM.out⟩
          · have hqI : (((p[a].toNat : Nat) : Int) == 63) = false := byte_neI (k := 63) (by decide) hq
            by_cases hy : p[a] = s[b]
            · have hyI : (((p[a].toNat : Nat) : Int) == ((s[b].toNat : Nat) : Int)) = true := by rw [hy]; simp
              have HN := Lib.hid (HI.out.sign HPA.out HSB.out hx (by rw [hy]; simp [okS]))
              have HM := Lib.hid (me_sign (S := s.size) (P := p.size) hfr1 i1 i0)
              clear hx hq hy
              go_wp2_with fail
              go_quiet (fail)
              go_wp2_with fail
              exact ⟨⟨st, fr, a + 1, b + 1, rfl, rfl, by go_num, by go_num, hst0, hst1, hfr0, hfr1, by simpa using HN.out, HC.out.drewsN _⟩, by simpa [RowKit.intOf] using HM.out⟩
            · have hyI : (((p[a].toNat : Nat) : Int) == ((s[b].toNat : Nat) : Int)) = false := byte_neB hy
              have HB := Lib.hid (bad_sign (c := s[b]) HPA.out hx (by simp [okS, hq, hy]))
              clear hx hq hy
              by_cases hst : 0 ≤ st
              · obtain ⟨a', b', hN, ha', hf0, hf1⟩ := HI.out.back hst HSB.out HB.out
                rw [sz] at hf1
                have ea : ((a' : Nat) : Int) = st + 1 := hN.1.symm
                have eb : ((b' : Nat) : Int) = fr + 1 := hN.2.1.symm
                have HN := Lib.hid hN
                have HM := Lib.hid (me_back (S := s.size) (P := p.size) (a := a) hf1 (by omega) (by omega) hst hst1)
                clear hN
                go_wp2_with fail
                go_quiet (fail)
                go_wp2_with fail
                exact ⟨⟨st, fr + 1, a', b', rfl, by go_num, by rw [ea], by rw [eb], hst0, hst1, by omega, by omega, by rw [ea, eb]; exact HN.out, HC.out.drewsN _⟩, by simpa [RowKit.intOf] using HM.out⟩
              · have HN := Lib.hid (HI.out.none (by omega) HSB.out HB.out)
                go_wp2_with fail
                go_quiet (fail)
                go_wp2_with fail
                go_ret
                exact ⟨by rw [mtB_no HN.out]; rfl, HC.out.drewsN _⟩
      · have HB := Lib.hid (bad_end (p := p.data.toList) (a := a) (c := s[b]) (by rw [sz]; omega))
        have hpaI : decide (a < p.size) = false := by simpa using hpa
        have hpaJ : ¬ (a : Int) < (p.size : Int) := by omega
        by_cases hst : 0 ≤ st
        · obtain ⟨a', b', hN, ha', hf0, hf1⟩ := HI.out.back hst HSB.out HB.out
          rw [sz] at hf1
          have ea : ((a' : Nat) : Int) = st + 1 := hN.1.symm
          have eb : ((b' : Nat) : Int) = fr + 1 := hN.2.1.symm
          have HN := Lib.hid hN
          have HM := Lib.hid (me_back (S := s.size) (P := p.size) (a := a) hf1 (by omega) (by omega) hst hst1)
          clear hN
          go_wp2_with fail
          go_quiet (fail)
          go_wp2_with fail
          exact ⟨⟨st, fr + 1, a', b', rfl, by go_num, by rw [ea], by rw [eb], hst0, hst1, by omega, by omega, by rw [ea, eb]; exact HN.out, HC.out.drewsN _⟩, by simpa [RowKit.intOf] using HM.out⟩
        · have HN := Lib.hid (HI.out.none (by omega) HSB.out HB.out)
          go_wp2_with fail
          go_quiet (fail)
          go_wp2_with fail
          go_ret
          exact ⟨by rw [mtB_no HN.out]; rfl, HC.out.drewsN _⟩
    · obtain rfl : b = s.size := by omega
      have hd := HI.out
      rw [← sz s] at hd
      have hm := hd.done
      clear hd
      rw [← extract_all] at hm
      have hQ := trim_iff hm
      have HQ := Lib.hid hQ
      have hae : (p.extract a p.size).size ≤ 9223372036854775807 := by rw [ByteArray.size_extract]; omega
      have i0 : (0 : Int) ≤ (a : Int) := by omega
      have i1 : (a : Int) ≤ (p.size : Int) := by omega
      clear hm hQ
      go_wp2_with fail
      refine (trim_star _ _ hae).mono ?_
      rintro e w2 ⟨rfl, hc2⟩
      obtain ⟨Z, hZ⟩ : ∃ Z, Z = (⟨(Lib.trimB (p.extract a p.size).data.toList 42).toArray⟩ : ByteArray) := ⟨_, rfl⟩
      rw [← hZ] at HQ ⊢
      clear hZ
      have HK := Lib.hid (HC.out.then hc2)
      clear hc2
      by_cases hz : Z = ⟨#[]⟩
      · have HY := Lib.hid (HQ.out.1 hz)
        subst hz
        go_wp2_with fail
        go_ret
        exact ⟨by rw [mtB_yes HY.out]; rfl, HK.out⟩
      · have HY := Lib.hid (fun h => hz (HQ.out.2 h))
        have hzt := txt_ne (l := []) hz
        clear hz
        go_wp2_with fail
        go_ret
        exact ⟨by rw [mtB_no HY.out]; rfl, HK.out⟩
end Go.Proofs.YtdhegblgghembaaDoor
