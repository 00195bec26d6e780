/- package call: a request written on the wire: Encode, by contract. -/
import Derived.Test.YtofhnglgebllbaaDoorXdr4
import Derived.Test.YtofhnglgebllbaaDoorCoded3
namespace Go.Proofs.YtofhnglgebllbaaDoor
open Go.RowKit Go.Lib
set_option linter.unusedVariables false
set_option linter.unusedSimpArgs false

theorem of_listE {s : ByteArray} {l : List UInt8} (h : s.data.toList = l) : s = ⟨l.toArray⟩ := by
  obtain ⟨d⟩ := s
  simp only at h
  subst h
  rfl
def reqV (id : Int) (t : ByteArray) : Value := .agg #[.int .i64 id, .string t]
/-- A request as a text, its error. -/
def reqE (id : Int) (text : ByteArray) : ByteArray × Nat :=
  if id < 0 then (⟨#[]⟩, 2) else if 4000 < 8 + (itemB text).size then (⟨#[]⟩, 9) else (bigB 8 id.toNat ++ itemB text, 0)
theorem reqE_le (id : Int) (text : ByteArray) : (reqE id text).2 ≤ 15 := by unfold reqE; split; simp; split <;> simp
theorem wLong_new (m : Nat) : wLong [] (m : Int) = (bigL 8 m, 0) := by
  unfold wLong wPut
  rw [if_neg (by omega), Int.toNat_natCast, bigB_size, if_neg (by simp)]
  simp [bigB]
set_option maxHeartbeats 1000000 in
set_option maxRecDepth 100000 in
theorem encode_any {B : Nat} (ad : Nat → Addr) (id : Int) (text : ByteArray) (w : World) (he : Env B ad [2, 9] w) (hn : id ≤ 9223372036854775807) (ht : text.size ≤ 1000000) :
    Calls Tryd.prog 83 #[reqV id text] w fun e w' => e = .returned (.tuple #[.string (reqE id text).1, errV ad (reqE id text).2]) ∧ Chg Nil w w' := by
  have ha := ((Chg.refl Nil w).alloc (.cells #[.int .i64 id, .string text] 149)).alloc (.cells #[.slice none 0 0] 248)
  have HE := Lib.hid (he.keepN ha)
  have HA := Lib.hid ha
  have hBs := he.size
  have HR := Lib.hid (block_alloc w (.cells #[.int .i64 id, .string text] 149))
  have hw := wr_new (w.alloc (.cells #[.int .i64 id, .string text] 149)) 248
  simp only [World.size_alloc] at hw
  have HW := Lib.hid hw
  clear he ha hw
  unfold reqV
  by_cases hbad : id < 0
  · have HX := Lib.hid (show reqE id text = (⟨#[]⟩, 2) from if_pos hbad)
    have HL := Lib.hid (show wLong [] id = ([], 2) from if_pos hbad)
    clear hbad
    go_enter Tryd.func83, Tryd.ntmps83
    go_wp2_with fail
    refine (wlong_any (B := B) ad _ id [] _ _ HE.out HW.out (by simp) hn).mono ?_
    rintro e w2 ⟨rfl, hc2, _⟩
    rw [HL.out, errV_pos (ad := ad) (c := 2) (by decide)]
    go_wp2_with fail
    go_ret2
    exact ⟨by rw [HX.out]; rfl, HA.out.trans hc2 (fun x hx e => by have : x = _ := e; omega)⟩
  obtain ⟨m, rfl⟩ : ∃ m : Nat, id = m := ⟨id.toNat, by omega⟩
  have hml : m ≤ 9223372036854775807 := by omega
  have HL := Lib.hid (wLong_new m)
  have h8 : (bigL 8 m).length = 8 := bigL_len 8 m
  by_cases hf : 4000 < 8 + (itemB text).size
  case' pos =>
    have HX := Lib.hid (show reqE m text = (⟨#[]⟩, 9) by unfold reqE; rw [if_neg (by omega), if_pos hf])
    have HB := Lib.hid (show wBytes (bigL 8 m) text = (bigL 8 m, 9) by unfold wBytes wPut; rw [h8, if_pos hf])
  case' neg =>
    have HX := Lib.hid (show reqE m text = (bigB 8 m ++ itemB text, 0) by unfold reqE; rw [if_neg (by omega), if_neg hf, Int.toNat_natCast])
    have HB := Lib.hid (show wBytes (bigL 8 m) text = (bigL 8 m ++ (itemB text).data.toList, 0) by unfold wBytes wPut; rw [h8, if_neg hf])
  all_goals
    clear hf hbad
    go_enter Tryd.func83, Tryd.ntmps83
    go_wp2_with fail
    refine (wlong_any (B := B) ad _ m [] _ _ HE.out HW.out (by simp) hn).mono ?_
    rintro e w2 ⟨rfl, hc2, S2, ht2, hg2⟩
    rw [HL.out] at ht2 ⊢
    have hC2 : Chg Nil w w2 := HA.out.trans hc2 (fun x hx e => by have : x = w.heap.size + 1 := e; omega)
    have hr2 := (hc2.keep (block_alloc_old HR.out _) (fun e => by have : w.heap.size = w.heap.size + 1 := e; omega))
    have r1 := cell_of hr2 1
    have gr := lt_of_block hr2
    simp at r1
    have HT2 := Lib.hid ht2
    have HC2 := Lib.hid hC2
    have hS2 : ∀ x, S2 x → w.heap.size ≤ x := fun x hx => by
      rcases hg2 x hx with h | h
      · have : x = w.heap.size + 1 := h; omega
      · have := HA.out.size; omega
    have HS2 := Lib.hid hS2
    have HE2 := Lib.hid ((HE.out).keep hc2 (fun x e => by have : x = w.heap.size + 1 := e; omega))
    simp only [errV_zero]
    clear ht2 hC2 hc2 hr2 hS2 hg2
    go_wp2_with fail
    refine (wbytes_any (B := B) ad _ text (bigL 8 m) S2 w2 HE2.out HT2.out (by omega) ht).mono ?_
    rintro e w3 ⟨rfl, hc3, S3, ht3, hg3⟩
    rw [HB.out] at ht3 ⊢
    have HC3 := Lib.hid (HC2.out.trans hc3 (fun x hx e => by have := HS2.out x e; omega))
    have HT3 := Lib.hid ht3
    clear ht3 hc3 hg3
  · simp only [errV_zero]
    go_wp2_with fail
    refine (wtext_any _ _ S3 w3 HT3.out).mono ?_
    rintro e w4 ⟨rfl, hc4⟩
    go_wp2_with fail
    go_ret2
    refine ⟨?_, HC3.out.then hc4⟩
    rw [HX.out]
    have : (⟨(bigL 8 m ++ (itemB text).data.toList).toArray⟩ : ByteArray) = bigB 8 m ++ itemB text := (of_listE (by simp [bigB])).symm
    rw [this]; rfl
  · rw [errV_pos (ad := ad) (c := 9) (by decide)]
    go_wp2_with fail
    go_ret2
    exact ⟨by rw [HX.out]; rfl, HC3.out⟩

end Go.Proofs.YtofhnglgebllbaaDoor
