/- The walk of law CallCodes: whatever the number and the texts, it returns true. -/
import Derived.Test.YtofhnglgebllbaaDoorCall2
namespace Go.Proofs.YtofhnglgebllbaaDoor
open Go.RowKit Go.Lib
set_option linter.unusedVariables false
set_option linter.unusedSimpArgs false

theorem asks_text : reqE 1 ⟨#[97, 98]⟩ = (⟨#[0, 0, 0, 0, 0, 0, 0, 1, 0, 0, 0, 2, 97, 98, 0, 0]⟩, 0) := by kernel_rfl
set_option maxHeartbeats 1000000 in
set_option maxRecDepth 100000 in
theorem asks_ok {B : Nat} (ad : Nat → Addr) (w : World) (he : EnvA B ad w) : Calls Tryd.prog 45 #[] w fun e w' => e = .returned (.bool true) ∧ Chg Nil w w' := by
  have HE := Lib.hid (encode_any (B := B) ad 1 ⟨#[97, 98]⟩ w (he.env.sub (by decide)) (by decide) (by decide))
  rw [asks_text] at HE
  unfold reqV at HE
  clear he
  go_enter Tryd.func45, Tryd.ntmps45
  go_wp2_with fail
  refine HE.out.mono ?_
  rintro e w1 ⟨rfl, hc1⟩
  simp only [errV_zero]
  go_wp2_with fail
  go_ret
  exact ⟨rfl, hc1⟩
theorem reqE_small (id : Int) (text : ByteArray) : (reqE id text).1.size ≤ 4000 := by
  unfold reqE
  split
  · show (0 : Nat) ≤ 4000; omega
  · split
    · show (0 : Nat) ≤ 4000; omega
    · simp only [ByteArray.size_append, bigB_size]; omega

set_option maxHeartbeats 4000000 in
set_option maxRecDepth 100000 in
theorem callCodes_any {B : Nat} (ad : Nat → Addr) (id : Int) (text s : ByteArray) (w : World) (he : EnvA B ad w) (hi : id ≤ 9223372036854775807) (hl1 : text.size ≤ 9223372036854775807) (hl2 : s.size ≤ 9223372036854775807) :
    Calls Tryd.prog 13 #[.int .i64 id, .string text, .string s] w fun e w' => e = .returned (.bool true) ∧ Chg Nil w w' := by
  have HE := Lib.hid he
  clear he
  go_enter Tryd.func13, Tryd.ntmps13
  go_wp2_with fail
  refine (asks_ok (B := B) ad w HE.out).mono ?_
  rintro e w1 ⟨rfl, hc1⟩
  have HK1 := Lib.hid hc1
  clear hc1
  by_cases h1 : (5000 : Int) < (text.size : Int)
  · go_wp2_with fail
    go_ret
    exact ⟨rfl, HK1.out⟩
  by_cases h2 : (4100 : Int) < (s.size : Int)
  · go_wp2_with fail
    go_ret
    exact ⟨rfl, HK1.out⟩
  go_wp2_with fail
  refine (encode_any (B := B) ad id text w1 ((HE.out.keepN HK1.out).env.sub (by decide)) hi (by omega)).mono ?_
  rintro e w2 ⟨rfl, hc2⟩
  have HK2 := Lib.hid (HK1.out.then hc2)
  clear hc2
  have HX := Lib.hid (requestText_any id text w2 hi (by omega))
  have hts := reqE_small id text
  have hce := reqE_le id text
  have HQ := Lib.hid (reqD_enc (id := id) (text := text) · hi)
  obtain ⟨t, ht⟩ : ∃ t, t = (reqE id text).1 := ⟨_, rfl⟩
  obtain ⟨c, hc⟩ : ∃ c, c = (reqE id text).2 := ⟨_, rfl⟩
  rw [← ht] at HX HQ hts ⊢
  rw [← hc] at HX HQ hce ⊢
  clear ht hc
  go_wp2_with fail
  refine HX.out.mono ?_
  rintro e w3 ⟨rfl, hc3⟩
  have HK3 := Lib.hid (HK2.out.then hc3)
  clear hc3
  go_wp2_with fail
  refine (coded3_ok (B := B) ad c c w3 (HE.out.keepN HK3.out) hce rfl).mono ?_
  rintro e w4 ⟨rfl, hc4⟩
  have HK4 := Lib.hid (HK3.out.then hc4)
  clear hc4
  by_cases h0 : c = 0
  case' pos =>
    subst h0
    have HD := Lib.hid (HQ.out rfl)
    go_wp2_with fail
    refine (decode_any (B := B) ad t w4 ((HE.out.keepN HK4.out).env.sub (by decide)) (by omega)).mono ?_
    rintro e w5 ⟨rfl, hc5⟩
    rw [HD.out]
    simp only [errV_zero, reqV]
    have HK5 := Lib.hid ((HK4.out.then hc5).alloc (.cells #[.int .i64 id, .string text] 149))
    have hb := block_alloc w5 (.cells #[.int .i64 id, .string text] 149)
    have d0 := cell_of hb 0
    have d1 := cell_of hb 1
    simp at d0 d1
    clear hc5 hb
  case' neg =>
    have HK5 := HK4
    have hcI : ¬ (c : Int) = 0 := by omega
  all_goals
    go_wp2_with fail
    refine (decode_any (B := B) ad s _ ((HE.out.keepN HK5.out).env.sub (by decide)) (by omega)).mono ?_
    rintro e w6 ⟨rfl, hc6⟩
    have HK6 := Lib.hid ((HK5.out.then hc6))
    rcases reqD_cases s with h7 | h7
    · obtain ⟨n, hn⟩ : ∃ n, n = (reqD s).1 := ⟨_, rfl⟩
      obtain ⟨x, hx⟩ : ∃ x, x = (reqD s).2.1 := ⟨_, rfl⟩
      have HF := Lib.hid (requestOf_any s (w6.alloc (.cells #[.int .i64 n, .string x] 149)) (by omega))
      rw [h7] at HF ⊢
      rw [← hn, ← hx] at HF ⊢
      simp only [errV_zero, reqV]
      clear hn hx h7 hc6
      have HK7 := Lib.hid (HK6.out.alloc (.cells #[.int .i64 n, .string x] 149))
      go_wp2_with fail
      refine HF.out.mono ?_
      rintro e w8 ⟨rfl, hc8⟩
      have hb8 := hc8.keep (block_alloc w6 (.cells #[.int .i64 n, .string x] 149)) (fun f => f)
      have d2 := cell_of hb8 0
      have d3 := cell_of hb8 1
      simp at d2 d3
      have HK8 := Lib.hid (HK7.out.then hc8)
      clear hc8 hb8
      go_wp2_with fail
      go_ret
      exact ⟨rfl, HK8.out⟩
    · have HF := Lib.hid (requestOf_any s (w6.alloc (.cells #[.int .i64 0, .string ⟨#[]⟩] 149)) (by omega))
      rw [h7] at HF ⊢
      simp only [reqV]
      rw [errV_pos (ad := ad) (c := 1) (by decide)]
      clear h7 hc6
      have HK7 := Lib.hid (HK6.out.alloc (.cells #[.int .i64 0, .string ⟨#[]⟩] 149))
      go_wp2_with fail
      refine HF.out.mono ?_
      rintro e w8 ⟨rfl, hc8⟩
      have hb8 := hc8.keep (block_alloc w6 (.cells #[.int .i64 0, .string ⟨#[]⟩] 149)) (fun f => f)
      have d2 := cell_of hb8 0
      have d3 := cell_of hb8 1
      simp at d2 d3
      have HK8 := Lib.hid (HK7.out.then hc8)
      clear hc8 hb8
      have HC := Lib.hid (coded3_ok (B := B) ad 1 1 w8 (HE.out.keepN HK8.out) (by decide) rfl)
      rw [errV_pos (ad := ad) (c := 1) (by decide)] at HC
      go_wp2_with fail
      refine HC.out.mono ?_
      rintro e w9 ⟨rfl, hc9⟩
      have d4 : w9.cell? ⟨w6.heap.size, 0, none⟩ = some (.int .i64 0) := by rw [hc9.cell (World.block_lt_of_cell? _ _ d2) (fun f => f)]; exact d2
      have d5 : w9.cell? ⟨w6.heap.size, 1, none⟩ = some (.string ⟨#[]⟩) := by rw [hc9.cell (World.block_lt_of_cell? _ _ d3) (fun f => f)]; exact d3
      have HK9 := Lib.hid (HK8.out.then hc9)
      clear hc9 d2 d3
      go_wp2_with fail
      go_ret
      exact ⟨rfl, HK9.out⟩
end Go.Proofs.YtofhnglgebllbaaDoor
