/- The reference's SplitOf by contract. -/
import Derived.Test.YtdhegblgghembaaDoorName5
import Derived.Test.YtdhegblgghembaaDoorName8
import Derived.RegionTactic
namespace Go.Proofs.YtdhegblgghembaaDoor
open Go.RowKit Go.Lib
set_option linter.unusedVariables false
set_option linter.unusedSimpArgs false

theorem wordsL_slash : ∀ p : List UInt8, wordsL (p ++ [47]) = wordsL p ++ [[]]
  | [] => rfl
  | b :: r => by
    have h := wordsL_slash r
    rw [List.cons_append, wordsL, wordsL]
    split
    · rw [h]; rfl
    · have hl := (wordsL_len r).1
      match hw : wordsL r, hl with
      | x :: xs, _ => rw [h, hw]; rfl
theorem wordsL_byte : ∀ (p : List UInt8) (b : UInt8) (o : List (List UInt8)) (x : List UInt8), b ≠ 47 → wordsL p = o ++ [x] → wordsL (p ++ [b]) = o ++ [x ++ [b]]
  | [], b, o, x, hb, h => by
    rw [wordsL] at h
    have : o = [] ∧ x = [] := by
      cases o with
      | nil => simp at h; exact ⟨rfl, h⟩
      | cons y ys => simp at h
    obtain ⟨rfl, rfl⟩ := this
    simp [wordsL, hb]
  | c :: r, b, o, x, hb, h => by
    rw [List.cons_append, wordsL]
    rw [wordsL] at h
    by_cases hc : c = 47
    · rw [if_pos hc] at h ⊢
      cases o with
      | nil =>
        simp at h
        have := (wordsL_len r).1
        rw [h.2] at this; simp at this
      | cons y ys =>
        simp only [List.cons_append, List.cons.injEq] at h
        rw [wordsL_byte r b ys x hb h.2, ← h.1]; rfl
    · rw [if_neg hc] at h ⊢
      have hl := (wordsL_len r).1
      match hw : wordsL r, hl with
      | y :: ys, _ =>
        rw [hw] at h
        simp only at h
        cases o with
        | nil =>
          simp at h
          obtain ⟨rfl, rfl⟩ := h
          rw [wordsL_byte r b [] y hb (by rw [hw]; rfl)]; rfl
        | cons z zs =>
          simp only [List.cons_append, List.cons.injEq] at h
          rw [wordsL_byte r b (y :: zs) x hb (by rw [hw, h.2]; rfl), ← h.1]; rfl
theorem preS_iff (s : ByteArray) : preS s = true ↔ s.data.toList[0]? = some 47 := by
  unfold preS hasPrefix
  rcases h : s.data.toList with _ | ⟨b, r⟩
  · simp
  · simp [List.isPrefixOf]
    exact eq_comm
theorem sufS_iff (s : ByteArray) : sufS s = true ↔ s.data.toList.getLast? = some 47 := by
  unfold sufS hasSuffix List.isSuffixOf
  rw [← List.head?_reverse]
  rcases h : s.data.toList.reverse with _ | ⟨b, r⟩
  · simp
  · simp [List.isPrefixOf]
    exact eq_comm
theorem last_byte {s : ByteArray} (h : 1 ≤ s.size) : s.data.toList.getLast? = some (s[s.size - 1]) := by
  rw [List.getLast?_eq_getElem?]
  have : s.data.toList.length = s.size := Array.length_toList
  rw [this]
  exact byte_list (by omega)
def strW (l : List UInt8) : Value := .string ⟨l.toArray⟩
theorem info_strN : (Tryd.prog.info? 9).map (fun i => (i.zero, i.size, i.bytes)) = some (some (.string ⟨#[]⟩), 1, 16) := by kernel_rfl
def RelSO (s : ByteArray) (w : World) (o x i : Value) (wr : World) : Prop :=
  ∃ (k : Nat) (ws : List (List UInt8)) (y : List UInt8) (S : Nat → Prop), 1 ≤ k ∧ k ≤ s.size ∧ i = .int .i64 k ∧ x = strW y ∧ wordsL ((s.data.toList.drop 1).take (k - 1)) = ws ++ [y] ∧ ws.length ≤ k ∧ y.length ≤ k ∧ SliceAt wr o 9 1 ws.length (ws.map strW) S ∧ (∀ z, S z → w.heap.size ≤ z ∧ z < wr.heap.size) ∧ Chg Nil w wr
def SoPost (s : ByteArray) (w : World) (e : Ending) (w' : World) : Prop :=
  ∃ a n c, e = .returned (.tuple #[.slice a n c, faultV (spC s).1 (spC s).2]) ∧ n = (spL s).length ∧ n ≤ c ∧ TextsAt w' w'.heap.size a (spL s) ∧ Chg Nil w w'
theorem of_listN {s : ByteArray} {l : List UInt8} (h : s.data.toList = l) : s = ⟨l.toArray⟩ := by
  obtain ⟨d⟩ := s
  simp only at h
  subst h
  rfl
theorem extract_listN (s : ByteArray) (a b : Nat) : (s.extract a b).data.toList = (s.data.toList.drop a).take (b - a) := by
  rw [ByteArray.data_extract, Array.toList_extract, List.extract_eq_take_drop]
theorem so_more {w wr w3 : World} {o v3 : Value} {ws : List (List UInt8)} {y : List UInt8} {Y : ByteArray} {S S3 : Nat → Prop} {ob : Obj} (hS : SliceAt wr o 9 1 ws.length (ws.map strW) S) (hSg : ∀ z, S z → w.heap.size ≤ z ∧ z < wr.heap.size) (hC : Chg Nil w wr) (hY : strW y = .string Y)
    (hs : SliceAt w3 v3 9 1 (ws.length + 1) (ws.map strW ++ [.string Y]) S3) (hc : Chg S (wr.alloc ob) w3) (hg : Grow S S3 (wr.alloc ob) w3) :
    SliceAt w3 v3 9 1 (ws ++ [y]).length ((ws ++ [y]).map strW) S3 ∧ (∀ z, S3 z → w.heap.size ≤ z ∧ z < w3.heap.size) ∧ Chg Nil w w3 := by
  have hz := hC.size
  have hz3 := hc.size
  simp at hz3
  refine ⟨by rw [List.length_append, List.map_append]; simpa [hY] using hs, fun x hx => ?_, (hC.alloc ob).trans hc (fun x hx e => by have := (hSg x e).1; omega)⟩
  rcases hg x hx with h | h
  · have := hSg x h; omega
  · simp at h; omega
theorem texts_put {W : World} {B g off b : Nat} {l : List ByteArray} (h : TextsAt W B (some ⟨g, off, none⟩) l) (hn : g ≠ b) (u v : Value) (i j : Nat) : TextsAt ((W.setCell ⟨b, i, none⟩ u).setCell ⟨b, j, none⟩ v) B (some ⟨g, off, none⟩) l := fun q x hx => by
  obtain ⟨h0, g', off', e, hg, hc⟩ := h q x hx
  cases e
  refine ⟨h0, g, off, rfl, hg, ?_⟩
  rw [World.cell?_setCell_other _ _ _ _ (fun e => hn (by cases e; rfl)), World.cell?_setCell_other _ _ _ _ (fun e => hn (by cases e; rfl))]
  exact hc
theorem TextsAt.drew {W : World} {B B2 : Nat} {a : Option Addr} {l : List ByteArray} (h : TextsAt W B a l) (hB : B ≤ B2) : TextsAt W.drew B2 a l := fun q x hx => by
  obtain ⟨h0, g', off', e, hg, hc⟩ := h q x hx
  exact ⟨h0, g', off', e, by omega, hc⟩
theorem res_so {tmps : Array Value} {b : Nat} {W : World} {c : Nat} {n : Int} {sl : Value} (h2 : tmps.getD 2 undef = sl) (h3 : tmps.getD 3 undef = .pointer (some ⟨b, 0, none⟩)) (k0 : W.cell? ⟨b, 0, none⟩ = some (.int .i64 c)) (k1 : W.cell? ⟨b, 1, none⟩ = some (.int .i64 n)) :
    (results Tryd.f54 tmps).run Tryd.prog W = .ok (.tuple #[sl, faultV c n]) W := by
  simp at h2 h3
  simp [results, Tryd.results54, go_sem, k0, k1, h2, h3, faultV]
theorem SoPost.nil {s : ByteArray} {w w' : World} {e : Ending} (hl : spL s = []) (he : e = .returned (.tuple #[.slice none 0 0, faultV (spC s).1 (spC s).2])) (hc : Chg Nil w w') : SoPost s w e w' :=
  ⟨none, 0, 0, he, by rw [hl]; rfl, Nat.le_refl _, by rw [hl]; exact fun k x hx => (by cases hx), hc⟩
set_option maxHeartbeats 4000000 in
set_option maxRecDepth 100000 in
theorem splitOf_any (s : ByteArray) (w : World) (hs : s.size ≤ 1000000) :
    Calls Tryd.prog 54 #[.string s] w (SoPost s w) := by
  have HBX := Lib.hid (block_alloc w (.cells #[.int .i64 0, .int .i64 0] 100))
  have HK := Lib.hid ((Chg.refl Nil w).alloc (.cells #[.int .i64 0, .int .i64 0] 100))
  by_cases h0 : s = slash
  · have HL := Lib.hid (show spL s = [] from if_pos h0)
    have HX := Lib.hid (show spC s = (0, -1) from if_pos h0)
    subst h0
    unfold slash at *
    go_enter Tryd.func54, Tryd.ntmps54
    go_wp2_with fail
    refine (fine_any _).mono ?_
    rintro e w2 ⟨rfl, hc2⟩
    have hb2 := hc2.keep HBX.out (fun f => f)
    have b0 := cell_of hb2 0
    have b1 := cell_of hb2 1
    have p0 := free_of hb2 0
    have p1 := free_of hb2 1
    have gb := lt_of_block hb2
    simp at b0 b1
    obtain ⟨k0, k1, k2⟩ := two_put hb2 (HK.out.then hc2) (Nat.le_refl _) (.int .i64 ((0 : Nat) : Int)) (.int .i64 (-1))
    have K := Lib.hid (And.intro k0 (And.intro k1 k2))
    clear hb2 hc2 k0 k1 k2
    unfold faultV
    go_wp2_with fail
    exact bodyPost_ret (res_so (b := w.heap.size) (c := 0) (n := -1) rfl rfl K.out.1 K.out.2.1) rfl (SoPost.nil HL.out (by rw [HX.out]; rfl) K.out.2.2)
  have hne := txt_ne (l := [47]) h0
  by_cases hz : s.size = 0
  · have hp : preS s = false := by
      cases h : preS s
      · rfl
      · have := preS_pos h; omega
    have HL := Lib.hid (show spL s = [] by unfold spL; rw [if_neg h0, if_pos (.inl hp)])
    have HX := Lib.hid (show spC s = (1, -1) by unfold spC; rw [if_neg h0, if_pos (.inl hp)])
    have hzI : ((s.size : Int) == 0) = true := by rw [beq_iff_eq]; omega
    clear hp h0 hz
    go_enter Tryd.func54, Tryd.ntmps54
    go_wp2_with fail
    refine (bare_any 1 _).mono ?_
    rintro e w2 ⟨rfl, hc2⟩
    have hb2 := hc2.keep HBX.out (fun f => f)
    have b0 := cell_of hb2 0
    have b1 := cell_of hb2 1
    have p0 := free_of hb2 0
    have p1 := free_of hb2 1
    have gb := lt_of_block hb2
    simp at b0 b1
    obtain ⟨k0, k1, k2⟩ := two_put hb2 (HK.out.then hc2) (Nat.le_refl _) (.int .i64 ((1 : Nat) : Int)) (.int .i64 (-1))
    have K := Lib.hid (And.intro k0 (And.intro k1 k2))
    clear hb2 hc2 k0 k1 k2
    unfold faultV
    go_wp2_with fail
    exact bodyPost_ret (res_so (b := w.heap.size) (c := 1) (n := -1) rfl rfl K.out.1 K.out.2.1) rfl (SoPost.nil HL.out (by rw [HX.out]; rfl) K.out.2.2)
  have hzI : ((s.size : Int) == 0) = false := by rw [beq_eq_false_iff_ne]; omega
  have hpos : 0 < s.size := by omega
  have hposI : (0 : Int) < (s.size : Int) := by omega
  have hb0 := byte_list hpos
  by_cases hf : s[0] = 47
  · have hp : preS s = true := (preS_iff s).2 (by rw [hb0, hf])
    have hf0 : ((s[0].toNat : Nat) : Int) = 47 := by rw [hf]; rfl
    have hlb := last_byte (s := s) hpos
    have hi1 : (0 : Int) ≤ (s.size : Int) - 1 := by omega
    have hi2 : (s.size : Int) - 1 < (s.size : Int) := by omega
    have hi3 : ((s.size : Int) - 1).toNat = s.size - 1 := by omega
    by_cases hl : s[s.size - 1] = 47
    · have hsu : sufS s = true := (sufS_iff s).2 (by rw [hlb, hl])
      have HL := Lib.hid (show spL s = [] by unfold spL; rw [if_neg h0, if_pos (.inr hsu)])
      have HX := Lib.hid (show spC s = (1, -1) by unfold spC; rw [if_neg h0, if_pos (.inr hsu)])
      have hlI : ((s[s.size - 1].toNat : Nat) : Int) = 47 := by rw [hl]; rfl
      clear hp h0 hb0 hlb hsu hf hl hz
      go_enter Tryd.func54, Tryd.ntmps54
      go_wp2_with fail
      refine (bare_any 1 _).mono ?_
      rintro e w2 ⟨rfl, hc2⟩
      have hb2 := hc2.keep HBX.out (fun f => f)
      have b0 := cell_of hb2 0
      have b1 := cell_of hb2 1
      have p0 := free_of hb2 0
      have p1 := free_of hb2 1
      have gb := lt_of_block hb2
      simp at b0 b1
      obtain ⟨k0, k1, k2⟩ := two_put hb2 (HK.out.then hc2) (Nat.le_refl _) (.int .i64 ((1 : Nat) : Int)) (.int .i64 (-1))
      have K := Lib.hid (And.intro k0 (And.intro k1 k2))
      clear hb2 hc2 k0 k1 k2
      unfold faultV
      go_wp2_with fail
      exact bodyPost_ret (res_so (b := w.heap.size) (c := 1) (n := -1) rfl rfl K.out.1 K.out.2.1) rfl (SoPost.nil HL.out (by rw [HX.out]; rfl) K.out.2.2)
    · have hsu : sufS s = false := by
        cases h : sufS s
        · rfl
        · have := (sufS_iff s).1 h
          rw [hlb] at this
          exact absurd (Option.some.inj this) hl
      have hbb : ¬ (preS s = false ∨ sufS s = true) := by rw [hp, hsu]; simp
      have HX := Lib.hid (show spC s = pathC (txtsL (s.extract 1 s.size)) by unfold spC; rw [if_neg h0, if_neg hbb])
      have HL := Lib.hid (show spL s = if (pathC (txtsL (s.extract 1 s.size))).1 = 0 then txtsL (s.extract 1 s.size) else [] by unfold spL; rw [if_neg h0, if_neg hbb])
      have hlI : (((s[s.size - 1].toNat : Nat) : Int) == 47) = false := by
        rw [beq_eq_false_iff_ne]
        intro e
        apply hl
        apply UInt8.toNat_inj.1
        have : (s[s.size - 1]).toNat = 47 := by omega
        rw [this]; rfl
      clear hp h0 hb0 hlb hsu hf hl hz hbb
      go_enter Tryd.func54, Tryd.ntmps54
      go_wp2_with fail
      clear hlI hf0
      go_loopw [4, 5, 6] (fun o x i wr => RelSO s (w.alloc (.cells #[.int .i64 0, .int .i64 0] 100)) o x i wr) (fun _ _ i _ => (s.size - RowKit.intOf i).toNat)
      case atStart => exact ⟨1, [], [], Nil, Nat.le_refl _, hpos, rfl, rfl, rfl, by simp, by simp, sliceAt_nil _ _ _ _, fun z f => f.elim, Chg.refl _ _⟩
      case round =>
        obtain ⟨k, ws, y, S, hk1, hk, rfl, rfl, hwd, hwl, hyl, hsl, hS, hC⟩ := hrel
        have HWD := Lib.hid hwd
        have HSL := Lib.hid hsl
        have HS := Lib.hid hS
        have HC := Lib.hid hC
        clear hwd hsl hS hC
        by_cases hlt : k < s.size
        · have j0 : (0 : Int) ≤ (k : Int) := by omega
          have j1 : (k : Int) < (s.size : Int) := by omega
          have hbk := byte_list hlt
          have HTK := Lib.hid (show (s.data.toList.drop 1).take (k + 1 - 1) = (s.data.toList.drop 1).take (k - 1) ++ [s[k]] by
            rw [show k + 1 - 1 = k - 1 + 1 by omega, List.take_add_one, List.getElem?_drop, show 1 + (k - 1) = k by omega, hbk]; rfl)
          clear hbk
          obtain ⟨a, c, rfl⟩ := HSL.out.shape
          obtain ⟨Y, hY⟩ : ∃ Y, Y = (⟨y.toArray⟩ : ByteArray) := ⟨_, rfl⟩
          have hYs : Y.size = y.length := by rw [hY]; simp [ByteArray.size]
          have hsW : strW y = .string Y := by unfold strW; rw [hY]
          have hYs2 : Y.size ≤ 1000000 := by omega
          have HY := Lib.hid hY
          have HSW := Lib.hid hsW
          rw [hsW]
          clear hY hYs hsW
          by_cases hb : s[k] = 47
          · have hbI : ((s[k].toNat : Nat) : Int) = 47 := by rw [hb]; rfl
            have HW2 := Lib.hid (show wordsL ((s.data.toList.drop 1).take (k + 1 - 1)) = (ws ++ [y]) ++ [[]] by rw [HTK.out, hb, wordsL_slash, HWD.out])
            clear hb
            go_wp2_with (at_builtin; go_loud (refine wpList_appendS (n := ws.length) (m := 1) rfl _ _ 96 rfl Tryd.underlying96 info_strN rfl (by decide) rfl (HSL.out.keep ((Chg.refl Nil wr).alloc _) (fun _ _ f => f)) rfl [.string Y] rfl (cell_new_list wr [.string Y] _) (fun u hu => by rw [List.mem_singleton.1 hu]; rfl) (by unfold maxLen; omega) (by omega) ?_); intro v3 w3 S3 hs3 hc3 hg3; obtain ⟨a3, cap3, rfl⟩ := hs3.shape)
            have HR := Lib.hid (so_more HSL.out HS.out HC.out HSW.out hs3 hc3 hg3)
            clear hs3 hc3 hg3
            go_roundw
            case rel => exact ⟨k + 1, ws ++ [y], [], S3, by omega, by omega, by go_num, rfl, HW2.out, by simp; omega, by simp, HR.out.1, HR.out.2.1, HR.out.2.2⟩
            case measure => simp [RowKit.intOf]; omega
          · have hbI : (((s[k].toNat : Nat) : Int) == 47) = false := by
              rw [beq_eq_false_iff_ne]
              intro e
              apply hb
              apply UInt8.toNat_inj.1
              have : (s[k]).toNat = 47 := by omega
              rw [this]; rfl
            have HW2 := Lib.hid (show wordsL ((s.data.toList.drop 1).take (k + 1 - 1)) = ws ++ [y ++ [s[k]]] by rw [HTK.out]; exact wordsL_byte _ _ _ _ hb HWD.out)
            have hes : (s.extract k (k + 1)).size = 1 := by rw [ByteArray.size_extract]; omega
            have hns : ¬ 9223372036854775807 < Y.size + (s.extract k (k + 1)).size := by omega
            have HYX := Lib.hid (show Value.string (Y ++ s.extract k (k + 1)) = strW (y ++ [s[k]]) by
              unfold strW
              congr 1
              apply of_listN
              rw [ByteArray.data_append, Array.toList_append, HY.out, extract_listN, Nat.add_sub_cancel_left]
              congr 1
              rw [List.take_one, List.head?_drop, byte_list hlt]; rfl)
            have j2 : (k : Int) + 1 ≤ (s.size : Int) := by omega
            have j3 : (0 : Int) ≤ (k : Int) + 1 := by omega
            clear hb hes
            go_wp2_with fail
            go_roundw
            case rel => exact ⟨k + 1, ws, y ++ [s[k]], S, by omega, by omega, by go_num, HYX.out, HW2.out, by omega, by simp; omega, HSL.out, HS.out, HC.out⟩
            case measure => simp [RowKit.intOf]; omega
        · obtain rfl : k = s.size := by omega
          obtain ⟨a, c, rfl⟩ := HSL.out.shape
          obtain ⟨Y, hY⟩ : ∃ Y, Y = (⟨y.toArray⟩ : ByteArray) := ⟨_, rfl⟩
          have hsW : strW y = .string Y := by unfold strW; rw [hY]
          have HSW := Lib.hid hsW
          rw [hsW]
          have hll : s.data.toList.length = s.size := Array.length_toList
          have hLL : txtsL (s.extract 1 s.size) = (ws ++ [y]).map fun l => ⟨l.toArray⟩ := by
            unfold txtsL
            rw [extract_listN, HWD.out]
          rw [hLL] at HX HL
          have hwy : ∀ l ∈ ws ++ [y], l.length ≤ s.size := fun l hl => by
            rw [← HWD.out] at hl
            have := wordsL_size _ l hl
            rw [List.length_take, List.length_drop] at this
            omega
          have HWY := Lib.hid hwy
          clear hY hsW hll hLL hwy
          go_wp2_with (at_builtin; go_loud (refine wpList_appendS (n := ws.length) (m := 1) rfl _ _ 96 rfl Tryd.underlying96 info_strN rfl (by decide) rfl (HSL.out.keep ((Chg.refl Nil wr).alloc _) (fun _ _ f => f)) rfl [.string Y] rfl (cell_new_list wr [.string Y] _) (fun u hu => by rw [List.mem_singleton.1 hu]; rfl) (by unfold maxLen; omega) (by omega) ?_); intro v3 w3 S3 hs3 hc3 hg3; obtain ⟨a3, cap3, rfl⟩ := hs3.shape)
          obtain ⟨h5, h6, h7⟩ := so_more HSL.out HS.out HC.out HSW.out hs3 hc3 hg3
          obtain ⟨L, hL⟩ : ∃ L : List ByteArray, L = (ws ++ [y]).map fun l => ⟨l.toArray⟩ := ⟨_, rfl⟩
          rw [← hL] at HX HL
          have hLn : L.length = ws.length + 1 := by rw [hL]; simp
          obtain ⟨gg, oo, cc, cs, e5, hb5, hn5, hm5, ho5, hcl5, hS5, hl5⟩ := h5.place (by simp)
          simp only [List.length_append, List.length_cons, List.length_nil, Nat.zero_add] at e5 hn5
          cases e5
          have HT := Lib.hid (show TextsAt w3 w3.heap.size (some ⟨gg, oo, none⟩) L from fun q x hx => by
            have hq : q < (ws ++ [y]).length := by have := (List.getElem?_eq_some_iff.1 hx).1; rw [hLn] at this; simpa using this
            rw [hL, List.getElem?_map] at hx
            obtain ⟨l, hl, rfl⟩ := Option.map_eq_some_iff.1 hx
            refine ⟨?_, gg, oo, rfl, hl5, hcl5 q _ (by rw [List.getElem?_map, hl]; rfl)⟩
            have := HWY.out l (List.mem_of_getElem? hl)
            simp only [ByteArray.size, List.size_toArray]; omega)
          have hgg := (h6 gg hS5).1
          simp at hgg
          have HC3 := Lib.hid h7
          have HLN := Lib.hid hLn
          clear hs3 hc3 hg3 h5 h6 h7 hb5 ho5 hcl5 hS5 hL
          rw [← hLn] at hn5 ⊢
          clear hLn
          go_wp2_with fail
          refine (pathError_any _ _ L w3 HT.out (Nat.le_refl _) hn5 (by have := HLN.out; omega)).mono ?_
          rintro e w4 ⟨rfl, hc4⟩
          have HC4 := Lib.hid (HK.out.then (HC3.out.then hc4))
          have HT4 := Lib.hid (HT.out.keep (Nat.le_refl _) hc4 (fun _ f => f.elim))
          have hb4 := (HC3.out.then hc4).keep HBX.out (fun f => f)
          have hz4 := hc4.size
          obtain ⟨cd, hcd⟩ : ∃ cd, cd = (pathC L).1 := ⟨_, rfl⟩
          obtain ⟨an, han⟩ : ∃ an, an = (pathC L).2 := ⟨_, rfl⟩
          have HCA := Lib.hid (And.intro hcd han)
          rw [← hcd, ← han]
          rw [← hcd] at HL
          clear hcd han
          have hb5 := block_alloc_old hb4 (.cells #[.int .i64 cd, .int .i64 an] 100)
          have hb6 := block_alloc w4 (.cells #[.int .i64 cd, .int .i64 an] 100)
          have HC5 := Lib.hid (HC4.out.alloc (.cells #[.int .i64 cd, .int .i64 an] 100))
          have HT5 := Lib.hid (HT4.out.keep (by omega) ((Chg.refl Nil w4).alloc (.cells #[.int .i64 cd, .int .i64 an] 100)) (fun _ f => f.elim))
          have b0 := cell_of hb5 0
          have b1 := cell_of hb5 1
          have p0 := free_of hb5 0
          have p1 := free_of hb5 1
          have gb := lt_of_block hb5
          have d0 := cell_of hb6 0
          have d1 := cell_of hb6 1
          simp at b0 b1 d0 d1 gb
          obtain ⟨k0, k1, k2⟩ := two_put hb5 HC5.out (Nat.le_refl _) (.int .i64 (cd : Int)) (.int .i64 an)
          have K := Lib.hid (And.intro k0 (And.intro k1 k2))
          clear hc4 hb4 hb5 hb6 k0 k1 k2
          unfold faultV
          by_cases hc0 : cd = 0
          · have HLL := Lib.hid (HL.out.trans (if_pos hc0))
            have hcI : ¬ (0 : Int) < (cd : Int) := by omega
            clear hc0
            go_wp2_with fail
            go_region
            all_goals
              go_wp2_with fail
              refine bodyPost_ret (res_so (b := w.heap.size) (c := cd) (n := an) (sl := .slice (some ⟨gg, oo, none⟩) L.length cap3) rfl rfl K.out.1 K.out.2.1) rfl (show SoPost s w _ _ from ⟨some ⟨gg, oo, none⟩, L.length, cap3, ?_, by rw [HLL.out], hn5, ?_, K.out.2.2.drew⟩)
              · rw [HX.out, ← HCA.out.1, ← HCA.out.2]
              · rw [HLL.out]
                exact (texts_put HT5.out (show gg ≠ w.heap.size by omega) _ _ 0 1).drew (by simp; omega)
          · have HLL := Lib.hid (HL.out.trans (if_neg hc0))
            have hcI : (0 : Int) < (cd : Int) := by omega
            clear hc0
            go_wp2_with fail
            go_region
            all_goals
              go_wp2_with fail
              refine bodyPost_ret (res_so (b := w.heap.size) (c := cd) (n := an) rfl rfl K.out.1 K.out.2.1) rfl (SoPost.nil HLL.out ?_ K.out.2.2.drew)
              rw [HX.out, ← HCA.out.1, ← HCA.out.2]; rfl
  · have hp : preS s = false := by
      cases h : preS s
      · rfl
      · have := (preS_iff s).1 h
        rw [hb0] at this
        exact absurd (Option.some.inj this) hf
    have HL := Lib.hid (show spL s = [] by unfold spL; rw [if_neg h0, if_pos (.inl hp)])
    have HX := Lib.hid (show spC s = (1, -1) by unfold spC; rw [if_neg h0, if_pos (.inl hp)])
    have hf0 : (((s[0].toNat : Nat) : Int) != 47) = true := by
      rw [bne_iff_ne]
      intro e
      apply hf
      apply UInt8.toNat_inj.1
      have : (s[0]).toNat = 47 := by omega
      rw [this]; rfl
    clear hp h0 hb0 hf hz
    go_enter Tryd.func54, Tryd.ntmps54
    go_wp2_with fail
    refine (bare_any 1 _).mono ?_
    rintro e w2 ⟨rfl, hc2⟩
    have hb2 := hc2.keep HBX.out (fun f => f)
    have b0 := cell_of hb2 0
    have b1 := cell_of hb2 1
    have p0 := free_of hb2 0
    have p1 := free_of hb2 1
    have gb := lt_of_block hb2
    simp at b0 b1
    obtain ⟨k0, k1, k2⟩ := two_put hb2 (HK.out.then hc2) (Nat.le_refl _) (.int .i64 ((1 : Nat) : Int)) (.int .i64 (-1))
    have K := Lib.hid (And.intro k0 (And.intro k1 k2))
    clear hb2 hc2 k0 k1 k2
    unfold faultV
    go_wp2_with fail
    exact bodyPost_ret (res_so (b := w.heap.size) (c := 1) (n := -1) rfl rfl K.out.1 K.out.2.1) rfl (SoPost.nil HL.out (by rw [HX.out]; rfl) K.out.2.2)
end Go.Proofs.YtdhegblgghembaaDoor
