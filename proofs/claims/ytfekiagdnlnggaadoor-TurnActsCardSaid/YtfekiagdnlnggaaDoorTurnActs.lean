/- The walk of law TurnActs. -/
import Derived.Test.YtfekiagdnlnggaaDoorTurnGoes
import Derived.Test.YtfekiagdnlnggaaDoorTurnRef2
import Derived.Test.YtfekiagdnlnggaaDoorCoded2
import Derived.Deep.RegionHeld3
namespace Go.Proofs.YtfekiagdnlnggaaDoor
open Go.RowKit
set_option linter.unusedVariables false
set_option linter.unusedSimpArgs false

/-- An act as the input has it: kind, reply, owner, number. -/
abbrev TAct := ByteArray × ByteArray × Int × Int
def tactC (a : TAct) : List Value := [.string a.1, .string a.2.1, .int .i64 a.2.2.1, .int .i64 a.2.2.2]
theorem tactC_len (a : TAct) : (tactC a).length = 4 := rfl

/-- The state of the loop: both tables are the same list. -/
structure Both (ad : Nat → Addr) (w wr : World) (b1 b2 : Nat) (kv : Owners) : Prop where
  env : EnvA w.heap.size ad wr
  chg : Chg Nil w wr
  tab : ∃ S1 S2, TurnAt wr b1 kv S1 ∧ TurnsAt wr b2 kv S2 ∧ (∀ x, S1 x → w.heap.size ≤ x) ∧ (∀ x, S2 x → w.heap.size ≤ x) ∧ (∀ x, S1 x → ¬ S2 x)
  few : kv.length ≤ 30

theorem Both.same {ad : Nat → Addr} {w wr wr' : World} {b1 b2 : Nat} {kv : Owners} (h : Both ad w wr b1 b2 kv) (c : Chg Nil wr wr') : Both ad w wr' b1 b2 kv := by
  obtain ⟨h1, h2, ⟨S1, S2, h3, h4, h5, h6, h7⟩, h8⟩ := h
  exact ⟨h1.keepN c, h2.then c, ⟨S1, S2, h3.keep c (fun _ _ f => f), h4.keep c (fun _ _ f => f), h5, h6, h7⟩, h8⟩

theorem turnsAt_new (w : World) (T : TypeId) : TurnsAt (w.alloc (.cells #[.slice none 0 0] T)) w.heap.size [] (· = w.heap.size) :=
  ⟨⟨_, T, Nil, block_alloc _ _, sliceAt_nil _ _ _ _, fun f => f, fun _ f => f.elim⟩, rfl, fun x e => by subst e; simp⟩

theorem both_step {ad : Nat → Addr} {w wr w2 w3 : World} {b1 b2 : Nat} {kv kv' : Owners} {S1 S2 S1' S2' : Nat → Prop} (hEA : EnvA w.heap.size ad wr) (hC : Chg Nil w wr) (hT1 : TurnAt wr b1 kv S1) (hT2 : TurnsAt wr b2 kv S2)
    (hB1 : ∀ x, S1 x → w.heap.size ≤ x) (hB2 : ∀ x, S2 x → w.heap.size ≤ x) (hdj : ∀ x, S1 x → ¬ S2 x) (hc2 : Chg S1 wr w2) (hT12 : TurnAt w2 b1 kv' S1') (hG2 : Grow S1 S1' wr w2)
    (hc3 : Chg S2 w2 w3) (hT23 : TurnsAt w3 b2 kv' S2') (hG3 : Grow S2 S2' w2 w3) (few : kv'.length ≤ 30) : Both ad w w3 b1 b2 kv' := by
  have hz := hC.size
  have hz2 := hc2.size
  have d12 : ∀ x, S1' x → ¬ S2 x := fun x h1 h2 => by
    rcases hG2 x h1 with h | h
    · exact hdj x h h2
    · have := hT2.lt x h2; omega
  refine ⟨(hEA.keep hc2 hB1).keep hc3 hB2, (hC.trans hc2 (fun x hx h => by have := hB1 x h; omega)).trans hc3 (fun x hx h => by have := hB2 x h; omega), ⟨S1', S2', hT12.keep hc3 d12, hT23, hG2.ge hB1 hz, hG3.ge hB2 (by omega), fun x h1 h2 => ?_⟩, few⟩
  rcases hG3 x h2 with h | h
  · exact d12 x h1 h
  · have := hT12.lt x h1; omega

def RelT (ad : Nat → Addr) (w : World) (b1 b2 n : Nat) (i : Value) (wr : World) : Prop :=
  ∃ (k : Nat) (kv : Owners), k ≤ n ∧ i = .int .i64 k ∧ Both ad w wr b1 b2 kv

theorem tBegin_le (kv : Owners) (o s : Int) : (tBegin kv o s).2.2 ≤ 15 := by
  unfold tBegin
  split
  · decide
  · split
    · split <;> simp
    · split
      · simp
      · split <;> simp
theorem tEnd_le (kv : Owners) (o s : Int) (r : ByteArray) : (tEnd kv o s r).2 ≤ 15 := by
  unfold tEnd
  split
  · exact tBegin_le kv o s
  · split <;> simp
theorem aput_length {α β : Type} [DecidableEq α] : ∀ (kv : List (α × β)) (k : α) (v : β), (aput kv k v).length = if (aget kv k).isSome then kv.length else kv.length + 1
  | [], _, _ => rfl
  | p :: r, k, v => by
    unfold aput aget
    split
    · simp
    · simp only [List.length_cons, aput_length r k v]; split <;> rfl
theorem tEnd_few {kv : Owners} {o s : Int} {r : ByteArray} (h : kv.length ≤ 30) : (tEnd kv o s r).1.length ≤ 30 := by
  unfold tEnd
  split
  · exact h
  · split
    · exact h
    · rename_i h1 h2
      simp only [aput_length]
      cases hg : aget kv o with
      | some x => simpa using h
      | none =>
        simp only [Option.isSome_none]
        rcases Nat.lt_or_ge kv.length 30 with h3 | h3
        · simp; omega
        · exfalso
          by_cases h4 : s < 0 ∨ 4294967295 < s
          · simp [tBegin, h4] at h1
          · rw [tBegin, if_neg h4, hg] at h1
            simp [h3] at h1
theorem adel_few {kv : Owners} {o : Int} (h : kv.length ≤ 30) : (adel kv o).length ≤ 30 := by
  have : ∀ kv : Owners, (adel kv o).length ≤ kv.length := by
    intro kv
    induction kv with
    | nil => exact Nat.le_refl _
    | cons p r ih =>
      unfold adel
      split
      · simp
      · simp; exact ih
  exact Nat.le_trans (this kv) h
theorem tDrop_eq (kv : Owners) (o : Int) : tDrop kv o = dropCode kv o := rfl
theorem tDrop_le (kv : Owners) (o : Int) : tDrop kv o ≤ 15 := by unfold tDrop; split <;> decide

theorem bytes_ne {k : ByteArray} {l : List UInt8} (h : ¬ k = ⟨l.toArray⟩) : (k.toList == l) = false := by
  rw [beq_eq_false_iff_ne]
  intro e
  apply h
  have e2 : k.data.toList = l := by rw [← e]; exact (ByteArray.toList_eq k).symm
  obtain ⟨d⟩ := k
  simp only at e2
  subst e2
  rfl
theorem act_cells {W : World} {ab : Nat} {v0 v1 v2 v3 : Value} {T : TypeId} (hb : W.heap[ab]? = some (.cells #[v0, v1, v2, v3] T (0, 0))) :
    W.cell? ⟨ab, 1, none⟩ = some v1 ∧ W.cell? ⟨ab, 2, none⟩ = some v2 ∧ W.cell? ⟨ab, 3, none⟩ = some v3 := ⟨by simp [cell_of hb], by simp [cell_of hb], by simp [cell_of hb]⟩

set_option maxHeartbeats 4000000 in
set_option maxRecDepth 100000 in
theorem turnActs_any (ad : Nat → Addr) (a0 : Option Addr) (cap : Nat) (acts : List TAct) (w : World) (he : EnvA w.heap.size ad w)
    (hl : acts.length ≤ 9223372036854775807) (hcell : ∀ i x, acts[i]? = some x → ∃ g off, a0 = some ⟨g, off, none⟩ ∧ g < w.heap.size ∧ ∀ r u, (tactC x)[r]? = some u → w.cell? ⟨g, off + i * 4 + r, none⟩ = some u) :
    Calls Tryd.prog 8 #[.slice a0 acts.length cap] w fun e w' => e = .returned (.bool true) ∧ Chg Nil w w' := by
  have HT := Lib.hid (turned_any ad w (he.sub (ds := [2, 9, 12]) (by decide)))
  have HE := Lib.hid he
  have HC := Lib.hid hcell
  clear he hcell
  by_cases h1 : 100 < acts.length
  · go_enter Tryd.func8, Tryd.ntmps8
    go_wp2_with fail
    refine HT.out.mono ?_
    rintro e w1 ⟨rfl, hc1⟩
    go_wp2_with fail
    go_ret
    exact ⟨rfl, hc1⟩
  · go_enter Tryd.func8, Tryd.ntmps8
    go_wp2_with fail
    refine HT.out.mono ?_
    rintro e w1 ⟨rfl, hc1⟩
    go_wp2_with fail
    go_loopw [6] (fun i wr => RelT ad w w1.heap.size (w1.heap.size + 1) acts.length i wr) (fun i _ => (acts.length - intOf i).toNat)
    case atStart => exact ⟨0, [], Nat.zero_le _, rfl, ((HE.out.keepN hc1).alloc _).alloc _, (hc1.alloc _).alloc _, ⟨(· = w1.heap.size), (· = w1.heap.size + 1), (turnAt_new w1 _).keep ((Chg.refl Nil _).alloc _) (fun _ _ f => f), by simpa using turnsAt_new (w1.alloc (.cells #[.map none] 26)) 75, fun x e => by subst e; exact hc1.size, fun x e => by subst e; exact Nat.le_succ_of_le hc1.size, fun x e e2 => by subst e; omega⟩, by simp⟩
    case round =>
      rename_i wr _
      obtain ⟨k, kv, hk, rfl, hH⟩ := hrel
      by_cases hlt : k < acts.length
      · obtain ⟨x, hx⟩ : ∃ x, acts[k]? = some x := ⟨acts[k], List.getElem?_eq_getElem hlt⟩
        obtain ⟨g, off, rfl, hg, hcx⟩ := HC.out k x hx
        obtain ⟨kind, reply, owner, seq⟩ := x
        have hgr := Nat.lt_of_lt_of_le hg hH.chg.size
        have c0 := (hH.chg.cell (p := ⟨g, off + k * 4 + 0, none⟩) hg (fun f => f)).trans (hcx 0 _ rfl)
        have c1 := (hH.chg.cell (p := ⟨g, off + k * 4 + 1, none⟩) hg (fun f => f)).trans (hcx 1 _ rfl)
        have c2 := (hH.chg.cell (p := ⟨g, off + k * 4 + 2, none⟩) hg (fun f => f)).trans (hcx 2 _ rfl)
        have c3 := (hH.chg.cell (p := ⟨g, off + k * 4 + 3, none⟩) hg (fun f => f)).trans (hcx 3 _ rfl)
        simp only [Nat.add_zero] at c0
        clear hcx
        by_cases hrep : 1000 < reply.size
        · go_wp2_with fail
          go_ret
          exact ⟨rfl, hH.chg.alloc _⟩
        · obtain ⟨hEA, hC, ⟨S1, S2, hT1, hT2, hB1, hB2, hdj⟩, h30⟩ := hH
          have HX := Lib.hid hx
          clear hx
          by_cases hkb : kind = ⟨#[98, 101, 103, 105, 110]⟩
          · subst hkb
            have hA := (Chg.refl Nil wr).alloc (.cells #[.string ⟨#[98, 101, 103, 105, 110]⟩, .string reply, .int .i64 owner, .int .i64 seq] 77)
            have hblk := block_alloc wr (.cells #[.string ⟨#[98, 101, 103, 105, 110]⟩, .string reply, .int .i64 owner, .int .i64 seq] 77)
            have HBK := Lib.hid hblk
            clear hblk
            go_wp2_with fail
            refine (begin_any ad _ owner seq kv S1 _ ((hEA.keepN hA).sub (by decide)) (hT1.keep hA (fun _ _ f => f))).mono ?_
            rintro e w2 ⟨rfl, hc2⟩
            have hA2 := hA.then hc2
            obtain ⟨d1, d2, d3⟩ := act_cells (hc2.keep HBK.out (fun f => f))
            go_wp2_with fail
            refine (rbegin_any _ owner seq kv S2 _ (hT2.keep hA2 (fun _ _ f => f)) hT1.rng).mono ?_
            rintro e w3 ⟨rfl, rfl⟩
            go_wp2_with fail
            refine (coded2_ok ad _ _ _ (hEA.keepN hA2) (tBegin_le kv owner seq) rfl).mono ?_
            rintro e w4 ⟨rfl, hc4⟩
            have hA4 := hA2.then hc4
            have hT1' := hT1.keep hA4 (fun _ _ f => f)
            have hT2' := hT2.keep hA4 (fun _ _ f => f)
            have hH' : Both ad w w4 w1.heap.size (w1.heap.size + 1) kv := Both.same ⟨hEA, hC, ⟨S1, S2, hT1, hT2, hB1, hB2, hdj⟩, h30⟩ hA4
            obtain ⟨⟨vv, TT, SS, hbb, hss, _, _⟩, _, _⟩ := hT2'
            obtain ⟨aa, cc, rfl⟩ := hss.shape
            have hcl := cell_of hbb 0
            simp only [List.getElem?_toArray, List.getElem?_cons_zero] at hcl
            clear hbb hss
            go_wp2_with fail
            go_quiet ((go_at_call 39; exact Calls.quiet_of_same ((count_any _ _ _ _ (hT1'.keep (Chg.drewN _ _) (fun _ _ f => f))).mono (fun e w' h => ⟨h.1, h.2.symm⟩))))
            go_wp2_with fail
            go_roundw
            case rel => exact ⟨k + 1, _, by omega, by go_num, hH'.same (Chg.drewN _ _)⟩
            case measure => simp [intOf]; omega
          · by_cases hke : kind = ⟨#[101, 110, 100]⟩
            · subst hke
              clear hkb
              have HBK := Lib.hid (block_alloc wr (.cells #[.string ⟨#[101, 110, 100]⟩, .string reply, .int .i64 owner, .int .i64 seq] 77))
              have hA := (Chg.refl Nil wr).alloc (.cells #[.string ⟨#[101, 110, 100]⟩, .string reply, .int .i64 owner, .int .i64 seq] 77)
              have hn1 : ¬ S1 wr.heap.size := fun h => by have := hT1.lt _ h; omega
              have hn2 : ¬ S2 wr.heap.size := fun h => by have := hT2.lt _ h; omega
              go_wp2_with fail
              go_region_held3 (fun w' => w'.cell? ⟨wr.heap.size, 1, none⟩ = some (.string reply) ∧ w'.cell? ⟨wr.heap.size, 2, none⟩ = some (.int .i64 owner) ∧ w'.cell? ⟨wr.heap.size, 3, none⟩ = some (.int .i64 seq))
                (first | exact act_cells HBK.out | exact act_cells HK2.out | exact act_cells HK3.out | exact act_cells HK4.out | go_keep)
                (first
                  | (go_at_call 16; refine (end_any (B := w.heap.size) ad _ owner seq reply kv S1 _ ?_ ?_).mono ?_; exact (hEA.keepN hA.drew).sub (by decide); exact hT1.keep hA.drew (fun _ _ f => f); rintro e w2 ⟨rfl, hc2, S1', hT12, hG2⟩; have HK2 := Lib.hid (hc2.keep HBK.out hn1))
                  | (go_at_call 36; refine (rend_any _ owner seq reply kv S2 _ ?_ hT1.rng).mono ?_; exact (hT2.keep hA.drew (fun _ _ f => f)).keep hc2 (fun x hx h1 => hdj x h1 hx); rintro e w3 ⟨rfl, hc3, S2', hT23, hG3⟩; have HK3 := Lib.hid (hc3.keep HK2.out hn2))
                  | (go_at_call 35; refine (coded2_ok (B := w.heap.size) ad _ _ _ ?_ (tEnd_le kv owner seq reply) rfl).mono ?_; exact ((hEA.keepN hA.drew).keep hc2 hB1).keep hc3 hB2; rintro e w4 ⟨rfl, hc4⟩; have HK4 := Lib.hid (hc4.keep HK3.out (fun f => f))))
              have hH' : Both ad w w4 w1.heap.size (w1.heap.size + 1) (tEnd kv owner seq reply).1 :=
                (both_step (hEA.keepN hA.drew) (hC.then hA.drew) (hT1.keep hA.drew (fun _ _ f => f)) (hT2.keep hA.drew (fun _ _ f => f)) hB1 hB2 hdj hc2 hT12 hG2 hc3 hT23 hG3 (tEnd_few h30)).same hc4
              obtain ⟨_, _, ⟨T1, T2, hT1', hT2', _⟩, _⟩ := id hH'
              obtain ⟨⟨vv, TT, SS, hbb, hss, _, _⟩, _, _⟩ := hT2'
              obtain ⟨aa, cc, rfl⟩ := hss.shape
              have hcl := cell_of hbb 0
              simp only [List.getElem?_toArray, List.getElem?_cons_zero] at hcl
              clear hbb hss
              go_wp2_with fail
              go_quiet ((go_at_call 39; exact Calls.quiet_of_same ((count_any _ _ _ _ (hT1'.keep (Chg.drewN _ _) (fun _ _ f => f))).mono (fun e w' h => ⟨h.1, h.2.symm⟩))))
              go_wp2_with fail
              go_roundw
              case rel => exact ⟨k + 1, _, by omega, by go_num, hH'.same (Chg.drewN _ _)⟩
              case measure => simp [intOf]; omega
            · have hke' : (kind.toList == [101, 110, 100]) = false := bytes_ne hke
              have hkb' : (kind.toList == [98, 101, 103, 105, 110]) = false := bytes_ne hkb
              clear hkb hke
              have HBK := Lib.hid (block_alloc wr (.cells #[.string kind, .string reply, .int .i64 owner, .int .i64 seq] 77))
              have hA := (Chg.refl Nil wr).alloc (.cells #[.string kind, .string reply, .int .i64 owner, .int .i64 seq] 77)
              have hn1 : ¬ S1 wr.heap.size := fun h => by have := hT1.lt _ h; omega
              have hn2 : ¬ S2 wr.heap.size := fun h => by have := hT2.lt _ h; omega
              go_wp2_with fail
              go_region_held3 (fun w' => w'.cell? ⟨wr.heap.size, 1, none⟩ = some (.string reply) ∧ w'.cell? ⟨wr.heap.size, 2, none⟩ = some (.int .i64 owner) ∧ w'.cell? ⟨wr.heap.size, 3, none⟩ = some (.int .i64 seq))
                (first | exact act_cells HBK.out | exact act_cells HK2.out | exact act_cells HK3.out | exact act_cells HK4.out | go_keep)
                (first
                  | (go_at_call 37; refine (drop_any (B := w.heap.size) ad _ owner kv S1 _ ?_ ?_).mono ?_; exact (hEA.keepN hA.drew).sub (by decide); exact hT1.keep hA.drew (fun _ _ f => f); rintro e w2 ⟨rfl, hc2, hT12⟩; have HK2 := Lib.hid (hc2.keep HBK.out hn1))
                  | (go_at_call 38; refine (rdrop_any _ owner kv S2 _ ?_ h30).mono ?_; exact (hT2.keep hA.drew (fun _ _ f => f)).keep hc2 (fun x hx h1 => hdj x h1 hx); rintro e w3 ⟨rfl, hc3, S2', hT23, hG3⟩; have HK3 := Lib.hid (hc3.keep HK2.out hn2))
                  | (go_at_call 35; refine (coded2_ok (B := w.heap.size) ad _ _ _ ?_ (tDrop_le kv owner) rfl).mono ?_; exact ((hEA.keepN hA.drew).keep hc2 hB1).keep hc3 hB2; rintro e w4 ⟨rfl, hc4⟩; have HK4 := Lib.hid (hc4.keep HK3.out (fun f => f))))
              have hH' : Both ad w w4 w1.heap.size (w1.heap.size + 1) (adel kv owner) :=
                (both_step (hEA.keepN hA.drew) (hC.then hA.drew) (hT1.keep hA.drew (fun _ _ f => f)) (hT2.keep hA.drew (fun _ _ f => f)) hB1 hB2 hdj hc2 hT12 (Grow.refl _ _ _) hc3 hT23 hG3 (adel_few h30)).same hc4
              obtain ⟨_, _, ⟨T1, T2, hT1', hT2', _⟩, _⟩ := id hH'
              obtain ⟨⟨vv, TT, SS, hbb, hss, _, _⟩, _, _⟩ := hT2'
              obtain ⟨aa, cc, rfl⟩ := hss.shape
              have hcl := cell_of hbb 0
              simp only [List.getElem?_toArray, List.getElem?_cons_zero] at hcl
              clear hbb hss
              go_wp2_with fail
              go_quiet ((go_at_call 39; exact Calls.quiet_of_same ((count_any _ _ _ _ (hT1'.keep (Chg.drewN _ _) (fun _ _ f => f))).mono (fun e w' h => ⟨h.1, h.2.symm⟩))))
              go_wp2_with fail
              go_roundw
              case rel => exact ⟨k + 1, _, by omega, by go_num, hH'.same (Chg.drewN _ _)⟩
              case measure => simp [intOf]; omega
      · go_wp2_with fail
        go_ret
        exact ⟨rfl, hH.chg⟩
end Go.Proofs.YtfekiagdnlnggaaDoor
