/- The walk of law DataActs. -/
import Derived.Test.YtfekiagdnlnggaaDoorDataLaw2
import Derived.Test.YtfekiagdnlnggaaDoorCoded1
import Derived.Test.YtfekiagdnlnggaaDoorShape
import Derived.Deep.RegionHeld3
namespace Go.Proofs.YtfekiagdnlnggaaDoor
open Go.RowKit
set_option linter.unusedVariables false
set_option linter.unusedSimpArgs false

def shAct : Sh := .and .str (.and .int (.and .int (.and .str .unit)))
abbrev DAct := ByteArray × Int × Int × ByteArray × Unit

structure BothD (ad : Nat → Addr) (w wr : World) (b1 b2 : Nat) (d : PData) (s : ByteArray) (h : List Bool) : Prop where
  env : EnvA w.heap.size ad wr
  chg : Chg Nil w wr
  tab : ∃ S1 S2, DataAt wr b1 d S1 ∧ BytesAt wr b2 s h S2 ∧ (∀ x, S1 x → w.heap.size ≤ x) ∧ (∀ x, S2 x → w.heap.size ≤ x) ∧ (∀ x, S1 x → ¬ S2 x)
  alike : Alike d s h
theorem BothD.same {ad : Nat → Addr} {w wr wr' : World} {b1 b2 : Nat} {d : PData} {s : ByteArray} {h : List Bool} (H : BothD ad w wr b1 b2 d s h) (c : Chg Nil wr wr') : BothD ad w wr' b1 b2 d s h := by
  obtain ⟨h1, h2, ⟨S1, S2, h3, h4, h5, h6, h7⟩, h8⟩ := H
  exact ⟨h1.keepN c, h2.then c, ⟨S1, S2, h3.keep c (fun _ _ f => f), h4.keep c (fun _ _ f => f), h5, h6, h7⟩, h8⟩
theorem bytesAt_new (w : World) (T : TypeId) : BytesAt (w.alloc (.cells #[.string ⟨#[]⟩, .slice none 0 0] T)) w.heap.size ⟨#[]⟩ [] (· = w.heap.size) :=
  ⟨⟨_, T, Nil, block_alloc _ _, sliceAt_nil _ _ _ _, fun f => f, fun _ f => f.elim⟩, rfl, fun x e => (by subst e; simp), Nat.zero_le _, Nat.zero_le _⟩
theorem bothD_step {ad : Nat → Addr} {w wr w2 w3 : World} {b1 b2 : Nat} {d d' : PData} {s s' : ByteArray} {h h' : List Bool} {S1 S2 S1' : Nat → Prop} (hEA : EnvA w.heap.size ad wr) (hC : Chg Nil w wr) (hT1 : DataAt wr b1 d S1) (hT2 : BytesAt wr b2 s h S2)
    (hB1 : ∀ x, S1 x → w.heap.size ≤ x) (hB2 : ∀ x, S2 x → w.heap.size ≤ x) (hdj : ∀ x, S1 x → ¬ S2 x) (hc2 : Chg S1 wr w2) (hT12 : DataAt w2 b1 d' S1') (hG2 : Grow S1 S1' wr w2)
    (hp : BytesPost S2 w2 b2 s' h' w3) (ha : Alike d' s' h') : BothD ad w w3 b1 b2 d' s' h' := by
  obtain ⟨hc3, S2', hT23, hG3⟩ := hp
  have hz := hC.size
  have hz2 := hc2.size
  have d12 : ∀ x, S1' x → ¬ S2 x := fun x h1 h2 => by
    rcases hG2 x h1 with h | h
    · exact hdj x h h2
    · have := hT2.lt x h2; omega
  refine ⟨(hEA.keep hc2 hB1).keep hc3 hB2, (hC.trans hc2 (fun x hx h => by have := hB1 x h; omega)).trans hc3 (fun x hx h => by have := hB2 x h; omega), ⟨S1', S2', hT12.keep hc3 d12, hT23, hG2.ge hB1 hz, hG3.ge hB2 (by omega), fun x h1 h2 => ?_⟩, ha⟩
  rcases hG3 x h2 with h | h
  · exact d12 x h1 h
  · have := hT12.lt x h1; omega
/-- The copy goes on, the other one is let go. -/
theorem bothD_copy {ad : Nat → Addr} {w wr w2 w3 : World} {nb b2 : Nat} {d : PData} {s : ByteArray} {h : List Bool} {S1 S2 Sn : Nat → Prop} (hEA : EnvA w.heap.size ad wr) (hC : Chg Nil w wr) (hT2 : BytesAt wr b2 s h S2)
    (hB1 : ∀ x, S1 x → w.heap.size ≤ x) (hB2 : ∀ x, S2 x → w.heap.size ≤ x) (hdj : ∀ x, S1 x → ¬ S2 x) (hlt : ∀ x, S1 x → x < wr.heap.size) (hc2 : Chg Nil wr w2) (hN : DataAt w2 nb d Sn) (hn : ∀ x, Sn x → wr.heap.size ≤ x) (hc3 : Chg S1 w2 w3) (ha : Alike d s h) : BothD ad w w3 nb b2 d s h := by
  have hz := hC.size
  have hz2 := hc2.size
  refine ⟨(hEA.keepN hc2).keep hc3 hB1, (hC.then hc2).trans hc3 (fun x hx h => by have := hB1 x h; omega), ⟨Sn, S2, hN.keep hc3 (fun x h1 h2 => by have := hn x h1; have := hlt x h2; omega), (hT2.keep hc2 (fun _ _ f => f)).keep hc3 (fun x h1 h2 => hdj x h2 h1), fun x hx => by have := hn x hx; omega, hB2, fun x h1 h2 => by have := hn x h1; have := hT2.lt x h2; omega⟩, ha⟩
def RelDA (ad : Nat → Addr) (w : World) (b2 n : Nat) (p i : Value) (wr : World) : Prop :=
  ∃ (k b1 : Nat) (d : PData) (s : ByteArray) (h : List Bool), k ≤ n ∧ i = .int .i64 k ∧ p = .pointer (some ⟨b1, 0, none⟩) ∧ BothD ad w wr b1 b2 d s h
theorem dWrite_le (d : PData) (p : Int) (t : ByteArray) : (dWrite d p t).2 ≤ 15 := by
  unfold dWrite; split
  · simp
  · split <;> simp
theorem dResize_le (d : PData) (n : Int) : (dResize d n).2 ≤ 15 := by
  unfold dResize; split
  · simp
  · split <;> simp
theorem dRead_le (d : PData) (p n : Int) : (dRead d p n).2.2 ≤ 15 := by
  unfold dRead; split <;> simp
theorem act_cells4 {W : World} {ab : Nat} {v0 v1 v2 v3 : Value} {T : TypeId} (hb : W.heap[ab]? = some (.cells #[v0, v1, v2, v3] T (0, 0))) :
    W.cell? ⟨ab, 1, none⟩ = some v1 ∧ W.cell? ⟨ab, 2, none⟩ = some v2 ∧ W.cell? ⟨ab, 3, none⟩ = some v3 := ⟨by simp [cell_of hb], by simp [cell_of hb], by simp [cell_of hb]⟩
theorem bytes_ne' {k : ByteArray} {l : List UInt8} (h : ¬ k = ⟨l.toArray⟩) : (k.toList == l) = false := by
  rw [beq_eq_false_iff_ne]
  intro e
  apply h
  have e2 : k.data.toList = l := by rw [← e]; exact (ByteArray.toList_eq k).symm
  obtain ⟨d⟩ := k
  simp only at e2
  subst e2
  rfl
theorem BytesAt.text {w : World} {b : Nat} {s : ByteArray} {h : List Bool} {S : Nat → Prop} (H : BytesAt w b s h S) : w.cell? ⟨b, 0, none⟩ = some (.string s) := by
  obtain ⟨⟨v, T, Ss, hb, _⟩, _⟩ := H
  simpa using cell_of hb 0

theorem dsize_as {b z : Nat} {d : PData} {S : Nat → Prop} {w : World} (ht : DataAt w b d S) (hz : d.size = z) :
    Calls Tryd.prog 24 #[.pointer (some ⟨b, 0, none⟩)] w fun e w' => e = .returned (.int .i64 z) ∧ w = w' := by subst hz; exact dsize_any b d S w ht
theorem dblocks_as {b z : Nat} {d : PData} {S : Nat → Prop} {w : World} (ht : DataAt w b d S) (hz : d.kv.length = z) :
    Calls Tryd.prog 54 #[.pointer (some ⟨b, 0, none⟩)] w fun e w' => e = .returned (.int .i64 z) ∧ w = w' := by subst hz; exact dblocks_any b d S w ht
set_option maxHeartbeats 8000000 in
set_option maxRecDepth 100000 in
theorem dataActs_any (ad : Nat → Addr) (a0 : Option Addr) (cap : Nat) (acts : List DAct) (w : World) (he : EnvA w.heap.size ad w)
    (hs : (Sh.slice shAct).At w w.heap.size (a0, cap, acts)) :
    Calls Tryd.prog 10 #[.slice a0 acts.length cap] w fun e w' => e = .returned (.bool true) ∧ Chg Nil w w' := by
  have HT := Lib.hid (one_any ad w (he.sub (ds := [2]) (by decide)))
  have HE := Lib.hid he
  have hl1 : acts.length ≤ 9223372036854775807 := Nat.le_trans hs.1 hs.2.1
  have HC := Lib.hid hs.2.2
  clear he hs
  by_cases h1 : 40 < acts.length
  · go_enter Tryd.func10, Tryd.ntmps10
    go_wp2_with fail
    refine HT.out.mono ?_
    rintro e w1 ⟨rfl, hc1⟩
    go_wp2_with fail
    go_ret
    exact ⟨rfl, hc1⟩
  go_enter Tryd.func10, Tryd.ntmps10
  go_wp2_with fail
  refine HT.out.mono ?_
  rintro e w1 ⟨rfl, hc1⟩
  have hz1 := hc1.size
  go_wp2_with fail
  go_loopw [4, 6] (fun p i wr => RelDA ad w (w1.heap.size + 1) acts.length p i wr) (fun _ i _ => (acts.length - intOf i).toNat)
  case atStart =>
    exact ⟨0, w1.heap.size, ⟨0, []⟩, ⟨#[]⟩, [], Nat.zero_le _, rfl, rfl, ((HE.out.keepN hc1).alloc _).alloc _, (hc1.alloc _).alloc _, ⟨_, _, (dataAt_new w1 _).keep ((Chg.refl Nil _).alloc _) (fun _ _ f => f), by simpa using bytesAt_new (w1.alloc (.cells #[.int .i64 0, .map none] 43)) 100, fun x e => (by have : x = w1.heap.size := e; omega), fun x e => (by have : x = w1.heap.size + 1 := e; omega), fun x e e2 => (by have h1 : x = w1.heap.size := e; have h2 : x = w1.heap.size + 1 := e2; omega)⟩, alike_new⟩
  case round =>
    obtain ⟨k, b1, d, s, h, hk, rfl, rfl, hH⟩ := hrel
    by_cases hlt : k < acts.length
    · obtain ⟨x, hx⟩ : ∃ x, acts[k]? = some x := ⟨acts[k], List.getElem?_eq_getElem hlt⟩
      obtain ⟨hxa, g, off, rfl, hg, hcx⟩ := HC.out k x hx
      obtain ⟨kind, p, n, t, _⟩ := x
      obtain ⟨_, ⟨_, hp⟩, ⟨_, hn⟩, _⟩ := hxa
      have hp' : p ≤ 9223372036854775807 := hp
      have hn' : n ≤ 9223372036854775807 := hn
      have hgr := Nat.lt_of_lt_of_le hg hH.chg.size
      have c0 := (hH.chg.cell (p := ⟨g, off + k * 4 + 0, none⟩) hg (fun f => f)).trans (hcx 0 _ rfl)
      have c1 := (hH.chg.cell (p := ⟨g, off + k * 4 + 1, none⟩) hg (fun f => f)).trans (hcx 1 _ rfl)
      have c2 := (hH.chg.cell (p := ⟨g, off + k * 4 + 2, none⟩) hg (fun f => f)).trans (hcx 2 _ rfl)
      have c3 := (hH.chg.cell (p := ⟨g, off + k * 4 + 3, none⟩) hg (fun f => f)).trans (hcx 3 _ rfl)
      simp only [Nat.add_zero] at c0
      clear hcx hx hp hn
      by_cases hbig : 5000 < t.size
      · go_wp2_with fail
        go_ret
        exact ⟨rfl, hH.chg.alloc _⟩
      obtain ⟨hEA, hC, ⟨S1, S2, hT1, hT2, hB1, hB2, hdj⟩, hal⟩ := id hH
      have hn1 : ¬ S1 wr.heap.size := fun h => by have := hT1.lt _ h; omega
      have hn2 : ¬ S2 wr.heap.size := fun h => by have := hT2.lt _ h; omega
      have hkinds : kind = ⟨#[119, 114, 105, 116, 101]⟩ ∨ (¬ kind = ⟨#[119, 114, 105, 116, 101]⟩ ∧ kind = ⟨#[114, 101, 97, 100]⟩) ∨ (¬ kind = ⟨#[119, 114, 105, 116, 101]⟩ ∧ ¬ kind = ⟨#[114, 101, 97, 100]⟩ ∧ kind = ⟨#[114, 101, 115, 105, 122, 101]⟩) ∨ (¬ kind = ⟨#[119, 114, 105, 116, 101]⟩ ∧ ¬ kind = ⟨#[114, 101, 97, 100]⟩ ∧ ¬ kind = ⟨#[114, 101, 115, 105, 122, 101]⟩) := by
        by_cases k1 : kind = ⟨#[119, 114, 105, 116, 101]⟩
        · exact .inl k1
        · by_cases k2 : kind = ⟨#[114, 101, 97, 100]⟩
          · exact .inr (.inl ⟨k1, k2⟩)
          · by_cases k3 : kind = ⟨#[114, 101, 115, 105, 122, 101]⟩
            · exact .inr (.inr (.inl ⟨k1, k2, k3⟩))
            · exact .inr (.inr (.inr ⟨k1, k2, k3⟩))
      rcases hkinds with rfl | ⟨k1, rfl⟩ | ⟨k1, k2, rfl⟩ | ⟨k1, k2, k3⟩
      case' inl =>
        have HBK := Lib.hid (block_alloc wr (.cells #[.string ⟨#[119, 114, 105, 116, 101]⟩, .int .i64 p, .int .i64 n, .string t] 102))
        have hA := (Chg.refl Nil wr).alloc (.cells #[.string ⟨#[119, 114, 105, 116, 101]⟩, .int .i64 p, .int .i64 n, .string t] 102)
        have HAL := Lib.hid (hal.write p t).2
        have HCODE : Hid (((dWrite d p t).2 : Int) = ((bWrite s h p t).2.2 : Int)) := Lib.hid (by rw [(hal.write p t).1])
        go_wp2_with fail
        go_region_held3 (fun w' => w'.cell? ⟨wr.heap.size, 1, none⟩ = some (.int .i64 p) ∧ w'.cell? ⟨wr.heap.size, 2, none⟩ = some (.int .i64 n) ∧ w'.cell? ⟨wr.heap.size, 3, none⟩ = some (.string t))
          (first | exact act_cells4 HBK.out | exact act_cells4 HK2.out | exact act_cells4 HK3.out | exact act_cells4 HK4.out | go_keep)
          (first
            | (go_at_call 22; refine (dwrite_any (B := w.heap.size) ad _ p t d S1 _ ?_ ?_).mono ?_; exact (hEA.keepN hA.drew).sub (by decide); exact hT1.keep hA.drew (fun _ _ f => f); rintro e w2 ⟨rfl, hc2, S1', hT12, hG2⟩; have HK2 := Lib.hid (hc2.keep HBK.out hn1))
            | (go_at_call 50; refine (bwrite_any _ p t s h S2 _ ?_).mono ?_; exact (hT2.keep hA.drew (fun _ _ f => f)).keep hc2 (fun x hx h1 => hdj x h1 hx); rintro e w3 ⟨rfl, hp3⟩; have HK3 := Lib.hid (hp3.1.keep HK2.out hn2))
            | (go_at_call 28; refine (coded1_ok (B := w.heap.size) ad _ _ _ ?_ (dWrite_le d p t) HCODE.out).mono ?_; exact ((hEA.keepN hA.drew).keep hc2 hB1).keep hp3.1 hB2; rintro e w4 ⟨rfl, hc4⟩; have HK4 := Lib.hid (hc4.keep HK3.out (fun f => f))))
        have hH' := (bothD_step (hEA.keepN hA.drew) (hC.then hA.drew) (hT1.keep hA.drew (fun _ _ f => f)) (hT2.keep hA.drew (fun _ _ f => f)) hB1 hB2 hdj hc2 hT12 hG2 hp3 HAL.out).same hc4
        go_wp2_with fail
      case' inr.inl =>
        clear k1
        have HBK := Lib.hid (block_alloc wr (.cells #[.string ⟨#[114, 101, 97, 100]⟩, .int .i64 p, .int .i64 n, .string t] 102))
        have hA := (Chg.refl Nil wr).alloc (.cells #[.string ⟨#[114, 101, 97, 100]⟩, .int .i64 p, .int .i64 n, .string t] 102)
        have HR := Lib.hid (hal.read p n)
        have hle : (bRead s p n).2.2 ≤ 15 := by rw [← hal.read p n]; exact dRead_le d p n
        go_wp2_with fail
        refine (dread_any (B := w.heap.size) ad b1 p n d S1 _ ((hEA.keepN hA).sub (by decide)) (hT1.keep hA (fun _ _ f => f)) hp').mono ?_
        rintro e w2 ⟨rfl, hc2⟩
        rw [HR.out]
        have hA2 := hA.then hc2
        obtain ⟨d1, d2, d3⟩ := act_cells4 (hc2.keep HBK.out (fun f => f))
        go_wp2_with fail
        refine (bread_any _ p n s h S2 _ (hT2.keep hA2 (fun _ _ f => f)) hp' hn').mono ?_
        rintro e w3 ⟨rfl, rfl⟩
        go_wp2_with fail
        refine (coded1_ok ad _ _ _ (hEA.keepN hA2) hle rfl).mono ?_
        rintro e w4 ⟨rfl, hc4⟩
        have hH' := hH.same (hA2.then hc4)
        go_wp2_with fail
      case' inr.inr.inl =>
        clear k1 k2
        have HBK := Lib.hid (block_alloc wr (.cells #[.string ⟨#[114, 101, 115, 105, 122, 101]⟩, .int .i64 p, .int .i64 n, .string t] 102))
        have hA := (Chg.refl Nil wr).alloc (.cells #[.string ⟨#[114, 101, 115, 105, 122, 101]⟩, .int .i64 p, .int .i64 n, .string t] 102)
        have HAL := Lib.hid (hal.resize n).2
        have HCODE : Hid (((dResize d n).2 : Int) = ((bResize s h n).2.2 : Int)) := Lib.hid (by rw [(hal.resize n).1])
        go_wp2_with fail
        go_region_held3 (fun w' => w'.cell? ⟨wr.heap.size, 1, none⟩ = some (.int .i64 p) ∧ w'.cell? ⟨wr.heap.size, 2, none⟩ = some (.int .i64 n) ∧ w'.cell? ⟨wr.heap.size, 3, none⟩ = some (.string t))
          (first | exact act_cells4 HBK.out | exact act_cells4 HK2.out | exact act_cells4 HK3.out | exact act_cells4 HK4.out | go_keep)
          (first
            | (go_at_call 25; refine (dresize_any (B := w.heap.size) ad _ n d S1 _ ?_ ?_).mono ?_; exact (hEA.keepN hA.drew).sub (by decide); exact hT1.keep hA.drew (fun _ _ f => f); rintro e w2 ⟨rfl, hc2, S1', hT12, hG2⟩; have HK2 := Lib.hid (hc2.keep HBK.out hn1))
            | (go_at_call 52; refine (bresize_any _ n s h S2 _ ?_).mono ?_; exact (hT2.keep hA.drew (fun _ _ f => f)).keep hc2 (fun x hx h1 => hdj x h1 hx); rintro e w3 ⟨rfl, hp3⟩; have HK3 := Lib.hid (hp3.1.keep HK2.out hn2))
            | (go_at_call 28; refine (coded1_ok (B := w.heap.size) ad _ _ _ ?_ (dResize_le d n) HCODE.out).mono ?_; exact ((hEA.keepN hA.drew).keep hc2 hB1).keep hp3.1 hB2; rintro e w4 ⟨rfl, hc4⟩; have HK4 := Lib.hid (hc4.keep HK3.out (fun f => f))))
        have hH' := (bothD_step (hEA.keepN hA.drew) (hC.then hA.drew) (hT1.keep hA.drew (fun _ _ f => f)) (hT2.keep hA.drew (fun _ _ f => f)) hB1 hB2 hdj hc2 hT12 hG2 hp3 HAL.out).same hc4
        go_wp2_with fail
      case' inr.inr.inr =>
        have k1' := bytes_ne' k1
        have k2' := bytes_ne' k2
        have k3' := bytes_ne' k3
        clear k1 k2 k3
        have HBK := Lib.hid (block_alloc wr (.cells #[.string kind, .int .i64 p, .int .i64 n, .string t] 102))
        have hA := (Chg.refl Nil wr).alloc (.cells #[.string kind, .int .i64 p, .int .i64 n, .string t] 102)
        have hHA := hH.same hA
        have hltS : ∀ x, S1 x → x < (wr.alloc (.cells #[.string kind, .int .i64 p, .int .i64 n, .string t] 102)).heap.size := fun x hx => by have := hT1.lt x hx; simp; omega
        go_wp2_with fail
        refine (dcopy_any b1 d S1 _ (hT1.keep hA (fun _ _ f => f))).mono ?_
        rintro e w2 ⟨nb, Sn, rfl, hc2, hN, hnn⟩
        have hT1c := (hT1.keep hA (fun _ _ f => f)).keep hc2 (fun _ _ f => f)
        have hE2 := (hEA.keepN hA).keepN hc2
        have HN := Lib.hid hN
        clear hN
        go_wp2_with fail
        refine (dwrite_any (B := w.heap.size) ad b1 0 ⟨#[103, 111, 110, 101]⟩ d S1 w2 (hE2.sub (by decide)) hT1c).mono ?_
        rintro e w3 ⟨rfl, hc3, S3, hT3, hG3⟩
        have hz2 : w.heap.size ≤ w2.heap.size := hE2.env.size
        go_wp2_with fail
        refine (dresize_any (B := w.heap.size) ad b1 1 _ S3 w3 ((hE2.keep hc3 hB1).sub (by decide)) hT3).mono ?_
        rintro e w4 ⟨rfl, hc4, S4, hT4, hG4⟩
        have hz3 := hc3.size
        have hc34 : Chg S1 w2 w4 := hc3.trans hc4 (fun x hx h => by rcases hG3 x h with h | h; exact h; omega)
        have hH' := bothD_copy (hEA.keepN hA) (hC.then hA) (hT2.keep hA (fun _ _ f => f)) hB1 hB2 hdj hltS hc2 HN.out hnn hc34 hal
        clear hT3 hT4 hG3 hG4
        go_wp2_with fail
      all_goals
        obtain ⟨_, _, ⟨T1, T2, hT1', hT2', _⟩, hal'⟩ := id hH'
        have q0 := hT2'.text
        have QS := Lib.hid hal'.size
        have QB := Lib.hid (hal'.blocks hT1'.nodup)
        clear hal'
        go_quiet ((first
          | (go_at_call 24; exact Calls.quiet_of_same ((dsize_as (hT1'.keep (Chg.drewN _ _) (fun _ _ f => f)) QS.out).mono (fun e w' h => ⟨h.1, h.2.symm⟩)))
          | (go_at_call 54; exact Calls.quiet_of_same ((dblocks_as (hT1'.keep (Chg.drewN _ _) (fun _ _ f => f)) QB.out).mono (fun e w' h => ⟨h.1, h.2.symm⟩)))
          | (go_at_call 55; exact Calls.quiet_of_same ((bblocks_any _ _ _ _ _ (hT2'.keep (Chg.drewN _ _) (fun _ _ f => f))).mono (fun e w' h => ⟨h.1, h.2.symm⟩)))))
        go_wp2_with fail
        go_roundw
        case rel => exact ⟨k + 1, _, _, _, _, by omega, by go_num, rfl, hH'.same (Chg.drewN _ _)⟩
        case measure => simp [intOf]; omega
    · obtain ⟨hEA, hC, ⟨S1, S2, hT1, hT2, hB1, hB2, hdj⟩, hal⟩ := id hH
      have HR : Hid (dRead d 0 4096 = (s, true, 0)) := Lib.hid (by
        have := hal.holds.whole 4096 (by have := hal.holds.small; have := hal.holds.size; omega)
        simpa using this)
      go_wp2_with fail
      refine (dread_any (B := w.heap.size) ad b1 0 4096 d S1 _ (hEA.sub (by decide)) hT1 (by omega)).mono ?_
      rintro e w2 ⟨rfl, hc2⟩
      rw [HR.out]
      simp only [errV_zero]
      have q0 := (hT2.keep hc2 (fun _ _ f => f)).text
      go_wp2_with fail
      go_ret
      exact ⟨rfl, hC.then hc2⟩
end Go.Proofs.YtfekiagdnlnggaaDoor
