/- package cache: Keep, New. -/
import Derived.Test.YtfekiagdnlnggaaDoorCache
import Derived.Test.YtfekiagdnlnggaaDoorSteps
import Derived.Deep.RegionLaw
namespace Go.Proofs.YtfekiagdnlnggaaDoor
open Go.RowKit
set_option linter.unusedVariables false
set_option linter.unusedSimpArgs false

theorem keep_same {w W : World} {b most : Nat} {kv : Kepts} {S : Nat → Prop} (h : CacheAt w b most kv S) (hc : Chg Nil w W) : Chg S w W ∧ ∃ S', CacheAt W b most kv S' ∧ Grow S S' w W :=
  ⟨hc.nil, S, h.keep hc (fun _ _ f => f), Grow.refl _ _ _⟩

theorem keep_done {w w4 W : World} {b rm most : Nat} {kv : Kepts} {S Ss S4 : Nat → Prop} {E : TypeId} {old v4 : Value} (hb4 : w4.heap[b]? = some (.cells #[.int .i64 most, .map (some rm), old] E (0, 0)))
    (hA4 : MapA w4 rm ck (keptV kv)) (hs4 : SliceAt w4 v4 147 2 kv.length (kv.flatMap keyC) S4) (hS4 : ∀ x, S4 x → Ss x ∨ (w.heap.size ≤ x ∧ x < w4.heap.size)) (hc4 : Chg S w w4) (hW : Chg Nil (w4.setCell ⟨b, 2, none⟩ v4) W)
    (hS : S b) (hSm : S rm) (hlt : ∀ x, S x → x < w.heap.size) (hSs : ∀ x, Ss x → S x) (hnb : ¬ Ss b) (hnm : ¬ Ss rm) (hfew : kv.length ≤ most) (hmost : 1 ≤ most ∧ most ≤ 20) :
    Chg S w W ∧ ∃ S', CacheAt W b most kv S' ∧ Grow S S' w W := by
  have hbl := hlt b hS
  have hml := hlt rm hSm
  have hb' := block_setCell hb4 2 v4
  simp at hb'
  have hsz : w4.heap.size ≤ W.heap.size := by have := hW.size; simp at this; exact this
  have hset : Chg (· = b) w4 (w4.setCell ⟨b, 2, none⟩ v4) := (Chg.refl (· = b) w4).setCell (p := ⟨b, 2, none⟩) (.inr rfl) v4
  have hne : rm ≠ b := fun e => by
    subst e
    obtain ⟨es, clock, h, _⟩ := hA4
    rw [hb4] at h; cases h
  have n4b : ¬ S4 b := fun h => by rcases hS4 b h with h | h; exact hnb h; omega
  have n4m : ¬ S4 rm := fun h => by rcases hS4 rm h with h | h; exact hnm h; omega
  have hC : Chg S w W := (hc4.then (hset.mono (fun x _ e => by have : x = b := e; subst this; exact hS))).then hW.nil
  refine ⟨hC, fun x => S x ∨ S4 x, ⟨⟨rm, v4, E, S4, hW.keep hb' (fun f => f), (hA4.keep hset hne).keep hW (fun f => f), (hs4.keep hset (fun x hx e => n4b (by have : x = b := e; subst this; exact hx))).keep hW (fun _ _ f => f), .inl hSm, fun x h => .inr h, n4b, n4m⟩, .inl hS, ?_, hfew, hmost⟩, ?_⟩
  · rintro x (h | h)
    · exact Nat.lt_of_lt_of_le (hlt x h) hC.size
    · rcases hS4 x h with h | h
      · exact Nat.lt_of_lt_of_le (hlt x (hSs x h)) hC.size
      · omega
  · rintro x (h | h)
    · exact .inl h
    · rcases hS4 x h with h | h
      · exact .inl (hSs x h)
      · exact .inr ⟨h.1, by omega⟩

theorem keep_app {w w2 X w4 : World} {rm : Nat} {kv : Kepts} {e : CKey × (ByteArray × ByteArray)} {S Ss S4 : Nat → Prop} {v4 : Value} (hA3 : MapA w2 rm ck (keptV (kv ++ [e]))) (hC2 : Chg (· = rm) w w2) (hX : Chg Nil w2 X) (hc4 : Chg Ss X w4) (hg4 : Grow Ss S4 X w4)
    (hs4 : SliceAt w4 v4 147 2 (kv.length + 1) (kv.flatMap keyC ++ keyC e) S4) (hSm : S rm) (hSs : ∀ x, Ss x → S x) (hnm : ¬ Ss rm) :
    MapA w4 rm ck (keptV (kv ++ [e])) ∧ SliceAt w4 v4 147 2 (kv ++ [e]).length ((kv ++ [e]).flatMap keyC) S4 ∧ (∀ x, S4 x → Ss x ∨ (w.heap.size ≤ x ∧ x < w4.heap.size)) ∧ Chg S w w4 := by
  refine ⟨(hA3.keep hX (fun f => f)).keep hc4 hnm, by simpa using hs4, fun x hx => ?_, ((hC2.mono (fun x _ e => by have : x = rm := e; subst this; exact hSm)).then hX.nil).then (hc4.mono (fun x _ h => hSs x h))⟩
  have h1 := hC2.size
  have h2 := hX.size
  rcases hg4 x hx with h | h
  · exact .inl h
  · exact .inr ⟨by omega, h.2⟩

theorem keep_first {w4 X : World} {b rm most g off n cap : Nat} {kv : Kepts} {S4 : Nat → Prop} {E : TypeId} {old : Value} (hb4 : w4.heap[b]? = some (.cells #[.int .i64 most, .map (some rm), old] E (0, 0)))
    (hA4 : MapA w4 rm ck (keptV kv)) (hs4 : SliceAt w4 (.slice (some ⟨g, off, none⟩) n cap) 147 2 n (kv.flatMap keyC) S4) (hn4 : ¬ S4 b) (hX : Chg Nil (w4.setCell ⟨b, 2, none⟩ (.slice (some ⟨g, off, none⟩) n cap)) X) :
    X.heap[b]? = some (.cells #[.int .i64 most, .map (some rm), .slice (some ⟨g, off, none⟩) n cap] E (0, 0)) ∧ MapA X rm ck (keptV kv) ∧ SliceAt X (.slice (some ⟨g, off, none⟩) n cap) 147 2 n (kv.flatMap keyC) S4 := by
  have hb' := block_setCell hb4 2 (.slice (some ⟨g, off, none⟩) n cap)
  simp at hb'
  have hset : Chg (· = b) w4 (w4.setCell ⟨b, 2, none⟩ (.slice (some ⟨g, off, none⟩) n cap)) := (Chg.refl (· = b) w4).setCell (p := ⟨b, 2, none⟩) (.inr rfl) _
  have hne : rm ≠ b := fun e => by
    subst e
    obtain ⟨es, clock, h, _⟩ := hA4
    rw [hb4] at h; cases h
  exact ⟨hX.keep hb' (fun f => f), (hA4.keep hset hne).keep hX (fun f => f), (hs4.keep hset (fun x hx e => hn4 (by have : x = b := e; subst this; exact hx))).keep hX (fun _ _ f => f)⟩
theorem keep_cells {X : World} {b rm most g off n cap : Nat} {p : CKey × (ByteArray × ByteArray)} {l : Kepts} {S4 : Nat → Prop} {E : TypeId} (h : X.heap[b]? = some (.cells #[.int .i64 most, .map (some rm), .slice (some ⟨g, off, none⟩) n cap] E (0, 0)))
    (hs : SliceAt X (.slice (some ⟨g, off, none⟩) n cap) 147 2 n ((p :: l).flatMap keyC) S4) :
    X.cell? ⟨b, 1, none⟩ = some (.map (some rm)) ∧ X.cell? ⟨b, 2, none⟩ = some (.slice (some ⟨g, off, none⟩) n cap) ∧ X.cell? ⟨g, off, none⟩ = some (.string p.1.1) ∧ X.cell? ⟨g, off + 1, none⟩ = some (.int .i64 p.1.2) := by
  have h0 := (hs.elem keyC_len (k := 0) (x := p) rfl 0 _ rfl).1
  have h1 := (hs.elem keyC_len (k := 0) (x := p) rfl 1 _ rfl).1
  simp only [Nat.zero_mul, Nat.add_zero] at h0 h1
  exact ⟨cell_of h 1, cell_of h 2, h0, h1⟩

theorem chg_at {S : Nat → Prop} {X w2 w4 : World} (hc4 : Chg S X w4) (h : Chg Nil w2 X) : Chg Nil w2 X := h
theorem keep_ne {X : World} {b rm most : Nat} {v : Value} {kv : Kepts} {E : TypeId} (hb : X.heap[b]? = some (.cells #[.int .i64 most, .map (some rm), v] E (0, 0))) (hA : MapA X rm ck (keptV kv)) : b ≠ rm := fun e => by
  subst e
  obtain ⟨es, clock, h, _⟩ := hA
  rw [hb] at h; cases h
theorem keep_mid {w W w2 : World} {b rm most : Nat} {v : Value} {c t r : ByteArray} {i : Int} {kv : Kepts} {E : TypeId} (hb : w.heap[b]? = some (.cells #[.int .i64 most, .map (some rm), v] E (0, 0))) (hm : MapA w rm ck (keptV kv)) (hno : aput kv (c, i) (t, r) = kv ++ [((c, i), (t, r))])
    (hA2 : MapA w2 rm ck (aput (keptV kv) (c, i) (saidV (t, r)))) (hc2 : Chg (· = rm) W w2) (hX : Chg Nil (w.alloc (.cells #[.string c, .int .i64 i] 147)) W) :
    MapA w2 rm ck (keptV (kv ++ [((c, i), (t, r))])) ∧ Chg (· = rm) w w2 ∧ w2.heap[b]? = some (.cells #[.int .i64 most, .map (some rm), v] E (0, 0)) ∧ w2.heap[w.heap.size]? = some (.cells #[.string c, .int .i64 i] 147 (0, 0)) := by
  have hne : b ≠ rm := fun e => by
    subst e
    obtain ⟨es, clock, h, _⟩ := hm
    rw [hb] at h; cases h
  have hrl := hm.lt
  have h1 : Chg Nil w W := ((Chg.refl Nil w).alloc _).then hX
  refine ⟨?_, h1.nil.then hc2, hc2.keep (h1.keep hb (fun f => f)) hne, hc2.keep (hX.keep (block_alloc _ _) (fun f => f)) (fun e => ?_)⟩
  · rw [← hno]
    have := aput_map saidV kv (c, i) (t, r)
    unfold keptV at hA2 ⊢
    rw [← this]; exact hA2
  · have : w.heap.size = rm := e
    omega

theorem keep_first_cells {w4 X : World} {b rm most g off n cap : Nat} {p : CKey × (ByteArray × ByteArray)} {l : Kepts} {S4 : Nat → Prop} {E : TypeId} {old : Value} (hb4 : w4.heap[b]? = some (.cells #[.int .i64 most, .map (some rm), old] E (0, 0)))
    (hA4 : MapA w4 rm ck (keptV (p :: l))) (hs4 : SliceAt w4 (.slice (some ⟨g, off, none⟩) n cap) 147 2 n ((p :: l).flatMap keyC) S4) (hn4 : ¬ S4 b) (hX : Chg Nil (w4.setCell ⟨b, 2, none⟩ (.slice (some ⟨g, off, none⟩) n cap)) X) :
    X.cell? ⟨b, 1, none⟩ = some (.map (some rm)) ∧ X.cell? ⟨b, 2, none⟩ = some (.slice (some ⟨g, off, none⟩) n cap) ∧ X.cell? ⟨g, off, none⟩ = some (.string p.1.1) ∧ X.cell? ⟨g, off + 1, none⟩ = some (.int .i64 p.1.2) :=
  keep_cells (keep_first hb4 hA4 hs4 hn4 hX).1 (keep_first hb4 hA4 hs4 hn4 hX).2.2
theorem keep_app2 {w w2 X w4 : World} {b rm most : Nat} {l : Kepts} {p e : CKey × (ByteArray × ByteArray)} {S Ss S4 : Nat → Prop} {v4 old : Value} {E : TypeId} (hb2 : w2.heap[b]? = some (.cells #[.int .i64 most, .map (some rm), old] E (0, 0)))
    (hA3 : MapA w2 rm ck (keptV (p :: l ++ [e]))) (hC2 : Chg (· = rm) w w2) (hc4 : Chg Ss X w4) (hg4 : Grow Ss S4 X w4)
    (hs4 : SliceAt w4 v4 147 2 (l.length + 1 + 1) ((p :: l).flatMap keyC ++ keyC e) S4) (hS : S b) (hlt : ∀ x, S x → x < w.heap.size) (hSm : S rm) (hSs : ∀ x, Ss x → S x) (hnm : ¬ Ss rm) (hnb : ¬ Ss b) (hX : Chg Nil w2 X) :
    ∃ g off cap, v4 = .slice (some ⟨g, off, none⟩) (l.length + 1 + 1) cap ∧ 1 < cap ∧ w4.heap[b]? = some (.cells #[.int .i64 most, .map (some rm), old] E (0, 0)) ∧ ¬ S4 b ∧ ¬ S4 rm ∧
      MapA w4 rm ck (keptV (p :: (l ++ [e]))) ∧ SliceAt w4 v4 147 2 (l.length + 1 + 1) ((p :: (l ++ [e])).flatMap keyC) S4 ∧ (∀ x, S4 x → Ss x ∨ (w.heap.size ≤ x ∧ x < w4.heap.size)) ∧ Chg S w w4 := by
  have HA := keep_app hA3 hC2 hX hc4 hg4 hs4 hSm hSs hnm
  obtain ⟨g, off, cap, cs, rfl, _, hn, hcm, _⟩ := hs4.place (by omega)
  have h1 := hlt b hS
  have h2 := hlt rm hSm
  refine ⟨g, off, cap, rfl, by omega, hc4.keep (hX.keep hb2 (fun f => f)) hnb, fun h => ?_, fun h => ?_, HA.1, by simpa using hs4, HA.2.2⟩
  · rcases HA.2.2.1 b h with h | h
    · exact hnb h
    · omega
  · rcases HA.2.2.1 rm h with h | h
    · exact hnm h
    · omega

theorem keep_drop {w w4 X w5 : World} {b rm most g off m cap : Nat} {l : Kepts} {p : CKey × (ByteArray × ByteArray)} {S Ss S4 : Nat → Prop} {vv : Value} {E : TypeId} (hc4 : Chg S w w4) (hX : Chg Nil (w4.setCell ⟨b, 2, none⟩ vv) X) (hc5 : Chg (· = rm) X w5)
    (hb5 : w5.heap[b]? = some (.cells #[.int .i64 most, .map (some rm), .slice (some ⟨g, off, none⟩) (m + 1 + 1) cap] E (0, 0))) (hA5 : MapA w5 rm ck (adel (keptV (p :: l)) p.1))
    (hs5 : SliceAt w5 (.slice (some ⟨g, off, none⟩) (m + 1 + 1) cap) 147 2 (m + 1 + 1) ((p :: l).flatMap keyC) S4) (hl : l.length = m + 1) (hS4 : ∀ x, S4 x → Ss x ∨ (w.heap.size ≤ x ∧ x < w4.heap.size))
    (hS : S b) (hSm : S rm) (hlt : ∀ x, S x → x < w.heap.size) (hSs : ∀ x, Ss x → S x) (hnb : ¬ Ss b) (hnm : ¬ Ss rm) (hfew : l.length ≤ most) (hmost : 1 ≤ most ∧ most ≤ 20) :
    Chg S w (w5.setCell ⟨b, 2, none⟩ (.slice (some ⟨g, off + 2, none⟩) (m + 1) (cap - 1))) ∧ ∃ S', CacheAt (w5.setCell ⟨b, 2, none⟩ (.slice (some ⟨g, off + 2, none⟩) (m + 1) (cap - 1))) b most l S' ∧ Grow S S' w (w5.setCell ⟨b, 2, none⟩ (.slice (some ⟨g, off + 2, none⟩) (m + 1) (cap - 1))) := by
  have h1 := hX.size
  have h2 := hc5.size
  simp at h1
  have hset : Chg (· = b) w4 (w4.setCell ⟨b, 2, none⟩ vv) := (Chg.refl (· = b) w4).setCell (p := ⟨b, 2, none⟩) (.inr rfl) vv
  have hc : Chg S w w5 := ((hc4.then (hset.mono (fun x _ e => by have : x = b := e; subst this; exact hS))).then hX.nil).then (hc5.mono (fun x _ e => by have : x = rm := e; subst this; exact hSm))
  have hA : adel (keptV (p :: l)) p.1 = keptV l := by simp [keptV, adel]
  rw [hA] at hA5
  have hs := hs5.tail keyC_len (by omega)
  exact keep_done hb5 hA5 (by rw [hl]; exact hs) (fun x hx => by rcases hS4 x hx with h | h; exact .inl h; exact .inr ⟨h.1, by omega⟩) hc (Chg.refl _ _) hS hSm hlt hSs hnb hnm hfew hmost

set_option maxRecDepth 100000 in
set_option maxHeartbeats 2000000 in
theorem keep_any {B : Nat} (ad : Nat → Addr) (b most : Nat) (c t r : ByteArray) (i : Int) (kv : Kepts) (S : Nat → Prop) (w : World) (he : Env B ad [6] w) (ht : CacheAt w b most kv S) :
    Calls Tryd.prog 19 #[.pointer (some ⟨b, 0, none⟩), .string c, .int .i64 i, .string t, .string r] w fun e w' =>
      e = .returned (errV ad (cKeep most kv (c, i) t r).2) ∧ Chg S w w' ∧ ∃ S', CacheAt w' b most (cKeep most kv (c, i) t r).1 S' ∧ Grow S S' w w' := by
  obtain ⟨h6, h6l⟩ := he.get (c := 6) (by simp)
  simp only [gl] at h6 h6l
  clear he
  have HT := Lib.hid ht
  obtain ⟨⟨rm, v, E, Ss, hb, hm, hs, hSm, hSs, hnb, hnm⟩, hS, hlt, hfew, hmost⟩ := ht
  have hcell0 := cell_of hb 0
  have hcell1 := cell_of hb 1
  have hcell2 := cell_of hb 2
  simp only [List.getElem?_toArray, List.getElem?_cons_zero, List.getElem?_cons_succ] at hcell0 hcell1 hcell2
  have hfr := free_of hb 2
  have hbl := lt_of_block hb
  have hlk := fun x (hx : Chg Nil w x) => (show MapV x (.map (some rm)) ck (keptV kv) from .inr ⟨rm, rfl, hm.keep hx (fun f => f)⟩).run_lookup (T := 142) keyCk Tryd.underlying142 (zero_said _) (c, i) true
  simp only [keptV, aget_map, if_true, ck] at hlk
  obtain ⟨a0, cap0, rfl⟩ := hs.shape
  have hmost1 := hmost.1
  have hmost2 := hmost.2
  have HB := Lib.hid hb
  have HM := Lib.hid hm
  have HS := Lib.hid hs
  have HC := Lib.hid ((Chg.refl Nil w).alloc (.cells #[.string c, .int .i64 i] 147))
  have HK := Lib.hid (block_alloc w (.cells #[.string c, .int .i64 i] 147))
  have hcb1 := fun x (hx : Chg Nil (w.alloc (.cells #[.string c, .int .i64 i] 147)) x) => (cell_of (hx.keep (block_alloc_old hb _) (fun f => f)) 1)
  have hck := fun x (hx : Chg Nil (w.alloc (.cells #[.string c, .int .i64 i] 147)) x) j => (cell_of (hx.keep HK.out (fun f => f)) j)
  cases hg : aget kv (c, i) with
  | some p =>
    obtain ⟨t', r'⟩ := p
    simp only [hg, Option.map_some, Option.getD_some, Option.isSome_some, saidV] at hlk
    have e1 : cKeep most kv (c, i) t r = (kv, 6) := by simp [cKeep, hg]
    rw [e1]
    have HR := Lib.hid (fun x (hx : Chg Nil (w.alloc (.cells #[.string c, .int .i64 i] 147)) x) => And.intro (hcb1 x hx) (And.intro (hck x hx 0) (And.intro (hck x hx 1) (hlk x (HC.out.then hx)))))
    simp only [List.getElem?_toArray, List.getElem?_cons_zero, List.getElem?_cons_succ] at HR
    clear hg e1 hb hm hs hmost hlk hcb1 hck
    go_enter Tryd.func19, Tryd.ntmps19
    go_wp2_with fail
    go_region_held3 (fun w' => w'.cell? ⟨b, 1, none⟩ = some (.map (some rm)) ∧ w'.cell? ⟨w.heap.size, 0, none⟩ = some (.string c) ∧ w'.cell? ⟨w.heap.size, 1, none⟩ = some (.int .i64 i) ∧
        (Instr.lookup 142 (.map (some rm)) (.agg #[.string c, .int .i64 i]) true).run Tryd.prog w' = .ok (.tuple #[.agg #[.string t', .string r'], .bool true]) w')
      ((refine HR.out _ ?_; repeat (first | exact Chg.refl _ _ | refine Chg.drew ?_ | refine Chg.alloc ?_ _))) (fail)
    all_goals (go_wp2_with fail)
    all_goals go_ret
    all_goals exact ⟨rfl, keep_same HT.out (by repeat (first | exact Chg.refl _ _ | refine Chg.drew ?_ | refine Chg.alloc ?_ _))⟩
  | none =>
    simp only [hg, Option.map_none, Option.getD_none, Option.isSome_none, saidV] at hlk
    have HR := Lib.hid (fun x (hx : Chg Nil (w.alloc (.cells #[.string c, .int .i64 i] 147)) x) => And.intro (hcb1 x hx) (And.intro (hck x hx 0) (And.intro (hck x hx 1) (hlk x (HC.out.then hx)))))
    simp only [List.getElem?_toArray, List.getElem?_cons_zero, List.getElem?_cons_succ] at HR
    have hno : aput kv (c, i) (t, r) = kv ++ [((c, i), (t, r))] := by
      have : findA kv (c, i) 0 = none := by
        cases hf : findA kv (c, i) 0 with
        | none => rfl
        | some x =>
          obtain ⟨j, v⟩ := x
          obtain ⟨n, _, _, h3, _⟩ := findA_some hf
          rw [hg] at h3; cases h3
      exact (findA_none this).2.1 (t, r)
    have HN := Lib.hid hno
    have HL := Lib.hid hlt
    have HSS := Lib.hid hSs
    by_cases hfull : kv.length + 1 ≤ most
    · have e1 : cKeep most kv (c, i) t r = (kv ++ [((c, i), (t, r))], 0) := by
        have : ¬ most < kv.length + 1 := by omega
        simp [cKeep, hg, this]
      rw [e1]
      clear hg e1 hb hm hs hmost hlk hcb1 hck hno hlt hSs
      go_enter Tryd.func19, Tryd.ntmps19
      go_wp2_with fail
      go_region_held3 (fun w' => w'.cell? ⟨b, 1, none⟩ = some (.map (some rm)) ∧ w'.cell? ⟨w.heap.size, 0, none⟩ = some (.string c) ∧ w'.cell? ⟨w.heap.size, 1, none⟩ = some (.int .i64 i) ∧
          (Instr.lookup 142 (.map (some rm)) (.agg #[.string c, .int .i64 i]) true).run Tryd.prog w' = .ok (.tuple #[.agg #[.string ⟨#[]⟩, .string ⟨#[]⟩], .bool false]) w')
        ((refine HR.out _ ?_; repeat (first | exact Chg.refl _ _ | refine Chg.drew ?_ | refine Chg.alloc ?_ _))) (fail)
      all_goals (go_wp2_with fail)
      all_goals (go_region_held3 (fun w' => w'.cell? ⟨b, 1, none⟩ = some (.map (some rm)) ∧ w'.cell? ⟨w.heap.size, 0, none⟩ = some (.string c) ∧ w'.cell? ⟨w.heap.size, 1, none⟩ = some (.int .i64 i))
        (first | exact ⟨hcc1, hkc0, hkc1⟩ | ((refine (fun h => ⟨(HR.out _ h).1, (HR.out _ h).2.1, (HR.out _ h).2.2.1⟩) ?_; repeat (first | exact Chg.refl _ _ | refine Chg.drew ?_ | refine Chg.alloc ?_ _))))
        ((refine upon_mapUpdateA (val := saidV (t, r)) Tryd.underlying142 keyCk (HM.out.keep (S := Nil) (by repeat (first | exact Chg.refl _ _ | refine Chg.drew ?_ | refine Chg.alloc ?_ _)) (fun f => f)) (c, i) rfl ?_; intro w2 hA2 hc2 hz2; obtain ⟨hA3, hC2, hb2, hk2⟩ := keep_mid HB.out HM.out HN.out hA2 hc2 (by repeat (first | exact Chg.refl _ _ | refine Chg.drew ?_ | refine Chg.alloc ?_ _)); have hcc0 := cell_of hb2 0; have hcc1 := cell_of hb2 1; have hcc2 := cell_of hb2 2; have hkc0 := cell_of hk2 0; have hkc1 := cell_of hk2 1; simp only [List.getElem?_toArray, List.getElem?_cons_zero, List.getElem?_cons_succ] at hcc0 hcc1 hcc2 hkc0 hkc1; have HB2 := Lib.hid hb2; have HK2 := Lib.hid hk2; have hkl2 := lt_of_block hk2; have hbl2 := lt_of_block hb2; have hfr2 := free_of hb2 2; have HS2 := Lib.hid (HS.out.keep hC2 (fun x hx e => hnm (by have : x = rm := e; subst this; exact hx))); clear hb2 hk2 hz2)))
      all_goals (go_wp2_with fail)
      all_goals (go_region_law ((refine step_appendS (by rfl) _ _ 143 (by rfl) Tryd.underlying143 info_key rfl (by decide) (by rfl) (HS2.out.keep (T := Nil) (by repeat (first | exact Chg.refl _ _ | refine Chg.drew ?_ | refine Chg.alloc ?_ _)) (fun _ _ f => f)) (by rfl) (keyC ((c, i), (t, r))) (by rfl) (cell_new_list _ (keyC ((c, i), (t, r))) _) (keyC_one _) (by unfold maxLen; omega) (by omega) ?_; intro v4 w4 S4 hs4 hc4 hg4; obtain ⟨a4, cap4, rfl⟩ := hs4.shape; have hb4 := hc4.keep ((show Chg Nil w2 _ by repeat (first | exact Chg.refl _ _ | refine Chg.drew ?_ | refine Chg.alloc ?_ _)).keep HB2.out (fun f => f)) hnb; have hd0 := cell_of hb4 0; have hd1 := cell_of hb4 1; have hd2 := cell_of hb4 2; have hfr4 := free_of hb4 2; simp only [List.getElem?_toArray, List.getElem?_cons_zero, List.getElem?_cons_succ] at hd0 hd1 hd2; have HB4 := Lib.hid hb4; have hbl4 := lt_of_block hb4; have HA4 := Lib.hid (keep_app hA3 hC2 (by repeat (first | exact Chg.refl _ _ | refine Chg.drew ?_ | refine Chg.alloc ?_ _)) hc4 hg4 hs4 hSm HSS.out hnm); clear hb4)))
      all_goals go_wp2_with fail
      all_goals go_quiet (fail)
      all_goals go_wp2_with fail
      all_goals go_ret
      all_goals exact ⟨rfl, keep_done HB4.out HA4.out.1 HA4.out.2.1 HA4.out.2.2.1 HA4.out.2.2.2 (Chg.drewsN (by repeat (first | exact Chg.refl _ _ | refine Chg.drew ?_ | refine Chg.alloc ?_ _)) _) hS hSm HL.out HSS.out hnb hnm (by simpa using hfull) ⟨hmost1, hmost2⟩⟩
    · obtain ⟨p, l, rfl⟩ : ∃ p l, kv = p :: l := by
        cases kv with
        | nil => simp at hfull; omega
        | cons p l => exact ⟨p, l, rfl⟩
      have hll : l.length + 1 = most := by simp at hfull hfew; omega
      have hllI : (most : Int) < (l.length : Int) + 1 + 1 := by omega
      have e1 : cKeep most (p :: l) (c, i) t r = (l ++ [((c, i), (t, r))], 0) := by
        have : most < (p :: l).length + 1 := by simp; omega
        simp only [cKeep, hg, if_pos this]; rfl
      rw [e1]
      have hpe : (p :: l).length = l.length + 1 := rfl
      rw [hpe] at hcell2 HB HS
      have hll1 : l.length + 1 ≤ most := by omega
      have hll2 : most ≤ l.length + 1 := by omega
      clear hll
      have hix1 : (0 : Int) < ((l.length + 1 + 1 : Nat) : Int) := by omega
      have hix2 : (0 : Int) < (l.length : Int) + 1 + 1 := by omega
      have hix3 : (0 : Int) ≤ (l.length : Int) + 1 := by omega
      clear hg e1 hb hm hs hmost hlk hcb1 hck hno hlt hSs hfull hfew hpe
      go_enter Tryd.func19, Tryd.ntmps19
      go_wp2_with fail
      go_region_held3 (fun w' => w'.cell? ⟨b, 1, none⟩ = some (.map (some rm)) ∧ w'.cell? ⟨w.heap.size, 0, none⟩ = some (.string c) ∧ w'.cell? ⟨w.heap.size, 1, none⟩ = some (.int .i64 i) ∧
          (Instr.lookup 142 (.map (some rm)) (.agg #[.string c, .int .i64 i]) true).run Tryd.prog w' = .ok (.tuple #[.agg #[.string ⟨#[]⟩, .string ⟨#[]⟩], .bool false]) w')
        ((refine HR.out _ ?_; repeat (first | exact Chg.refl _ _ | refine Chg.drew ?_ | refine Chg.drewsN ?_ _ | refine Chg.alloc ?_ _))) (fail)
      all_goals (go_wp2_with fail)
      all_goals (go_region_held3 (fun w' => w'.cell? ⟨b, 1, none⟩ = some (.map (some rm)) ∧ w'.cell? ⟨w.heap.size, 0, none⟩ = some (.string c) ∧ w'.cell? ⟨w.heap.size, 1, none⟩ = some (.int .i64 i))
        (first | exact ⟨hcc1, hkc0, hkc1⟩ | ((refine (fun h => ⟨(HR.out _ h).1, (HR.out _ h).2.1, (HR.out _ h).2.2.1⟩) ?_; repeat (first | exact Chg.refl _ _ | refine Chg.drew ?_ | refine Chg.drewsN ?_ _ | refine Chg.alloc ?_ _))))
        ((refine upon_mapUpdateA (val := saidV (t, r)) Tryd.underlying142 keyCk (HM.out.keep (S := Nil) (by repeat (first | exact Chg.refl _ _ | refine Chg.drew ?_ | refine Chg.drewsN ?_ _ | refine Chg.alloc ?_ _)) (fun f => f)) (c, i) rfl ?_; intro w2 hA2 hc2 hz2; obtain ⟨hA3, hC2, hb2, hk2⟩ := keep_mid HB.out HM.out HN.out hA2 hc2 (by repeat (first | exact Chg.refl _ _ | refine Chg.drew ?_ | refine Chg.drewsN ?_ _ | refine Chg.alloc ?_ _)); have hcc0 := cell_of hb2 0; have hcc1 := cell_of hb2 1; have hcc2 := cell_of hb2 2; have hkc0 := cell_of hk2 0; have hkc1 := cell_of hk2 1; simp only [List.getElem?_toArray, List.getElem?_cons_zero, List.getElem?_cons_succ] at hcc0 hcc1 hcc2 hkc0 hkc1; have HB2 := Lib.hid hb2; have HK2 := Lib.hid hk2; have hkl2 := lt_of_block hk2; have hbl2 := lt_of_block hb2; have hfr2 := free_of hb2 2; have HS2 := Lib.hid (HS.out.keep hC2 (fun x hx e => hnm (by have : x = rm := e; subst this; exact hx))); clear hb2 hk2 hz2)))
      all_goals (go_wp2_with fail)
      all_goals (go_region_law ((refine step_appendS (by rfl) _ _ 143 (by rfl) Tryd.underlying143 info_key rfl (by decide) (by rfl) (HS2.out.keep (T := Nil) (by repeat (first | exact Chg.refl _ _ | refine Chg.drew ?_ | refine Chg.drewsN ?_ _ | refine Chg.alloc ?_ _)) (fun _ _ f => f)) (by rfl) (keyC ((c, i), (t, r))) (by rfl) (cell_new_list _ (keyC ((c, i), (t, r))) _) (keyC_one _) (by unfold maxLen; omega) (by omega) ?_; intro v4 w4 S4 hs4 hc4 hg4; obtain ⟨g4, off4, cap4, rfl, hcap4, hb4, hN4, hM4, hA4⟩ := keep_app2 HB2.out hA3 hC2 hc4 hg4 hs4 hS HL.out hSm HSS.out hnm hnb (by repeat (first | exact Chg.refl _ _ | refine Chg.drew ?_ | refine Chg.drewsN ?_ _ | refine Chg.alloc ?_ _)); have hd0 := cell_of hb4 0; have hd1 := cell_of hb4 1; have hd2 := cell_of hb4 2; have hfr4 := free_of hb4 2; simp only [List.getElem?_toArray, List.getElem?_cons_zero, List.getElem?_cons_succ] at hd0 hd1 hd2; have HB4 := Lib.hid hb4; have hbl4 := lt_of_block hb4; have HA4 := Lib.hid hA4; have HN4 := Lib.hid hN4; have HM4 := Lib.hid hM4; clear hb4 hA4 hN4 hM4)))
      all_goals go_wp2_with fail
      all_goals go_quiet (fail)
      all_goals go_wp2_with fail
      all_goals (go_region_held3 (fun w' => w'.cell? ⟨b, 1, none⟩ = some (.map (some rm)) ∧ w'.cell? ⟨b, 2, none⟩ = some (.slice (some ⟨g4, off4, none⟩) (l.length + 1 + 1) cap4) ∧ w'.cell? ⟨g4, off4, none⟩ = some (.string p.1.1) ∧ w'.cell? ⟨g4, off4 + 1, none⟩ = some (.int .i64 p.1.2))
        (first | exact hq5 | (exact keep_first_cells HB4.out HA4.out.1 HA4.out.2.1 HN4.out (by repeat (first | exact Chg.refl _ _ | refine Chg.drew ?_ | refine Chg.drewsN ?_ _ | refine Chg.alloc ?_ _))))
        ((refine step_deleteA (by rfl) _ _ 142 147 (by rfl) Tryd.underlying142 keyCk rm (by rfl) (keep_first HB4.out HA4.out.1 HA4.out.2.1 HN4.out (by repeat (first | exact Chg.refl _ _ | refine Chg.drew ?_ | refine Chg.drewsN ?_ _ | refine Chg.alloc ?_ _))).2.1 p.1 (by rfl) ?_; intro w5 hA5 hc5 hz5; have H8 := Lib.hid (keep_first HB4.out HA4.out.1 HA4.out.2.1 HN4.out (chg_at hc5 (by repeat (first | exact Chg.refl _ _ | refine Chg.drew ?_ | refine Chg.drewsN ?_ _ | refine Chg.alloc ?_ _)))); have hb5 := hc5.keep H8.out.1 (keep_ne H8.out.1 H8.out.2.1); have hs5 := H8.out.2.2.keep hc5 (fun x hx e => HM4.out (by have : x = rm := e; subst this; exact hx)); have hq5 := keep_cells hb5 hs5; have hf5 := free_of hb5 2; have hc52 := hq5.2.1; have HQ5 := Lib.hid hb5; have HS5 := Lib.hid hs5; have hbl5 := lt_of_block hb5; clear hb5 hs5)))
      all_goals (go_wp2_with fail)
      all_goals go_ret
      all_goals exact ⟨rfl, keep_drop HA4.out.2.2.2 (by repeat (first | exact Chg.refl _ _ | refine Chg.drew ?_ | refine Chg.drewsN ?_ _ | refine Chg.alloc ?_ _)) hc5 HQ5.out hA5 HS5.out (by simp) HA4.out.2.2.1 hS hSm HL.out HSS.out hnb hnm (by simp; omega) ⟨hmost1, hmost2⟩⟩
end Go.Proofs.YtfekiagdnlnggaaDoor
