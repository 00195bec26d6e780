/- pigeonholesref2.Turns.End, Drop by contracts. -/
import Derived.Test.YtfekiagdnlnggaaDoorTurnRef
namespace Go.Proofs.YtfekiagdnlnggaaDoor
open Go.RowKit
set_option linter.unusedVariables false
set_option linter.unusedSimpArgs false

theorem info_last : (Tryd.prog.info? 165).map (fun i => (i.zero, i.size, i.bytes)) = some (some (.agg #[.int .i64 0, .int .i64 0, .string ⟨#[]⟩]), 3, 32) := by kernel_rfl

theorem lastC_one (p : Int × (Int × ByteArray)) : ∀ u ∈ lastC p, u.oneCell' = true := fun u hu => by simp only [lastC, List.mem_cons, List.mem_nil_iff, or_false] at hu; rcases hu with rfl | rfl | rfl <;> rfl

/-- What a call that writes a table leaves. -/
def TurnsPost (S : Nat → Prop) (w : World) (b : Nat) (kv : Owners) (w' : World) : Prop := Chg S w w' ∧ ∃ S', TurnsAt w' b kv S' ∧ Grow S S' w w'

theorem turns_same {S : Nat → Prop} {w : World} {b : Nat} {kv : Owners} (h : TurnsAt w b kv S) : TurnsPost S w b kv w := ⟨Chg.refl _ _, S, h, Grow.refl _ _ _⟩

/-- The list's slice was appended to and stored back. -/
theorem turns_push {S Ss S2 : Nat → Prop} {w w2 : World} {b : Nat} {kv : Owners} {p : Int × (Int × ByteArray)} {v2 : Value} {T : TypeId} {o : Obj} {old : Value} (hb : w.heap[b]? = some (.cells #[old] T (0, 0))) (hS : S b) (hlt : ∀ x, S x → x < w.heap.size) (hnb : ¬ Ss b) (hsub : ∀ x, Ss x → S x)
    (hs2 : SliceAt w2 v2 165 3 (kv.length + 1) (kv.flatMap lastC ++ lastC p) S2) (hc2 : Chg Ss (w.alloc o) w2) (hg2 : Grow Ss S2 (w.alloc o) w2) :
    TurnsPost S w b (kv ++ [p]) (w2.setCell ⟨b, 0, none⟩ v2) := by
  have hbl := lt_of_block hb
  have hz := hc2.size
  simp at hz
  have hb2 : w2.heap[b]? = some (.cells #[old] T (0, 0)) := hc2.keep (block_alloc_old hb o) hnb
  have hb3 := block_setCell hb2 0 v2
  simp at hb3
  have hn2 : ¬ S2 b := fun h => by
    rcases hg2 b h with h | h
    · exact hnb h
    · simp at h; omega
  refine ⟨?_, fun x => S x ∨ S2 x, ⟨⟨v2, T, S2, hb3, ?_, hn2, fun x h => .inr h⟩, .inl hS, ?_⟩, ?_⟩
  · exact (((Chg.refl S w).alloc o).trans hc2 (fun x hx h => hsub x h)).setCell (.inr hS) _
  · have := hs2.keep ((Chg.refl (· = b) w2).setCell (p := ⟨b, 0, none⟩) (.inr rfl) v2) (fun x hx e => hn2 (by have : x = b := e; subst this; exact hx))
    simpa using this
  · rintro x (h | h)
    · have := hlt x h; simp; omega
    · rcases hg2 x h with h | h
      · have := hlt x (hsub x h); simp; omega
      · simpa using h.2
  · rintro x (h | h)
    · exact .inl h
    · rcases hg2 x h with h | h
      · exact .inl (hsub x h)
      · right; simp at h ⊢; omega

/-- One owner's element was stored anew. -/
theorem turns_set {S Ss : Nat → Prop} {w : World} {b : Nat} {kv : Owners} {p : Int × (Int × ByteArray)} {T : TypeId} {g off cap k : Nat} (hb : w.heap[b]? = some (.cells #[.slice (some ⟨g, off, none⟩) kv.length cap] T (0, 0))) (hS : S b) (hlt : ∀ x, S x → x < w.heap.size) (hnb : ¬ Ss b) (hsub : ∀ x, Ss x → S x)
    (hs : SliceAt w (.slice (some ⟨g, off, none⟩) kv.length cap) 165 3 kv.length (kv.flatMap lastC) Ss) (hk : k < kv.length) :
    TurnsPost S w b (kv.set k p) (w.setCells g (off + k * 3) (lastC p)) := by
  have hg : Ss g := by
    obtain ⟨_, _, _, _, e, _, _, _, _, _, h, _⟩ := hs.place (by omega)
    cases e; exact h
  have hgb : ¬ (· = g) b := fun e => hnb (by have : b = g := e; subst this; exact hg)
  have hc := chg_setCells (b := g) (lastC p) (off + k * 3) w
  refine ⟨hc.mono (fun x _ e => by subst e; exact hsub _ hg), S, ⟨⟨_, T, Ss, hc.keep hb hgb, ?_, hnb, hsub⟩, hS, fun x hx => by rw [size_setCells']; exact hlt x hx⟩, Grow.refl _ _ _⟩
  have := hs.setElem lastC_len hk p
  simpa using this

set_option maxHeartbeats 2000000 in
set_option maxRecDepth 100000 in
theorem rend_any (b : Nat) (o s : Int) (r : ByteArray) (kv : Owners) (S : Nat → Prop) (w : World) (ht : TurnsAt w b kv S) (hr : Rng kv) :
    Calls Tryd.prog 36 #[.pointer (some ⟨b, 0, none⟩), .int .i64 o, .int .i64 s, .string r] w fun e w' =>
      e = .returned (.int .i64 (tEnd kv o s r).2) ∧ TurnsPost S w b (tEnd kv o s r).1 w' := by
  have HB := Lib.hid (rbegin_any b o s kv S w ht hr)
  have HS := Lib.hid (turns_same ht)
  have hfind := find_any b o kv S w ht
  obtain ⟨r0, a0, c0, hB⟩ : ∃ r0 a0 c0, tBegin kv o s = (r0, a0, c0) := ⟨_, _, _, rfl⟩
  rw [hB] at HB
  simp only at HB
  by_cases hc : c0 = 0
  · subst hc
    cases a0 with
    | true =>
      have e1 : tEnd kv o s r = (kv, 12) := by simp [tEnd, hB]
      rw [e1]
      clear hB e1 hfind ht
      go_enter Tryd.func36, Tryd.ntmps36
      go_wp2_with fail
      refine HB.out.mono ?_
      rintro e w1 ⟨rfl, rfl⟩
      go_wp2_with fail
      go_ret
      exact ⟨rfl, HS.out⟩
    | false =>
      have e1 : tEnd kv o s r = (aput kv o (s, r), 0) := by simp [tEnd, hB]
      obtain ⟨⟨v, T, Ss, hb, hs, hnb, hsub⟩, hS, hlt⟩ := ht
      have hcell := cell_of hb 0
      simp only [List.getElem?_toArray, List.getElem?_cons_zero] at hcell
      have hfr := free_of hb 0
      have hbl := lt_of_block hb
      have H1 := Lib.hid e1
      cases hf : findA kv o 0 with
      | none =>
        have hput := (findA_none hf).2.1 (s, r)
        have hlen : kv.length < 30 := by
          rcases Nat.lt_or_ge kv.length 30 with h | h
          · exact h
          · exfalso
            have hg := (findA_none hf).1
            by_cases h2 : s < 0 ∨ 4294967295 < s
            · simp [tBegin, h2] at hB
            · rw [tBegin, if_neg h2, hg] at hB
              simp [h] at hB
        simp only [idxOf, hf] at hfind
        have HF := Lib.hid hfind
        have HP := Lib.hid hput
        have HBk := Lib.hid hb
        have HSl := Lib.hid hs
        clear hB e1 hfind hput hf hb hs
        go_enter Tryd.func36, Tryd.ntmps36
        go_wp2_with fail
        refine HB.out.mono ?_
        rintro e w1 ⟨rfl, rfl⟩
        go_wp2_with fail
        refine HF.out.mono ?_
        rintro e w1 ⟨rfl, rfl⟩
        go_wp2_with (at_builtin; refine wpList_appendS rfl _ _ 73 rfl Tryd.underlying73 info_last rfl (by decide) rfl (HSl.out.keep ((Chg.refl Nil w).alloc _) (fun _ _ f => f)) rfl (lastC (o, (s, r))) rfl (cell_new_list w (lastC (o, (s, r))) _) (lastC_one _) (by unfold maxLen; omega) (by omega) ?_; intro v2 w2 S2 hs2 hc2 hg2; obtain ⟨a2, cap2, rfl⟩ := hs2.shape; have hb2 := hc2.keep (block_alloc_old HBk.out _) hnb; have hcell2 := cell_of hb2 0; have hfr2 := free_of hb2 0; simp only [List.getElem?_toArray, List.getElem?_cons_zero] at hcell2; clear hb2)
        go_ret
        rw [H1.out]
        exact ⟨rfl, by rw [HP.out]; exact turns_push HBk.out hS hlt hnb hsub hs2 hc2 hg2⟩
      | some x =>
        obtain ⟨i, q⟩ := x
        obtain ⟨n, e0, hp, _, hput, _⟩ := findA_some hf
        obtain rfl : i = n := by omega
        clear e0
        have hil := (List.getElem?_eq_some_iff.1 hp).1
        have hii : (0 : Int) ≤ (i : Int) := by omega
        simp only [idxOf, hf] at hfind
        obtain ⟨g, off, cap', cs, rfl, _⟩ := hs.place (by omega)
        obtain ⟨k0, z0, gl0⟩ := hs.elem lastC_len hp 0 _ rfl
        obtain ⟨k1, z1, _⟩ := hs.elem lastC_len hp 1 _ rfl
        obtain ⟨k2, z2, _⟩ := hs.elem lastC_len hp 2 _ rfl
        simp only [Nat.add_zero] at k0 z0
        have HF := Lib.hid hfind
        have HP := Lib.hid (hput (s, r))
        have HQ := Lib.hid (turns_set (p := (o, (s, r))) hb hS hlt hnb hsub hs hil)
        clear hB e1 hfind hput hf hb hs hp
        go_enter Tryd.func36, Tryd.ntmps36
        go_wp2_with fail
        refine HB.out.mono ?_
        rintro e w1 ⟨rfl, rfl⟩
        go_wp2_with fail
        refine HF.out.mono ?_
        rintro e w1 ⟨rfl, rfl⟩
        go_wp2_with fail
        go_ret
        rw [H1.out]
        exact ⟨rfl, by rw [HP.out]; exact HQ.out⟩
  · have e1 : tEnd kv o s r = (kv, c0) := by simp [tEnd, hB, hc]
    have hpos : (0 : Int) < (c0 : Int) := by omega
    rw [e1]
    clear hB e1 hfind ht hc
    go_enter Tryd.func36, Tryd.ntmps36
    go_wp2_with fail
    refine HB.out.mono ?_
    rintro e w1 ⟨rfl, rfl⟩
    go_wp2_with fail
    go_ret
    exact ⟨rfl, HS.out⟩

def dropCode (kv : Owners) (o : Int) : Nat := if (aget kv o).isSome then 0 else 5

theorem flat_take {α : Type} {size : Nat} (enc : α → List Value) (he : ∀ a, (enc a).length = size) (l : List α) (k : Nat) : ((l.take k).flatMap enc) = (l.flatMap enc).take (k * size) := by
  rcases Nat.lt_or_ge l.length k with h | h
  · rw [List.take_of_length_le (by omega), List.take_of_length_le]
    rw [flat_len enc he]; exact Nat.mul_le_mul_right _ (by omega)
  · have e : l.flatMap enc = (l.take k).flatMap enc ++ (l.drop k).flatMap enc := by rw [← List.flatMap_append, List.take_append_drop]
    rw [e, List.take_left']
    rw [flat_len enc he]; simp [h]
theorem flat_drop {α : Type} {size : Nat} (enc : α → List Value) (he : ∀ a, (enc a).length = size) (l : List α) (k : Nat) : ((l.drop k).flatMap enc) = (l.flatMap enc).drop (k * size) := by
  rcases Nat.lt_or_ge l.length k with h | h
  · rw [List.drop_eq_nil_of_le (by omega), List.drop_eq_nil_of_le]
    · rfl
    · rw [flat_len enc he]; exact Nat.mul_le_mul_right _ (by omega)
  · have e : l.flatMap enc = (l.take k).flatMap enc ++ (l.drop k).flatMap enc := by rw [← List.flatMap_append, List.take_append_drop]
    rw [e, List.drop_left']
    rw [flat_len enc he]; simp [h]

/-- A new list's slice was stored into the table. -/
theorem turns_store {S S3 : Nat → Prop} {w w3 : World} {b : Nat} {kv' : Owners} {v3 : Value} {T : TypeId} {old : Value} (hb : w3.heap[b]? = some (.cells #[old] T (0, 0))) (hS : S b) (hlt : ∀ x, S x → x < w.heap.size) (hc : Chg S w w3)
    (hs3 : SliceAt w3 v3 165 3 kv'.length (kv'.flatMap lastC) S3) (hn : ∀ x, S3 x → w.heap.size ≤ x ∧ x < w3.heap.size) : TurnsPost S w b kv' (w3.setCell ⟨b, 0, none⟩ v3) := by
  have hb3 := block_setCell hb 0 v3
  simp at hb3
  have hbl := hlt b hS
  have hn2 : ¬ S3 b := fun h => by have := hn b h; omega
  refine ⟨hc.setCell (.inr hS) _, fun x => S x ∨ S3 x, ⟨⟨v3, T, S3, hb3, hs3.keep ((Chg.refl (· = b) w3).setCell (p := ⟨b, 0, none⟩) (.inr rfl) v3) (fun x hx e => hn2 (by have : x = b := e; subst this; exact hx)), hn2, fun x h => .inr h⟩, .inl hS, ?_⟩, ?_⟩
  · rintro x (h | h)
    · have := hlt x h; have := hc.size; simp; omega
    · have := hn x h; simp; omega
  · rintro x (h | h)
    · exact .inl h
    · have := hn x h; right; simp; omega

/-- The cells of a slice's front, and of its rest. -/
theorem SliceAt.front {α : Type} {enc : α → List Value} {w : World} {g off n cap E size : Nat} {l : List α} {S : Nat → Prop} (he : ∀ a, (enc a).length = size)
    (h : SliceAt w (.slice (some ⟨g, off, none⟩) n cap) E size n (l.flatMap enc) S) (k : Nat) : ∀ j u, ((l.take k).flatMap enc)[j]? = some u → w.cell? ((⟨g, off, none⟩ : Addr).add j) = some u := by
  intro j u hj
  rw [flat_take enc he, List.getElem?_take] at hj
  split at hj
  · obtain ⟨_, ⟨e, _⟩ | ⟨g', off', cap', cs, e, hb, _, _, _, h5, _⟩⟩ := h
    · cases e
    cases e
    rw [Addr.add_lit, cell_of hb]; exact h5 j u hj
  · cases hj
theorem SliceAt.rest {α : Type} {enc : α → List Value} {w : World} {g off n cap E size : Nat} {l : List α} {S : Nat → Prop} (he : ∀ a, (enc a).length = size)
    (h : SliceAt w (.slice (some ⟨g, off, none⟩) n cap) E size n (l.flatMap enc) S) (k : Nat) : ∀ j u, ((l.drop k).flatMap enc)[j]? = some u → w.cell? ((⟨g, off + k * size, none⟩ : Addr).add j) = some u := by
  intro j u hj
  rw [flat_drop enc he, List.getElem?_drop] at hj
  obtain ⟨_, ⟨e, _⟩ | ⟨g', off', cap', cs, e, hb, _, _, _, h5, _⟩⟩ := h
  · cases e
  cases e
  rw [Addr.add_lit, cell_of hb, Nat.add_assoc]; exact h5 _ u hj

theorem turns_drop {S Ss S2 S3 : Nat → Prop} {w w2 w3 : World} {b i m : Nat} {kv : Owners} {v3 : Value} {T : TypeId} {old : Value} (hb : w.heap[b]? = some (.cells #[old] T (0, 0))) (hS : S b) (hlt : ∀ x, S x → x < w.heap.size) (hnb : ¬ Ss b) (hsub : ∀ x, Ss x → S x)
    (hs3 : SliceAt w3 v3 165 3 m ((kv.take i).flatMap lastC ++ (kv.drop (i + 1)).flatMap lastC) S3) (hi : i < kv.length) (hc2 : Chg Nil w w2) (hg2 : Grow Nil S2 w w2) (hc3 : Chg S2 w2 w3) (hg3 : Grow S2 S3 w2 w3) :
    TurnsPost S w b (kv.eraseIdx i) (w3.setCell ⟨b, 0, none⟩ v3) := by
  have hbl := hlt b hS
  have hz2 := hc2.size
  have hz3 := hc3.size
  have h2 : ∀ x, S2 x → w.heap.size ≤ x ∧ x < w2.heap.size := fun x hx => by
    rcases hg2 x hx with h | h
    · exact h.elim
    · exact h
  have e : kv.eraseIdx i = kv.take i ++ kv.drop (i + 1) := List.eraseIdx_eq_take_drop_succ ..
  rw [← List.flatMap_append, ← e] at hs3
  have hm := hs3.len lastC_len (by omega)
  subst hm
  refine turns_store (hc3.keep (hc2.keep hb (fun f => f)) (fun h => by have := h2 b h; omega)) hS hlt ?_ hs3 (fun x hx => ?_)
  · exact hc2.nil.trans hc3 (fun x hx h => by have := h2 x h; omega)
  · rcases hg3 x hx with h | h
    · have := h2 x h; omega
    · omega
theorem lastC_ones (l : Owners) : ∀ u ∈ l.flatMap lastC, u.oneCell' = true := fun u hu => by
  obtain ⟨p, _, hp⟩ := List.mem_flatMap.1 hu
  exact lastC_one p u hp
theorem s2_not {S2 : Nat → Prop} {w w2 : World} {b : Nat} (h : Grow Nil S2 w w2) (hb : b < w.heap.size) : ¬ S2 b := fun s => by
  rcases h b s with h | h
  · exact h
  · omega

set_option maxHeartbeats 2000000 in
set_option maxRecDepth 100000 in
theorem rdrop_any (b : Nat) (o : Int) (kv : Owners) (S : Nat → Prop) (w : World) (ht : TurnsAt w b kv S) (h30 : kv.length ≤ 30) :
    Calls Tryd.prog 38 #[.pointer (some ⟨b, 0, none⟩), .int .i64 o] w fun e w' =>
      e = .returned (.int .i64 (dropCode kv o)) ∧ TurnsPost S w b (adel kv o) w' := by
  have HS := Lib.hid (turns_same ht)
  have hfind := find_any b o kv S w ht
  obtain ⟨⟨v, T, Ss, hb, hs, hnb, hsub⟩, hS, hlt⟩ := ht
  have hcell := cell_of hb 0
  simp only [List.getElem?_toArray, List.getElem?_cons_zero] at hcell
  have hfr := free_of hb 0
  cases hf : findA kv o 0 with
  | none =>
    obtain ⟨q1, _, q3, _⟩ := findA_none hf
    have e1 : dropCode kv o = 5 := by simp [dropCode, q1]
    have H1 := Lib.hid e1
    have H2 := Lib.hid q3
    simp only [idxOf, hf] at hfind
    have HF := Lib.hid hfind
    clear hf q1 q3 e1 hs hfind hb
    go_enter Tryd.func38, Tryd.ntmps38
    go_wp2_with fail
    refine HF.out.mono ?_
    rintro e w1 ⟨rfl, rfl⟩
    go_wp2_with fail
    go_ret
    rw [H1.out, H2.out]
    exact ⟨rfl, HS.out⟩
  | some x =>
    obtain ⟨i, q⟩ := x
    obtain ⟨n, e0, hp, hg, _, hdel⟩ := findA_some hf
    obtain rfl : i = n := by omega
    clear e0
    have hil := (List.getElem?_eq_some_iff.1 hp).1
    have hii : (0 : Int) ≤ (i : Int) := by omega
    have hiI : (i : Int) + 1 ≤ (kv.length : Int) := by omega
    have e1 : dropCode kv o = 0 := by simp [dropCode, hg]
    simp only [idxOf, hf] at hfind
    obtain ⟨g, off, cap, cs, rfl, hbg, hnc, hcm, hoff, _⟩ := hs.place (by omega)
    have hicap : i ≤ cap := by omega
    have H1 := Lib.hid e1
    have H2 := Lib.hid hdel
    have HF := Lib.hid hfind
    have HBk := Lib.hid hb
    have HSl := Lib.hid hs
    have hbl := lt_of_block hb
    clear hf hg e1 hdel hfind hb hs hp hbg hoff
    go_enter Tryd.func38, Tryd.ntmps38
    go_wp2_with fail
    refine HF.out.mono ?_
    rintro e w1 ⟨rfl, rfl⟩
    by_cases hcap : cap = i + 1
    · subst hcap
      have HD := Lib.hid (show ∀ (j : Nat) (u : Value), ((kv.drop (i + 1)).flatMap lastC)[j]? ≠ some u from fun j u => by rw [List.drop_eq_nil_of_le (by omega)]; simp)
      go_wp2_with (first
        | (at_builtin; refine wpList_appendS rfl (.tmp 12) (.tmp 18) 73 rfl Tryd.underlying73 info_last rfl (by decide) rfl (sliceAt_nil w _ 3 Nil) rfl ((kv.take i).flatMap lastC) (by rw [flat_len _ lastC_len]; simp; omega) (HSl.out.front lastC_len i) (lastC_ones _) (by unfold maxLen; omega) (by omega) ?_; intro v2 w2 S2 hs2 hc2 hg2; simp only [Nat.zero_add, List.nil_append] at hs2; obtain ⟨a2, cap2, rfl⟩ := hs2.shape; have hb2 := hc2.keep HBk.out (fun f => f); have hcell2 := cell_of hb2 0; simp only [List.getElem?_toArray, List.getElem?_cons_zero] at hcell2; clear hb2)
        | (at_builtin; refine wpList_appendS rfl (.tmp 21) (.tmp 28) 73 rfl Tryd.underlying73 info_last rfl (by decide) rfl hs2 rfl ((kv.drop (i + 1)).flatMap lastC) (by rw [flat_len _ lastC_len]; simp; omega) (fun j u hj => absurd hj (HD.out j u)) (lastC_ones _) (by unfold maxLen; omega) (by omega) ?_; intro v3 w3 S3 hs3 hc3 hg3; obtain ⟨a3, cap3, rfl⟩ := hs3.shape; have hb3 := hc3.keep (hc2.keep HBk.out (fun f => f)) (s2_not hg2 hbl); have hcell3 := cell_of hb3 0; have hfr3 := free_of hb3 0; simp only [List.getElem?_toArray, List.getElem?_cons_zero] at hcell3; clear hb3))
      go_ret
      rw [H1.out, H2.out]
      exact ⟨rfl, turns_drop HBk.out hS hlt hnb hsub hs3 (by omega) hc2 hg2 hc3 hg3⟩
    · have hcap' : i + 1 < cap := by omega
      clear hcap
      go_wp2_with (first
        | (at_builtin; refine wpList_appendS rfl (.tmp 12) (.tmp 18) 73 rfl Tryd.underlying73 info_last rfl (by decide) rfl (sliceAt_nil w _ 3 Nil) rfl ((kv.take i).flatMap lastC) (by rw [flat_len _ lastC_len]; simp; omega) (HSl.out.front lastC_len i) (lastC_ones _) (by unfold maxLen; omega) (by omega) ?_; intro v2 w2 S2 hs2 hc2 hg2; simp only [Nat.zero_add, List.nil_append] at hs2; obtain ⟨a2, cap2, rfl⟩ := hs2.shape; have hb2 := hc2.keep HBk.out (fun f => f); have hcell2 := cell_of hb2 0; simp only [List.getElem?_toArray, List.getElem?_cons_zero] at hcell2; clear hb2)
        | (at_builtin; refine wpList_appendS rfl (.tmp 21) (.tmp 28) 73 rfl Tryd.underlying73 info_last rfl (by decide) rfl hs2 rfl ((kv.drop (i + 1)).flatMap lastC) (by rw [flat_len _ lastC_len]; simp) ((HSl.out.keep hc2 (fun _ _ f => f)).rest lastC_len (i + 1)) (lastC_ones _) (by unfold maxLen; omega) (by omega) ?_; intro v3 w3 S3 hs3 hc3 hg3; obtain ⟨a3, cap3, rfl⟩ := hs3.shape; have hb3 := hc3.keep (hc2.keep HBk.out (fun f => f)) (s2_not hg2 hbl); have hcell3 := cell_of hb3 0; have hfr3 := free_of hb3 0; simp only [List.getElem?_toArray, List.getElem?_cons_zero] at hcell3; clear hb3))
      go_ret
      rw [H1.out, H2.out]
      exact ⟨rfl, turns_drop HBk.out hS hlt hnb hsub hs3 (by omega) hc2 hg2 hc3 hg3⟩
end Go.Proofs.YtfekiagdnlnggaaDoor
