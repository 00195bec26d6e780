/- pigeonholesref3.Cache by contracts over the same plain list as the program's cache. -/
import Derived.Test.YtfekiagdnlnggaaDoorCache
import Derived.Test.YtfekiagdnlnggaaDoorSteps
namespace Go.Proofs.YtfekiagdnlnggaaDoor
open Go.RowKit
set_option linter.unusedVariables false
set_option linter.unusedSimpArgs false

def keptC (p : CKey × (ByteArray × ByteArray)) : List Value := [.string p.1.1, .int .i64 p.1.2, .string p.2.1, .string p.2.2]
theorem keptC_len (p : CKey × (ByteArray × ByteArray)) : (keptC p).length = 4 := rfl
theorem keptC_one (p : CKey × (ByteArray × ByteArray)) : ∀ u ∈ keptC p, u.oneCell' = true := by
  intro u hu; simp [keptC] at hu; rcases hu with rfl | rfl | rfl | rfl <;> rfl
theorem info_kept : (Tryd.prog.info? 163).map (fun i => (i.zero, i.size, i.bytes)) = some (some (.agg #[.string ⟨#[]⟩, .int .i64 0, .string ⟨#[]⟩, .string ⟨#[]⟩]), 4, 56) := by kernel_rfl

/-- The reference's cache at block b. -/
structure CachesAt (w : World) (b most : Nat) (kv : Kepts) (S : Nat → Prop) : Prop where
  at_ : ∃ v T Ss, w.heap[b]? = some (.cells #[.int .i64 most, v] T (0, 0)) ∧ SliceAt w v 163 4 kv.length (kv.flatMap keptC) Ss ∧ ¬ Ss b ∧ ∀ x, Ss x → S x
  own : S b
  lt : ∀ x, S x → x < w.heap.size
theorem CachesAt.keep {S T : Nat → Prop} {w w' : World} {b most : Nat} {kv : Kepts} (h : CachesAt w b most kv S) (c : Chg T w w') (hd : ∀ x, S x → ¬ T x) : CachesAt w' b most kv S := by
  obtain ⟨⟨v, E, Ss, h1, h2, h3, h6⟩, h4, h5⟩ := h
  exact ⟨⟨v, E, Ss, c.keep h1 (hd b h4), h2.keep c (fun x hx => hd x (h6 x hx)), h3, h6⟩, h4, fun x hx => Nat.lt_of_lt_of_le (h5 x hx) c.size⟩

theorem aget_at {α β : Type} [DecidableEq α] {k : α} {kv : List (α × β)} {n : Nat} {v : β} (h : kv[n]? = some (k, v)) (hn : ∀ j, j < n → ∀ p, kv[j]? = some p → p.1 ≠ k) : aget kv k = some v := by
  have : ∀ (kv : List (α × β)) (n : Nat), kv[n]? = some (k, v) → (∀ j, j < n → ∀ p, kv[j]? = some p → p.1 ≠ k) → aget kv k = some v := by
    intro kv
    induction kv with
    | nil => intro n h; cases h
    | cons p r ih =>
      intro n h hn
      cases n with
      | zero => simp only [List.getElem?_cons_zero, Option.some.injEq] at h; subst h; simp [aget]
      | succ n =>
        unfold aget
        rw [if_neg (fun e => hn 0 (by omega) p rfl e.symm)]
        exact ih n (by simpa using h) (fun j hj q hq => hn (j + 1) (by omega) q (by simpa using hq))
  exact this kv n h hn
theorem aget_no {α β : Type} [DecidableEq α] {k : α} : ∀ {kv : List (α × β)}, (∀ p ∈ kv, p.1 ≠ k) → aget kv k = none
  | [], _ => rfl
  | p :: r, h => by
    unfold aget
    rw [if_neg (fun e => h p (List.mem_cons_self ..) e.symm), aget_no (fun q hq => h q (List.mem_cons_of_mem _ hq))]

def KFind (kv : Kepts) (k : CKey) (w : World) (i : Value) (wr : World) : Prop := ∃ n : Nat, n ≤ kv.length ∧ i = .int .i64 n ∧ Chg Nil w wr ∧ ∀ j, j < n → ∀ p, kv[j]? = some p → p.1 ≠ k
theorem kfind_next {kv : Kepts} {k : CKey} {n : Nat} {p : CKey × (ByteArray × ByteArray)} (h : ∀ j, j < n → ∀ p, kv[j]? = some p → p.1 ≠ k) (hp : kv[n]? = some p) (hne : p.1 ≠ k) : ∀ j, j < n + 1 → ∀ p, kv[j]? = some p → p.1 ≠ k := fun j hj q hq => by
  rcases Nat.lt_or_ge j n with h' | h'
  · exact h j h' q hq
  · obtain rfl : j = n := by omega
    rw [hp] at hq; cases hq; exact hne
theorem kfind_end {kv : Kepts} {k : CKey} {n : Nat} (h : ∀ j, j < n → ∀ p, kv[j]? = some p → p.1 ≠ k) (hn : kv.length ≤ n) : aget kv k = none := aget_no fun p hp => by
  obtain ⟨j, hj⟩ := List.getElem?_of_mem hp
  exact h j (by have := (List.getElem?_eq_some_iff.1 hj).1; omega) p hj
theorem str_eq {a b : ByteArray} (h : a = b) : (a.toList == b.toList) = true ∧ (a.toList != b.toList) = false := by subst h; simp
theorem str_ne {a b : ByteArray} (h : ¬ a = b) : (a.toList == b.toList) = false ∧ (a.toList != b.toList) = true := by
  have h1 : (a.toList == b.toList) = false := by rw [← beq_toListBytes, Bool.eq_false_iff]; exact fun e => h ((MapKept.bytes_beq _ _).1 e)
  exact ⟨h1, by rw [bne, h1]; rfl⟩
theorem int_eq {a b : Int} (h : a = b) : (a == b) = true ∧ (a != b) = false := by subst h; simp
theorem int_ne {a b : Int} (h : ¬ a = b) : (a == b) = false ∧ (a != b) = true := by simp [h]

/-- The cells of the cache in a world in which nothing old has turned. -/
theorem CachesAt.cells {w wr : World} {b most : Nat} {kv : Kepts} {S : Nat → Prop} (ht : CachesAt w b most kv S) (hc : Chg Nil w wr) :
    ∃ a cap, wr.cell? ⟨b, 0, none⟩ = some (.int .i64 most) ∧ wr.cell? ⟨b, 1, none⟩ = some (.slice a kv.length cap) ∧ kv.length ≤ 9223372036854775807 ∧
      ∀ k p, kv[k]? = some p → ∃ g off, a = some ⟨g, off, none⟩ ∧ wr.cell? ⟨g, off + k * 4, none⟩ = some (.string p.1.1) ∧ wr.cell? ⟨g, off + k * 4 + 1, none⟩ = some (.int .i64 p.1.2) ∧ wr.cell? ⟨g, off + k * 4 + 2, none⟩ = some (.string p.2.1) ∧ wr.cell? ⟨g, off + k * 4 + 3, none⟩ = some (.string p.2.2) := by
  obtain ⟨⟨v, E, Ss, hb, hs, _, _⟩, _, _⟩ := ht.keep hc (fun _ _ f => f)
  obtain ⟨a, cap, rfl⟩ := hs.shape
  refine ⟨a, cap, by simp [cell_of hb], by simp [cell_of hb], hs.le, fun k p hp => ?_⟩
  have hlt := (List.getElem?_eq_some_iff.1 hp).1
  obtain ⟨g, off, cap', cs, e, _⟩ := hs.place (by omega)
  cases e
  refine ⟨g, off, rfl, ?_, ?_, ?_, ?_⟩
  · simpa using (hs.elem keptC_len hp 0 _ rfl).1
  · exact (hs.elem keptC_len hp 1 _ rfl).1
  · exact (hs.elem keptC_len hp 2 _ rfl).1
  · exact (hs.elem keptC_len hp 3 _ rfl).1

set_option maxRecDepth 100000 in
set_option maxHeartbeats 1000000 in
theorem rlook_any (b most : Nat) (c t : ByteArray) (i : Int) (kv : Kepts) (S : Nat → Prop) (w : World) (ht : CachesAt w b most kv S) :
    Calls Tryd.prog 32 #[.pointer (some ⟨b, 0, none⟩), .string c, .int .i64 i, .string t] w fun e w' =>
      e = .returned (.tuple #[.string (cLook kv (c, i) t).1, .bool (cLook kv (c, i) t).2.1, .int .i64 (cLook kv (c, i) t).2.2]) ∧ Chg Nil w w' := by
  have HT := Lib.hid ht
  clear ht
  go_enter Tryd.func32, Tryd.ntmps32
  go_wp2_with fail
  go_loopw [11] (fun n wr => KFind kv (c, i) w n wr) (fun n _ => (kv.length - intOf n).toNat)
  case atStart => exact ⟨0, Nat.zero_le _, rfl, Chg.refl _ _, fun j hj => absurd hj (Nat.not_lt_zero _)⟩
  case round =>
    rename_i wr _
    obtain ⟨k, hk, rfl, hC, hno⟩ := hrel
    have HNO := Lib.hid hno
    clear hno
    obtain ⟨a, cap, hm, hsl, hmx, hel⟩ := HT.out.cells hC
    by_cases hlt : k < kv.length
    · obtain ⟨p, hp⟩ : ∃ p, kv[k]? = some p := ⟨kv[k], List.getElem?_eq_getElem hlt⟩
      obtain ⟨g, off, rfl, e0, e1, e2, e3⟩ := hel k p hp
      obtain ⟨⟨pc, pi⟩, pt, pr⟩ := p
      simp only at e0 e1 e2 e3
      have HP := Lib.hid hp
      clear hp hel hm
      have hI : (k : Int) < (kv.length : Int) := by omega
      by_cases h1 : pc = c
      · obtain ⟨q1, q2⟩ := str_eq h1
        by_cases h2 : pi = i
        · obtain ⟨q3, q4⟩ := int_eq h2
          have hg : aget kv (c, i) = some (pt, pr) := aget_at (by rw [← h1, ← h2]; exact HP.out) HNO.out
          by_cases h3 : pt = t
          · obtain ⟨q5, q6⟩ := str_eq h3
            have e1 : cLook kv (c, i) t = (pr, true, 0) := by simp [cLook, hg, h3]
            have H1 := Lib.hid e1
            clear h1 h2 h3 hg e1
            go_wp2_with fail
            go_ret3
            exact ⟨by rw [H1.out]; rfl, hC⟩
          · obtain ⟨q5, q6⟩ := str_ne h3
            have e1 : cLook kv (c, i) t = (⟨#[]⟩, false, 12) := by simp [cLook, hg, h3]
            have H1 := Lib.hid e1
            clear h1 h2 h3 hg e1
            go_wp2_with fail
            go_ret3
            exact ⟨by rw [H1.out]; rfl, hC⟩
        · obtain ⟨q3, q4⟩ := int_ne h2
          have HN := Lib.hid (kfind_next HNO.out HP.out (show (pc, pi) ≠ (c, i) from fun e => h2 (congrArg Prod.snd e)))
          clear h1 h2
          go_wp2_with fail
          go_roundw
          case rel => exact ⟨k + 1, by omega, by go_num, hC, HN.out⟩
          case measure => simp [intOf]; omega
      · obtain ⟨q1, q2⟩ := str_ne h1
        have HN := Lib.hid (kfind_next HNO.out HP.out (show (pc, pi) ≠ (c, i) from fun e => h1 (congrArg Prod.fst e)))
        clear h1
        go_wp2_with fail
        go_roundw
        case rel => exact ⟨k + 1, by omega, by go_num, hC, HN.out⟩
        case measure => simp [intOf]; omega
    · have e1 : cLook kv (c, i) t = (⟨#[]⟩, false, 0) := by simp [cLook, kfind_end HNO.out (by omega)]
      have H1 := Lib.hid e1
      clear e1 hel hm
      go_wp2_with fail
      go_ret3
      exact ⟨by rw [H1.out]; rfl, hC⟩

/-- What Keep leaves. -/
def CachesPost (S : Nat → Prop) (w : World) (b most : Nat) (kv : Kepts) (w' : World) : Prop := Chg S w w' ∧ ∃ S', CachesAt w' b most kv S' ∧ Grow S S' w w'

theorem caches_done {S Ss S2 : Nat → Prop} {w wr w2 : World} {b most : Nat} {kv : Kepts} {v2 : Value} {T : TypeId} {old : Value} (hb : w.heap[b]? = some (.cells #[.int .i64 most, old] T (0, 0))) (hS : S b) (hlt : ∀ x, S x → x < w.heap.size) (hnb : ¬ Ss b) (hsub : ∀ x, Ss x → S x)
    (hX : Chg Nil w wr) (hc2 : Chg Ss wr w2) (hs2 : SliceAt w2 v2 163 4 kv.length (kv.flatMap keptC) S2) (hg2 : Grow Ss S2 wr w2) :
    CachesPost S w b most kv (w2.setCell ⟨b, 1, none⟩ v2) := by
  have hbl := lt_of_block hb
  have hz := hc2.size
  have hz1 := hX.size
  have hb2 : w2.heap[b]? = some (.cells #[.int .i64 most, old] T (0, 0)) := hc2.keep (hX.keep hb (fun f => f)) hnb
  have hb3 := block_setCell hb2 1 v2
  simp at hb3
  have hn2 : ¬ S2 b := fun h => by
    rcases hg2 b h with h | h
    · exact hnb h
    · omega
  refine ⟨?_, fun x => S x ∨ S2 x, ⟨⟨v2, T, S2, hb3, ?_, hn2, fun x h => .inr h⟩, .inl hS, ?_⟩, ?_⟩
  · exact (hX.nil.then (hc2.mono (fun x _ h => hsub x h))).setCell (.inr hS) _
  · exact hs2.keep ((Chg.refl (· = b) w2).setCell (p := ⟨b, 1, none⟩) (.inr rfl) v2) (fun x hx e => hn2 (by have : x = b := e; subst this; exact hx))
  · rintro x (h | h)
    · have := hlt x h; simp; omega
    · rcases hg2 x h with h | h
      · have := hlt x (hsub x h); simp; omega
      · simpa using h.2
  · rintro x (h | h)
    · exact .inl h
    · rcases hg2 x h with h | h
      · exact .inl (hsub x h)
      · right; simp at h ⊢; omega

set_option maxRecDepth 100000 in
set_option maxHeartbeats 2000000 in
theorem rkeep_any (b most : Nat) (c t r : ByteArray) (i : Int) (kv : Kepts) (S : Nat → Prop) (w : World) (ht : CachesAt w b most kv S) (hfew : kv.length ≤ most) (hmost : 1 ≤ most ∧ most ≤ 20) :
    Calls Tryd.prog 31 #[.pointer (some ⟨b, 0, none⟩), .string c, .int .i64 i, .string t, .string r] w fun e w' =>
      e = .returned (.int .i64 (cKeep most kv (c, i) t r).2) ∧ CachesPost S w b most (cKeep most kv (c, i) t r).1 w' := by
  have HT := Lib.hid ht
  clear ht
  have hm1 := hmost.1
  have hm2 := hmost.2
  clear hmost
  go_enter Tryd.func31, Tryd.ntmps31
  go_wp2_with fail
  go_loopw [11] (fun n wr => KFind kv (c, i) w n wr) (fun n _ => (kv.length - intOf n).toNat)
  case atStart => exact ⟨0, Nat.zero_le _, rfl, Chg.refl _ _, fun j hj => absurd hj (Nat.not_lt_zero _)⟩
  case round =>
    rename_i wr _
    obtain ⟨k, hk, rfl, hC, hno⟩ := hrel
    have HNO := Lib.hid hno
    clear hno
    by_cases hlt : k < kv.length
    · obtain ⟨a, cap, hm, hsl, hmx, hel⟩ := HT.out.cells hC
      obtain ⟨p, hp⟩ : ∃ p, kv[k]? = some p := ⟨kv[k], List.getElem?_eq_getElem hlt⟩
      obtain ⟨g, off, rfl, e0, e1, e2, e3⟩ := hel k p hp
      obtain ⟨⟨pc, pi⟩, pt, pr⟩ := p
      simp only at e0 e1 e2 e3
      have HP := Lib.hid hp
      clear hp hel hm
      have hI : (k : Int) < (kv.length : Int) := by omega
      by_cases h1 : pc = c
      · obtain ⟨q1, q2⟩ := str_eq h1
        by_cases h2 : pi = i
        · obtain ⟨q3, q4⟩ := int_eq h2
          have hg : aget kv (c, i) = some (pt, pr) := aget_at (by rw [← h1, ← h2]; exact HP.out) HNO.out
          have e1 : cKeep most kv (c, i) t r = (kv, 6) := by simp [cKeep, hg]
          have H1 := Lib.hid e1
          clear h1 h2 hg e1
          go_wp2_with fail
          go_ret
          exact ⟨by rw [H1.out]; rfl, by rw [H1.out]; exact ⟨hC.nil, S, HT.out.keep hC (fun _ _ f => f), Grow.refl _ _ _⟩⟩
        · obtain ⟨q3, q4⟩ := int_ne h2
          have HN := Lib.hid (kfind_next HNO.out HP.out (show (pc, pi) ≠ (c, i) from fun e => h2 (congrArg Prod.snd e)))
          clear h1 h2
          go_wp2_with fail
          go_roundw
          case rel => exact ⟨k + 1, by omega, by go_num, hC, HN.out⟩
          case measure => simp [intOf]; omega
      · obtain ⟨q1, q2⟩ := str_ne h1
        have HN := Lib.hid (kfind_next HNO.out HP.out (show (pc, pi) ≠ (c, i) from fun e => h1 (congrArg Prod.fst e)))
        clear h1
        go_wp2_with fail
        go_roundw
        case rel => exact ⟨k + 1, by omega, by go_num, hC, HN.out⟩
        case measure => simp [intOf]; omega
    · have hg : aget kv (c, i) = none := kfind_end HNO.out (by omega)
      obtain ⟨⟨v, T, Ss, hb, hs, hnb, hsub⟩, hS, hlt0⟩ := HT.out
      have hbr := hC.keep hb (fun f => f)
      have hsr := hs.keep hC (fun _ _ f => f)
      obtain ⟨a, cap, rfl⟩ := hs.shape
      have hcell0 := cell_of hbr 0
      have hcell1 := cell_of hbr 1
      have hfr := free_of hbr 1
      simp only [List.getElem?_toArray, List.getElem?_cons_zero, List.getElem?_cons_succ] at hcell0 hcell1
      have hbl := lt_of_block hbr
      have HBk := Lib.hid hb
      have HBr := Lib.hid hbr
      have HSl := Lib.hid hsr
      have HL := Lib.hid hlt0
      have HSub := Lib.hid hsub
      by_cases hfull : kv.length + 1 ≤ most
      · have e1 : cKeep most kv (c, i) t r = (kv ++ [((c, i), (t, r))], 0) := by
          have : ¬ most < kv.length + 1 := by omega
          simp [cKeep, hg, this]
        have H1 := Lib.hid e1
        clear hg e1 hb hs hbr hsr hlt0 hsub
        go_wp2_with (at_builtin; refine wpList_appendS rfl _ _ 62 rfl Tryd.underlying62 info_kept rfl (by decide) rfl (HSl.out.keep ((Chg.refl Nil wr).alloc _) (fun _ _ f => f)) rfl (keptC ((c, i), (t, r))) rfl (cell_new_list wr (keptC ((c, i), (t, r))) _) (keptC_one _) (by unfold maxLen; omega) (by omega) ?_; intro v2 w2 S2 hs2 hc2 hg2; obtain ⟨a2, cap2, rfl⟩ := hs2.shape; have hb2 := hc2.keep (block_alloc_old HBr.out _) hnb; have d0 := cell_of hb2 0; have d1 := cell_of hb2 1; have hfr2 := free_of hb2 1; have hbl2 := lt_of_block hb2; simp only [List.getElem?_toArray, List.getElem?_cons_zero, List.getElem?_cons_succ] at d0 d1; clear hb2)
        go_ret
        rw [H1.out]
        exact ⟨rfl, caches_done (kv := kv ++ [((c, i), (t, r))]) HBk.out hS HL.out hnb HSub.out (hC.alloc _) hc2 (by simpa using hs2) hg2⟩
      · obtain ⟨p, l, rfl⟩ : ∃ p l, kv = p :: l := by
          cases kv with
          | nil => simp at hfull; omega
          | cons p l => exact ⟨p, l, rfl⟩
        have hpe : (p :: l).length = l.length + 1 := rfl
        rw [hpe] at hcell1 HSl hfew hfull hlt hk
        have e1 : cKeep most (p :: l) (c, i) t r = (l ++ [((c, i), (t, r))], 0) := by
          have : most < (p :: l).length + 1 := by rw [hpe]; omega
          simp only [cKeep, hg, if_pos this]; rfl
        have H1 := Lib.hid e1
        have hx1 : (most : Int) < (l.length : Int) + 1 + 1 := by omega
        have hx2 : (0 : Int) < (l.length : Int) + 1 + 1 := by omega
        have hx3 : (0 : Int) ≤ (l.length : Int) + 1 := by omega
        clear hg e1 hb hs hbr hsr hlt0 hsub hpe
        go_wp2_with (at_builtin;  refine wpList_appendS rfl _ _ 62 rfl Tryd.underlying62 info_kept rfl (by decide) rfl (HSl.out.keep ((Chg.refl Nil wr).alloc _) (fun _ _ f => f)) rfl (keptC ((c, i), (t, r))) rfl (cell_new_list wr (keptC ((c, i), (t, r))) _) (keptC_one _) (by unfold maxLen; omega) (by omega) ?_; intro v2 w2 S2 hs2 hc2 hg2; obtain ⟨g2, off2, cap2, cs2, rfl, _, hcap2, _⟩ := hs2.place (by omega); have hcap3 : 1 < cap2 := (by omega); have hb2 := hc2.keep (block_alloc_old HBr.out _) hnb; have d0 := cell_of hb2 0; have d1 := cell_of hb2 1; have hfr2 := free_of hb2 1; have hbl2 := lt_of_block hb2; simp only [List.getElem?_toArray, List.getElem?_cons_zero, List.getElem?_cons_succ] at d0 d1; clear hb2)
        go_ret
        rw [H1.out]
        refine ⟨rfl, caches_done (kv := l ++ [((c, i), (t, r))]) HBk.out hS HL.out hnb HSub.out (hC.alloc _) hc2 ?_ hg2⟩
        have h9 := SliceAt.tail (w := w2) (g := g2) (off := off2) (n := l.length + 1 + 1) (cap := cap2) (S := S2) (l := p :: l ++ [((c, i), (t, r))]) keptC_len (by omega) (by simpa using hs2)
        simpa using h9
end Go.Proofs.YtfekiagdnlnggaaDoor
