/- package turn: its functions by contracts over a plain list of owners. No condition but that the table is one. -/
import Derived.Test.YtfekiagdnlnggaaDoorEnv
import Derived.Test.YtfekiagdnlnggaaDoorSlice
namespace Go.Proofs.YtfekiagdnlnggaaDoor
open Go.RowKit
set_option linter.unusedVariables false
set_option linter.unusedSimpArgs false

/-! ### The plain table -/
abbrev Owners := List (Int × (Int × ByteArray))
def lastV (p : Int × ByteArray) : Value := .agg #[.int .i64 p.1, .string p.2]
def ownV (kv : Owners) : List (Int × Value) := kv.map fun p => (p.1, lastV p.2)
def nextSeq (q : Int) : Int := if q = 4294967295 then 0 else q + 1
def tBegin (kv : Owners) (o s : Int) : ByteArray × Bool × Nat :=
  if s < 0 ∨ 4294967295 < s then (⟨#[]⟩, false, 2) else
  match aget kv o with
  | none => if 30 ≤ kv.length then (⟨#[]⟩, false, 9) else (⟨#[]⟩, false, 0)
  | some (q, r) => if s = nextSeq q then (⟨#[]⟩, false, 0) else if s = q then (r, true, 0) else (⟨#[]⟩, false, 12)

theorem aget_map {α β γ : Type} [DecidableEq α] (g : β → γ) : ∀ (kv : List (α × β)) (k : α), aget (kv.map fun p => (p.1, g p.2)) k = (aget kv k).map g
  | [], _ => rfl
  | p :: r, k => by
    simp only [List.map_cons, aget]
    split
    · rfl
    · exact aget_map g r k
theorem aput_map {α β γ : Type} [DecidableEq α] (g : β → γ) : ∀ (kv : List (α × β)) (k : α) (v : β), aput (kv.map fun p => (p.1, g p.2)) k (g v) = (aput kv k v).map fun p => (p.1, g p.2)
  | [], _, _ => rfl
  | p :: r, k, v => by
    simp only [List.map_cons, aput]
    split
    · rfl
    · simp [aput_map g r k v]
theorem adel_map {α β γ : Type} [DecidableEq α] (g : β → γ) : ∀ (kv : List (α × β)) (k : α), adel (kv.map fun p => (p.1, g p.2)) k = (adel kv k).map fun p => (p.1, g p.2)
  | [], _ => rfl
  | p :: r, k => by
    simp only [List.map_cons, adel]
    split
    · rfl
    · simp [adel_map g r k]

/-- A table of owners at block b; S: its blocks. -/
structure TurnAt (w : World) (b : Nat) (kv : Owners) (S : Nat → Prop) : Prop where
  at_ : ∃ mv T, w.heap[b]? = some (.cells #[mv] T (0, 0)) ∧ MapV w mv ik (ownV kv) ∧ ∀ r, mv = .map (some r) → S r
  own : S b
  lt : ∀ x, S x → x < w.heap.size
  rng : ∀ p ∈ kv, 0 ≤ p.2.1 ∧ p.2.1 ≤ 4294967295

theorem MapV.keep {α : Type} [DecidableEq α] {S : Nat → Prop} {w w' : World} {mv : Value} {f : α → Value} {kv : List (α × Value)} (h : MapV w mv f kv) (c : Chg S w w') (hs : ∀ r, mv = .map (some r) → ¬ S r) : MapV w' mv f kv := by
  rcases h with h | ⟨r, rfl, h⟩
  · exact .inl h
  · exact .inr ⟨r, rfl, h.keep c (hs r rfl)⟩

theorem TurnAt.keep {S T : Nat → Prop} {w w' : World} {b : Nat} {kv : Owners} (h : TurnAt w b kv S) (c : Chg T w w') (hd : ∀ x, S x → ¬ T x) : TurnAt w' b kv S := by
  obtain ⟨⟨mv, E, h1, h2, h3⟩, h4, h5, h6⟩ := h
  exact ⟨⟨mv, E, c.keep h1 (hd b h4), h2.keep c (fun r hr => hd r (h3 r hr)), h3⟩, h4, fun x hx => Nat.lt_of_lt_of_le (h5 x hx) c.size, h6⟩

theorem i64_and32 (n : Int) : bits .and .i64 n 4294967295 = n % 4294967296 := by
  have h127 : (BitVec.ofInt 64 4294967295).toNat = 2 ^ 32 - 1 := by decide
  have key : (BitVec.ofInt 64 n &&& BitVec.ofInt 64 4294967295).toNat = (n % ((2 ^ 64 : Nat) : Int)).toNat % 2 ^ 32 := by
    rw [BitVec.toNat_and, BitVec.toNat_ofInt, h127, Nat.and_two_pow_sub_one_eq_mod]
  show IntKind.i64.wrap ((BitVec.ofInt 64 n &&& BitVec.ofInt 64 4294967295).toNat : Nat) = n % 4294967296
  rw [key, IntKind.wrap_i64]
  omega
theorem next_and (q : Int) (h0 : 0 ≤ q) (h1 : q ≤ 4294967295) : bits .and .i64 (q + 1) 4294967295 = nextSeq q := by
  rw [i64_and32]; unfold nextSeq; split <;> omega

theorem law_int : KeyFn Tryd.prog 3 ik := keyInt Tryd.underlying3
theorem zero_last (w : World) : (zeroValue 140).run Tryd.prog w = .ok (lastV (0, ⟨#[]⟩)) w := by kernel_rfl

theorem aget_mem {α β : Type} [DecidableEq α] : ∀ {kv : List (α × β)} {k : α} {v : β}, aget kv k = some v → (k, v) ∈ kv
  | [], _, _, h => by cases h
  | p :: r, k, v, h => by
    unfold aget at h
    split at h
    · rename_i c; cases h; subst c; exact List.mem_cons_self ..
    · exact List.mem_cons_of_mem _ (aget_mem h)

set_option maxRecDepth 100000 in
set_option maxHeartbeats 1000000 in
theorem begin_any {B : Nat} (ad : Nat → Addr) (b : Nat) (o s : Int) (kv : Owners) (S : Nat → Prop) (w : World) (he : Env B ad [2, 9, 12] w) (ht : TurnAt w b kv S) :
    Calls Tryd.prog 14 #[.pointer (some ⟨b, 0, none⟩), .int .i64 o, .int .i64 s] w fun e w' =>
      e = .returned (.tuple #[.string (tBegin kv o s).1, .bool (tBegin kv o s).2.1, errV ad (tBegin kv o s).2.2]) ∧ Chg Nil w w' := by
  obtain ⟨h2, h2l⟩ := he.get (c := 2) (by simp)
  obtain ⟨h9, h9l⟩ := he.get (c := 9) (by simp)
  obtain ⟨h12, h12l⟩ := he.get (c := 12) (by simp)
  simp only [gl] at h2 h9 h12 h2l h9l h12l
  clear he
  obtain ⟨⟨mv, E, hb, hm, _⟩, _, _, hr⟩ := ht
  have hc := cell_of hb 0
  simp only [List.getElem?_toArray, List.getElem?_cons_zero] at hc
  have hbl := lt_of_block hb
  have hl : ∀ x, (Builtin.len_ #[24] 3 #[mv]).run Tryd.prog (w.alloc x) = .ok (.int .i64 kv.length) (w.alloc x) := fun x => by
    have := (hm.keep ((Chg.refl Nil w).alloc x) (fun _ _ f => f)).run_len (ty := 3) Tryd.underlying24
    simpa [ownV] using this
  by_cases hs : s < 0 ∨ 4294967295 < s
  · have e1 : tBegin kv o s = (⟨#[]⟩, false, 2) := by simp [tBegin, hs]
    rw [e1]
    rcases hs with hs | hs
    · go_enter Tryd.func14, Tryd.ntmps14
      go_wp2
      go_quiet (fail)
      go_wp2
      go_ret3
      exact ⟨rfl, Chg.drewN _ _⟩
    · have hs' : ¬ s < 0 := by omega
      go_enter Tryd.func14, Tryd.ntmps14
      go_wp2
      go_quiet (fail)
      go_wp2
      go_ret3
      exact ⟨rfl, Chg.drewN _ _⟩
  · have hs0 : ¬ s < 0 := by omega
    have hs1 : s ≤ 4294967295 := by omega
    have hk := hm.run_lookup (T := 24) law_int Tryd.underlying24 (zero_last w) o true
    simp only [ownV, aget_map, if_true, ik] at hk
    cases hg : aget kv o with
    | none =>
      simp only [hg, Option.map_none, Option.getD_none, Option.isSome_none, lastV] at hk
      by_cases hn : 30 ≤ kv.length
      · have e1 : tBegin kv o s = (⟨#[]⟩, false, 9) := by simp [tBegin, hs, hg, hn]
        rw [e1]
        clear hg e1
        go_enter Tryd.func14, Tryd.ntmps14
        go_wp2
        go_quiet (fail)
        go_wp2
        go_ret3
        exact ⟨rfl, ((Chg.refl _ _).alloc _).drewsN _⟩
      · have e1 : tBegin kv o s = (⟨#[]⟩, false, 0) := by simp [tBegin, hs, hg, hn]
        rw [e1]
        clear hg e1
        go_enter Tryd.func14, Tryd.ntmps14
        go_wp2
        go_ret3
        exact ⟨rfl, ((Chg.refl _ _).alloc _)⟩
    | some p =>
      obtain ⟨q, r⟩ := p
      have hq := hr _ (aget_mem hg)
      simp only [hg, Option.map_some, Option.getD_some, Option.isSome_some, lastV] at hk
      obtain ⟨hq0, hq1⟩ : 0 ≤ q ∧ q ≤ 4294967295 := hq
      have hb2 := next_and q hq0 hq1
      by_cases hn : s = nextSeq q
      · have e1 : tBegin kv o s = (⟨#[]⟩, false, 0) := by rw [tBegin, if_neg hs, hg]; exact if_pos hn
        rw [e1]
        have hn' : (s == nextSeq q) = true := by simpa using hn
        clear hg e1 hn
        go_enter Tryd.func14, Tryd.ntmps14
        go_wp2
        go_ret3
        exact ⟨rfl, ((Chg.refl _ _).alloc _)⟩
      · have hn' : (s == nextSeq q) = false := by simpa using hn
        by_cases hsq : s = q
        · have e1 : tBegin kv o s = (r, true, 0) := by rw [tBegin, if_neg hs, hg]; exact (if_neg hn).trans (if_pos hsq)
          rw [e1]
          have hq' : (s == q) = true := by simpa using hsq
          clear hg e1 hn hsq
          go_enter Tryd.func14, Tryd.ntmps14
          go_wp2
          go_ret3
          exact ⟨rfl, ((Chg.refl _ _).alloc _)⟩
        · have e1 : tBegin kv o s = (⟨#[]⟩, false, 12) := by rw [tBegin, if_neg hs, hg]; exact (if_neg hn).trans (if_neg hsq)
          rw [e1]
          have hq' : (s == q) = false := by simpa using hsq
          clear hg e1 hn hsq
          go_enter Tryd.func14, Tryd.ntmps14
          go_wp2
          go_quiet (fail)
          go_wp2
          go_ret3
          exact ⟨rfl, ((Chg.refl _ _).alloc _).drewsN _⟩

def tEnd (kv : Owners) (o s : Int) (r : ByteArray) : Owners × Nat :=
  if (tBegin kv o s).2.2 ≠ 0 then (kv, (tBegin kv o s).2.2) else if (tBegin kv o s).2.1 then (kv, 12) else (aput kv o (s, r), 0)

theorem tBegin_rng {kv : Owners} {o s : Int} (h : (tBegin kv o s).2.2 = 0) : 0 ≤ s ∧ s ≤ 4294967295 := by
  unfold tBegin at h
  by_cases c : s < 0 ∨ 4294967295 < s
  · rw [if_pos c] at h; cases h
  · omega
theorem aput_rng {kv : Owners} {o s : Int} {r : ByteArray} (h : ∀ p ∈ kv, 0 ≤ p.2.1 ∧ p.2.1 ≤ 4294967295) (h0 : 0 ≤ s ∧ s ≤ 4294967295) : ∀ p ∈ aput kv o (s, r), 0 ≤ p.2.1 ∧ p.2.1 ≤ 4294967295 := by
  induction kv with
  | nil => intro p hp; simp only [aput, List.mem_singleton] at hp; subst hp; exact h0
  | cons q l ih =>
    intro p hp
    unfold aput at hp
    split at hp
    · rcases List.mem_cons.1 hp with rfl | hp
      · exact h0
      · exact h p (List.mem_cons_of_mem _ hp)
    · rcases List.mem_cons.1 hp with rfl | hp
      · exact h p (List.mem_cons_self ..)
      · exact ih (fun p hp => h p (List.mem_cons_of_mem _ hp)) p hp

theorem end_new {w w1 w2 : World} {b : Nat} {kv : Owners} {S : Nat → Prop} {o s : Int} {r : ByteArray} {E : TypeId} (hc1 : Chg Nil w w1) (hb1 : w1.heap[b]? = some (.cells #[.map none] E (0, 0))) (hS : S b) (hlt : ∀ x, S x → x < w.heap.size)
    (hr' : ∀ p ∈ aput kv o (s, r), 0 ≤ p.2.1 ∧ p.2.1 ≤ 4294967295) (hkv : ownV kv = []) (hc2 : Chg (· = w1.heap.size) ((w1.setCell ⟨b, 0, none⟩ (.map (some w1.heap.size))).alloc (.map #[] 0)) w2)
    (hA2 : MapA w2 w1.heap.size ik (aput (ownV []) o (lastV (s, r)))) : Chg S w w2 ∧ ∃ S', TurnAt w2 b (aput kv o (s, r)) S' ∧ Grow S S' w w2 := by
  have hbl := lt_of_block hb1
  have hwb := hlt b hS
  have hz := hc2.size
  have hz1 := hc1.size
  simp at hz
  have hne : b ≠ w1.heap.size := by omega
  have h2 : w2.heap[b]? = some (.cells #[.map (some w1.heap.size)] E (0, 0)) := by
    refine hc2.keep (block_alloc_old ?_ _) hne
    have := block_setCell hb1 0 (.map (some w1.heap.size))
    simpa using this
  refine ⟨?_, fun x => S x ∨ x = w1.heap.size, ⟨⟨_, E, h2, .inr ⟨_, rfl, ?_⟩, fun r' hr => ?_⟩, .inl hS, ?_, hr'⟩, ?_⟩
  · refine Chg.trans (S := S) (b := (w1.setCell ⟨b, 0, none⟩ (.map (some w1.heap.size))).alloc (.map #[] 0)) ?_ hc2 (fun x hx e => by subst e; omega)
    exact ((hc1.nil).setCell (.inr hS) _).alloc _
  · have e : ownV (aput kv o (s, r)) = aput (ownV kv) o (lastV (s, r)) := (aput_map lastV kv o (s, r)).symm
    rw [e, hkv]; exact hA2
  · cases hr; exact .inr rfl
  · rintro x (hx | rfl)
    · have := hlt x hx; omega
    · omega
  · rintro x (hx | rfl)
    · exact .inl hx
    · exact .inr ⟨hz1, by omega⟩

theorem end_old {w w1 w2 : World} {b rm : Nat} {kv : Owners} {S : Nat → Prop} {o s : Int} {r : ByteArray} {E : TypeId} (hc1 : Chg Nil w w1) (hb1 : w1.heap[b]? = some (.cells #[.map (some rm)] E (0, 0))) (hS : S b) (hSm : S rm) (hlt : ∀ x, S x → x < w.heap.size)
    (hr' : ∀ p ∈ aput kv o (s, r), 0 ≤ p.2.1 ∧ p.2.1 ≤ 4294967295) (hc2 : Chg (· = rm) w1 w2) (hA1 : MapA w1 rm ik (ownV kv))
    (hA2 : MapA w2 rm ik (aput (ownV kv) o (lastV (s, r)))) : Chg S w w2 ∧ ∃ S', TurnAt w2 b (aput kv o (s, r)) S' ∧ Grow S S' w w2 := by
  have hne : b ≠ rm := fun e => by
    subst e
    obtain ⟨es, clock, h, _⟩ := hA1
    rw [hb1] at h; cases h
  have e : ownV (aput kv o (s, r)) = aput (ownV kv) o (lastV (s, r)) := (aput_map lastV kv o (s, r)).symm
  refine ⟨Chg.trans (S := S) hc1.nil hc2 (fun x hx e => by subst e; exact hSm), S, ⟨⟨_, E, hc2.keep hb1 hne, .inr ⟨_, rfl, by rw [e]; exact hA2⟩, fun r' hr => by cases hr; exact hSm⟩, hS, ?_, hr'⟩, fun x hx => .inl hx⟩
  intro x hx
  exact Nat.lt_of_lt_of_le (hlt x hx) (Nat.le_trans hc1.size hc2.size)

set_option maxRecDepth 100000 in
set_option maxHeartbeats 1000000 in
theorem end_any {B : Nat} (ad : Nat → Addr) (b : Nat) (o s : Int) (r : ByteArray) (kv : Owners) (S : Nat → Prop) (w : World) (he : Env B ad [2, 9, 12] w) (ht : TurnAt w b kv S) :
    Calls Tryd.prog 16 #[.pointer (some ⟨b, 0, none⟩), .int .i64 o, .int .i64 s, .string r] w fun e w' =>
      e = .returned (errV ad (tEnd kv o s r).2) ∧ Chg S w w' ∧ ∃ S', TurnAt w' b (tEnd kv o s r).1 S' ∧ Grow S S' w w' := by
  have hbeg := begin_any ad b o s kv S w he ht
  obtain ⟨r0, a0, c0, hB⟩ : ∃ r0 a0 c0, tBegin kv o s = (r0, a0, c0) := ⟨_, _, _, rfl⟩
  rw [hB] at hbeg
  simp only at hbeg
  by_cases hc : c0 = 0
  · subst hc
    rw [errV_zero] at hbeg
    cases a0 with
    | true =>
      have e1 : tEnd kv o s r = (kv, 12) := by simp [tEnd, hB]
      have HB := Lib.hid hbeg
      obtain ⟨h12, h12l⟩ := he.get (c := 12) (by simp)
      have hE := Lib.hid he
      have hT := Lib.hid ht
      rw [e1]
      clear hbeg hB e1 he ht
      simp only [gl] at h12 h12l
      go_enter Tryd.func16, Tryd.ntmps16
      go_wp2_with fail
      refine HB.out.mono ?_
      rintro e w1 ⟨rfl, hc1⟩
      have h12' : w1.cell? ⟨11, 0, none⟩ = _ := (hc1.cell h12l (fun f => f)).trans h12
      clear h12
      go_wp2_with fail
      go_ret
      exact ⟨rfl, hc1.nil, S, hT.out.keep hc1 (fun _ _ f => f), fun x hx => .inl hx⟩
    | false =>
      have e1 : tEnd kv o s r = (aput kv o (s, r), 0) := by simp [tEnd, hB]
      have hrg : 0 ≤ s ∧ s ≤ 4294967295 := tBegin_rng (by rw [hB])
      have HB := Lib.hid hbeg
      rw [e1]
      clear hbeg hB e1 he
      obtain ⟨⟨mv, E, hb, hm, hmS⟩, hS, hlt, hr⟩ := ht
      have hr' := aput_rng (o := o) (r := r) hr hrg
      rcases hm with ⟨rfl, hkv⟩ | ⟨rm, rfl, hA⟩
      · have hb' := Lib.hid hb
        have hbl := Lib.hid (lt_of_block hb)
        have HK := Lib.hid hkv
        clear hb hkv
        have hmm := @run_makeMap Tryd.prog
        have hq := fun W => run_eql_map_nil (P := Tryd.prog) W 24 3 140 none Tryd.underlying24
        go_enter Tryd.func16, Tryd.ntmps16
        go_wp2_with fail
        refine HB.out.mono ?_
        rintro e w1 ⟨rfl, hc1⟩
        have hb1 := hc1.keep hb'.out (fun f => f)
        have hcell := cell_of hb1 0
        have hfr := free_of hb1 0
        have hbl1 := lt_of_block hb1
        simp only [List.getElem?_toArray, List.getElem?_cons_zero] at hcell
        have HB1 := Lib.hid hb1
        clear hb1
        have hA1 : MapA ((w1.setCell ⟨b, 0, none⟩ (.map (some w1.heap.size))).alloc (.map #[] 0)) w1.heap.size ik (ownV []) := by
          have := mapA_made (w1.setCell ⟨b, 0, none⟩ (.map (some w1.heap.size))) ik
          rw [World.size_setCell] at this
          exact this
        go_wp2_with (at_mapUpdate; refine wpList_mapUpdateA rfl _ _ _ 24 rfl 3 140 Tryd.underlying24 law_int w1.heap.size rfl hA1 o rfl (lastV (s, r)) rfl ?_; intro w2 hA2 hc2 hz2)
        go_ret
        exact ⟨rfl, end_new hc1 HB1.out hS hlt hr' HK.out hc2 hA2⟩
      · have hb' := Lib.hid hb
        have hbl := Lib.hid (lt_of_block hb)
        have hSm := hmS rm rfl
        clear hb hmS
        have hq := fun W => run_eql_map_nil (P := Tryd.prog) W 24 3 140 (some rm) Tryd.underlying24
        go_enter Tryd.func16, Tryd.ntmps16
        go_wp2_with fail
        refine HB.out.mono ?_
        rintro e w1 ⟨rfl, hc1⟩
        have hb1 := hc1.keep hb'.out (fun f => f)
        have hcell := cell_of hb1 0
        simp only [List.getElem?_toArray, List.getElem?_cons_zero] at hcell
        have HB1 := Lib.hid hb1
        clear hb1
        have hA1 := hA.keep hc1 (fun f => f)
        go_wp2_with (at_mapUpdate; refine wpList_mapUpdateA rfl _ _ _ 24 rfl 3 140 Tryd.underlying24 law_int rm rfl hA1 o rfl (lastV (s, r)) rfl ?_; intro w2 hA2 hc2 hz2)
        go_ret
        exact ⟨rfl, end_old hc1 HB1.out hS hSm hlt hr' hc2 hA1 hA2⟩
  · rw [errV_pos hc] at hbeg
    have e1 : tEnd kv o s r = (kv, c0) := by simp [tEnd, hB, hc]
    have HB := Lib.hid hbeg
    have hT := Lib.hid ht
    rw [e1]
    simp only [errV_pos hc]
    clear hbeg hB e1 he ht
    go_enter Tryd.func16, Tryd.ntmps16
    go_wp2_with fail
    refine HB.out.mono ?_
    rintro e w1 ⟨rfl, hc1⟩
    go_wp2_with fail
    go_ret
    exact ⟨rfl, hc1.nil, S, hT.out.keep hc1 (fun _ _ f => f), fun x hx => .inl hx⟩

def tDrop (kv : Owners) (o : Int) : Nat := if (aget kv o).isSome then 0 else 5
theorem adel_rng {kv : Owners} {o : Int} (h : ∀ p ∈ kv, 0 ≤ p.2.1 ∧ p.2.1 ≤ 4294967295) : ∀ p ∈ adel kv o, 0 ≤ p.2.1 ∧ p.2.1 ≤ 4294967295 := by
  induction kv with
  | nil => intro p hp; cases hp
  | cons q l ih =>
    intro p hp
    unfold adel at hp
    split at hp
    · exact h p (List.mem_cons_of_mem _ hp)
    · rcases List.mem_cons.1 hp with rfl | hp
      · exact h p (List.mem_cons_self ..)
      · exact ih (fun p hp => h p (List.mem_cons_of_mem _ hp)) p hp

set_option maxRecDepth 100000 in
set_option maxHeartbeats 1000000 in
theorem drop_any {B : Nat} (ad : Nat → Addr) (b : Nat) (o : Int) (kv : Owners) (S : Nat → Prop) (w : World) (he : Env B ad [5] w) (ht : TurnAt w b kv S) :
    Calls Tryd.prog 37 #[.pointer (some ⟨b, 0, none⟩), .int .i64 o] w fun e w' =>
      e = .returned (errV ad (tDrop kv o)) ∧ Chg S w w' ∧ TurnAt w' b (adel kv o) S := by
  obtain ⟨h5, h5l⟩ := he.get (c := 5) (by simp)
  simp only [gl] at h5 h5l
  clear he
  have HT := Lib.hid ht
  obtain ⟨⟨mv, E, hb, hm, hmS⟩, hS, hlt, hr⟩ := ht
  have hc := cell_of hb 0
  simp only [List.getElem?_toArray, List.getElem?_cons_zero] at hc
  have hbl := lt_of_block hb
  have hk := hm.run_lookup (T := 24) law_int Tryd.underlying24 (zero_last w) o true
  simp only [ownV, aget_map, if_true, ik] at hk
  cases hg : aget kv o with
  | none =>
    have e1 : tDrop kv o = 5 := by simp [tDrop, hg]
    have e2 : adel kv o = kv := by
      cases hf : findA kv o 0 with
      | none => exact (findA_none hf).2.2.1
      | some x => obtain ⟨j, v⟩ := x; obtain ⟨_, _, _, h, _⟩ := findA_some hf; rw [hg] at h; cases h
    simp only [hg, Option.map_none, Option.getD_none, Option.isSome_none, lastV] at hk
    rw [e1, e2]
    clear hg e1 e2 hb hm
    go_enter Tryd.func37, Tryd.ntmps37
    go_wp2_with fail
    go_ret
    exact ⟨rfl, (Chg.refl _ _).alloc _, HT.out.keep ((Chg.refl Nil w).alloc _) (fun _ _ f => f)⟩
  | some p =>
    obtain ⟨q, r⟩ := p
    have e1 : tDrop kv o = 0 := by simp [tDrop, hg]
    simp only [hg, Option.map_some, Option.getD_some, Option.isSome_some, lastV] at hk
    rcases hm with ⟨rfl, hkv⟩ | ⟨rm, rfl, hA⟩
    · simp only [ownV, List.map_eq_nil_iff] at hkv
      subst hkv; cases hg
    have hSm := hmS rm rfl
    rw [e1]
    have HB := Lib.hid hb
    clear hg e1 hb
    go_enter Tryd.func37, Tryd.ntmps37
    go_wp2_with (at_delete; refine wpList_deleteA rfl _ _ 24 3 rfl 3 140 Tryd.underlying24 law_int rm rfl (hA.keep ((Chg.refl Nil w).alloc _) (fun f => f)) o rfl ?_; intro w2 hA2 hc2 hz2)
    go_ret
    have hne : b ≠ rm := fun e => by
      subst e
      obtain ⟨es, clock, h, _⟩ := hA
      rw [HB.out] at h; cases h
    have hc3 : Chg S w w2 := ((Chg.refl S w).alloc _).trans hc2 (fun x hx e => by have : x = rm := e; subst this; exact hSm)
    have e : ownV (adel kv o) = adel (ownV kv) o := (adel_map lastV kv o).symm
    refine ⟨rfl, hc3, ⟨⟨_, E, hc2.keep (block_alloc_old HB.out _) hne, .inr ⟨_, rfl, by rw [e]; exact hA2⟩, fun r' hr => by cases hr; exact hSm⟩, hS, fun x hx => Nat.lt_of_lt_of_le (hlt x hx) hc3.size, adel_rng hr⟩⟩
end Go.Proofs.YtfekiagdnlnggaaDoor
