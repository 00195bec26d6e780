/- package data: Resize, Size by contract. -/
import Derived.Test.YtfekiagdnlnggaaDoorData2
import Derived.Deep.LoopGhost
import Derived.IntWalk
import Derived.Lib.SliceRun
namespace Go.Proofs.YtfekiagdnlnggaaDoor
open Go.RowKit
set_option linter.unusedVariables false
set_option linter.unusedSimpArgs false

theorem dsize_any (b : Nat) (d : PData) (S : Nat → Prop) (w : World) (ht : DataAt w b d S) :
    Calls Tryd.prog 24 #[.pointer (some ⟨b, 0, none⟩)] w fun e w' => e = .returned (.int .i64 d.size) ∧ w = w' := by
  obtain ⟨⟨mv, T, hb, _⟩, _⟩ := ht
  have hc0 := cell_of hb 0
  simp only [List.getElem?_toArray, List.getElem?_cons_zero] at hc0
  clear hb
  go_enter Tryd.func24, Tryd.ntmps24
  go_wp2
  go_ret
  exact ⟨rfl, rfl⟩

/-- The question whether a block is beyond. -/
theorem beyond_any (k n : Int) (cs : List Value) (nb : Nat) (w : World) (hk : 0 ≤ k ∧ k < 64) (hn : w.cell? ⟨nb, 0, none⟩ = some (.int .i64 n)) :
    Calls Tryd.prog 75 #[.int .i64 k, .agg cs.toArray, .pointer (some ⟨nb, 0, none⟩)] w fun e w' => e = .returned (.bool (decide (n ≤ k * 64))) ∧ Chg Nil w w' := by
  obtain ⟨hk0, hk1⟩ := hk
  have hnl := World.block_lt_of_cell? _ _ hn
  go_enter Tryd.func75, Tryd.ntmps75
  go_wp2
  go_ret
  exact ⟨rfl, (Chg.refl _ _).alloc _⟩

def zeros64 : Array Value := #[.int .u8 0, .int .u8 0, .int .u8 0, .int .u8 0, .int .u8 0, .int .u8 0, .int .u8 0, .int .u8 0, .int .u8 0, .int .u8 0, .int .u8 0, .int .u8 0, .int .u8 0, .int .u8 0, .int .u8 0, .int .u8 0, .int .u8 0, .int .u8 0, .int .u8 0, .int .u8 0, .int .u8 0, .int .u8 0, .int .u8 0, .int .u8 0, .int .u8 0, .int .u8 0, .int .u8 0, .int .u8 0, .int .u8 0, .int .u8 0, .int .u8 0, .int .u8 0, .int .u8 0, .int .u8 0, .int .u8 0, .int .u8 0, .int .u8 0, .int .u8 0, .int .u8 0, .int .u8 0, .int .u8 0, .int .u8 0, .int .u8 0, .int .u8 0, .int .u8 0, .int .u8 0, .int .u8 0, .int .u8 0, .int .u8 0, .int .u8 0, .int .u8 0, .int .u8 0, .int .u8 0, .int .u8 0, .int .u8 0, .int .u8 0, .int .u8 0, .int .u8 0, .int .u8 0, .int .u8 0, .int .u8 0, .int .u8 0, .int .u8 0, .int .u8 0]
theorem Chg.setCells {S : Nat → Prop} {a w : World} (h : Chg S a w) {b : Nat} (hp : a.heap.size ≤ b ∨ S b) (o : Nat) (vs : List Value) : Chg S a (w.setCells b o vs) :=
  h.trans (chg_setCells vs o w) (fun x hx e => by have : x = b := e; subst this; rcases hp with hp | hp; omega; exact hp)

/-! ### maps.DeleteFunc at this question -/
def cut1 (n : Int) (vis : Int → Bool) (kv : Blks) : Blks := kv.filter fun p => !(vis p.1 && decide (n ≤ p.1 * 64))
theorem cut1_none (n : Int) (kv : Blks) : cut1 n (fun _ => false) kv = kv := by simp [cut1]
theorem cut1_mem {n : Int} {vis : Int → Bool} {kv : Blks} {p : Int × List UInt8} (h : p ∈ cut1 n vis kv) : p ∈ kv := (List.mem_filter.1 h).1
theorem cut1_stay {n k : Int} {vis : Int → Bool} {kv : Blks} (h : ¬ n ≤ k * 64) : cut1 n (fun x => vis x || decide (x = k)) kv = cut1 n vis kv := by
  unfold cut1
  refine List.filter_congr (fun p _ => ?_)
  by_cases e : p.1 = k
  · simp [e, h]
  · simp [e]
theorem adel_filter {α β : Type} [DecidableEq α] (k : α) (P : α × β → Bool) : ∀ (kv : List (α × β)), (kv.map (·.1)).Nodup → adel (kv.filter P) k = kv.filter fun p => P p && !decide (p.1 = k)
  | [], _ => rfl
  | p :: r, h => by
    simp only [List.map_cons, List.nodup_cons] at h
    by_cases e : p.1 = k
    · have hr : ∀ q ∈ r, ¬ q.1 = k := fun q hq e2 => h.1 (by rw [e, ← e2]; exact List.mem_map.2 ⟨q, hq, rfl⟩)
      have h1 : r.filter (fun p => P p && !decide (p.1 = k)) = r.filter P := List.filter_congr (fun q hq => by simp [hr q hq])
      have h2 : adel (r.filter P) k = r.filter P := by
        have : ∀ l : List (α × β), (∀ q ∈ l, ¬ q.1 = k) → adel l k = l := by
          intro l
          induction l with
          | nil => intro _; rfl
          | cons q l ih =>
            intro hl
            unfold adel
            rw [if_neg (fun e => hl q (List.mem_cons_self ..) e.symm), ih (fun q hq => hl q (List.mem_cons_of_mem _ hq))]
        exact this _ (fun q hq => hr q ((List.mem_filter.1 hq).1))
      by_cases hp : P p = true
      · simp [List.filter_cons, hp, e, adel, h1]
      · simp [List.filter_cons, hp, e, h1, h2]
    · have e' : ¬ k = p.1 := fun x => e x.symm
      by_cases hp : P p = true
      · simp [List.filter_cons, hp, e, adel, e', adel_filter k P r h.2]
      · simp [List.filter_cons, hp, e, adel_filter k P r h.2]
theorem cut1_struck {n k : Int} {vis : Int → Bool} {kv : Blks} (h : n ≤ k * 64) (hk : vis k = false) (hd : (kv.map (·.1)).Nodup) : adel (cut1 n vis kv) k = cut1 n (fun x => vis x || decide (x = k)) kv := by
  unfold cut1
  rw [adel_filter k _ kv hd]
  refine List.filter_congr (fun p _ => ?_)
  by_cases e : p.1 = k
  · simp [e, h]
  · simp [e]
theorem cut1_all {n : Int} {vis : Int → Bool} {kv : Blks} (h : ∀ p ∈ cut1 n vis kv, vis p.1 = true) : cut1 n vis kv = kv.filter fun p => !decide (n ≤ p.1 * 64) := by
  unfold cut1 at *
  refine List.filter_congr (fun p hp => ?_)
  cases hv : vis p.1 with
  | true => simp
  | false =>
    have := h p (List.mem_filter.2 ⟨hp, by simp [hv]⟩)
    rw [hv] at this; cases this
theorem cut1_nodup {n : Int} {vis : Int → Bool} {kv : Blks} (hd : (kv.map (·.1)).Nodup) : ((cut1 n vis kv).map (·.1)).Nodup := (List.filter_sublist.map _).nodup hd
/-- How many are still to come. -/
def toCome (vis : Int → Bool) (kv : Blks) : Nat := (kv.filter fun p => !vis p.1).length
theorem toCome_lt {vis : Int → Bool} {k : Int} {l : List UInt8} : ∀ {kv : Blks}, (k, l) ∈ kv → vis k = false → toCome (fun x => vis x || decide (x = k)) kv < toCome vis kv
  | [], h, _ => by cases h
  | p :: r, h, hk => by
    have mono : ∀ kv : Blks, toCome (fun x => vis x || decide (x = k)) kv ≤ toCome vis kv := by
      intro kv
      unfold toCome
      rw [← List.countP_eq_length_filter, ← List.countP_eq_length_filter]
      exact List.countP_mono_left (fun p _ hp => by simp at hp ⊢; exact hp.1)
    rcases List.mem_cons.1 h with rfl | h
    · have := mono r
      simp only [toCome, List.filter_cons, hk, Bool.false_or, decide_true, Bool.not_true, Bool.not_false, if_true, Bool.false_eq_true, if_false, List.length_cons] at this ⊢
      omega
    · have := toCome_lt h hk
      unfold toCome at this ⊢
      simp only [List.filter_cons]
      cases hv : vis p.1 <;> by_cases e : p.1 = k <;> simp [e, hv] at this ⊢ <;> omega
theorem toCome_sub {vis : Int → Bool} {kv kv' : Blks} (h : kv'.Sublist kv) : toCome vis kv' ≤ toCome vis kv := (h.filter _).length_le

theorem cut1_sub {n k : Int} {vis : Int → Bool} {kv : Blks} : (cut1 n (fun x => vis x || decide (x = k)) kv).Sublist (cut1 n vis kv) := by
  have : cut1 n (fun x => vis x || decide (x = k)) kv = (cut1 n vis kv).filter (fun p => !(decide (p.1 = k) && decide (n ≤ p.1 * 64))) := by
    unfold cut1; rw [List.filter_filter]; refine List.filter_congr (fun p _ => ?_)
    show (!((vis p.1 || decide (p.1 = k)) && decide (n ≤ p.1 * 64))) = _
    cases vis p.1 <;> cases decide (p.1 = k) <;> cases decide (n ≤ p.1 * 64) <;> rfl
  rw [this]; exact List.filter_sublist

def RelD (kv : Blks) (n : Int) (rm r : Nat) (w : World) (g : Nat) (wr : World) : Prop :=
  ∃ vis, IterA wr rm r ik (blkM (cut1 n vis kv)) vis ∧ g = toCome vis (cut1 n vis kv) ∧ Chg (fun x => x = rm ∨ w.heap.size ≤ x) w wr
theorem blkM_nodup {w : World} {rm : Nat} {kv : Blks} (h : MapA w rm ik (blkM kv)) : (kv.map (·.1)).Nodup := by
  have := h.nodup
  simpa [blkM, List.map_map, Function.comp_def] using this
theorem blkM_mem {k : Int} {v : Value} {kv : Blks} (h : (k, v) ∈ blkM kv) : ∃ l, (k, l) ∈ kv ∧ v = blkV l := by
  obtain ⟨p, hp, e⟩ := List.mem_map.1 h
  simp only [Prod.mk.injEq] at e
  obtain ⟨rfl, rfl⟩ := e
  exact ⟨p.2, hp, rfl⟩

set_option maxHeartbeats 2000000 in
set_option maxRecDepth 100000 in
theorem delfunc_any (rm nb : Nat) (n : Int) (kv : Blks) (w : World) (hA : MapA w rm ik (blkM kv)) (hf : Full kv) (hn : w.cell? ⟨nb, 0, none⟩ = some (.int .i64 n)) (hne : nb ≠ rm) :
    Calls Tryd.prog 74 #[.map (some rm), .func (.func 75) #[] #[.pointer (some ⟨nb, 0, none⟩)]] w fun e w' =>
      e = .returned (.tuple #[]) ∧ Chg (· = rm) w w' ∧ MapA w' rm ik (blkM (kv.filter fun p => !decide (n ≤ p.1 * 64))) := by
  have HD := Lib.hid (blkM_nodup hA)
  have hnl := World.block_lt_of_cell? _ _ hn
  have hml := hA.lt
  have HA := Lib.hid hA
  have HF := Lib.hid hf
  clear hA hf
  go_enter Tryd.func74, Tryd.ntmps74
  go_wp2_with (at_range; refine wpList_rangeA rfl _ 41 rfl _ _ Tryd.underlying41 rm rfl HA.out ?_; intro w0 hi0 hC0 hz0)
  go_loopg [8] (toCome (fun _ => false) kv) (fun g v wr => RelD kv n rm w.heap.size w g wr)
  case atStart => exact ⟨fun _ => false, by rw [cut1_none]; exact hi0, by rw [cut1_none], hC0.mono (fun _ _ f => f.elim)⟩
  case round =>
    obtain ⟨vis, hi, hg, hC⟩ := hrel
    have HG := Lib.hid hg
    have HI := Lib.hid hi
    clear hg hi hi0
    rename_i wr
    have d0 := (hC.cell (p := ⟨nb, 0, none⟩) hnl (fun h => by rcases h with h | h; exact hne h; simp at h; omega)).trans hn
    have hz := hC.size
    go_wp2_with (at_next; refine wpList_nextA rfl _ rfl rm w.heap.size rfl vis HI.out law_blk.inj ?_ ?_)
    · intro hall
      go_wp2
      go_end0
      refine ⟨rfl, hC.mono (fun x hx h => by rcases h with h | h; exact h; omega), ?_⟩
      have hm := HI.out.map
      rw [cut1_all (fun p hp => ?_)] at hm
      · exact hm
      · exact hall _ _ (List.mem_map.2 ⟨p, hp, rfl⟩)
    · intro k v w1 hk hv hi1 hC1 hz1 hen
      obtain ⟨l, hkl, rfl⟩ := blkM_mem hk
      have hl64 := (HF.out _ (cut1_mem hkl)).1
      have hk0 := (HF.out _ (cut1_mem hkl)).2
      simp only at hl64 hk0
      have HKL := Lib.hid hkl
      have HV := Lib.hid hv
      have HI1 := Lib.hid hi1
      have HL := Lib.hid hl64
      have hil := HI.out.lt
      have e0 := (hC1.cell (p := ⟨nb, 0, none⟩) (by simp; omega) (fun h => by have : nb = w.heap.size := h; omega)).trans d0
      simp only [ik, blkV] at hen
      clear hk hkl hv hi1 hl64 hz1
      have hC2w : ∀ {w2 : World} {o : Obj}, Chg (· = w1.heap.size) (w1.alloc o) w2 → IterA w2 rm w.heap.size ik (blkM (cut1 n vis kv)) (fun x => vis x || decide (x = k)) ∧ w2.cell? ⟨nb, 0, none⟩ = some (.int .i64 n) ∧ Chg (fun x => x = rm ∨ w.heap.size ≤ x) w w2 := fun {w2 o} hC2 => by
        have c : Chg Nil w1 w2 := ((Chg.refl Nil w1).alloc o).trans hC2 (fun x hx e => by have : x = w1.heap.size := e; omega)
        have hz1 := hC1.size
        exact ⟨HI1.out.keep c (fun f => f) (fun f => f), (c.cell (p := ⟨nb, 0, none⟩) (by simp; omega) (fun f => f)).trans e0, (hC.trans hC1 (fun x hx e => .inr (by have : x = w.heap.size := e; omega))).then c.nil⟩
      simp only [ik, blkV]
      clear hC1
      by_cases hkn : n ≤ k * 64
      · go_wp2_with (first
          | (refine wpList_storeB rfl 151 _ _ rfl w1.heap.size (blkC l) 64 rfl rfl (block_alloc w1 _) rfl info64 ((blkC_len _).trans HL.out) (blkC_one _) ?_; intro w2 hb2 hC2 hz2; have HB2 := Lib.hid hb2; have g2 := hC2w hC2; clear hb2 hz2)
          | (refine wpList_loadB rfl 151 _ rfl w1.heap.size (blkC l) 64 _ rfl HB2.out Tryd.underlying151 rfl info64 ((blkC_len _).trans HL.out) ?_)
          | (go_at_call 75; refine (beyond_any k n (blkC l) nb _ hk0 g2.2.1).mono ?_; rintro e w3 ⟨rfl, hC3⟩; have hi3 := g2.1.keep hC3 (fun f => f) (fun f => f); have HC3 := Lib.hid (g2.2.2.then hC3.nil))
          | (at_delete; refine wpList_deleteIter rfl _ _ 41 3 rfl _ _ Tryd.underlying41 law_blk rm w.heap.size rfl _ hi3 k rfl ?_; intro w4 hi4 hC4 hz4))
        have hst : adel (blkM (cut1 n vis kv)) k = blkM (cut1 n (fun x => vis x || decide (x = k)) kv) := by
          rw [← cut1_struck hkn HV.out HD.out]; exact adel_map blkV _ k
        rw [hst] at hi4
        have hlt : toCome (fun x => vis x || decide (x = k)) (cut1 n (fun x => vis x || decide (x = k)) kv) < toCome vis (cut1 n vis kv) := by
          have h1 := toCome_lt HKL.out HV.out
          have h2 := toCome_sub (vis := fun x => vis x || decide (x = k)) (cut1_sub (n := n) (k := k) (vis := vis) (kv := kv))
          omega
        go_roundg (toCome (fun x => vis x || decide (x = k)) (cut1 n (fun x => vis x || decide (x = k)) kv))
        case measure => rw [HG.out]; exact hlt
        case rel => exact ⟨_, hi4, rfl, HC3.out.trans hC4 (fun x hx e => .inl e)⟩
      · go_wp2_with (first
          | (refine wpList_storeB rfl 151 _ _ rfl w1.heap.size (blkC l) 64 rfl rfl (block_alloc w1 _) rfl info64 ((blkC_len _).trans HL.out) (blkC_one _) ?_; intro w2 hb2 hC2 hz2; have HB2 := Lib.hid hb2; have g2 := hC2w hC2; clear hb2 hz2)
          | (refine wpList_loadB rfl 151 _ rfl w1.heap.size (blkC l) 64 _ rfl HB2.out Tryd.underlying151 rfl info64 ((blkC_len _).trans HL.out) ?_)
          | (go_at_call 75; refine (beyond_any k n (blkC l) nb _ hk0 g2.2.1).mono ?_; rintro e w3 ⟨rfl, hC3⟩; have hi3 := g2.1.keep hC3 (fun f => f) (fun f => f); have HC3 := Lib.hid (g2.2.2.then hC3.nil)))
        have hst : cut1 n (fun x => vis x || decide (x = k)) kv = cut1 n vis kv := cut1_stay (by omega)
        rw [← hst] at hi3
        have hlt : toCome (fun x => vis x || decide (x = k)) (cut1 n (fun x => vis x || decide (x = k)) kv) < toCome vis (cut1 n vis kv) := by
          rw [hst]; exact toCome_lt HKL.out HV.out
        go_roundg (toCome (fun x => vis x || decide (x = k)) (cut1 n (fun x => vis x || decide (x = k)) kv))
        case measure => rw [HG.out]; exact hlt
        case rel => exact ⟨_, hi3, rfl, HC3.out⟩

def dcut (kv : Blks) (n : Nat) : Blks := match aget kv ((n / 64 : Nat) : Int) with
  | none => kv
  | some l => aput kv ((n / 64 : Nat) : Int) (l.take (n % 64) ++ List.replicate (64 - n % 64) 0)
def dResize (d : PData) (n : Int) : PData × Nat :=
  if n < 0 ∨ 4096 < n then (d, 2) else if n < d.size then (⟨n.toNat, dcut (d.kv.filter fun p => !decide (n ≤ p.1 * 64)) n.toNat⟩, 0) else (⟨n.toNat, d.kv⟩, 0)
theorem dlook2 {w : World} {mv : Value} {kv : Blks} (h : MapV w mv ik (blkM kv)) (q : Nat) : (Instr.lookup 41 mv (.int .i64 q) true).run Tryd.prog w = .ok (.tuple #[.agg (blkC (dget kv q)).toArray, .bool (aget kv (q : Int)).isSome]) w := by
  have hk := h.run_lookup (T := 41) law_blk Tryd.underlying41 (zero_blk w) (q : Int) true
  rw [show (Value.int .i64 (q : Int)) = ik (q : Int) from rfl, hk]
  simp only [blkM, aget_map, if_true, dget]
  cases aget kv (q : Int) <;> rfl

theorem zero_u8 (w : World) : (zeroValue 5).run Tryd.prog w = .ok (.int .u8 0) w := by kernel_rfl
theorem tail_slice (g r : Nat) (w : World) (hr : r < 64) : (Instr.sliceAt 151 (.pointer (some ⟨g, 0, none⟩)) (some (.int .i64 (r : Int))) none none).run Tryd.prog w = .ok (.slice (some ⟨g, r, none⟩) (64 - r) (64 - r)) w := by
  have hsz : (sizeOf 5).run Tryd.prog w = .ok 1 w := by kernel_rfl
  have hne : ¬ 64 = r := by omega
  simp [Instr.sliceAt, Instr.sliceBounds, run_underlying Tryd.underlying151, Instr.sureAddr, hsz, hne, Addr.add_lit, run_sliceBound (P := Tryd.prog) w .i64 (r : Int) 64 .sliceB (by omega) (by omega)]
theorem tail_clear (g r : Nat) (w : World) (cs : List Value) (hr : r < 64) (hb : w.heap[g]? = some (.cells cs.toArray 151 (0, 0))) (hl : cs.length = 64) (ty : TypeId) :
    (Builtin.clear_ #[152] ty #[.slice (some ⟨g, r, none⟩) (64 - r) (64 - r)]).run Tryd.prog w = .ok (.tuple #[]) (w.setCells g r (blkC (List.replicate (64 - r) 0))) := by
  have e : blkC (List.replicate (64 - r) 0) = List.replicate (64 - r) (.int .u8 0) := by simp [blkC]
  rw [e]
  exact Lib.run_clear_slice w 152 5 ty (.int .u8 0) Tryd.underlying152 zero_u8 rfl rfl g r (64 - r) (64 - r) (by omega) (fun j hj => by rw [cell_of hb]; simp [hl]; omega) (fun j hj => free_of hb _)

/-- The map's block, if there is one. -/
def InMap (mv : Value) : Nat → Prop := fun x => mv = .map (some x)
theorem delfunc_v (mv : Value) (nb : Nat) (n : Int) (kv : Blks) (w : World) (hM : MapV w mv ik (blkM kv)) (hf : Full kv) (hn : w.cell? ⟨nb, 0, none⟩ = some (.int .i64 n)) (hne : ¬ InMap mv nb) :
    Calls Tryd.prog 74 #[mv, .func (.func 75) #[] #[.pointer (some ⟨nb, 0, none⟩)]] w fun e w' =>
      e = .returned (.tuple #[]) ∧ Chg (InMap mv) w w' ∧ MapV w' mv ik (blkM (kv.filter fun p => !decide (n ≤ p.1 * 64))) := by
  rcases hM with ⟨rfl, hkv⟩ | ⟨rm, rfl, hA⟩
  · have hk0 : kv = [] := by simpa [blkM] using hkv
    subst hk0
    have hrg := run_range_nilMap (P := Tryd.prog) w 41 _ _ Tryd.underlying41
    have hnx : ∀ ty, (Instr.next (.pointer (some ⟨w.heap.size, 0, none⟩)) false ty).run Tryd.prog (w.alloc (.mapIter none 0 #[] 0)) = _ := fun ty => run_next_nilMap _ ty 0 0 #[]
    clear hkv
    go_enter Tryd.func74, Tryd.ntmps74
    go_wp2
    refine wp_loop_rounds 1 ?_
    rw [rounds_succ]
    go_wp2
    go_end0
    exact ⟨rfl, (Chg.refl _ _).alloc _, .inl ⟨rfl, rfl⟩⟩
  · refine (delfunc_any rm nb n kv w hA hf hn (fun e => hne (by unfold InMap; rw [e]))).mono ?_
    rintro e w' ⟨h1, h2, h3⟩
    exact ⟨h1, h2.mono (fun x _ e => by have : x = rm := e; subst this; rfl), .inr ⟨rm, rfl, h3⟩⟩

/-- What stands ahead of the question whether the last block is there. -/
structure Cutting (b n : Nat) (d : PData) (mv : Value) (T : TypeId) (S : Nat → Prop) (w w2 : World) (kv2 : Blks) : Prop where
  chg : Chg S w w2
  blk : w2.heap[b]? = some (.cells #[.int .i64 d.size, mv] T (0, 0))
  box : w2.heap[w.heap.size]? = some (.cells #[.int .i64 n] 3 (0, 0))
  map : MapV w2 mv ik (blkM kv2)
  full : Full kv2

theorem dw_doneV {w wr : World} {b n : Nat} {v : Int} {mv : Value} {kv : Blks} {S : Nat → Prop} {T : TypeId} {z : Value} (hS : S b) (hlt : ∀ x, S x → x < w.heap.size) (hmS : ∀ r, mv = .map (some r) → S r) (hC : Chg S w wr) (hb : wr.heap[b]? = some (.cells #[z, mv] T (0, 0)))
    (hM : MapV wr mv ik (blkM kv)) (hv : v = n) (hsm : n ≤ 4096) (hf : Full kv) :
    Chg S w (wr.setCell ⟨b, 0, none⟩ (.int .i64 v)) ∧ ∃ S', DataAt (wr.setCell ⟨b, 0, none⟩ (.int .i64 v)) b ⟨n, kv⟩ S' ∧ Grow S S' w (wr.setCell ⟨b, 0, none⟩ (.int .i64 v)) := by
  rcases hM with ⟨rfl, hkv⟩ | ⟨rm, rfl, hA⟩
  · subst hv
    have hb2 := block_setCell hb 0 (.int .i64 n)
    simp at hb2
    have hz := hC.size
    exact ⟨hC.setCell (.inr hS) _, S, ⟨⟨_, T, hb2, .inl ⟨rfl, hkv⟩, fun r h => by cases h⟩, hS, fun x hx => by have := hlt x hx; simp; omega, hsm, hf⟩, Grow.refl _ _ _⟩
  · exact dw_done hS hlt hC hb hA (.inl (hmS rm rfl)) hv hsm hf

set_option maxHeartbeats 2000000 in
set_option maxRecDepth 100000 in
theorem dresize_all {B : Nat} (ad : Nat → Addr) (b n : Nat) (d : PData) (S : Nat → Prop) (w : World) (mv : Value) (T : TypeId) (hS : S b) (hlt : ∀ x, S x → x < w.heap.size) (hsm : d.size ≤ 4096) (hfl : Full d.kv) (hn : n < d.size)
    (hb : w.heap[b]? = some (.cells #[.int .i64 d.size, mv] T (0, 0))) (hmv : MapV w mv ik (blkM d.kv)) (hmS : ∀ r, mv = .map (some r) → S r) (hok : (aget (d.kv.filter fun p => !decide ((n : Int) ≤ p.1 * 64)) ((n / 64 : Nat) : Int)).isSome = false) :
    Calls Tryd.prog 25 #[.pointer (some ⟨b, 0, none⟩), .int .i64 n] w fun e w' =>
      e = .returned .nilIface ∧ Chg S w w' ∧ ∃ S', DataAt w' b ⟨n, dcut (d.kv.filter fun p => !decide ((n : Int) ≤ p.1 * 64)) n⟩ S' ∧ Grow S S' w w' := by
  have hc0 := cell_of hb 0
  have hc1 := cell_of hb 1
  simp only [List.getElem?_toArray, List.getElem?_cons_zero, List.getElem?_cons_succ] at hc0 hc1
  have hbl := lt_of_block hb
  have g0 : (0 : Int) ≤ (n : Int) := by omega
  have g1 : (n : Int) ≤ 4096 := by omega
  have g2 : (n : Int) < (d.size : Int) := by omega
  obtain ⟨q, hq⟩ : ∃ q : Nat, q = n / 64 := ⟨_, rfl⟩
  obtain ⟨r, hr⟩ : ∃ r : Nat, r = n % 64 := ⟨_, rfl⟩
  have e1 : (n : Int) / 64 = (q : Int) := by omega
  have e2 : (n : Int) % 64 = (r : Int) := by omega
  have hr64 : r < 64 := by omega
  have hnb : ¬ InMap mv b := fun e => by
    rcases hmv with ⟨h, _⟩ | ⟨rm, h, hA⟩
    · rw [h] at e; cases e
    · rw [h] at e; cases e; exact b_ne hb hA rfl
  have hnx : ¬ InMap mv w.heap.size := fun e => by have := hlt _ (hmS _ e); omega
  have hml : ∀ r, mv = .map (some r) → r < w.heap.size := fun r h => hlt _ (hmS r h)
  have HB := Lib.hid hb
  have HMV := Lib.hid hmv
  have HF := Lib.hid hfl
  have HQ := Lib.hid hq
  have HR := Lib.hid hr
  have HOK := Lib.hid hok
  have HMS := Lib.hid hmS
  have HML := Lib.hid hml
  clear hb hmv hq hr hok hmS hml
  go_enter Tryd.func25, Tryd.ntmps25
  go_wp2_with fail
  go_quiet (fail)
  go_wp2_with fail
  have hA0 : Chg Nil w ((w.alloc (.cells #[.int .i64 n] 3)).drewN nq) := ((Chg.refl _ _).alloc _).drewsN _
  have hbx : ((w.alloc (.cells #[.int .i64 n] 3)).drewN nq).heap[w.heap.size]? = some (.cells #[.int .i64 n] 3 (0, 0)) := (Chg.drewN (S := Nil) _ nq).keep (block_alloc w _) (fun f => f)
  have HBX := Lib.hid hbx
  refine (delfunc_v mv w.heap.size n d.kv _ (HMV.out.keep hA0 (fun _ _ f => f)) HF.out (cell_of hbx 0) hnx).mono ?_
  clear hbx
  rintro e w2 ⟨rfl, hC2, hM2⟩
  obtain ⟨kv2, hkv2⟩ : ∃ kv2, kv2 = d.kv.filter fun p => !decide ((n : Int) ≤ p.1 * 64) := ⟨_, rfl⟩
  rw [← hkv2] at hM2
  have HCt : Cutting b n d mv T S w w2 kv2 := ⟨hA0.nil.then (hC2.mono (fun x _ h => HMS.out x h)), hC2.keep (hA0.keep HB.out (fun f => f)) hnb, hC2.keep HBX.out hnx, hM2, fun p hp => HF.out p (List.mem_filter.1 (by rw [hkv2] at hp; exact hp)).1⟩
  have HOK2 : Hid ((aget kv2 (q : Int)).isSome = false) := Lib.hid (by rw [hkv2, HQ.out]; exact HOK.out)
  have HKV := Lib.hid hkv2
  clear hkv2 hM2 hC2 hA0
  obtain ⟨l, hl⟩ : ∃ l, l = dget kv2 q := ⟨_, rfl⟩
  have hl64 : (blkC l).length = 64 := by rw [hl, blkC_len]; exact dget_len HCt.full q
  have HRg := Lib.hid (fun x (hx : Chg Nil w2 x) => And.intro (cell_of (hx.keep HCt.blk (fun f => f)) 1) (And.intro (cell_of (hx.keep HCt.box (fun f => f)) 0) (dlook2 (w := x) (HCt.map.keep hx (fun _ _ f => f)) q)))
  simp only [List.getElem?_toArray, List.getElem?_cons_zero, List.getElem?_cons_succ, ← hl, HOK2.out] at HRg
  have HL := Lib.hid hl
  have HL64 := Lib.hid hl64
  have HCT := Lib.hid HCt
  clear hl hl64 HCt
  go_wp2_with fail
  have hwq : IntKind.i64.wrap (q : Int) = (q : Int) := IntWalk.i64_in _ (by omega)
  have hu := Tryd.underlying151
  have hi : (Tryd.prog.info? 151).map (·.size) = some (blkC l).length := by rw [HL64.out]; exact info64
  have ho := blkC_one l
  have hl64 := HL64.out
  have hth : ((w2.alloc (.cells zeros64 151)).drew).there w2.heap.size 0 64 := there_of ((Chg.refl Nil _).drew.keep (block_alloc w2 (.cells zeros64 151)) (fun f => f))
  unfold zeros64 at hth
  go_region_held3 (fun w' => w'.cell? ⟨b, 1, none⟩ = some mv ∧ w'.cell? ⟨w.heap.size, 0, none⟩ = some (.int .i64 n) ∧ (Instr.lookup 41 mv (.int .i64 q) true).run Tryd.prog w' = .ok (.tuple #[.agg (blkC l).toArray, .bool false]) w')
    ((refine HRg.out _ ?_; repeat (first | exact Chg.refl _ _ | refine Chg.drew ?_ | refine Chg.drewsN ?_ _ | refine Chg.alloc ?_ _ | refine Chg.setCells ?_ (.inl (by simp)) _ _)))
    (fail)
  all_goals
    obtain ⟨w3, hw3⟩ : ∃ w3, w3 = (w2.alloc (.cells zeros64 151)).drew.setCells w2.heap.size 0 (blkC l) := ⟨_, rfl⟩
    have hb3 : w3.heap[w2.heap.size]? = some (.cells (blkC l).toArray 151 (0, 0)) := by
      rw [hw3]; exact block_setAll ((Chg.refl Nil _).drew.keep (block_alloc w2 (.cells zeros64 151)) (fun f => f)) (by rw [HL64.out]; rfl)
    have hC3 : Chg Nil w2 w3 := by
      rw [hw3]; exact (((Chg.refl Nil w2).alloc _).drew).setCells (.inl (Nat.le_refl _)) _ _
    unfold zeros64 at hw3
    rw [← hw3]
    have HW3 := Lib.hid hw3
    clear hw3 hth hu hi ho hl64
    have hcx := (hC3.cell (p := ⟨w.heap.size, 0, none⟩) (lt_of_block HCT.out.box) (fun f => f)).trans (cell_of HCT.out.box 0)
    have hcb := hC3.keep HCT.out.blk (fun f => f)
    simp only [List.getElem?_toArray, List.getElem?_cons_zero] at hcx
    have HB3 := Lib.hid hb3
    have hc0' := cell_of hcb 0
    have hf0' := free_of hcb 0
    simp only [List.getElem?_toArray, List.getElem?_cons_zero] at hc0'
    have HCB := Lib.hid hcb
    clear hb3 hcb
    go_wp2_with fail
    go_ret
    have hdc : dcut (d.kv.filter fun p => !decide ((n : Int) ≤ p.1 * 64)) n = kv2 := by
      rw [← HKV.out]
      unfold dcut
      have := HOK2.out
      rw [← HQ.out]
      cases hg : aget kv2 (q : Int) with
      | none => rfl
      | some x => rw [hg] at this; cases this
    rw [hdc]
    exact ⟨rfl, dw_doneV hS hlt HMS.out (HCT.out.chg.then hC3.nil) HCB.out (HCT.out.map.keep hC3 (fun _ _ f => f)) rfl (by omega) HCT.out.full⟩

set_option maxHeartbeats 2000000 in
set_option maxRecDepth 100000 in
theorem dresize_cut {B : Nat} (ad : Nat → Addr) (b n : Nat) (d : PData) (S : Nat → Prop) (w : World) (mv : Value) (T : TypeId) (hS : S b) (hlt : ∀ x, S x → x < w.heap.size) (hsm : d.size ≤ 4096) (hfl : Full d.kv) (hn : n < d.size)
    (hb : w.heap[b]? = some (.cells #[.int .i64 d.size, mv] T (0, 0))) (hmv : MapV w mv ik (blkM d.kv)) (hmS : ∀ r, mv = .map (some r) → S r) (hok : (aget (d.kv.filter fun p => !decide ((n : Int) ≤ p.1 * 64)) ((n / 64 : Nat) : Int)).isSome = true) :
    Calls Tryd.prog 25 #[.pointer (some ⟨b, 0, none⟩), .int .i64 n] w fun e w' =>
      e = .returned .nilIface ∧ Chg S w w' ∧ ∃ S', DataAt w' b ⟨n, dcut (d.kv.filter fun p => !decide ((n : Int) ≤ p.1 * 64)) n⟩ S' ∧ Grow S S' w w' := by
  have hc0 := cell_of hb 0
  have hc1 := cell_of hb 1
  simp only [List.getElem?_toArray, List.getElem?_cons_zero, List.getElem?_cons_succ] at hc0 hc1
  have hbl := lt_of_block hb
  have g0 : (0 : Int) ≤ (n : Int) := by omega
  have g1 : (n : Int) ≤ 4096 := by omega
  have g2 : (n : Int) < (d.size : Int) := by omega
  obtain ⟨q, hq⟩ : ∃ q : Nat, q = n / 64 := ⟨_, rfl⟩
  obtain ⟨r, hr⟩ : ∃ r : Nat, r = n % 64 := ⟨_, rfl⟩
  have e1 : (n : Int) / 64 = (q : Int) := by omega
  have e2 : (n : Int) % 64 = (r : Int) := by omega
  have hr64 : r < 64 := by omega
  have hnb : ¬ InMap mv b := fun e => by
    rcases hmv with ⟨h, _⟩ | ⟨rm, h, hA⟩
    · rw [h] at e; cases e
    · rw [h] at e; cases e; exact b_ne hb hA rfl
  have hnx : ¬ InMap mv w.heap.size := fun e => by have := hlt _ (hmS _ e); omega
  have hml : ∀ r, mv = .map (some r) → r < w.heap.size := fun r h => hlt _ (hmS r h)
  have HB := Lib.hid hb
  have HMV := Lib.hid hmv
  have HF := Lib.hid hfl
  have HQ := Lib.hid hq
  have HR := Lib.hid hr
  have HOK := Lib.hid hok
  have HMS := Lib.hid hmS
  have HML := Lib.hid hml
  clear hb hmv hq hr hok hmS hml
  go_enter Tryd.func25, Tryd.ntmps25
  go_wp2_with fail
  go_quiet (fail)
  go_wp2_with fail
  have hA0 : Chg Nil w ((w.alloc (.cells #[.int .i64 n] 3)).drewN nq) := ((Chg.refl _ _).alloc _).drewsN _
  have hbx : ((w.alloc (.cells #[.int .i64 n] 3)).drewN nq).heap[w.heap.size]? = some (.cells #[.int .i64 n] 3 (0, 0)) := (Chg.drewN (S := Nil) _ nq).keep (block_alloc w _) (fun f => f)
  have HBX := Lib.hid hbx
  refine (delfunc_v mv w.heap.size n d.kv _ (HMV.out.keep hA0 (fun _ _ f => f)) HF.out (cell_of hbx 0) hnx).mono ?_
  clear hbx
  rintro e w2 ⟨rfl, hC2, hM2⟩
  obtain ⟨kv2, hkv2⟩ : ∃ kv2, kv2 = d.kv.filter fun p => !decide ((n : Int) ≤ p.1 * 64) := ⟨_, rfl⟩
  rw [← hkv2] at hM2
  have HCt : Cutting b n d mv T S w w2 kv2 := ⟨hA0.nil.then (hC2.mono (fun x _ h => HMS.out x h)), hC2.keep (hA0.keep HB.out (fun f => f)) hnb, hC2.keep HBX.out hnx, hM2, fun p hp => HF.out p (List.mem_filter.1 (by rw [hkv2] at hp; exact hp)).1⟩
  have HOK2 : Hid ((aget kv2 (q : Int)).isSome = true) := Lib.hid (by rw [hkv2, HQ.out]; exact HOK.out)
  have HKV := Lib.hid hkv2
  clear hkv2 hM2 hC2 hA0
  obtain ⟨l, hl⟩ : ∃ l, l = dget kv2 q := ⟨_, rfl⟩
  have hl64 : (blkC l).length = 64 := by rw [hl, blkC_len]; exact dget_len HCt.full q
  have HRg := Lib.hid (fun x (hx : Chg Nil w2 x) => And.intro (cell_of (hx.keep HCt.blk (fun f => f)) 1) (And.intro (cell_of (hx.keep HCt.box (fun f => f)) 0) (dlook2 (w := x) (HCt.map.keep hx (fun _ _ f => f)) q)))
  simp only [List.getElem?_toArray, List.getElem?_cons_zero, List.getElem?_cons_succ, ← hl, HOK2.out] at HRg
  have HL := Lib.hid hl
  have HL64 := Lib.hid hl64
  have HCT := Lib.hid HCt
  clear hl hl64 HCt
  go_wp2_with fail
  have hwq : IntKind.i64.wrap (q : Int) = (q : Int) := IntWalk.i64_in _ (by omega)
  have hu := Tryd.underlying151
  have hi : (Tryd.prog.info? 151).map (·.size) = some (blkC l).length := by rw [HL64.out]; exact info64
  have ho := blkC_one l
  have hl64 := HL64.out
  have hth : ((w2.alloc (.cells zeros64 151)).drew).there w2.heap.size 0 64 := there_of ((Chg.refl Nil _).drew.keep (block_alloc w2 (.cells zeros64 151)) (fun f => f))
  unfold zeros64 at hth
  go_region_held3 (fun w' => w'.cell? ⟨b, 1, none⟩ = some mv ∧ w'.cell? ⟨w.heap.size, 0, none⟩ = some (.int .i64 n) ∧ (Instr.lookup 41 mv (.int .i64 q) true).run Tryd.prog w' = .ok (.tuple #[.agg (blkC l).toArray, .bool true]) w')
    ((refine HRg.out _ ?_; repeat (first | exact Chg.refl _ _ | refine Chg.drew ?_ | refine Chg.drewsN ?_ _ | refine Chg.alloc ?_ _ | refine Chg.setCells ?_ (.inl (by simp)) _ _)))
    (fail)
  all_goals
    obtain ⟨w3, hw3⟩ : ∃ w3, w3 = (w2.alloc (.cells zeros64 151)).drew.setCells w2.heap.size 0 (blkC l) := ⟨_, rfl⟩
    have hb3 : w3.heap[w2.heap.size]? = some (.cells (blkC l).toArray 151 (0, 0)) := by
      rw [hw3]; exact block_setAll ((Chg.refl Nil _).drew.keep (block_alloc w2 (.cells zeros64 151)) (fun f => f)) (by rw [HL64.out]; rfl)
    have hC3 : Chg Nil w2 w3 := by
      rw [hw3]; exact (((Chg.refl Nil w2).alloc _).drew).setCells (.inl (Nat.le_refl _)) _ _
    unfold zeros64 at hw3
    rw [← hw3]
    have HW3 := Lib.hid hw3
    clear hw3 hth hu hi ho hl64
    have hcx := (hC3.cell (p := ⟨w.heap.size, 0, none⟩) (lt_of_block HCT.out.box) (fun f => f)).trans (cell_of HCT.out.box 0)
    have hcb := hC3.keep HCT.out.blk (fun f => f)
    simp only [List.getElem?_toArray, List.getElem?_cons_zero] at hcx
    have HB3 := Lib.hid hb3
    obtain ⟨rm, hrm⟩ : ∃ rm, mv = .map (some rm) := by
      rcases HCT.out.map with ⟨_, h⟩ | ⟨rm, h, _⟩
      · have hk : kv2 = [] := by simpa [blkM] using h
        have := HOK2.out
        rw [hk] at this; cases this
      · exact ⟨rm, h⟩
    subst hrm
    have hsl := tail_slice w2.heap.size r w3 hr64
    have hcl := tail_clear w2.heap.size r w3 (blkC l) hr64 hb3 HL64.out
    have HCB := Lib.hid hcb
    clear hb3 hcb
    go_wp2_with fail
    clear hsl hcl hcx
    obtain ⟨w4, hw4⟩ : ∃ w4, w4 = w3.setCells w2.heap.size r (blkC (List.replicate (64 - r) 0)) := ⟨_, rfl⟩
    have hl0 : l.length = 64 := by have := HL64.out; rwa [blkC_len] at this
    obtain ⟨nl, hnl⟩ : ∃ nl, nl = l.take r ++ List.replicate (64 - r) 0 := ⟨_, rfl⟩
    have hb4 : w4.heap[w2.heap.size]? = some (.cells (blkC nl).toArray 151 (0, 0)) := by
      rw [hw4, hnl]
      have := block_setTail HB3.out (show r + (blkC (List.replicate (64 - r) (0 : UInt8))).length = (blkC l).length by rw [blkC_len, blkC_len, hl0]; simp; omega)
      rw [this]; simp [blkC]
    have hC4 : Chg Nil w2 w4 := by rw [hw4]; exact hC3.setCells (.inl (Nat.le_refl _)) _ _
    rw [← hw4]
    have hn : (blkC nl).length = 64 := by rw [blkC_len, hnl]; simp [hl0]; omega
    have hu := Tryd.underlying151
    have hi : (Tryd.prog.info? 151).map (·.size) = some (blkC nl).length := by rw [hn]; exact info64
    have ho := blkC_one nl
    have hm4 : MapA w4 rm ik (blkM kv2) := by
      rcases HCT.out.map.keep hC4 (fun _ _ f => f) with ⟨h, _⟩ | ⟨rm', h, hA⟩
      · cases h
      · cases h; exact hA
    have hmlt := HML.out rm rfl
    have hzz := HCT.out.chg.size
    have hxl := lt_of_block HCT.out.box
    have hbne : b ≠ rm := fun e => hnb (by subst e; rfl)
    have HRg4 := Lib.hid (fun x (hx : Chg (· = rm) w4 x) => And.intro (cell_of (hx.keep (hC4.keep HCT.out.blk (fun f => f)) hbne) 1) (And.intro (cell_of (hx.keep (hC4.keep HCT.out.box (fun f => f)) (by omega)) 0) (rangeAt_of (hx.keep hb4 (by omega)))))
    simp only [List.getElem?_toArray, List.getElem?_cons_zero, List.getElem?_cons_succ] at HRg4
    have HM4 := Lib.hid hm4
    have HB4 := Lib.hid hb4
    have HW4 := Lib.hid hw4
    have HNL := Lib.hid hnl
    clear hm4 hb4 hw4 hnl hl0
    go_region_held3 (fun w' => w'.cell? ⟨b, 1, none⟩ = some (.map (some rm)) ∧ w'.cell? ⟨w.heap.size, 0, none⟩ = some (.int .i64 n) ∧ w'.rangeAt w2.heap.size 0 (blkC nl))
      (first | exact HK5.out | (refine HRg4.out _ ?_; repeat (first | exact Chg.refl _ _ | refine Chg.drew ?_ | refine Chg.drewsN ?_ _ | refine Chg.alloc ?_ _ | refine Chg.setCells ?_ (.inl (by simp)) _ _)))
      ((refine upon_mapUpdateA (val := blkV nl) Tryd.underlying41 law_blk (HM4.out.keep (S := Nil) (by repeat (first | exact Chg.refl _ _ | refine Chg.drew ?_ | refine Chg.drewsN ?_ _ | refine Chg.alloc ?_ _ | refine Chg.setCells ?_ (.inl (by simp)) _ _)) (fun f => f)) (q : Int) rfl ?_; intro w5 hA5 hC5 hz5; have HC5 := Lib.hid (Chg.then (S := (· = rm)) (a := w4) (by repeat (first | exact Chg.refl _ _ | refine Chg.drew ?_ | refine Chg.drewsN ?_ _ | refine Chg.alloc ?_ _ | refine Chg.setCells ?_ (.inl (by simp)) _ _)) hC5); have HK5 := Lib.hid (HRg4.out _ HC5.out)))
    have hb5 := HC5.out.keep (hC4.keep HCT.out.blk (fun f => f)) hbne
    have hx5 := HK5.out.2.1
    have hc5 := cell_of hb5 0
    have hf5 := free_of hb5 0
    simp only [List.getElem?_toArray, List.getElem?_cons_zero] at hc5
    have HB5 := Lib.hid hb5
    clear hb5 hu hi ho hn
    rw [blkM_put] at hA5
    have HA5 := Lib.hid hA5
    clear hA5
    go_wp2_with fail
    go_ret
    have hdc : dcut (d.kv.filter fun p => !decide ((n : Int) ≤ p.1 * 64)) n = aput kv2 (q : Int) nl := by
      rw [← HKV.out]
      unfold dcut
      have := HOK2.out
      have hl := HL.out
      unfold dget at hl
      rw [← HQ.out, ← HR.out]
      cases hg : aget kv2 (q : Int) with
      | none => rw [hg] at this; cases this
      | some x => rw [hg] at hl; rw [HNL.out, hl]; rfl
    have hnl64 : nl.length = 64 := by have h := HL64.out; rw [blkC_len] at h; rw [HNL.out]; simp [h]; omega
    rw [hdc]
    exact ⟨rfl, dw_doneV hS hlt HMS.out ((HCT.out.chg.then hC4.nil).trans HC5.out (fun x hx e => by have : x = rm := e; subst this; exact HMS.out x rfl)) HB5.out (.inr ⟨rm, rfl, HA5.out⟩) rfl (by omega) (aput_full HCT.out.full _ hnl64 (by omega))⟩

set_option maxHeartbeats 2000000 in
set_option maxRecDepth 100000 in
theorem dresize_any {B : Nat} (ad : Nat → Addr) (b : Nat) (n : Int) (d : PData) (S : Nat → Prop) (w : World) (he : Env B ad [2] w) (ht : DataAt w b d S) :
    Calls Tryd.prog 25 #[.pointer (some ⟨b, 0, none⟩), .int .i64 n] w fun e w' =>
      e = .returned (errV ad (dResize d n).2) ∧ Chg S w w' ∧ ∃ S', DataAt w' b (dResize d n).1 S' ∧ Grow S S' w w' := by
  have HT := Lib.hid ht
  obtain ⟨h2, h2l⟩ := he.get (c := 2) (by simp)
  simp only [gl] at h2 h2l
  clear he
  by_cases hbad : n < 0 ∨ 4096 < n
  · have e1 : dResize d n = (d, 2) := if_pos hbad
    rw [e1]
    clear e1 ht
    have hgo : n < 0 ∨ ¬ n < 0 ∧ 4096 < n := by omega
    clear hbad
    rcases hgo with h | ⟨h, h'⟩
    all_goals
      go_enter Tryd.func25, Tryd.ntmps25
      go_wp2_with fail
      go_ret
      have c : Chg Nil w (w.alloc (.cells #[.int .i64 n] 3)) := (Chg.refl _ _).alloc _
      exact ⟨rfl, c.nil, S, HT.out.keep c (fun _ _ f => f), Grow.refl _ _ _⟩
  obtain ⟨n, rfl⟩ : ∃ k : Nat, n = k := ⟨n.toNat, by omega⟩
  by_cases hlt : n < d.size
  · have e1 : dResize d n = (⟨n, dcut (d.kv.filter fun p => !decide ((n : Int) ≤ p.1 * 64)) n⟩, 0) := by rw [dResize, if_neg hbad, if_pos (by omega)]; simp
    rw [e1]
    obtain ⟨⟨mv, T, hb, hm, hmS⟩, hS, hltS, hsm, hf⟩ := ht
    cases hok : (aget (d.kv.filter fun p => !decide ((n : Int) ≤ p.1 * 64)) ((n / 64 : Nat) : Int)).isSome with
    | true => exact dresize_cut (B := B) ad b n d S w mv T hS hltS hsm hf hlt hb hm hmS hok
    | false => exact dresize_all (B := B) ad b n d S w mv T hS hltS hsm hf hlt hb hm hmS hok
  · have e1 : dResize d n = (⟨n, d.kv⟩, 0) := by rw [dResize, if_neg hbad, if_neg (by omega)]; simp
    rw [e1]
    obtain ⟨⟨mv, T, hb, hm, hmS⟩, hS, hltS, hsm, hf⟩ := ht
    have hc0 := cell_of hb 0
    have hf0 := free_of hb 0
    simp only [List.getElem?_toArray, List.getElem?_cons_zero] at hc0
    have hbl := lt_of_block hb
    have HB := Lib.hid hb
    have HM := Lib.hid hm
    have HMS := Lib.hid hmS
    have g0 : (0 : Int) ≤ (n : Int) := by omega
    have g1 : (n : Int) ≤ 4096 := by omega
    have g2 : ¬ ((n : Int) < (d.size : Int)) := by omega
    clear hb hm hmS e1 hbad
    go_enter Tryd.func25, Tryd.ntmps25
    go_wp2_with fail
    go_quiet (fail)
    go_wp2_with fail
    go_ret
    have c : Chg Nil w ((w.alloc (.cells #[.int .i64 n] 3)).drewN nq) := ((Chg.refl _ _).alloc _).drewsN _
    exact ⟨rfl, dw_doneV hS hltS HMS.out c.nil (c.keep HB.out (fun f => f)) (HM.out.keep c (fun _ _ f => f)) rfl (by omega) hf⟩
end Go.Proofs.YtfekiagdnlnggaaDoor
