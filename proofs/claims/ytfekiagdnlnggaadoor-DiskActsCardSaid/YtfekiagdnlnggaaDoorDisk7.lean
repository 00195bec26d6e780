/- law4's bulky and doAct by contract. -/
import Derived.Test.YtfekiagdnlnggaaDoorDiskLaw
import Derived.Test.YtfekiagdnlnggaaDoorShape
namespace Go.Proofs.YtfekiagdnlnggaaDoor
open Go.RowKit
set_option linter.unusedVariables false
set_option linter.unusedSimpArgs false

def shXAct : Sh := .and .str (.and .int (.and .str (.and (.slice .bool) .unit)))
abbrev XAct := ByteArray × Int × ByteArray × (Option Addr × Nat × List Bool) × Unit
def kwW : ByteArray := ⟨#[119, 114, 105, 116, 101]⟩
def kwF : ByteArray := ⟨#[102, 108, 117, 115, 104]⟩
def kwP : ByteArray := ⟨#[102, 97, 105, 108]⟩
def kwC : ByteArray := ⟨#[99, 114, 97, 115, 104]⟩
def pAct (d : PDisk) (k : ByteArray) (n : Int) (s : ByteArray) (keep : List Bool) : PDisk × Nat :=
  if k = kwW then pWrite d n s else if k = kwF then pFlush d else if k = kwP then pFail d n else if k = kwC then (pCrash d keep, 0) else (d, 0)
theorem text_ne {k : ByteArray} {l : List UInt8} (h : ¬ k = ⟨l.toArray⟩) : (k.toList == l) = false := by
  rw [beq_eq_false_iff_ne]
  intro e
  apply h
  have e2 : k.data.toList = l := by rw [← e]; exact (ByteArray.toList_eq k).symm
  obtain ⟨d⟩ := k
  simp only at e2
  subst e2
  rfl
theorem xact_cells {W : World} {ab : Nat} {v0 v1 v2 v3 : Value} {T : TypeId} (hb : W.heap[ab]? = some (.cells #[v0, v1, v2, v3] T (0, 0))) :
    W.cell? ⟨ab, 1, none⟩ = some v1 ∧ W.cell? ⟨ab, 2, none⟩ = some v2 ∧ W.cell? ⟨ab, 3, none⟩ = some v3 := ⟨by simp [cell_of hb], by simp [cell_of hb], by simp [cell_of hb]⟩
theorem flag_ones (l : List Bool) : ∀ u ∈ l.flatMap flagC, u.oneCell' = true := fun u hu => by
  obtain ⟨p, _, hp⟩ := List.mem_flatMap.1 hu
  simp [flagC] at hp; subst hp; rfl
theorem flag_get (l : List Bool) (j : Nat) : (l.flatMap flagC)[j]? = (l[j]?).map (fun x => .bool x) := by
  rcases Nat.lt_or_ge j l.length with h | h
  · have := flat_get (size := 1) flagC flagC_len l j 0 _ (List.getElem?_eq_getElem h) (by omega)
    rw [Nat.mul_one, Nat.add_zero] at this
    rw [this, List.getElem?_eq_getElem h]; rfl
  · rw [List.getElem?_eq_none h, List.getElem?_eq_none (by rw [flat_len flagC flagC_len]; omega)]; rfl

set_option maxHeartbeats 2000000 in
set_option maxRecDepth 100000 in
theorem doAct_any {B B2 : Nat} (ad : Nat → Addr) (b : Nat) (k : ByteArray) (n : Int) (s : ByteArray) (ka : Option Addr) (kc : Nat) (keep : List Bool) (d : PDisk) (S : Nat → Prop) (w : World) (he : Env B ad [2, 3, 15] w) (hB : ∀ x, S x → B ≤ x) (ht : DiskAt w b d S)
    (hn : n ≤ 9223372036854775807) (hf : (d.waits.length + 1) * 24 ≤ 140737488355328) (hk : keep.length ≤ 140737488355327) (hB2 : B2 ≤ w.heap.size) (hks : (Sh.slice .bool).At w B2 (ka, kc, keep))
    (f1 : d.kept.length ≤ 4000) (f2 : d.now.length ≤ 4000) (hin : ∀ p ∈ d.waits, 0 ≤ p.1 ∧ p.1 < d.kept.length) :
    Calls Tryd.prog 43 #[.pointer (some ⟨b, 0, none⟩), .agg #[.string k, .int .i64 n, .string s, .slice ka keep.length kc]] w fun e w' => e = .returned (errV ad (pAct d k n s keep).2) ∧ DiskPost S w b (pAct d k n s keep).1 w' := by
  have hlt := ht.2.2.1
  have hSb := ht.2.1
  have hA := (Chg.refl Nil w).alloc (.cells #[.string k, .int .i64 n, .string s, .slice ka keep.length kc] 90)
  have HA := Lib.hid (hA)
  have hsz : (w.alloc (.cells #[.string k, .int .i64 n, .string s, .slice ka keep.length kc] 90)).heap.size = w.heap.size + 1 := by simp
  have HT := Lib.hid (ht.keep hA (fun _ _ f => f))
  have HE := Lib.hid (he.keepN hA)
  have HBK := Lib.hid (block_alloc w (.cells #[.string k, .int .i64 n, .string s, .slice ka keep.length kc] 90))
  have hst : ∀ (d' : PDisk) (w2 : World), DiskPost S (w.alloc (.cells #[.string k, .int .i64 n, .string s, .slice ka keep.length kc] 90)) b d' w2 → DiskPost S w b d' w2 := fun _ _ q => DiskPost.step (hA.nil) (Grow.refl _ _ _) q hlt
  have HST := Lib.hid hst
  have HIN := Lib.hid hin
  have HKS := Lib.hid hks
  have AA := Lib.hid hA
  clear hst hA ht he hin hks hsz
  unfold pAct
  by_cases k1 : k = kwW
  · rw [if_pos k1]
    subst k1
    unfold kwW at *
    go_enter Tryd.func43, Tryd.ntmps43
    go_wp2_with fail
    refine (write_any (B := B) ad b n s d S _ HE.out hB HT.out hf).mono ?_
    rintro e w2 ⟨rfl, hp⟩
    go_wp2_with fail
    go_ret
    exact ⟨rfl, HST.out _ _ hp⟩
  rw [if_neg k1]
  have q1 : (k.toList == [119, 114, 105, 116, 101]) = false := text_ne k1
  clear k1
  by_cases k2 : k = kwF
  · rw [if_pos k2]
    subst k2
    clear q1
    unfold kwF at *
    go_enter Tryd.func43, Tryd.ntmps43
    go_wp2_with fail
    refine (flush_any (B := B) ad b d S _ (HE.out.sub (by decide)) hB HT.out f2).mono ?_
    rintro e w2 ⟨rfl, hp⟩
    go_wp2_with fail
    go_ret
    exact ⟨rfl, HST.out _ _ hp⟩
  rw [if_neg k2]
  have q2 : (k.toList == [102, 108, 117, 115, 104]) = false := text_ne k2
  clear k2
  by_cases k3 : k = kwP
  · rw [if_pos k3]
    subst k3
    clear q1 q2
    unfold kwP at *
    have c1 := (xact_cells HBK.out).1
    go_enter Tryd.func43, Tryd.ntmps43
    go_wp2_with fail
    go_region_held3 (fun w' => w'.cell? ⟨w.heap.size, 1, none⟩ = some (.int .i64 n))
      (first | exact (xact_cells HBK.out).1 | exact HK2.out | go_keep)
      (first | (go_at_call 84; refine (fail_any (B := B) ad b n d S _ ?_ ?_ hn).mono ?_; exact (HE.out.keepN ((Chg.refl Nil _).drew)).sub (by decide); exact HT.out.keep ((Chg.refl Nil _).drew) (fun _ _ f => f); rintro e w2 ⟨rfl, hp⟩; have HK2 := Lib.hid ((xact_cells (hp.1.keep ((Chg.refl Nil _).drew.keep HBK.out (fun f => f)) (fun h => by have := hlt _ h; omega))).1)))
    go_wp2_with fail
    go_ret
    exact ⟨rfl, HST.out _ _ (DiskPost.step ((Chg.refl S _).drew) (Grow.refl _ _ _) hp (fun x hx => by have := hlt x hx; simp; omega))⟩
  rw [if_neg k3]
  have q3 : (k.toList == [102, 97, 105, 108]) = false := text_ne k3
  clear k3
  by_cases k4 : k = kwC
  · rw [if_pos k4]
    subst k4
    clear q1 q2 q3
    unfold kwC at *
    have c3 := (xact_cells HBK.out).2.2
    have done : ∀ (vkeep : Value) (Kb : Nat → Prop) (w2 : World), SliceAt w2 vkeep 4 1 keep.length (keep.flatMap flagC) Kb → (∀ x, Kb x → w.heap.size ≤ x ∧ x < w2.heap.size) → Chg Nil (w.alloc (.cells #[.string ⟨#[99, 114, 97, 115, 104]⟩, .int .i64 n, .string s, .slice ka keep.length kc] 90)) w2 →
        Calls Tryd.prog 44 #[.pointer (some ⟨b, 0, none⟩), vkeep] w2 fun e w' => e = .returned (.tuple #[]) ∧ DiskPost S w b (pCrash d keep) w' := by
      intro vkeep Kb w2 h1 h2 h3
      refine (crash_any b d S Kb w2 keep vkeep (HT.out.keep h3 (fun _ _ f => f)) h1 (fun x hx => (h2 x hx).2) (fun x hx h => by have := (h2 x hx).1; have := hlt x h; omega) f1 HIN.out).mono ?_
      rintro e w3 ⟨rfl, hp⟩
      exact ⟨rfl, HST.out _ _ (DiskPost.step (h3.nil) (Grow.refl _ _ _) hp (fun x hx => by have := hlt x hx; simp; omega))⟩
    have DONE := Lib.hid done
    clear done
    cases ka with
    | none =>
      have h0 : keep = [] := by
        rcases keep with _ | ⟨x, l⟩
        · rfl
        · obtain ⟨_, g, off, e, _⟩ := HKS.out.2.2 0 x rfl
          cases e
      subst h0
      go_enter Tryd.func43, Tryd.ntmps43
      go_wp2_with fail
      refine (DONE.out (.slice none 0 0) Nil _ (sliceAt_nil _ _ _ _) (fun x f => f.elim) (Chg.refl _ _)).mono ?_
      rintro e w2 ⟨rfl, hp⟩
      go_wp2_with fail
      go_ret
      exact ⟨rfl, hp⟩
    | some ka =>
      have hnews : ∀ j u, (keep.flatMap flagC)[j]? = some u → (w.alloc (.cells #[.string ⟨#[99, 114, 97, 115, 104]⟩, .int .i64 n, .string s, .slice (some ka) keep.length kc] 90)).cell? (ka.add j) = some u := by
        intro j u hu
        rw [flag_get] at hu
        obtain ⟨x, hx, rfl⟩ : ∃ x, keep[j]? = some x ∧ .bool x = u := by simpa using hu
        obtain ⟨_, g, off, e, hg, hc⟩ := HKS.out.2.2 j x hx
        cases e
        rw [Addr.add_lit]
        have := hc 0 (.bool x) rfl
        rw [show off + j * Sh.bool.size + 0 = off + j by simp [Sh.size]] at this
        exact (AA.out.cell (p := ⟨g, off + j, none⟩) (Nat.lt_of_lt_of_le hg hB2) (fun f => f)).trans this
      have HNEWS := Lib.hid hnews
      clear hnews
      go_enter Tryd.func43, Tryd.ntmps43
      go_wp2_with (at_builtin; go_loud (refine wpList_appendS (n := 0) (m := keep.length) rfl _ _ 88 rfl Tryd.underlying88 info_bool rfl (by decide) rfl (sliceAt_nil _ _ _ Nil) rfl (keep.flatMap flagC) (flat_len flagC flagC_len keep) HNEWS.out (flag_ones keep) (by unfold maxLen; omega) (by omega) ?_); intro v2 w2 S2 hs2 hc2 hg2; obtain ⟨a2, cap2, rfl⟩ := hs2.shape)
      rw [Nat.zero_add, List.nil_append] at hs2
      refine (DONE.out _ S2 w2 hs2 (fun x hx => ?_) hc2).mono ?_
      · rcases hg2 x hx with h | h
        · exact h.elim
        · exact ⟨by have := h.1; simp at this; omega, h.2⟩
      rintro e w3 ⟨rfl, hp⟩
      go_wp2_with fail
      go_ret
      exact ⟨rfl, hp⟩
  rw [if_neg k4]
  have q4 : (k.toList == [99, 114, 97, 115, 104]) = false := text_ne k4
  clear k4
  go_enter Tryd.func43, Tryd.ntmps43
  go_wp2_with fail
  go_ret
  exact ⟨rfl, HST.out _ _ (disk_same HT.out)⟩
end Go.Proofs.YtfekiagdnlnggaaDoor
