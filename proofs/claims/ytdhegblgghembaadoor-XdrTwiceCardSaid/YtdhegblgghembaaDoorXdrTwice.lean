/- The walk of law XdrTwice. -/
import Derived.Test.YtdhegblgghembaaDoorXdr12
namespace Go.Proofs.YtdhegblgghembaaDoor
open Go.RowKit Go.Lib
set_option linter.unusedVariables false
set_option linter.unusedSimpArgs false

def putC (x : XPut) : List Value := [.string x.1, .int .i64 x.2.1, .string x.2.2.1]
theorem putC_len (x : XPut) : (putC x).length = 3 := rfl
theorem putC_one (x : XPut) : ∀ u ∈ putC x, u.oneCell' = true := by intro u hu; simp [putC] at hu; rcases hu with rfl | rfl | rfl <;> rfl
theorem info_put : (Tryd.prog.info? 74).map (fun i => (i.zero, i.size, i.bytes)) = some (some (.agg #[.string ⟨#[]⟩, .int .i64 0, .string ⟨#[]⟩]), 3, 40) := by kernel_rfl
/-- The state of the first loop. -/
structure TwS (ad : Nat → Addr) (w wr : World) (b : Nat) (v : Value) (done : List XPut) (Sd : Nat → Prop) : Prop where
  env : Env w.heap.size ad [1, 2, 9] wr
  chg : Chg Nil w wr
  tab : ∃ S, WrAt wr b (txtP done) S ∧ (∀ x, S x → w.heap.size ≤ x ∧ ¬ Sd x)
  few : (txtP done).length ≤ 4000
  sl : SliceAt wr v 74 3 done.length (done.flatMap putC) Sd
  ds : ∀ x, Sd x → w.heap.size ≤ x ∧ x < wr.heap.size
  ok : ∀ x ∈ done, okP x
theorem TwS.same {ad : Nat → Addr} {w wr wr' : World} {b : Nat} {v : Value} {done : List XPut} {Sd : Nat → Prop} (h : TwS ad w wr b v done Sd) (c : Chg Nil wr wr') : TwS ad w wr' b v done Sd := by
  obtain ⟨h1, h2, ⟨S, h3, h4⟩, h5, h6, h7, h8⟩ := h
  have := c.size
  exact ⟨h1.keepN c, h2.then c, ⟨S, h3.keep c (fun _ _ f => f), h4⟩, h5, h6.keep c (fun _ _ f => f), fun x hx => ⟨(h7 x hx).1, by have := (h7 x hx).2; omega⟩, h8⟩
/-- Between the write and the append: the text is ahead of what is done. -/
structure TwM (ad : Nat → Addr) (w wr : World) (b : Nat) (t : List UInt8) (v : Value) (done : List XPut) (Sd : Nat → Prop) : Prop where
  env : Env w.heap.size ad [1, 2, 9] wr
  chg : Chg Nil w wr
  tab : ∃ S, WrAt wr b t S ∧ (∀ x, S x → w.heap.size ≤ x ∧ ¬ Sd x)
  sl : SliceAt wr v 74 3 done.length (done.flatMap putC) Sd
  ds : ∀ x, Sd x → w.heap.size ≤ x ∧ x < wr.heap.size
  ok : ∀ x ∈ done, okP x
theorem TwS.post {ad : Nat → Addr} {w wr w2 : World} {b : Nat} {v : Value} {done : List XPut} {Sd S : Nat → Prop} {t' : List UInt8} (h : TwS ad w wr b v done Sd) (hS : ∀ x, S x → w.heap.size ≤ x ∧ ¬ Sd x) (p : WrPost S wr b t' w2) : TwM ad w w2 b t' v done Sd := by
  obtain ⟨c, S2, h2, g2⟩ := p
  have := c.size
  have := h.chg.size
  refine ⟨h.env.keep c (fun x hx => (hS x hx).1), h.chg.trans c (fun x hx e => by have := (hS x e).1; omega), ⟨S2, h2, fun x hx => ?_⟩, h.sl.keep c (fun x hx e => (hS x e).2 hx), fun x hx => ⟨(h.ds x hx).1, by have := (h.ds x hx).2; omega⟩, h.ok⟩
  rcases g2 x hx with g | g
  · exact hS x g
  · exact ⟨by omega, fun e => by have := (h.ds x e).2; omega⟩
theorem TwM.stay {ad : Nat → Addr} {w wr : World} {b : Nat} {v : Value} {done : List XPut} {Sd : Nat → Prop} (h : TwM ad w wr b (txtP done) v done Sd) (hf : (txtP done).length ≤ 4000) : TwS ad w wr b v done Sd := ⟨h.env, h.chg, h.tab, hf, h.sl, h.ds, h.ok⟩
theorem TwM.more {ad : Nat → Addr} {w wr w3 : World} {b : Nat} {v v3 : Value} {done : List XPut} {x : XPut} {Sd S3 : Nat → Prop} (h : TwM ad w wr b (txtP done ++ (encP x).data.toList) v done Sd) (hf : (txtP done).length + (encP x).size ≤ 4000) (hx : okP x)
    (hs : SliceAt w3 v3 74 3 (done.length + 1) (done.flatMap putC ++ putC x) S3) (hc : Chg Sd (wr.alloc (.cells (putC x).toArray 74)) w3) (hg : Grow Sd S3 (wr.alloc (.cells (putC x).toArray 74)) w3) :
    TwS ad w w3 b v3 (done ++ [x]) S3 := by
  obtain ⟨h1, h2, ⟨S, h3, h4⟩, h6, h7, h8⟩ := h
  have hl := wr_lt h3
  have hz := hc.size
  have hz2 := h2.size
  simp at hz
  have ca : Chg Nil wr (wr.alloc (.cells (putC x).toArray 74)) := (Chg.refl _ _).alloc _
  refine ⟨(h1.keepN ca).keep hc (fun y hy => (h7 y hy).1), (h2.then ca).trans hc (fun y hy e => by have := (h7 y e).1; omega), ⟨S, ?_, fun y hy => ⟨(h4 y hy).1, fun e => ?_⟩⟩, ?_, ?_, ?_, ?_⟩
  · rw [txtP_snoc]; exact (h3.keep ca (fun _ _ f => f)).keep hc (fun y hy e => (h4 y hy).2 e)
  · rcases hg y e with g | g
    · exact (h4 y hy).2 g
    · have := hl y hy; simp at g; omega
  · rw [txtP_snoc, List.length_append, ← size_list]; exact hf
  · rw [List.length_append, List.flatMap_append]; simpa using hs
  · intro y hy
    rcases hg y hy with g | g
    · have := h7 y g; omega
    · simp at g; omega
  · intro y hy
    rcases List.mem_append.1 hy with hy | hy
    · exact h8 y hy
    · rw [List.mem_singleton.1 hy]; exact hx
def RelT1 (ad : Nat → Addr) (w : World) (b n : Nat) (v i : Value) (wr : World) : Prop :=
  ∃ (k : Nat) (done : List XPut) (Sd : Nat → Prop), k ≤ n ∧ done.length ≤ k ∧ i = .int .i64 k ∧ TwS ad w wr b v done Sd
/-- The state of the second loop. -/
structure TwR (ad : Nat → Addr) (w wr : World) (b : Nat) (s : ByteArray) (v : Value) (done : List XPut) (Sd : Nat → Prop) : Prop where
  env : Env w.heap.size ad [1, 2, 9] wr
  chg : Chg Nil w wr
  tab : RdAt wr b s
  ge : w.heap.size ≤ b
  sl : SliceAt wr v 74 3 done.length (done.flatMap putC) Sd
  ds : ¬ Sd b
theorem TwR.post {ad : Nat → Addr} {w wr w2 : World} {b : Nat} {s s' : ByteArray} {v : Value} {done : List XPut} {Sd : Nat → Prop} (h : TwR ad w wr b s v done Sd) (c : Chg (· = b) wr w2) (t : RdAt w2 b s') : TwR ad w w2 b s' v done Sd :=
  ⟨h.env.keep c (fun x e => by have : x = b := e; have := h.ge; omega), h.chg.trans c (fun x hx e => by have : x = b := e; have := h.ge; omega), t, h.ge, h.sl.keep c (fun x hx e => by have : x = b := e; subst this; exact h.ds hx), h.ds⟩
theorem txtB_size (l : List UInt8) : (⟨l.toArray⟩ : ByteArray).size = l.length := by simp [ByteArray.size]
theorem encP_int {x : XPut} (h : x.1 = kwInt) : encP x = bigB 4 x.2.1.toNat := if_pos h
theorem okP_int {x : XPut} (h : x.1 = kwInt) (o : okP x) : 0 ≤ x.2.1 ∧ x.2.1 < 4294967296 := by unfold okP at o; rwa [if_pos h] at o
theorem encP_long {x : XPut} (h1 : ¬ x.1 = kwInt) (h : x.1 = kwLong) : encP x = bigB 8 x.2.1.toNat := by unfold encP; rw [if_neg h1, if_pos h]
theorem okP_long {x : XPut} (h1 : ¬ x.1 = kwInt) (h : x.1 = kwLong) (o : okP x) : 0 ≤ x.2.1 ∧ x.2.1 ≤ 9223372036854775807 := by unfold okP at o; rwa [if_neg h1, if_pos h] at o
theorem encP_bool {x : XPut} (h1 : ¬ x.1 = kwInt) (h2 : ¬ x.1 = kwLong) (h : x.1 = kwBool) : encP x = bigB 4 (if 0 < x.2.1 then 1 else 0) := by unfold encP; rw [if_neg h1, if_neg h2, if_pos h]
theorem encP_bytes {x : XPut} (h1 : ¬ x.1 = kwInt) (h2 : ¬ x.1 = kwLong) (h : ¬ x.1 = kwBool) : encP x = itemB x.2.2.1 := by unfold encP; rw [if_neg h1, if_neg h2, if_neg h]
theorem okP_bytes {x : XPut} (h1 : ¬ x.1 = kwInt) (h2 : ¬ x.1 = kwLong) (h : ¬ x.1 = kwBool) (o : okP x) : x.2.2.1.size ≤ 4000 := by unfold okP at o; rwa [if_neg h1, if_neg h2, if_neg h] at o
def RelT2 (ad : Nat → Addr) (w : World) (b : Nat) (v : Value) (done : List XPut) (Sd : Nat → Prop) (j : Value) (wr : World) : Prop :=
  ∃ k : Nat, k ≤ done.length ∧ j = .int .i64 k ∧ TwR ad w wr b ⟨(txtP (done.drop k)).toArray⟩ v done Sd
theorem txt_drop {done : List XPut} {k : Nat} {x : XPut} (h : done[k]? = some x) : (⟨(txtP (done.drop k)).toArray⟩ : ByteArray).data.toList = (encP x).data.toList ++ txtP (done.drop (k + 1)) := by
  have : done.drop k = x :: done.drop (k + 1) := by
    obtain ⟨hk, e⟩ := List.getElem?_eq_some_iff.1 h
    rw [List.drop_eq_getElem_cons hk, e]
  rw [this]; simp [txtP]
theorem txt_le (done : List XPut) (k : Nat) : (txtP (done.drop k)).length ≤ (txtP done).length := by
  have h : txtP done = txtP (done.take k) ++ txtP (done.drop k) := by
    unfold txtP
    rw [← List.flatMap_append, List.take_append_drop]
  rw [h, List.length_append]; omega

set_option maxHeartbeats 8000000 in
set_option maxRecDepth 100000 in
theorem xdrTwice_any (ad : Nat → Addr) (a0 : Option Addr) (cap : Nat) (l : List XPut) (w : World) (he : Env w.heap.size ad [1, 2, 9] w) (hs : (Sh.slice shPut).At w w.heap.size (a0, cap, l)) :
    Calls Tryd.prog 9 #[.slice a0 l.length cap] w fun e w' => e = .returned (.bool true) ∧ Chg Nil w w' := by
  have HT := Lib.hid (four_any ad w (he.sub (by decide)))
  have HE := Lib.hid he
  have hl1 : l.length ≤ 9223372036854775807 := Nat.le_trans hs.1 hs.2.1
  have hcap : l.length ≤ cap := hs.1
  have HC := Lib.hid hs.2.2
  clear he hs
  by_cases h1 : 60 < l.length
  · go_enter Tryd.func9, Tryd.ntmps9
    go_wp2_with fail
    refine HT.out.mono ?_
    rintro e w1 ⟨rfl, hc1⟩
    go_wp2_with fail
    go_ret
    exact ⟨rfl, hc1⟩
  go_enter Tryd.func9, Tryd.ntmps9
  go_wp2_with fail
  refine HT.out.mono ?_
  rintro e w1 ⟨rfl, hc1⟩
  have hz1 := hc1.size
  go_wp2_with fail
  go_loopw [5, 6] (fun v i wr => RelT1 ad w w1.heap.size l.length v i wr) (fun _ i _ => (l.length - RowKit.intOf i).toNat)
  case atStart =>
    refine ⟨0, [], Nil, Nat.zero_le _, Nat.le_refl _, rfl, ⟨(HE.out.keepN hc1).alloc _, hc1.alloc _, ⟨_, wr_new w1 _, fun x e => ⟨by have : x = _ := e; omega, fun f => f⟩⟩, by simp [txtP], sliceAt_nil _ _ _ _, fun x f => f.elim, fun x hx => by cases hx⟩⟩
  case round =>
    obtain ⟨k, done, Sd, hk, hdk, rfl, hH⟩ := hrel
    by_cases hlt : k < l.length
    · obtain ⟨x, hx⟩ : ∃ x, l[k]? = some x := ⟨l[k], List.getElem?_eq_getElem hlt⟩
      obtain ⟨hxa, g, off, rfl, hg, hcx⟩ := HC.out k x hx
      obtain ⟨kind, n, s, u0⟩ := x
      have hn' : n ≤ 9223372036854775807 := hxa.2.1.2
      have hs' : s.size ≤ 9223372036854775807 := hxa.2.2.1
      clear hxa
      have HCX := Lib.hid hcx
      have hgr := Nat.lt_of_lt_of_le hg hH.chg.size
      have c0 := (hH.chg.cell (p := ⟨g, off + k * 3 + 0, none⟩) hg (fun f => f)).trans (hcx 0 _ rfl)
      have c1 := (hH.chg.cell (p := ⟨g, off + k * 3 + 1, none⟩) hg (fun f => f)).trans (hcx 1 _ rfl)
      have c2 := (hH.chg.cell (p := ⟨g, off + k * 3 + 2, none⟩) hg (fun f => f)).trans (hcx 2 _ rfl)
      simp only [Nat.add_zero] at c0
      have j1 : (k : Int) < (l.length : Int) := by omega
      have j0 : (0 : Int) ≤ (k : Int) := by omega
      have kc : k < cap := by omega
      clear hcx hx
      by_cases hbig : 5000 < s.size
      · have HH := Lib.hid hH
        clear hH
        go_wp2_with fail
        go_ret
        exact ⟨rfl, HH.out.chg⟩
      have hfew := hH.few
      obtain ⟨S, hW, hS⟩ := hH.tab
      have HW := Lib.hid hW
      have HS := Lib.hid hS
      have HH := Lib.hid hH
      clear hW hS hH
      by_cases k1 : kind = kwInt
      · subst k1
        have HWX := Lib.hid (show wX (txtP done) (kwInt, n, s, u0) = wInt (txtP done) n from by unfold wX; rw [if_pos rfl])
        unfold kwInt at *
        rcases wX_cases (txtP done) (⟨#[105, 110, 116]⟩, n, s, u0) hn' with ⟨c, hc0, hc15, h3⟩ | ⟨h3, h4, h5⟩
        · have HWI := Lib.hid (HWX.out.symm.trans h3)
          clear h3
          go_wp2_with fail
          refine (wint_any (B := w.heap.size) ad w1.heap.size n (txtP done) S _ (HH.out.env.sub (by decide)) HW.out hfew hn').mono ?_
          rintro e w2 ⟨rfl, hp2⟩
          rw [HWI.out] at hp2 ⊢
          have HH2 := Lib.hid ((HH.out.post HS.out hp2).stay hfew)
          clear hp2
          rw [errV_pos (show c ≠ 0 by omega)]
          go_wp2_with fail
          go_roundw
          case rel => exact ⟨k + 1, done, Sd, by omega, by omega, by go_num, HH2.out⟩
          case measure => simp [RowKit.intOf]; omega
        · have HWI := Lib.hid (HWX.out.symm.trans h3)
          have H4 := Lib.hid h4
          have H5 := Lib.hid h5
          clear h3 h4 h5
          go_wp2_with fail
          refine (wint_any (B := w.heap.size) ad w1.heap.size n (txtP done) S _ (HH.out.env.sub (by decide)) HW.out hfew hn').mono ?_
          rintro e w2 ⟨rfl, hp2⟩
          rw [HWI.out] at hp2 ⊢
          have HH2 := Lib.hid (HH.out.post HS.out hp2)
          clear hp2 c0 c1 c2
          have hgr2 := Nat.lt_of_lt_of_le hg HH2.out.chg.size
          have c0 := (HH2.out.chg.cell (p := ⟨g, off + k * 3 + 0, none⟩) hg (fun f => f)).trans (HCX.out 0 _ rfl)
          have c1 := (HH2.out.chg.cell (p := ⟨g, off + k * 3 + 1, none⟩) hg (fun f => f)).trans (HCX.out 1 _ rfl)
          have c2 := (HH2.out.chg.cell (p := ⟨g, off + k * 3 + 2, none⟩) hg (fun f => f)).trans (HCX.out 2 _ rfl)
          simp only [Nat.add_zero] at c0
          simp only [errV_zero]
          go_wp2_with (at_builtin; go_loud (refine wpList_appendS (n := done.length) (m := 1) rfl _ _ 68 rfl Tryd.underlying68 info_put rfl (by decide) rfl (HH2.out.sl.keep ((Chg.refl Nil _).alloc _) (fun _ _ f => f)) rfl (putC (⟨#[105, 110, 116]⟩, n, s, u0)) rfl (cell_new_list w2 (putC (⟨#[105, 110, 116]⟩, n, s, u0)) _) (putC_one (⟨#[105, 110, 116]⟩, n, s, u0)) (by unfold maxLen; omega) (by omega) ?_); intro v3 w3 S3 hs3 hc3 hg3; obtain ⟨a3, cap3, rfl⟩ := hs3.shape)
          have HH3 := Lib.hid (HH2.out.more H5.out H4.out hs3 hc3 hg3)
          clear hs3 hc3 hg3
          go_roundw
          case rel => exact ⟨k + 1, done ++ [(⟨#[105, 110, 116]⟩, n, s, u0)], S3, by omega, by simp; omega, by go_num, HH3.out⟩
          case measure => simp [RowKit.intOf]; omega
      have k1' := Lib.hid k1
      have q1 : (kind.toList == [105, 110, 116]) = false := txt_ne k1
      clear k1
      by_cases k2 : kind = kwLong
      · subst k2
        have HWX := Lib.hid (show wX (txtP done) (kwLong, n, s, u0) = wLong (txtP done) n from by unfold wX; rw [if_neg k1'.out, if_pos rfl])
        clear q1
        unfold kwLong at *
        rcases wX_cases (txtP done) (⟨#[108, 111, 110, 103]⟩, n, s, u0) hn' with ⟨c, hc0, hc15, h3⟩ | ⟨h3, h4, h5⟩
        · have HWI := Lib.hid (HWX.out.symm.trans h3)
          clear h3
          go_wp2_with fail
          refine (wlong_any (B := w.heap.size) ad w1.heap.size n (txtP done) S _ (HH.out.env.sub (by decide)) HW.out hfew hn').mono ?_
          rintro e w2 ⟨rfl, hp2⟩
          rw [HWI.out] at hp2 ⊢
          have HH2 := Lib.hid ((HH.out.post HS.out hp2).stay hfew)
          clear hp2
          rw [errV_pos (show c ≠ 0 by omega)]
          go_wp2_with fail
          go_roundw
          case rel => exact ⟨k + 1, done, Sd, by omega, by omega, by go_num, HH2.out⟩
          case measure => simp [RowKit.intOf]; omega
        · have HWI := Lib.hid (HWX.out.symm.trans h3)
          have H4 := Lib.hid h4
          have H5 := Lib.hid h5
          clear h3 h4 h5
          go_wp2_with fail
          refine (wlong_any (B := w.heap.size) ad w1.heap.size n (txtP done) S _ (HH.out.env.sub (by decide)) HW.out hfew hn').mono ?_
          rintro e w2 ⟨rfl, hp2⟩
          rw [HWI.out] at hp2 ⊢
          have HH2 := Lib.hid (HH.out.post HS.out hp2)
          clear hp2 c0 c1 c2
          have hgr2 := Nat.lt_of_lt_of_le hg HH2.out.chg.size
          have c0 := (HH2.out.chg.cell (p := ⟨g, off + k * 3 + 0, none⟩) hg (fun f => f)).trans (HCX.out 0 _ rfl)
          have c1 := (HH2.out.chg.cell (p := ⟨g, off + k * 3 + 1, none⟩) hg (fun f => f)).trans (HCX.out 1 _ rfl)
          have c2 := (HH2.out.chg.cell (p := ⟨g, off + k * 3 + 2, none⟩) hg (fun f => f)).trans (HCX.out 2 _ rfl)
          simp only [Nat.add_zero] at c0
          simp only [errV_zero]
          go_wp2_with (at_builtin; go_loud (refine wpList_appendS (n := done.length) (m := 1) rfl _ _ 68 rfl Tryd.underlying68 info_put rfl (by decide) rfl (HH2.out.sl.keep ((Chg.refl Nil _).alloc _) (fun _ _ f => f)) rfl (putC (⟨#[108, 111, 110, 103]⟩, n, s, u0)) rfl (cell_new_list w2 (putC (⟨#[108, 111, 110, 103]⟩, n, s, u0)) _) (putC_one (⟨#[108, 111, 110, 103]⟩, n, s, u0)) (by unfold maxLen; omega) (by omega) ?_); intro v3 w3 S3 hs3 hc3 hg3; obtain ⟨a3, cap3, rfl⟩ := hs3.shape)
          have HH3 := Lib.hid (HH2.out.more H5.out H4.out hs3 hc3 hg3)
          clear hs3 hc3 hg3
          go_roundw
          case rel => exact ⟨k + 1, done ++ [(⟨#[108, 111, 110, 103]⟩, n, s, u0)], S3, by omega, by simp; omega, by go_num, HH3.out⟩
          case measure => simp [RowKit.intOf]; omega
      have k2' := Lib.hid k2
      have q2 : (kind.toList == [108, 111, 110, 103]) = false := txt_ne k2
      clear k2
      by_cases k3 : kind = kwBool
      · subst k3
        have HWX := Lib.hid (show wX (txtP done) (kwBool, n, s, u0) = wBool (txtP done) (decide (0 < n)) from by unfold wX; rw [if_neg k1'.out, if_neg k2'.out, if_pos rfl])
        clear q1 q2
        unfold kwBool at *
        rcases wX_cases (txtP done) (⟨#[98, 111, 111, 108]⟩, n, s, u0) hn' with ⟨c, hc0, hc15, h3⟩ | ⟨h3, h4, h5⟩
        · have HWI := Lib.hid (HWX.out.symm.trans h3)
          clear h3
          go_wp2_with fail
          refine (wbool_any (B := w.heap.size) ad w1.heap.size (decide (0 < n)) (txtP done) S _ (HH.out.env.sub (by decide)) HW.out hfew).mono ?_
          rintro e w2 ⟨rfl, hp2⟩
          rw [HWI.out] at hp2 ⊢
          have HH2 := Lib.hid ((HH.out.post HS.out hp2).stay hfew)
          clear hp2
          rw [errV_pos (show c ≠ 0 by omega)]
          go_wp2_with fail
          go_roundw
          case rel => exact ⟨k + 1, done, Sd, by omega, by omega, by go_num, HH2.out⟩
          case measure => simp [RowKit.intOf]; omega
        · have HWI := Lib.hid (HWX.out.symm.trans h3)
          have H4 := Lib.hid h4
          have H5 := Lib.hid h5
          clear h3 h4 h5
          go_wp2_with fail
          refine (wbool_any (B := w.heap.size) ad w1.heap.size (decide (0 < n)) (txtP done) S _ (HH.out.env.sub (by decide)) HW.out hfew).mono ?_
          rintro e w2 ⟨rfl, hp2⟩
          rw [HWI.out] at hp2 ⊢
          have HH2 := Lib.hid (HH.out.post HS.out hp2)
          clear hp2 c0 c1 c2
          have hgr2 := Nat.lt_of_lt_of_le hg HH2.out.chg.size
          have c0 := (HH2.out.chg.cell (p := ⟨g, off + k * 3 + 0, none⟩) hg (fun f => f)).trans (HCX.out 0 _ rfl)
          have c1 := (HH2.out.chg.cell (p := ⟨g, off + k * 3 + 1, none⟩) hg (fun f => f)).trans (HCX.out 1 _ rfl)
          have c2 := (HH2.out.chg.cell (p := ⟨g, off + k * 3 + 2, none⟩) hg (fun f => f)).trans (HCX.out 2 _ rfl)
          simp only [Nat.add_zero] at c0
          simp only [errV_zero]
          go_wp2_with (at_builtin; go_loud (refine wpList_appendS (n := done.length) (m := 1) rfl _ _ 68 rfl Tryd.underlying68 info_put rfl (by decide) rfl (HH2.out.sl.keep ((Chg.refl Nil _).alloc _) (fun _ _ f => f)) rfl (putC (⟨#[98, 111, 111, 108]⟩, n, s, u0)) rfl (cell_new_list w2 (putC (⟨#[98, 111, 111, 108]⟩, n, s, u0)) _) (putC_one (⟨#[98, 111, 111, 108]⟩, n, s, u0)) (by unfold maxLen; omega) (by omega) ?_); intro v3 w3 S3 hs3 hc3 hg3; obtain ⟨a3, cap3, rfl⟩ := hs3.shape)
          have HH3 := Lib.hid (HH2.out.more H5.out H4.out hs3 hc3 hg3)
          clear hs3 hc3 hg3
          go_roundw
          case rel => exact ⟨k + 1, done ++ [(⟨#[98, 111, 111, 108]⟩, n, s, u0)], S3, by omega, by simp; omega, by go_num, HH3.out⟩
          case measure => simp [RowKit.intOf]; omega
      have k3' := Lib.hid k3
      have q3 : (kind.toList == [98, 111, 111, 108]) = false := txt_ne k3
      clear k3
      have HWX := Lib.hid (show wX (txtP done) (kind, n, s, u0) = wBytes (txtP done) s from by unfold wX; rw [if_neg k1'.out, if_neg k2'.out, if_neg k3'.out])
      rcases wX_cases (txtP done) (kind, n, s, u0) hn' with ⟨c, hc0, hc15, h3⟩ | ⟨h3, h4, h5⟩
      · have HWI := Lib.hid (HWX.out.symm.trans h3)
        clear h3
        go_wp2_with fail
        refine (wbytes_any (B := w.heap.size) ad w1.heap.size s (txtP done) S _ (HH.out.env.sub (by decide)) HW.out hfew (by omega)).mono ?_
        rintro e w2 ⟨rfl, hp2⟩
        rw [HWI.out] at hp2 ⊢
        have HH2 := Lib.hid ((HH.out.post HS.out hp2).stay hfew)
        clear hp2
        rw [errV_pos (show c ≠ 0 by omega)]
        go_wp2_with fail
        go_roundw
        case rel => exact ⟨k + 1, done, Sd, by omega, by omega, by go_num, HH2.out⟩
        case measure => simp [RowKit.intOf]; omega
      · have HWI := Lib.hid (HWX.out.symm.trans h3)
        have H4 := Lib.hid h4
        have H5 := Lib.hid h5
        clear h3 h4 h5
        go_wp2_with fail
        refine (wbytes_any (B := w.heap.size) ad w1.heap.size s (txtP done) S _ (HH.out.env.sub (by decide)) HW.out hfew (by omega)).mono ?_
        rintro e w2 ⟨rfl, hp2⟩
        rw [HWI.out] at hp2 ⊢
        have HH2 := Lib.hid (HH.out.post HS.out hp2)
        clear hp2 c0 c1 c2
        have hgr2 := Nat.lt_of_lt_of_le hg HH2.out.chg.size
        have c0 := (HH2.out.chg.cell (p := ⟨g, off + k * 3 + 0, none⟩) hg (fun f => f)).trans (HCX.out 0 _ rfl)
        have c1 := (HH2.out.chg.cell (p := ⟨g, off + k * 3 + 1, none⟩) hg (fun f => f)).trans (HCX.out 1 _ rfl)
        have c2 := (HH2.out.chg.cell (p := ⟨g, off + k * 3 + 2, none⟩) hg (fun f => f)).trans (HCX.out 2 _ rfl)
        simp only [Nat.add_zero] at c0
        simp only [errV_zero]
        go_wp2_with (at_builtin; go_loud (refine wpList_appendS (n := done.length) (m := 1) rfl _ _ 68 rfl Tryd.underlying68 info_put rfl (by decide) rfl (HH2.out.sl.keep ((Chg.refl Nil _).alloc _) (fun _ _ f => f)) rfl (putC (kind, n, s, u0)) rfl (cell_new_list w2 (putC (kind, n, s, u0)) _) (putC_one (kind, n, s, u0)) (by unfold maxLen; omega) (by omega) ?_); intro v3 w3 S3 hs3 hc3 hg3; obtain ⟨a3, cap3, rfl⟩ := hs3.shape)
        have HH3 := Lib.hid (HH2.out.more H5.out H4.out hs3 hc3 hg3)
        clear hs3 hc3 hg3
        go_roundw
        case rel => exact ⟨k + 1, done ++ [(kind, n, s, u0)], S3, by omega, by simp; omega, by go_num, HH3.out⟩
        case measure => simp [RowKit.intOf]; omega
    · obtain rfl : k = l.length := by omega
      have hfew := hH.few
      obtain ⟨S, hW, hS⟩ := hH.tab
      have HW := Lib.hid hW
      have HH := Lib.hid hH
      have hdl := hdk
      clear hW hS hH
      obtain ⟨a5, c5, rfl⟩ := HH.out.sl.shape
      go_wp2_with fail
      refine (wtext_any _ _ _ _ HW.out).mono ?_
      rintro e w3 ⟨rfl, hc3⟩
      have HH3 := Lib.hid (HH.out.same hc3)
      clear hc3
      go_wp2_with fail
      refine (newReader_any _ w3).mono ?_
      rintro e w4 ⟨rfl, hc4, ht4, hz4⟩
      have HN := Lib.hid (show TwR ad w w4 w3.heap.size ⟨(txtP done).toArray⟩ (.slice a5 done.length c5) done Sd from ⟨HH3.out.env.keepN hc4, HH3.out.chg.then hc4, ht4, HH3.out.chg.size, HH3.out.sl.keep hc4 (fun _ _ f => f), fun e => by have := (HH3.out.ds _ e).2; omega⟩)
      have HOK := Lib.hid HH3.out.ok
      clear hc4 ht4
      go_wp2_with fail
      go_loopw [9] (fun j wr => RelT2 ad w w3.heap.size (.slice a5 done.length c5) done Sd j wr) (fun j _ => (done.length - RowKit.intOf j).toNat)
      case atStart => exact ⟨0, Nat.zero_le _, rfl, HN.out⟩
      case round =>
        obtain ⟨q, hq, rfl, hR⟩ := hrel
        have hb3 : w3.heap.size < wr.heap.size := by obtain ⟨_, h⟩ := hR.tab; exact lt_of_block h
        have hge := hR.ge
        by_cases hqd : q < done.length
        · obtain ⟨x, hx⟩ : ∃ x, done[q]? = some x := ⟨done[q], List.getElem?_eq_getElem hqd⟩
          have HXE := Lib.hid (txt_drop hx)
          have HXO := Lib.hid (HOK.out x (List.mem_of_getElem? hx))
          obtain ⟨g5, off5, cap5, cs5, e5, hb5, hn5, hm5, ho5, hc5, hS5, hl5⟩ := hR.sl.place (by omega)
          cases e5
          have HEL := Lib.hid (fun (wv : World) (hv : TwR ad w wv w3.heap.size ⟨(txtP (done.drop (q + 1))).toArray⟩ (.slice (some ⟨g5, off5, none⟩) done.length c5) done Sd) => And.intro (hv.sl.elem putC_len hx 1 _ rfl) (hv.sl.elem putC_len hx 2 _ rfl))
          have d0 := (hR.sl.elem putC_len hx 0 _ rfl).1
          have gl5 := (hR.sl.elem putC_len hx 0 _ rfl).2.2
          simp only [Nat.add_zero] at d0
          have q1 : (q : Int) < (done.length : Int) := by omega
          have q0 : (0 : Int) ≤ (q : Int) := by omega
          have qc : q < c5 := by omega
          have htl := txt_le done q
          have hts := txtB_size (txtP (done.drop q))
          have hts2 : (⟨(txtP (done.drop q)).toArray⟩ : ByteArray).size ≤ 4000 := by rw [hts]; omega
          obtain ⟨X, hX⟩ : ∃ X, X = (⟨(txtP (done.drop q)).toArray⟩ : ByteArray) := ⟨_, rfl⟩
          rw [← hX] at HXE hR hts2
          have HR := Lib.hid hR
          clear hX hts htl hR hb5 ho5 hc5 hS5 hx
          obtain ⟨kind, n, s, u0⟩ := x
          by_cases k1 : kind = kwInt
          · have HEE := Lib.hid (encP_int (x := (kind, n, s, u0)) k1)
            have hn := okP_int (x := (kind, n, s, u0)) k1 HXO.out
            simp only at hn
            subst k1
            unfold kwInt at *
            obtain ⟨m, rfl⟩ : ∃ m : Nat, n = m := ⟨n.toNat, by omega⟩
            have HRD := Lib.hid (show rdNum X 4 (fun _ => true) = (m, ⟨(txtP (done.drop (q + 1))).toArray⟩, 0) from rdNum_big _ (HXE.out.trans (by rw [HEE.out]; rfl)) (by simp; omega) rfl)
            go_wp2_with fail
            refine (rint_any (B := w.heap.size) ad w3.heap.size X _ (HR.out.env.sub (by decide)) hge HR.out.tab (by omega)).mono ?_
            rintro e w6 ⟨rfl, hc6, ht6⟩
            rw [HRD.out] at ht6 ⊢
            have HR2 := Lib.hid (HR.out.post hc6 ht6)
            obtain ⟨⟨d1, _, gl6⟩, d2, _, _⟩ := HEL.out _ HR2.out
            clear hc6 ht6
            simp only [errV_zero]
            go_wp2_with fail
            go_roundw
            case rel => exact ⟨q + 1, by omega, by go_num, HR2.out⟩
            case measure => simp [RowKit.intOf]; omega
          by_cases k2 : kind = kwLong
          · have HEE := Lib.hid (encP_long (x := (kind, n, s, u0)) k1 k2)
            have hn := okP_long (x := (kind, n, s, u0)) k1 k2 HXO.out
            simp only at hn
            clear k1
            subst k2
            unfold kwLong at *
            obtain ⟨m, rfl⟩ : ∃ m : Nat, n = m := ⟨n.toNat, by omega⟩
            have HRD := Lib.hid (show rdNum X 8 (fun q => decide (q < 9223372036854775808)) = (m, ⟨(txtP (done.drop (q + 1))).toArray⟩, 0) from rdNum_big _ (HXE.out.trans (by rw [HEE.out]; rfl)) (by simp; omega) (by simp; omega))
            go_wp2_with fail
            refine (rlong_any (B := w.heap.size) ad w3.heap.size X _ (HR.out.env.sub (by decide)) hge HR.out.tab (by omega)).mono ?_
            rintro e w6 ⟨rfl, hc6, ht6⟩
            rw [HRD.out] at ht6 ⊢
            have HR2 := Lib.hid (HR.out.post hc6 ht6)
            obtain ⟨⟨d1, _, gl6⟩, d2, _, _⟩ := HEL.out _ HR2.out
            clear hc6 ht6
            simp only [errV_zero]
            go_wp2_with fail
            go_roundw
            case rel => exact ⟨q + 1, by omega, by go_num, HR2.out⟩
            case measure => simp [RowKit.intOf]; omega
          by_cases k3 : kind = kwBool
          · have HEE := Lib.hid (encP_bool (x := (kind, n, s, u0)) k1 k2 k3)
            clear k1 k2
            subst k3
            unfold kwBool at *
            by_cases hpos : 0 < n
            · have hpd : decide (0 < n) = true := by simpa using hpos
              have HRD := Lib.hid (show rdNum X 4 (fun q => decide (q ≤ 1)) = (1, ⟨(txtP (done.drop (q + 1))).toArray⟩, 0) from rdNum_big _ (HXE.out.trans (by rw [HEE.out, if_pos hpos]; rfl)) (by simp) rfl)
              go_wp2_with fail
              refine (rbool_any (B := w.heap.size) ad w3.heap.size X _ (HR.out.env.sub (by decide)) hge HR.out.tab (by omega)).mono ?_
              rintro e w6 ⟨rfl, hc6, ht6⟩
              rw [HRD.out] at ht6 ⊢
              have HR2 := Lib.hid (HR.out.post hc6 ht6)
              obtain ⟨⟨d1, _, gl6⟩, d2, _, _⟩ := HEL.out _ HR2.out
              clear hc6 ht6
              simp only [errV_zero]
              go_wp2_with fail
              go_roundw
              case rel => exact ⟨q + 1, by omega, by go_num, HR2.out⟩
              case measure => simp [RowKit.intOf]; omega
            · have hpd : decide (0 < n) = false := by simpa using hpos
              have HRD := Lib.hid (show rdNum X 4 (fun q => decide (q ≤ 1)) = (0, ⟨(txtP (done.drop (q + 1))).toArray⟩, 0) from rdNum_big _ (HXE.out.trans (by rw [HEE.out, if_neg hpos]; rfl)) (by simp) rfl)
              go_wp2_with fail
              refine (rbool_any (B := w.heap.size) ad w3.heap.size X _ (HR.out.env.sub (by decide)) hge HR.out.tab (by omega)).mono ?_
              rintro e w6 ⟨rfl, hc6, ht6⟩
              rw [HRD.out] at ht6 ⊢
              have HR2 := Lib.hid (HR.out.post hc6 ht6)
              obtain ⟨⟨d1, _, gl6⟩, d2, _, _⟩ := HEL.out _ HR2.out
              clear hc6 ht6
              simp only [errV_zero]
              go_wp2_with fail
              go_roundw
              case rel => exact ⟨q + 1, by omega, by go_num, HR2.out⟩
              case measure => simp [RowKit.intOf]; omega
          have HEE := Lib.hid (encP_bytes (x := (kind, n, s, u0)) k1 k2 k3)
          have hs4 := okP_bytes (x := (kind, n, s, u0)) k1 k2 k3 HXO.out
          have q3 : (kind.toList == [105, 110, 116]) = false := txt_ne k1
          have q4 : (kind.toList == [108, 111, 110, 103]) = false := txt_ne k2
          have q5 : (kind.toList == [98, 111, 111, 108]) = false := txt_ne k3
          simp only at hs4
          clear k1 k2 k3
          have HRD := Lib.hid (show rdItem X 4000 = (s, ⟨(txtP (done.drop (q + 1))).toArray⟩, 0) from rdItem_big (HXE.out.trans (by rw [HEE.out])) hs4)
          go_wp2_with fail
          refine (rbytes_any (B := w.heap.size) ad w3.heap.size X 4000 _ (HR.out.env.sub (by decide)) hge HR.out.tab (by omega)).mono ?_
          rintro e w6 ⟨rfl, hc6, ht6⟩
          rw [HRD.out] at ht6 ⊢
          have HR2 := Lib.hid (HR.out.post hc6 ht6)
          obtain ⟨⟨d1, _, gl6⟩, d2, _, _⟩ := HEL.out _ HR2.out
          clear hc6 ht6
          simp only [errV_zero]
          go_wp2_with fail
          go_roundw
          case rel => exact ⟨q + 1, by omega, by go_num, HR2.out⟩
          case measure => simp [RowKit.intOf]; omega
        · obtain rfl : q = done.length := by omega
          have hnil : txtP (done.drop done.length) = [] := by simp [txtP]
          rw [hnil] at hR
          have HR := Lib.hid hR
          clear hR hnil
          go_wp2_with fail
          refine (rend_any (B := w.heap.size) ad w3.heap.size _ _ (HR.out.env.sub (by decide)) HR.out.tab).mono ?_
          rintro e w6 ⟨rfl, hc6⟩
          have h0 : (if (⟨([] : List UInt8).toArray⟩ : ByteArray) = ⟨#[]⟩ then 0 else 1) = 0 := if_pos rfl
          rw [h0]
          simp only [errV_zero]
          clear h0
          go_wp2_with fail
          go_ret
          exact ⟨rfl, HR.out.chg.then hc6⟩
end Go.Proofs.YtdhegblgghembaaDoor

