/- The reference's Disk: its state and its power by contract. -/
import Derived.Test.YtfekiagdnlnggaaDoorDisk8
import Derived.Test.YtfekiagdnlnggaaDoorBytes
namespace Go.Proofs.YtfekiagdnlnggaaDoor
open Go.RowKit
set_option linter.unusedVariables false
set_option linter.unusedSimpArgs false

/-- The reference's disk at block b, its three slices named. -/
structure RD (w : World) (b : Nat) (d : PDisk) (vk vn vw : Value) (T : TypeId) (Sk Sn Sw : Nat → Prop) : Prop where
  blk : w.heap[b]? = some (.cells #[vk, vn, vw, .int .i64 d.left] T (0, 0))
  kept : SliceAt w vk 9 1 d.kept.length (d.kept.flatMap strC) Sk
  now : SliceAt w vn 9 1 d.now.length (d.now.flatMap strC) Sn
  waits : SliceAt w vw 179 2 d.waits.length (d.waits.flatMap waitC) Sw
  bk : ¬ Sk b
  bn : ¬ Sn b
  bw : ¬ Sw b
  kn : ∀ x, Sk x → ¬ Sn x
  kw : ∀ x, Sk x → ¬ Sw x
  nw : ∀ x, Sn x → ¬ Sw x
  lk : ∀ x, Sk x → x < w.heap.size
  ln : ∀ x, Sn x → x < w.heap.size
  lw : ∀ x, Sw x → x < w.heap.size
  rng : -1 ≤ d.left ∧ d.left ≤ 9223372036854775807
def RDiskAt (w : World) (b : Nat) (d : PDisk) (S : Nat → Prop) : Prop :=
  ∃ vk vn vw T Sk Sn Sw, RD w b d vk vn vw T Sk Sn Sw ∧ (∀ x, Sk x ∨ Sn x ∨ Sw x → S x) ∧ S b ∧ ∀ x, S x → x < w.heap.size
def RDiskPost (S : Nat → Prop) (w : World) (b : Nat) (d : PDisk) (w' : World) : Prop := Chg S w w' ∧ ∃ S', RDiskAt w' b d S' ∧ Grow S S' w w'

section
variable {w w' : World} {b : Nat} {d : PDisk} {vk vn vw : Value} {T : TypeId} {Sk Sn Sw S : Nat → Prop}
theorem RD.keep {U : Nat → Prop} (h : RD w b d vk vn vw T Sk Sn Sw) (c : Chg U w w') (hb : ¬ U b) (hk : ∀ x, Sk x → ¬ U x) (hn : ∀ x, Sn x → ¬ U x) (hw : ∀ x, Sw x → ¬ U x) : RD w' b d vk vn vw T Sk Sn Sw :=
  ⟨c.keep h.blk hb, h.kept.keep c hk, h.now.keep c hn, h.waits.keep c hw, h.bk, h.bn, h.bw, h.kn, h.kw, h.nw, fun x hx => Nat.lt_of_lt_of_le (h.lk x hx) c.size, fun x hx => Nat.lt_of_lt_of_le (h.ln x hx) c.size, fun x hx => Nat.lt_of_lt_of_le (h.lw x hx) c.size, h.rng⟩
theorem RD.same (h : RD w b d vk vn vw T Sk Sn Sw) (c : Chg Nil w w') : RD w' b d vk vn vw T Sk Sn Sw := h.keep c (fun f => f) (fun _ _ f => f) (fun _ _ f => f) (fun _ _ f => f)
theorem RDiskAt.keep {U : Nat → Prop} (h : RDiskAt w b d S) (c : Chg U w w') (hd : ∀ x, S x → ¬ U x) : RDiskAt w' b d S := by
  obtain ⟨vk, vn, vw, T, Sk, Sn, Sw, h, h1, h2, h3⟩ := h
  exact ⟨vk, vn, vw, T, Sk, Sn, Sw, h.keep c (hd b h2) (fun x hx => hd x (h1 x (.inl hx))) (fun x hx => hd x (h1 x (.inr (.inl hx)))) (fun x hx => hd x (h1 x (.inr (.inr hx)))), h1, h2, fun x hx => Nat.lt_of_lt_of_le (h3 x hx) c.size⟩
theorem chg_cell (w : World) (b i : Nat) (v : Value) : Chg (· = b) w (w.setCell ⟨b, i, none⟩ v) := (Chg.refl (· = b) w).setCell (p := ⟨b, i, none⟩) (.inr rfl) v
theorem ne_of (h : ¬ S b) : ∀ x, S x → ¬ x = b := fun x hx e => h (e ▸ hx)
theorem RD.putLeft (h : RD w b d vk vn vw T Sk Sn Sw) {l : Int} (h1 : -1 ≤ l) (h2 : l ≤ 9223372036854775807) : RD (w.setCell ⟨b, 3, none⟩ (.int .i64 l)) b { d with left := l } vk vn vw T Sk Sn Sw := by
  have c := chg_cell w b 3 (.int .i64 l)
  have hb := block_setCell h.blk 3 (.int .i64 l)
  simp at hb
  exact ⟨hb, h.kept.keep c (ne_of h.bk), h.now.keep c (ne_of h.bn), h.waits.keep c (ne_of h.bw), h.bk, h.bn, h.bw, h.kn, h.kw, h.nw, fun x hx => Nat.lt_of_lt_of_le (h.lk x hx) c.size, fun x hx => Nat.lt_of_lt_of_le (h.ln x hx) c.size, fun x hx => Nat.lt_of_lt_of_le (h.lw x hx) c.size, h1, h2⟩
theorem RD.putKept {v : Value} {K : List ByteArray} {S2 : Nat → Prop} (h : RD w b d vk vn vw T Sk Sn Sw) (hs : SliceAt w v 9 1 K.length (K.flatMap strC) S2) (hb2 : ¬ S2 b) (hn : ∀ x, S2 x → ¬ Sn x) (hw : ∀ x, S2 x → ¬ Sw x) (hl : ∀ x, S2 x → x < w.heap.size) :
    RD (w.setCell ⟨b, 0, none⟩ v) b { d with kept := K } v vn vw T S2 Sn Sw := by
  have c := chg_cell w b 0 v
  have hb := block_setCell h.blk 0 v
  simp at hb
  exact ⟨hb, hs.keep c (ne_of hb2), h.now.keep c (ne_of h.bn), h.waits.keep c (ne_of h.bw), hb2, h.bn, h.bw, hn, hw, h.nw, fun x hx => Nat.lt_of_lt_of_le (hl x hx) c.size, fun x hx => Nat.lt_of_lt_of_le (h.ln x hx) c.size, fun x hx => Nat.lt_of_lt_of_le (h.lw x hx) c.size, h.rng⟩
theorem RD.putNow {v : Value} {K : List ByteArray} {S2 : Nat → Prop} (h : RD w b d vk vn vw T Sk Sn Sw) (hs : SliceAt w v 9 1 K.length (K.flatMap strC) S2) (hb2 : ¬ S2 b) (hk : ∀ x, S2 x → ¬ Sk x) (hw : ∀ x, S2 x → ¬ Sw x) (hl : ∀ x, S2 x → x < w.heap.size) :
    RD (w.setCell ⟨b, 1, none⟩ v) b { d with now := K } vk v vw T Sk S2 Sw := by
  have c := chg_cell w b 1 v
  have hb := block_setCell h.blk 1 v
  simp at hb
  exact ⟨hb, h.kept.keep c (ne_of h.bk), hs.keep c (ne_of hb2), h.waits.keep c (ne_of h.bw), h.bk, hb2, h.bw, fun x h1 h2 => hk x h2 h1, h.kw, hw, fun x hx => Nat.lt_of_lt_of_le (h.lk x hx) c.size, fun x hx => Nat.lt_of_lt_of_le (hl x hx) c.size, fun x hx => Nat.lt_of_lt_of_le (h.lw x hx) c.size, h.rng⟩
theorem RD.putWaits {v : Value} {l : List (Int × ByteArray)} {S2 : Nat → Prop} (h : RD w b d vk vn vw T Sk Sn Sw) (hs : SliceAt w v 179 2 l.length (l.flatMap waitC) S2) (hb2 : ¬ S2 b) (hk : ∀ x, S2 x → ¬ Sk x) (hn : ∀ x, S2 x → ¬ Sn x) (hl : ∀ x, S2 x → x < w.heap.size) :
    RD (w.setCell ⟨b, 2, none⟩ v) b { d with waits := l } vk vn v T Sk Sn S2 := by
  have c := chg_cell w b 2 v
  have hb := block_setCell h.blk 2 v
  simp at hb
  exact ⟨hb, h.kept.keep c (ne_of h.bk), h.now.keep c (ne_of h.bn), hs.keep c (ne_of hb2), h.bk, h.bn, hb2, h.kn, fun x h1 h2 => hk x h2 h1, fun x h1 h2 => hn x h2 h1, fun x hx => Nat.lt_of_lt_of_le (h.lk x hx) c.size, fun x hx => Nat.lt_of_lt_of_le (h.ln x hx) c.size, fun x hx => Nat.lt_of_lt_of_le (hl x hx) c.size, h.rng⟩
/-- .. behind an append. -/
theorem RD.moreWaits {v : Value} {l : List (Int × ByteArray)} {S2 : Nat → Prop} (h : RD w b d vk vn vw T Sk Sn Sw) (c : Chg Sw w w') (hs : SliceAt w' v 179 2 l.length (l.flatMap waitC) S2) (hg : Grow Sw S2 w w') :
    RD (w'.setCell ⟨b, 2, none⟩ v) b { d with waits := l } vk vn v T Sk Sn S2 := by
  have hbl := lt_of_block h.blk
  have z := c.size
  have g : ∀ x, S2 x → Sw x ∨ w.heap.size ≤ x := fun x hx => (hg x hx).imp id (fun h => h.1)
  have hb1 : w'.heap[b]? = some (.cells #[vk, vn, vw, .int .i64 d.left] T (0, 0)) := c.keep h.blk h.bw
  have c2 := chg_cell w' b 2 v
  have hb := block_setCell hb1 2 v
  simp at hb
  have h2b : ¬ S2 b := fun e => by rcases g b e with e | e; exact h.bw e; omega
  refine ⟨hb, (h.kept.keep c h.kw).keep c2 (ne_of h.bk), (h.now.keep c h.nw).keep c2 (ne_of h.bn), hs.keep c2 (ne_of h2b), h.bk, h.bn, h2b, h.kn, fun x h1 h2 => ?_, fun x h1 h2 => ?_, fun x hx => ?_, fun x hx => ?_, fun x hx => ?_, h.rng⟩
  · rcases g x h2 with e | e
    · exact h.kw x h1 e
    · have := h.lk x h1; omega
  · rcases g x h2 with e | e
    · exact h.nw x h1 e
    · have := h.ln x h1; omega
  · have := h.lk x hx; have := c2.size; omega
  · have := h.ln x hx; have := c2.size; omega
  · have := c2.size
    rcases hg x hx with e | e
    · have := h.lw x e; omega
    · omega
theorem RD.moreKept {v : Value} {K : List ByteArray} {S2 : Nat → Prop} (h : RD w b d vk vn vw T Sk Sn Sw) (c : Chg Sk w w') (hs : SliceAt w' v 9 1 K.length (K.flatMap strC) S2) (hg : Grow Sk S2 w w') :
    RD (w'.setCell ⟨b, 0, none⟩ v) b { d with kept := K } v vn vw T S2 Sn Sw := by
  have hbl := lt_of_block h.blk
  have z := c.size
  have g : ∀ x, S2 x → Sk x ∨ w.heap.size ≤ x := fun x hx => (hg x hx).imp id (fun h => h.1)
  have hb1 : w'.heap[b]? = some (.cells #[vk, vn, vw, .int .i64 d.left] T (0, 0)) := c.keep h.blk h.bk
  have c2 := chg_cell w' b 0 v
  have hb := block_setCell hb1 0 v
  simp at hb
  have h2b : ¬ S2 b := fun e => by rcases g b e with e | e; exact h.bk e; omega
  refine ⟨hb, hs.keep c2 (ne_of h2b), (h.now.keep c (fun x h1 h2 => h.kn x h2 h1)).keep c2 (ne_of h.bn), (h.waits.keep c (fun x h1 h2 => h.kw x h2 h1)).keep c2 (ne_of h.bw), h2b, h.bn, h.bw, fun x h1 h2 => ?_, fun x h1 h2 => ?_, h.nw, fun x hx => ?_, fun x hx => ?_, fun x hx => ?_, h.rng⟩
  · rcases g x h1 with e | e
    · exact h.kn x e h2
    · have := h.ln x h2; omega
  · rcases g x h1 with e | e
    · exact h.kw x e h2
    · have := h.lw x h2; omega
  · have := c2.size
    rcases hg x hx with e | e
    · have := h.lk x e; omega
    · omega
  · have := h.ln x hx; have := c2.size; omega
  · have := h.lw x hx; have := c2.size; omega
theorem RD.moreNow {v : Value} {K : List ByteArray} {S2 : Nat → Prop} (h : RD w b d vk vn vw T Sk Sn Sw) (c : Chg Sn w w') (hs : SliceAt w' v 9 1 K.length (K.flatMap strC) S2) (hg : Grow Sn S2 w w') :
    RD (w'.setCell ⟨b, 1, none⟩ v) b { d with now := K } vk v vw T Sk S2 Sw := by
  have hbl := lt_of_block h.blk
  have z := c.size
  have g : ∀ x, S2 x → Sn x ∨ w.heap.size ≤ x := fun x hx => (hg x hx).imp id (fun h => h.1)
  have hb1 : w'.heap[b]? = some (.cells #[vk, vn, vw, .int .i64 d.left] T (0, 0)) := c.keep h.blk h.bn
  have c2 := chg_cell w' b 1 v
  have hb := block_setCell hb1 1 v
  simp at hb
  have h2b : ¬ S2 b := fun e => by rcases g b e with e | e; exact h.bn e; omega
  refine ⟨hb, (h.kept.keep c h.kn).keep c2 (ne_of h.bk), hs.keep c2 (ne_of h2b), (h.waits.keep c (fun x h1 h2 => h.nw x h2 h1)).keep c2 (ne_of h.bw), h.bk, h2b, h.bw, fun x h1 h2 => ?_, h.kw, fun x h1 h2 => ?_, fun x hx => ?_, fun x hx => ?_, fun x hx => ?_, h.rng⟩
  · rcases g x h2 with e | e
    · exact h.kn x h1 e
    · have := h.lk x h1; omega
  · rcases g x h1 with e | e
    · exact h.nw x e h2
    · have := h.lw x h2; omega
  · have := h.lk x hx; have := c2.size; omega
  · have := c2.size
    rcases hg x hx with e | e
    · have := h.ln x e; omega
    · omega
  · have := h.lw x hx; have := c2.size; omega
theorem RD.setNow {g off n cap k : Nat} {t : ByteArray} (h : RD w b d vk (.slice (some ⟨g, off, none⟩) n cap) vw T Sk Sn Sw) (hk : k < d.now.length) : RD (w.setCell ⟨g, off + k, none⟩ (.string t)) b { d with now := d.now.set k t } vk (.slice (some ⟨g, off, none⟩) n cap) vw T Sk Sn Sw := by
  have hnn : n = d.now.length := slice_len h.now
  obtain ⟨g', off', cap', cs, e, hb9, _, _, _, _, hg, hgl⟩ := h.now.place (by omega)
  cases e
  have hset := SliceAt.setElem strC_len h.now (k := k) hk t
  have hse : w.setCells g (off + k * 1) (strC t) = w.setCell ⟨g, off + k, none⟩ (.string t) := by rw [Nat.mul_one]; rfl
  rw [hse] at hset
  have c := chg_cell w g (off + k) (.string t)
  exact ⟨c.keep h.blk (fun e => h.bn (e ▸ hg)), h.kept.keep c (fun x hx e => h.kn x hx (e ▸ hg)), by simpa using hset, h.waits.keep c (fun x hx e => h.nw g hg (e ▸ hx)), h.bk, h.bn, h.bw, h.kn, h.kw, h.nw, fun x hx => Nat.lt_of_lt_of_le (h.lk x hx) c.size, fun x hx => Nat.lt_of_lt_of_le (h.ln x hx) c.size, fun x hx => Nat.lt_of_lt_of_le (h.lw x hx) c.size, h.rng⟩
theorem RD.setKept {g off n cap k : Nat} {t : ByteArray} (h : RD w b d (.slice (some ⟨g, off, none⟩) n cap) vn vw T Sk Sn Sw) (hk : k < d.kept.length) : RD (w.setCell ⟨g, off + k, none⟩ (.string t)) b { d with kept := d.kept.set k t } (.slice (some ⟨g, off, none⟩) n cap) vn vw T Sk Sn Sw := by
  have hnn : n = d.kept.length := slice_len h.kept
  obtain ⟨g', off', cap', cs, e, hb9, _, _, _, _, hg, hgl⟩ := h.kept.place (by omega)
  cases e
  have hset := SliceAt.setElem strC_len h.kept (k := k) hk t
  have hse : w.setCells g (off + k * 1) (strC t) = w.setCell ⟨g, off + k, none⟩ (.string t) := by rw [Nat.mul_one]; rfl
  rw [hse] at hset
  have c := chg_cell w g (off + k) (.string t)
  exact ⟨c.keep h.blk (fun e => h.bk (e ▸ hg)), by simpa using hset, h.now.keep c (fun x hx e => h.kn g hg (e ▸ hx)), h.waits.keep c (fun x hx e => h.kw g hg (e ▸ hx)), h.bk, h.bn, h.bw, h.kn, h.kw, h.nw, fun x hx => Nat.lt_of_lt_of_le (h.lk x hx) c.size, fun x hx => Nat.lt_of_lt_of_le (h.ln x hx) c.size, fun x hx => Nat.lt_of_lt_of_le (h.lw x hx) c.size, h.rng⟩
/-- The end of a walk. -/
theorem RD.post {w0 : World} (h : RD w b d vk vn vw T Sk Sn Sw) (hc : Chg S w0 w) (hS : S b) (hl : ∀ x, S x → x < w0.heap.size) (hk : ∀ x, Sk x → S x ∨ w0.heap.size ≤ x) (hn : ∀ x, Sn x → S x ∨ w0.heap.size ≤ x) (hw : ∀ x, Sw x → S x ∨ w0.heap.size ≤ x) : RDiskPost S w0 b d w := by
  have z := hc.size
  refine ⟨hc, fun x => S x ∨ (w0.heap.size ≤ x ∧ x < w.heap.size), ⟨vk, vn, vw, T, Sk, Sn, Sw, h, fun x hx => ?_, .inl hS, fun x hx => ?_⟩, fun x hx => hx⟩
  · rcases hx with e | e | e
    · exact (hk x e).imp id (fun q => ⟨q, h.lk x e⟩)
    · exact (hn x e).imp id (fun q => ⟨q, h.ln x e⟩)
    · exact (hw x e).imp id (fun q => ⟨q, h.lw x e⟩)
  · rcases hx with e | e
    · have := hl x e; omega
    · exact e.2
end
theorem rdisk_same {S : Nat → Prop} {w : World} {b : Nat} {d : PDisk} (ht : RDiskAt w b d S) : RDiskPost S w b d w := ⟨Chg.refl _ _, S, ht, Grow.refl _ _ _⟩
theorem RDiskPost.step {S S1 : Nat → Prop} {w w1 w2 : World} {b : Nat} {d' : PDisk} (c1 : Chg S w w1) (g1 : Grow S S1 w w1) (q : RDiskPost S1 w1 b d' w2) (hS : ∀ x, S x → x < w.heap.size) : RDiskPost S w b d' w2 := by
  obtain ⟨c2, S2, a2, g2⟩ := q
  have hz := c1.size
  have hz2 := c2.size
  refine ⟨c1.trans c2 (fun x hx h => by rcases g1 x h with h | h; exact h; omega), S2, a2, fun x hx => ?_⟩
  rcases g2 x hx with h | h
  · rcases g1 x h with h | h
    · exact .inl h
    · exact .inr ⟨h.1, by omega⟩
  · exact .inr ⟨by omega, h.2⟩

theorem rpower_any (b : Nat) (d : PDisk) (S : Nat → Prop) (w : World) (ht : RDiskAt w b d S) :
    Calls Tryd.prog 88 #[.pointer (some ⟨b, 0, none⟩)] w fun e w' => e = .returned (.bool (pSpend d).2) ∧ RDiskPost S w b (pSpend d).1 w' := by
  have HT := Lib.hid ht
  obtain ⟨vk, vn, vw, T, Sk, Sn, Sw, h, h1, h2, h3⟩ := ht
  obtain ⟨hi1, hi2⟩ := h.rng
  have hc0 := cell_of h.blk 3
  have hf0 := free_of h.blk 3
  have hbl := lt_of_block h.blk
  simp at hc0
  have HD := Lib.hid h
  clear h
  obtain ⟨l, hl⟩ : ∃ l, l = d.left := ⟨_, rfl⟩
  rw [← hl] at hc0 hi1 hi2
  unfold pSpend
  rw [← hl]
  have HL := Lib.hid hl
  clear hl
  have hgo : l = 0 ∨ 0 < l ∨ (l < 0 ∧ l = -1) := by omega
  rcases hgo with rfl | hp | ⟨_, rfl⟩
  · rw [if_pos rfl]
    go_enter Tryd.func88, Tryd.ntmps88
    go_wp2_with fail
    go_ret
    exact ⟨rfl, rdisk_same HT.out⟩
  · have h0 : ¬ l = 0 := by omega
    have hw1 : IntKind.i64.wrap (l - 1) = l - 1 := IntWalk.i64_in _ (by omega)
    rw [if_neg h0, if_pos hp]
    go_enter Tryd.func88, Tryd.ntmps88
    go_wp2_with fail
    go_ret
    exact ⟨rfl, (HD.out.putLeft (by omega) (by omega)).post ((Chg.refl S w).setCell (p := ⟨b, 3, none⟩) (.inr h2) _) h2 h3 (fun x hx => .inl (h1 x (.inl hx))) (fun x hx => .inl (h1 x (.inr (.inl hx)))) (fun x hx => .inl (h1 x (.inr (.inr hx))))⟩
  · rw [if_neg (by decide), if_neg (by decide)]
    go_enter Tryd.func88, Tryd.ntmps88
    go_wp2_with fail
    go_ret
    exact ⟨rfl, rdisk_same HT.out⟩
end Go.Proofs.YtfekiagdnlnggaaDoor
