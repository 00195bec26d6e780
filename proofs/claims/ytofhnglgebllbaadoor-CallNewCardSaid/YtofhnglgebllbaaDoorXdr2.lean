/- package xdr: the Writer by contract over a plain text. -/
import Derived.Test.YtofhnglgebllbaaDoorXdr
import Derived.Test.YtofhnglgebllbaaDoorEnv
import Derived.Test.YtofhnglgebllbaaDoorSteps
import Derived.Lib.AppendStr
namespace Go.Proofs.YtofhnglgebllbaaDoor
open Go.RowKit Go.Lib
set_option linter.unusedVariables false
set_option linter.unusedSimpArgs false

/-- A row of bytes that is owned from its head on; its block lies in S. -/
def OwnAt (w : World) (v : Value) (E n : Nat) (xs : List Value) (S : Nat → Prop) : Prop := w.ownsRow 0 E 1 v n xs ∧ ∀ x, v.ownBlock = some x → S x
theorem OwnAt.lt {w : World} {v : Value} {E n : Nat} {xs : List Value} {S : Nat → Prop} (h : OwnAt w v E n xs S) : ∀ x, v.ownBlock = some x → x < w.heap.size := by
  obtain ⟨⟨_, ⟨rfl, _⟩ | ⟨g, cap, cur, rfl, _, hg, _⟩⟩, _⟩ := h
  · intro x e; cases e
  · intro x e; cases e; exact lt_of_block hg
theorem OwnAt.keep {w w' : World} {v : Value} {E n : Nat} {xs : List Value} {S U : Nat → Prop} (h : OwnAt w v E n xs S) (c : Chg U w w') (hd : ∀ x, S x → ¬ U x) : OwnAt w' v E n xs S := by
  obtain ⟨⟨h1, h2 | ⟨g, cap, cur, e, h3, hg, h4⟩⟩, h5⟩ := h
  · exact ⟨⟨h1, .inl h2⟩, h5⟩
  · exact ⟨⟨h1, .inr ⟨g, cap, cur, e, h3, c.keep hg (hd g (h5 g (by rw [e]; rfl))), h4⟩⟩, h5⟩
theorem ownAt_nil (w : World) (E : Nat) (S : Nat → Prop) : OwnAt w (.slice none 0 0) E 0 [] S := ⟨World.ownsRow_nil w 0 E 1, fun x e => by cases e⟩
theorem OwnAt.shape {w : World} {v : Value} {E n : Nat} {xs : List Value} {S : Nat → Prop} (h : OwnAt w v E n xs S) : ∃ a cap, v = .slice a n cap := by
  obtain ⟨⟨_, ⟨rfl, rfl⟩ | ⟨g, cap, cur, e, _⟩⟩, _⟩ := h
  · exact ⟨none, 0, rfl⟩
  · exact ⟨_, cap, e⟩
theorem run_appendT {P : Program} {w : World} {t u ty E : TypeId} (ht : P.underlying t = some (.slice E)) (hu : P.underlying u = some .string) (hinfo : (P.info? E).map (fun i => (i.zero, i.size, i.bytes)) = some (some (.int .u8 0), 1, 1))
    {v : Value} {n : Nat} {xs : List Value} {S : Nat → Prop} (h : OwnAt w v E n xs S) (s : ByteArray) (hb : n + s.size ≤ 140737488355328) :
    ∃ v' w' S', (Builtin.append_ #[t, u] ty #[v, .string s]).run P w = .ok v' w' ∧ OwnAt w' v' E (n + s.size) (xs ++ strCells s) S' ∧ Chg S w w' ∧ Grow S S' w w' := by
  obtain ⟨i, hi, hz0, hz1, hz2⟩ := info_parts hinfo
  obtain ⟨v', w', r, ho, hg, _⟩ := run_append_own_string (P := P) w 0 t u ty E i ht hu hi hz0 hz1 hz2 v n xs h.1 s (by unfold maxLen; omega) hb (Nat.zero_le _)
  have hc : Chg S w w' := ⟨hg.os, hg.tape, hg.output, hg.size, fun k hk hs => hg.block k hk (fun e => hs (h.2 k e.symm))⟩
  have hown' : OwnAt w' v' E (n + s.size) (xs ++ strCells s) (fun x => v'.ownBlock = some x) := ⟨ho, fun x e => e⟩
  have fin : (∀ x, v'.ownBlock = some x → S x ∨ w.heap.size ≤ x) → ∃ v' w' S', (Builtin.append_ #[t, u] ty #[v, .string s]).run P w = .ok v' w' ∧ OwnAt w' v' E (n + s.size) (xs ++ strCells s) S' ∧ Chg S w w' ∧ Grow S S' w w' := fun hx =>
    ⟨v', w', fun x => v'.ownBlock = some x, r, hown', hc, fun x e => (hx x e).imp id (fun q => ⟨q, hown'.lt x e⟩)⟩
  obtain ⟨⟨hl, hcase⟩, hS⟩ := h
  rcases hcase with ⟨rfl, rfl⟩ | ⟨g, cap, cur, rfl, hbg, hgk, hnc, hcm, hcs, htake⟩
  · obtain ⟨v2, w2, r2, ho2, _, _⟩ := run_append_own_string (P := P) w w.heap.size t u ty E i ht hu hi hz0 hz1 hz2 (.slice none 0 0) 0 xs ⟨hl, .inl ⟨rfl, rfl⟩⟩ s (by unfold maxLen; omega) hb (Nat.le_refl _)
    rw [r] at r2
    cases r2
    refine fin fun x e => .inr ?_
    obtain ⟨_, ⟨e2, _⟩ | ⟨g2, cap2, cur2, e2, hb2, _⟩⟩ := ho2
    · rw [e2] at e; cases e
    · rw [e2] at e; cases e; exact hb2
  · by_cases hroom : n + s.size ≤ cap
    · have hr := run_append_room_string (P := P) w t u ty E i ht hu hi hz1 g n cap cur hgk s hroom (by simp at hcs; omega)
      rw [r] at hr
      cases hr
      exact fin fun x e => .inl (hS x e)
    · have hxl : xs.length = n := by simpa using hl
      have holds : ∀ j u, xs[j]? = some u → w.cell? ((⟨g, 0, none⟩ : Addr).add j) = some u := World.ownsRow.cells (w := w) (base := 0) (e := E) (size := 1) (n := n) ⟨hl, .inr ⟨g, cap, cur, rfl, hbg, hgk, hnc, hcm, hcs, htake⟩⟩ (g := g) rfl
      have hr := run_append_grow_string (P := P) w t u ty E i (.int .u8 0) ht hu hi hz0 ⟨g, 0, none⟩ n cap xs (by rw [hz1]; simpa using hxl) holds s (by omega) (by omega) (by rw [hz2]; exact growslice_fits (by omega) (by omega))
      rw [r] at hr
      cases hr
      exact fin fun x e => by cases e; exact .inr (Nat.le_refl _)
theorem wpList_appendT {P : Program} {w : World} {ops : Array Oper} {rest : List Oper} {o : Oper} {a : Act} {Q : Exit → Act → World → Prop} (hg : o.guard = none) (s x : Operand) (T U : TypeId) (hop : o.op = .call { callee := .builtin .append, args := #[s, x], argTypes := #[T, U] })
    {E : TypeId} (ht : P.underlying T = some (.slice E)) (hu : P.underlying U = some .string) (hinfo : (P.info? E).map (fun i => (i.zero, i.size, i.bytes)) = some (some (.int .u8 0), 1, 1))
    {v : Value} (hv : a.eval s = v) {n : Nat} {xs : List Value} {S : Nat → Prop} (h : OwnAt w v E n xs S) (str : ByteArray) (hx : a.eval x = .string str) (hb : n + str.size ≤ 140737488355328)
    (hK : ∀ v' w' S', OwnAt w' v' E (n + str.size) (xs ++ strCells str) S' → Chg S w w' → Grow S S' w w' → wpList P ops Q rest (a.put o.dst v') w') : wpList P ops Q (o :: rest) a w := by
  refine wpList_plain hg fun K' hK' => ?_
  obtain ⟨v', w', S', r, h2, h3, h4⟩ := run_appendT (ty := o.type) ht hu hinfo h str hb
  unfold Oper.wp
  simp [execOp, hop, resolve, invoke, builtin, hv, hx, r, Result.andThen]
  exact hK' _ _ (hK v' w' S' h2 h3 h4)

def txtC (t : List UInt8) : List Value := t.map fun b => Value.int .u8 b.toNat
theorem txtC_len (t : List UInt8) : (txtC t).length = t.length := by simp [txtC]
theorem txtC_app (t : List UInt8) (s : ByteArray) : txtC t ++ strCells s = txtC (t ++ s.data.toList) := by simp [txtC, strCells]
/-- The writer at block b holds the text t. -/
def WrTx (w : World) (b : Nat) (t : List UInt8) (S : Nat → Prop) : Prop :=
  ∃ v T Ss, w.heap[b]? = some (.cells #[v] T (0, 0)) ∧ OwnAt w v 5 t.length (txtC t) Ss ∧ ¬ Ss b ∧ (∀ x, Ss x → S x) ∧ S b ∧ ∀ x, S x → x < w.heap.size
theorem WrTx.keep {w w' : World} {b : Nat} {t : List UInt8} {S U : Nat → Prop} (h : WrTx w b t S) (c : Chg U w w') (hd : ∀ x, S x → ¬ U x) : WrTx w' b t S := by
  obtain ⟨v, T, Ss, h1, h2, h3, h4, h5, h6⟩ := h
  exact ⟨v, T, Ss, c.keep h1 (hd b h5), h2.keep c (fun x hx => hd x (h4 x hx)), h3, h4, h5, fun x hx => Nat.lt_of_lt_of_le (h6 x hx) c.size⟩
def WrPost (S : Nat → Prop) (w : World) (b : Nat) (t : List UInt8) (w' : World) : Prop := Chg S w w' ∧ ∃ S', WrTx w' b t S' ∧ Grow S S' w w'
theorem wr_same {S : Nat → Prop} {w w' : World} {b : Nat} {t : List UInt8} (h : WrTx w b t S) (c : Chg Nil w w') : WrPost S w b t w' := ⟨c.nil, S, h.keep c (fun _ _ f => f), Grow.refl _ _ _⟩
def wPut (t : List UInt8) (s : ByteArray) : List UInt8 × Nat := if 4000 < t.length + s.size then (t, 9) else (t ++ s.data.toList, 0)

set_option maxHeartbeats 1000000 in
set_option maxRecDepth 100000 in
theorem put_any {B : Nat} (ad : Nat → Addr) (b : Nat) (s : ByteArray) (t : List UInt8) (S : Nat → Prop) (w : World) (he : Env B ad [9] w) (ht : WrTx w b t S) (h4 : t.length ≤ 4000) (hs : s.size ≤ 9223372036854000000) :
    Calls Tryd.prog 191 #[.pointer (some ⟨b, 0, none⟩), .string s] w fun e w' => e = .returned (errV ad (wPut t s).2) ∧ WrPost S w b (wPut t s).1 w' := by
  obtain ⟨q1, q1l⟩ := he.get (c := 9) (by simp)
  simp only [gl] at q1 q1l
  have HT := Lib.hid ht
  obtain ⟨v, T, Ss, h1, h2, h3, h5, h6, h7⟩ := ht
  obtain ⟨a, cap, rfl⟩ := h2.shape
  have e0 := cell_of h1 0
  have f0 := free_of h1 0
  have gb := lt_of_block h1
  simp at e0
  clear he
  unfold wPut
  by_cases hf : 4000 < t.length + s.size
  · rw [if_pos hf]
    have hw : IntKind.i64.wrap ((t.length : Int) + (s.size : Int)) = (t.length : Int) + (s.size : Int) := IntWalk.i64_in _ (by omega)
    have hfI : (4000 : Int) < (t.length : Int) + (s.size : Int) := by omega
    clear h1 h2
    go_enter Tryd.func191, Tryd.ntmps191
    go_wp2_with fail
    go_ret
    exact ⟨rfl, wr_same HT.out (Chg.refl _ _)⟩
  · rw [if_neg hf]
    have hw : IntKind.i64.wrap ((t.length : Int) + (s.size : Int)) = (t.length : Int) + (s.size : Int) := IntWalk.i64_in _ (by omega)
    have hfI : ¬ (4000 : Int) < (t.length : Int) + (s.size : Int) := by omega
    have H1 := Lib.hid h1
    have H2 := Lib.hid h2
    clear h1 h2
    go_enter Tryd.func191, Tryd.ntmps191
    go_wp2_with (at_builtin; go_loud (refine wpList_appendT rfl _ _ 246 9 rfl Tryd.underlying246 Tryd.underlying9 info_u8 rfl H2.out s rfl (by omega) ?_); intro v2 w2 S2 hs2 hc2 hg2; obtain ⟨a2, c2, rfl⟩ := hs2.shape; have hb2 := hc2.keep H1.out h3; have k2 := cell_of hb2 0; have p2 := free_of hb2 0; have g2 := lt_of_block hb2; simp at k2; have HB2 := Lib.hid hb2; clear hb2)
    go_ret
    rw [txtC_app] at hs2
    have hlen : t.length + s.size = (t ++ s.data.toList).length := by rw [List.length_append, Array.length_toList]; rfl
    have hs2' : OwnAt w2 (.slice a2 (t.length + s.size) c2) 5 (t ++ s.data.toList).length (txtC (t ++ s.data.toList)) S2 := by rw [← hlen]; exact hs2
    refine ⟨rfl, (hc2.mono (fun x _ h => h5 x h)).setCell (p := ⟨b, 0, none⟩) (.inr h6) _, fun x => S x ∨ S2 x, ?_, ?_⟩
    · have hS2b : ¬ S2 b := fun e => by rcases hg2 b e with h | h; exact h3 h; omega
      have cc := chg_at w2 b 0 (.slice a2 (t.length + s.size) c2)
      have hb3 := block_setCell HB2.out 0 (.slice a2 (t.length + s.size) c2)
      simp at hb3
      refine ⟨_, T, S2, hb3, hs2'.keep cc (fun x hx e => hS2b (e ▸ hx)), hS2b, fun x hx => .inr hx, .inl h6, fun x hx => ?_⟩
      have z2 := hc2.size
      have z3 := cc.size
      rcases hx with h | h
      · have := h7 x h; omega
      · rcases hg2 x h with h | h
        · have := h7 x (h5 x h); omega
        · omega
    · intro x hx
      have z3 := (chg_at w2 b 0 (.slice a2 (t.length + s.size) c2)).size
      rcases hx with h | h
      · exact .inl h
      · rcases hg2 x h with h | h
        · exact .inl (h5 x h)
        · exact .inr ⟨h.1, by omega⟩
end Go.Proofs.YtofhnglgebllbaaDoor
