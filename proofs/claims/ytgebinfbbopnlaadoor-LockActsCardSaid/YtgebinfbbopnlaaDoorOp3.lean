/- A region that draws its order, by what is owned. Over any program, no condition. -/
import Derived.Test.YtgebinfbbopnlaaDoorOp2
namespace Go.Proofs.YtgebinfbbopnlaaDoor
open Go.RowKit
set_option linter.unusedSectionVars false
set_option linter.unusedVariables false
set_option linter.unusedSimpArgs false

/-- What follows a panic does not hang on the frame's temporaries. -/
def QP (Q : Exit → Act → World → Prop) : Prop := ∀ c a d v w, Q (.panic c) (Act.put a d v) w → Q (.panic c) a w
section
variable {P : Program} {a : Act} {w w0 : World} {E : Ent} {L : List Res} {K : Act → World → Prop} {Q : Exit → Act → World → Prop} {ops : Array Oper} {br br' : Nat → Bool} {fuel : Nat} {listed : Array Bool}
theorem qp_thn {y : Code} (h : QP Q) : QP (Thn P y Q) := fun c a d v w hq => h c a d v w hq
theorem qp_blk {id : Nat} (h : QP Q) : QP (Exit.inBlock id Q) := fun c a d v w hq => h c a d v w hq
theorem qp_mid {M : Act → World → Prop} (h : QP Q) : QP (Mid M Q) := fun c a d v w hq => h c a d v w hq
theorem qp_rnd {X : Type} {A : X → Act} {R : X → List Res} {G : X → Prop} {μ : X → Nat} {x : X} (h : QP Q) : QP (Rnd w0 E A R G μ x Q) := fun c a d v w hq => h c a d v w hq
theorem qp_body {fn : Func} {R : Ending → World → Prop} : QP (bodyPost P fn R) := fun c a d v w hq => by
  refine ⟨?_, hq.2⟩
  have := hq.1
  cases d <;> exact this
theorem Own.sub {M : List Res} (h : Own w0 E M w) (js : List Nat) (e : pk js M = L) : Own w0 E L w := e ▸ h.pick js
theorem d_start {M : List Res} {id : Nat} {l : List Oper} (n : Nat) (js : List Nat) (hn : (l.toArray.size, P.follows .mixedOrders) = (n, true)) (h : Own w0 E M w) (hK : ∀ w', Own w0 E M w' → DW P l.toArray Q w0 E (Nat.testBit 0) n (Array.replicate n false) (pk js M) a w') : CW P (.region id l.toArray true) Q a w := by
  simp only [Prod.mk.injEq] at hn
  obtain ⟨rfl, hm⟩ := hn
  exact ⟨wp_region_any hm (wpAny_of_O _ _ _ _ _ (hK _ h.drew).out)⟩
theorem d_take {M : List Res} (i c : Nat) (js : List Nat) {oi : Oper} (hi : ops[i]? = some oi) {v : Value} (ht : (Region.noSelect ops && takeO .any ops br listed i c) = true) (hQ : QP Q) (hy : YieldsIf P ops (Own w0 E L) oi v a) (h : Own w0 E M w) (e : pk js M = L)
    (hK : DW P ops Q w0 E br fuel (listed.setIfInBounds i true) L (a.put oi.dst v) w) : DW P ops Q w0 E br (fuel + 1) listed L a w := by
  rw [Bool.and_eq_true] at ht
  exact ⟨wpAnyO_take i c hi ht.1 ht.2 (fun c a w h => hQ c a _ _ w h) hy (h.sub js e) hK.out⟩
theorem d_done (hr : Region.ready .any ops listed = []) (h : Q .normal a w) : DW P ops Q w0 E br fuel listed L a w := ⟨wpAnyO_done hr h fuel⟩
/-- More is held from here on. -/
theorem d_more (L' : List Res) (ks : List Nat) (e : pk ks L' = L) (h : DW P ops Q w0 E br fuel listed L' a w) : DW P ops Q w0 E br fuel listed L a w := ⟨wpAnyO_mono (fun w h => e ▸ h.pick ks) fuel listed a w h.out⟩
structure AllD (P : Program) (ops : Array Oper) (Q : Exit → Act → World → Prop) (w0 : World) (E : Ent) (br : Nat → Bool) (fuel : Nat) (listed : Array Bool) (L : List Res) (a : Act) (w : World) (is : List Nat) : Prop where
  out : AllO P .any ops Q w0 E br fuel listed L a w is
theorem d_ready (is : List Nat) (hr : Region.ready .any ops listed = is) (hne : is.isEmpty = false) (h : AllD P ops Q w0 E br fuel listed L a w is) : DW P ops Q w0 E br (fuel + 1) listed L a w := ⟨wpAnyO_ready is hr (fun e => by rw [e] at hne; cases hne) h.out⟩
theorem ad_nil : AllD P ops Q w0 E br fuel listed L a w [] := ⟨AllO.nil⟩
variable {M : List Res} {i : Nat} {is : List Nat}
/-- It makes a block. -/
theorem ad_new {o : Oper} (js : List Nat) (hi : ops[i]? = some o) (hb : (br i, Region.wanted o (yielded ops a.tmps)) = (false, true)) (mk : Nat → Value) (cs : List Value) (T : TypeId) (hrun : ∀ w, (execOp a.eval o).run P w = .ok (.value (mk w.heap.size)) (w.alloc (.cells cs.toArray T)))
    (h : Own w0 E M w) (hK : ∀ b w', Own w0 E (rCell true b cs T :: M) w' → pk js (rCell true b cs T :: M) = L ∧ DW P ops Q w0 E br fuel (listed.setIfInBounds i true) L (a.put o.dst (mk b)) w') (hs : AllD P ops Q w0 E br fuel listed L a w is) : AllD P ops Q w0 E br fuel listed L a w (i :: is) := by
  simp only [Prod.mk.injEq] at hb
  exact ⟨AllO.cons hi hb.1 hb.2 (op_new mk cs T hrun h fun b w' h' => ⟨h'.sub js (hK b w' h').1, (hK b w' h').2.out⟩) hs.out⟩
/-- It yields what it yields where M is owned. -/
theorem ad_q {o : Oper} {v : Value} (js : List Nat) (hi : ops[i]? = some o) (hb : (br i, Region.wanted o (yielded ops a.tmps)) = (false, true)) (hv : Gives P w0 E M o a v) (h : Own w0 E M w) (e : pk js M = L)
    (hK : DW P ops Q w0 E br fuel (listed.setIfInBounds i true) L (a.put o.dst v) w) (hs : AllD P ops Q w0 E br fuel listed L a w is) : AllD P ops Q w0 E br fuel listed L a w (i :: is) := by
  simp only [Prod.mk.injEq] at hb
  exact ⟨AllO.cons hi hb.1 hb.2 (by unfold Oper.wp; rw [hv w h]; exact ⟨h.sub js e, hK.out⟩) hs.out⟩
/-- A call. -/
theorem ad_call {o : Oper} {f : FuncId} (args : Array Value) (us : List Nat) (js : List Nat) {Φ : Value → List Res → Prop} (hi : ops[i]? = some o) (hb : (br i, Region.wanted o (yielded ops a.tmps)) = (false, true)) (hsp : Spec P f args (pk us M) Φ) (hrun : ∀ w, (execOp a.eval o).run P w = .ok (.enter f args) w)
    (h : Own w0 E M w) (hK : ∀ v Lp w', Φ v Lp → Own w0 E (Lp ++ rs us M) w' → pk js (Lp ++ rs us M) = L ∧ DW P ops Q w0 E br fuel (listed.setIfInBounds i true) L (a.put o.dst v) w') (hs : AllD P ops Q w0 E br fuel listed L a w is) : AllD P ops Q w0 E br fuel listed L a w (i :: is) := by
  simp only [Prod.mk.injEq] at hb
  exact ⟨AllO.cons hi hb.1 hb.2 (op_call us hsp hrun h fun v Lp w' hΦ h' => ⟨h'.sub js (hK v Lp w' hΦ h').1, (hK v Lp w' hΦ h').2.out⟩) hs.out⟩
/-- A store. -/
theorem ad_st {dst : Option Tmp} {T : TypeId} {x y : Operand} {ty : TypeId} {pos : String} {after : Array Edge} {g : Option (Nat × Bool)} {b : Nat} (js : List Nat) (hi : ops[i]? = some ⟨dst, .store T x y, ty, pos, after, g⟩) (hb : (br i, Region.wanted ⟨dst, .store T x y, ty, pos, after, g⟩ (yielded ops a.tmps)) = (false, true)) (off : Nat) (vs cs' : List Value) {cs : List Value} {T' : TypeId} (h : Own w0 E M w) (j : Nat) (hj : M[j]? = some (rCell true b cs T'))
    (hx : (a.eval x, (a.eval y).cells, (P.info? T).map (·.size), Nat.ble (off + vs.length) cs.length, vs.all (·.oneCell'), cs.take off ++ (vs ++ cs.drop (off + vs.length))) = (.pointer (some ⟨b, off, none⟩), vs.toArray, some vs.length, true, true, cs'))
    (hK : ∀ w', Own w0 E (M.set j (rCell true b cs' T')) w' → pk js (M.set j (rCell true b cs' T')) = L ∧ DW P ops Q w0 E br fuel (listed.setIfInBounds i true) L (a.put dst undef) w') (hs : AllD P ops Q w0 E br fuel listed L a w is) : AllD P ops Q w0 E br fuel listed L a w (i :: is) := by
  simp only [Prod.mk.injEq] at hb
  exact ⟨AllO.cons hi hb.1 hb.2 (op_st off vs cs' h j hj hx fun w' h' => ⟨h'.sub js (hK w' h').1, (hK w' h').2.out⟩) hs.out⟩
theorem ad_sto {dst : Option Tmp} {T : TypeId} {x y : Operand} {ty : TypeId} {pos : String} {after : Array Edge} {g : Option (Nat × Bool)} {b : Nat} {v : Value} (js : List Nat) (hi : ops[i]? = some ⟨dst, .store T x y, ty, pos, after, g⟩) (hb : (br i, Region.wanted ⟨dst, .store T x y, ty, pos, after, g⟩ (yielded ops a.tmps)) = (false, true)) (hv : OneV v) (off : Nat) (cs' : List Value) {cs : List Value} {T' : TypeId} (h : Own w0 E M w) (j : Nat) (hj : M[j]? = some (rCell true b cs T'))
    (hx : (a.eval x, a.eval y, (P.info? T).map (·.size), Nat.ble (off + 1) cs.length, cs.take off ++ (v :: cs.drop (off + 1))) = (.pointer (some ⟨b, off, none⟩), v, some 1, true, cs'))
    (hK : ∀ w', Own w0 E (M.set j (rCell true b cs' T')) w' → pk js (M.set j (rCell true b cs' T')) = L ∧ DW P ops Q w0 E br fuel (listed.setIfInBounds i true) L (a.put dst undef) w') (hs : AllD P ops Q w0 E br fuel listed L a w is) : AllD P ops Q w0 E br fuel listed L a w (i :: is) := by
  simp only [Prod.mk.injEq] at hb
  exact ⟨AllO.cons hi hb.1 hb.2 (op_sto hv off cs' h j hj hx fun w' h' => ⟨h'.sub js (hK w' h').1, (hK w' h').2.out⟩) hs.out⟩
theorem ad_str {dst : Option Tmp} {T : TypeId} {x y : Operand} {ty : TypeId} {pos : String} {after : Array Edge} {g : Option (Nat × Bool)} {b : Nat} (js : List Nat) (hi : ops[i]? = some ⟨dst, .store T x y, ty, pos, after, g⟩) (hb : (br i, Region.wanted ⟨dst, .store T x y, ty, pos, after, g⟩ (yielded ops a.tmps)) = (false, true)) (off : Nat) (vs : List Value) {r r' : Res} (h : Own w0 E M w) (j : Nat) (hj : M[j]? = some r)
    (hx : (a.eval x, (a.eval y).cells, (P.info? T).map (·.size), vs.all (·.oneCell')) = (.pointer (some ⟨b, off, none⟩), vs.toArray, some vs.length, true)) (hr : WrAt r b off vs r')
    (hK : ∀ w', Own w0 E (M.set j r') w' → pk js (M.set j r') = L ∧ DW P ops Q w0 E br fuel (listed.setIfInBounds i true) L (a.put dst undef) w') (hs : AllD P ops Q w0 E br fuel listed L a w is) : AllD P ops Q w0 E br fuel listed L a w (i :: is) := by
  simp only [Prod.mk.injEq] at hb
  exact ⟨AllO.cons hi hb.1 hb.2 (op_str off vs h j hj hx hr fun w' h' => ⟨h'.sub js (hK w' h').1, (hK w' h').2.out⟩) hs.out⟩
/-- One element is appended. -/
theorem ad_app {α : Type} {enc : α → List Value} {l : List α} {dst : Option Tmp} {T : TypeId} {s x : Operand} {ty : TypeId} {pos : String} {after : Array Edge} {g : Option (Nat × Bool)} {v : Value} {b o size : Nat} {d : TypeId} {r : Res} (js : List Nat) (hi : ops[i]? = some ⟨dst, .call { callee := .builtin .append, args := #[s, x], argTypes := #[T, T] }, ty, pos, after, g⟩) (hb : (br i, Region.wanted ⟨dst, .call { callee := .builtin .append, args := #[s, x], argTypes := #[T, T] }, ty, pos, after, g⟩ (yielded ops a.tmps)) = (false, true)) (c : Nat) (e : α)
    (hx : (a.eval s, a.eval x, P.underlying T, okInfo P d size, (enc e).length, (enc e).all (·.oneCell')) = (v, .slice (some ⟨b, o, none⟩) 1 c, some (.slice d), true, size, true))
    (h : Own w0 E M w) (j : Nat) (hj : M[j]? = some (rRows true v d size enc l)) (k : Nat) (hk : M[k]? = some r) (hr : RdAt r b o (enc e)) (hlen : l.length < 100000000000)
    (hK : ∀ v' w', Own w0 E (M.set j (rRows true v' d size enc (l ++ [e]))) w' → pk js (M.set j (rRows true v' d size enc (l ++ [e]))) = L ∧ DW P ops Q w0 E br fuel (listed.setIfInBounds i true) L (a.put dst v') w') (hs : AllD P ops Q w0 E br fuel listed L a w is) : AllD P ops Q w0 E br fuel listed L a w (i :: is) := by
  simp only [Prod.mk.injEq] at hb
  exact ⟨AllO.cons hi hb.1 hb.2 (op_app c e hx h j hj k hk hr hlen fun v' w' h' => ⟨h'.sub js (hK v' w' h').1, (hK v' w' h').2.out⟩) hs.out⟩
end
end Go.Proofs.YtgebinfbbopnlaaDoor
