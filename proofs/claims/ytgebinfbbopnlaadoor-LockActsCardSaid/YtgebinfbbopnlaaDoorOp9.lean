/- The operations' laws by what is owned: a slice compared with nil, an empty row, a whole slice appended. Over any program, no condition. -/
import Derived.Test.YtgebinfbbopnlaaDoorOp6
import Derived.Test.YtgebinfbbopnlaaDoorEqH
namespace Go.Proofs.YtgebinfbbopnlaaDoor
open Go.RowKit
set_option linter.unusedSectionVars false
set_option linter.unusedVariables false
set_option linter.unusedSimpArgs false
/-- Is it the zero slice? -/
def nilS : Value → Bool
  | .slice none _ _ => true
  | _ => false
section
variable {P : Program} {a : Act} {w w0 : World} {E : Ent} {L M : List Res} {K : Act → World → Prop} {Q : Exit → Act → World → Prop} {ops : Array Oper} {rest : List Oper}
variable {dst : Option Tmp} {x y : Operand} {T T2 ty : TypeId} {pos : String} {after : Array Edge} {g : Option (Nat × Bool)} {v : Value} {d k n : Nat} {xs : List Value}
theorem nil_shape {r : Res} (hr : SlRd r v n xs) (hf : r.fact w) : ∃ ad c, v = .slice ad n c := by
  obtain ⟨⟨ad, cap, e, _⟩, _⟩ := hr w hf
  exact ⟨ad, cap, e⟩
theorem equal_nil {el : TypeId} (hT : P.underlying T = some (.slice el)) (ad : Option Addr) (n c : Nat) (w : World) : (Op.equal T (.slice ad n c) (.slice none 0 0)).run P w = .ok (nilS (.slice ad n c)) w := by
  have key : ∀ m, (Op.equalIn (m + 1) T (.slice ad n c) (.slice none 0 0)).run P w = .ok (nilS (.slice ad n c)) w := fun m => by
    unfold Op.equalIn
    simp only [Sem.run_bind, run_underlying hT, Result.andThen_ok]
    cases ad <;> rfl
  exact key 9999
theorem g_eqnil {el : TypeId} {r : Res} (hx : (a.eval x, a.eval y, P.underlying T) = (v, .slice none 0 0, some (.slice el))) (hg : ∀ ad n c w, (eqGuard .eql T x y (.slice ad n c) (.slice none 0 0)).run P w = .ok () w) (i : Nat) (hi : L[i]? = some r) (hr : SlRd r v n xs) :
    Gives P w0 E L ⟨dst, .binOp .eql T x y T2, ty, pos, after, g⟩ a (.bool (nilS v)) := fun w ho => by
  simp only [Prod.mk.injEq] at hx
  obtain ⟨ad, c, e⟩ := nil_shape hr (ho.fact i hi)
  subst e
  have h3 : binOp .eql T (.slice ad n c) (.slice none 0 0) = (do pure (.bool (← Op.equal T (.slice ad n c) (.slice none 0 0)))) := rfl
  simp only [execOp, hx.1, hx.2.1, h3, Sem.run_bind, hg, equal_nil hx.2.2, Result.andThen_ok, Sem.run_pure]
theorem g_nenil {el : TypeId} {r : Res} (hx : (a.eval x, a.eval y, P.underlying T) = (v, .slice none 0 0, some (.slice el))) (hg : ∀ ad n c w, (eqGuard .neq T x y (.slice ad n c) (.slice none 0 0)).run P w = .ok () w) (i : Nat) (hi : L[i]? = some r) (hr : SlRd r v n xs) :
    Gives P w0 E L ⟨dst, .binOp .neq T x y T2, ty, pos, after, g⟩ a (.bool (!nilS v)) := fun w ho => by
  simp only [Prod.mk.injEq] at hx
  obtain ⟨ad, c, e⟩ := nil_shape hr (ho.fact i hi)
  subst e
  have h3 : binOp .neq T (.slice ad n c) (.slice none 0 0) = (do pure (.bool (!(← Op.equal T (.slice ad n c) (.slice none 0 0))))) := rfl
  simp only [execOp, hx.1, hx.2.1, h3, Sem.run_bind, hg, equal_nil hx.2.2, Result.andThen_ok, Sem.run_pure]
/-- The zero slice has no elements. -/
theorem Own.nilLen {α : Type} {wr : Bool} {enc : α → List Value} {l : List α} (h : Own w0 E L w) (i : Nat) (hi : L[i]? = some (rRows wr v d k enc l)) (hn : nilS v = true) : l = [] := by
  obtain ⟨_, ⟨_, h2⟩ | ⟨g, off, cap, cs, rfl, _⟩⟩ := (h.fact i hi : SliceAt _ _ _ _ _ _ _)
  · exact List.length_eq_zero_iff.1 h2
  · cases hn
theorem Own.nilLenA {α : Type} {enc : α → List Value} {l : List α} (h : Own w0 E L w) (i : Nat) (hi : L[i]? = some (rArg v k enc l)) (hn : nilS v = true) : l = [] := by
  obtain ⟨⟨ad, cap, e, _, _, had⟩, _⟩ := h.fact i hi
  rcases Nat.eq_zero_or_pos l.length with h0 | h0
  · exact List.length_eq_zero_iff.1 h0
  · rw [e, had 0 h0] at hn; cases hn
/-- A block of no cells as an empty row. -/
theorem Own.cellRows {α : Type} {b : Nat} {d : TypeId} (h : Own w0 E (rCell true b [] d :: M) w) (k : Nat) (enc : α → List Value) : Own w0 E (rRows true (.slice (some ⟨b, 0, none⟩) 0 0) d k enc [] :: M) w :=
  h.upd (i := 0) (r := rCell true b [] d) rfl rfl (Chg.refl _ _) ⟨by simp, .inr ⟨b, 0, 0, #[], rfl, h.fact 0 rfl, Nat.le_refl _, Nat.zero_le _, by simp, fun j u hj => by simp at hj, rfl⟩⟩ fun y hy => .inl hy
theorem addr_add0 (a : Addr) : a.add 0 = a := by
  obtain ⟨b, o, s⟩ := a
  unfold Addr.add
  split <;> simp_all
theorem subV_zero {k n m cap : Nat} {ad : Option Addr} : subV k (.slice ad n cap) 0 m = .slice ad m cap := by
  have e : ad.map (·.add (0 * k)) = ad := by
    cases ad with
    | none => rfl
    | some a => simp [addr_add0]
  show Value.slice (if cap = 0 then ad else ad.map (·.add (0 * k))) (m - 0) (cap - 0) = _
  rw [e]; simp
theorem op_appw {α : Type} {enc : α → List Value} {l l2 : List α} {s : Operand} {v2 : Value} {size : Nat} {d : TypeId} {r : Res}
    (hx : (a.eval s, a.eval x, P.underlying T, okInfo P d size) = (v, v2, some (.slice d), true)) (he : ∀ x, (enc x).length = size) (h1 : ∀ x, (enc x).all (·.oneCell') = true)
    (h : Own w0 E L w) (i : Nat) (hi' : L[i]? = some (rRows true v d size enc l)) (j : Nat) (hj : L[j]? = some r) (hr : SlRd r v2 l2.length (l2.flatMap enc)) (hb : l.length + l2.length < 100000000000)
    (hK : ∀ v' w', Own w0 E (L.set i (rRows true v' d size enc (l ++ l2))) w' → K (a.put dst v') w') : Oper.wp P ⟨dst, .call { callee := .builtin .append, args := #[s, x], argTypes := #[T, T] }, ty, pos, after, g⟩ a w K Q := by
  simp only [Prod.mk.injEq] at hx
  obtain ⟨hs, hx2, h3, h4'⟩ := hx
  rcases Nat.eq_zero_or_pos l2.length with h0 | h0
  · have hnil : l2 = [] := List.length_eq_zero_iff.1 h0
    subst hnil
    obtain ⟨z, bytes, h4, h5, hby, h8⟩ := okInfo_spec h4'
    obtain ⟨⟨ad, cap, e, _, _, _⟩, _⟩ := hr w (h.fact j hj)
    have hf : SliceAt w v d size l.length (l.flatMap enc) (blkOf v) := h.fact i hi'
    cases ad with
    | none =>
      obtain ⟨ii, hii, _⟩ := info_parts h4
      have hrun := run_append_none (ty := ty) (c := cap) h3 hii hf
      unfold Oper.wp
      subst e
      simp only [List.length_nil] at hx2
      simp [execOp, resolve, invoke, builtin, hs, hx2, hrun, Result.andThen, Oper.upon]
      refine hK v w ?_
      have e2 : L.set i (rRows true v d size enc (l ++ [])) = L := by
        rw [List.append_nil]
        apply List.ext_getElem?
        intro j
        rw [List.getElem?_set]
        split
        · subst_vars; split
          · exact hi'.symm
          · rename_i hh; rw [List.getElem?_eq_none (by omega)]
        · rfl
      rw [e2]; exact h
    | some q =>
      obtain ⟨v', w', S', hrun, hs', hc, hg⟩ := run_appendS (P := P) (ty := ty) (c := cap) h3 h4 h5 h8 hf (a := q) (m := 0) (news := []) (by simp) (fun jj u hu => by simp at hu) (fun u hu => by simp at hu) (by unfold maxLen; omega) (by
        have : (l.length + 0) * bytes ≤ 100000000000 * 1000 := Nat.mul_le_mul (by simp at hb; omega) hby
        omega)
      obtain ⟨hs1, hs2⟩ := hs'.own
      unfold Oper.wp
      subst e
      simp only [List.length_nil] at hx2
      simp [execOp, resolve, invoke, builtin, hs, hx2, hrun, Result.andThen, Oper.upon]
      refine hK _ _ (h.upd i hi' rfl hc ?_ (fun b hb => ?_))
      · show SliceAt w' v' d size (l ++ []).length ((l ++ []).flatMap enc) (blkOf v')
        rw [List.append_nil]; simpa using hs1
      · rcases hg b (hs2 b hb) with h | h
        · exact .inl h
        · exact .inr h.1
  · obtain ⟨⟨ad, cap, e, _, _, had⟩, _⟩ := hr w (h.fact j hj)
    have hv : subV size v2 0 l2.length = v2 := by
      rw [e]; exact subV_zero
    refine op_apps (l2 := l2) 0 l2.length (by rw [hs, hx2, h3, h4', hv]) he h1 (Nat.zero_le _) (Nat.le_refl _) h i hi' j hj hr (by omega) fun v' w' h' => hK v' w' ?_
    rw [List.take_length, List.drop_zero] at h'
    exact h'
theorem sq_appw {α : Type} {enc : α → List Value} {l l2 : List α} {s : Operand} {v2 : Value} {size : Nat} {d : TypeId} {r : Res} (hg : Region.wanted ⟨dst, .call { callee := .builtin .append, args := #[s, x], argTypes := #[T, T] }, ty, pos, after, g⟩ (yielded ops a.tmps) = true)
    (hx : (a.eval s, a.eval x, P.underlying T, okInfo P d size) = (v, v2, some (.slice d), true)) (he : ∀ x, (enc x).length = size) (h1 : ∀ x, (enc x).all (·.oneCell') = true)
    (h : Own w0 E L w) (i : Nat) (hi' : L[i]? = some (rRows true v d size enc l)) (j : Nat) (hj : L[j]? = some r) (hr : SlRd r v2 l2.length (l2.flatMap enc)) (hb : l.length + l2.length < 100000000000)
    (hK : ∀ v' w', Own w0 E (L.set i (rRows true v' d size enc (l ++ l2))) w' → LW P ops Q rest (a.put dst v') w') : LW P ops Q (⟨dst, .call { callee := .builtin .append, args := #[s, x], argTypes := #[T, T] }, ty, pos, after, g⟩ :: rest) a w :=
  ⟨sqg hg (op_appw hx he h1 h i hi' j hj hr hb fun v' w' h => (hK v' w' h).out)⟩
end
end Go.Proofs.YtgebinfbbopnlaaDoor
