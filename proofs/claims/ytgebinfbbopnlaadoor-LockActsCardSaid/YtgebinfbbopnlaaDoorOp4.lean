/- The operations' laws by what is owned: a part of a slice, a slice appended to a slice. Over any program, no condition. -/
import Derived.Test.YtgebinfbbopnlaaDoorArg
namespace Go.Proofs.YtgebinfbbopnlaaDoor
open Go.RowKit
set_option linter.unusedSectionVars false
set_option linter.unusedVariables false
set_option linter.unusedSimpArgs false

/-- v[lo:hi], each element k cells. -/
def subV (k : Nat) (v : Value) (lo hi : Nat) : Value := match v with
  | .slice a _ cap => .slice (if cap = lo then a else a.map (·.add (lo * k))) (hi - lo) (cap - lo)
  | v => v
/-- What a slice's value is, whoever owns it: n elements; the cells xs from its beginning on. -/
def SlRd (r : Res) (v : Value) (n : Nat) (xs : List Value) : Prop := ∀ w, r.fact w → (∃ ad cap, v = .slice ad n cap ∧ n ≤ cap ∧ cap ≤ 9223372036854775807 ∧ ∀ i, i < n → ad = some ⟨blkN v, offN v, none⟩) ∧ ∀ j u, xs[j]? = some u → w.cell? ⟨blkN v, offN v + j, none⟩ = some u
theorem slRd_sl {wr : Bool} {v : Value} {T k n : Nat} {xs : List Value} : SlRd (rSl wr v T k n xs) v n xs := fun w hf => by
  refine ⟨?_, fun j u hj => ?_⟩
  · obtain ⟨h1, ⟨rfl, h2⟩ | ⟨g, off, cap, cs, rfl, hb, h2, h3, h4, h5, _⟩⟩ := hf
    · exact ⟨none, 0, by rw [h2], by omega, by omega, fun i hi => by omega⟩
    · exact ⟨_, cap, rfl, h2, by unfold maxLen at h3; omega, fun _ _ => rfl⟩
  · have := rdSl (wr := wr) (v := v) (T := T) (k := k) (n := n) (xs := xs) 0 (vs := xs) (fun j u h => by rw [Nat.zero_add]; exact h) w hf j u hj
    simpa using this
theorem slRd_arg {α : Type} {v : Value} {k : Nat} {enc : α → List Value} {l : List α} (he : ∀ a, (enc a).length = k) (hk : 0 < k) : SlRd (rArg v k enc l) v l.length (l.flatMap enc) := fun w hf => by
  obtain ⟨⟨ad, cap, e, h2, h1, h3⟩, h4⟩ := hf
  refine ⟨⟨ad, cap, e, h1, h2, h3⟩, fun j u hj => ?_⟩
  have hjl := (List.getElem?_eq_some_iff.1 hj).1
  rw [flat_len enc he] at hjl
  have hi : j / k < l.length := Nat.div_lt_of_lt_mul (by rw [Nat.mul_comm]; exact hjl)
  obtain ⟨x, hx⟩ : ∃ x, l[j / k]? = some x := ⟨_, List.getElem?_eq_getElem hi⟩
  have hjm : j = j / k * k + j % k := by rw [Nat.mul_comm]; exact (Nat.div_add_mod j k).symm
  have := h4 (j / k) x hx (j % k) u (by rw [← flat_get enc he l (j / k) (j % k) x hx (Nat.mod_lt _ hk), ← hjm]; exact hj)
  rw [Nat.add_assoc, ← hjm] at this
  exact this
section
variable {P : Program} {a : Act} {w w0 : World} {E : Ent} {L M : List Res} {K : Act → World → Prop} {Q : Exit → Act → World → Prop} {ops : Array Oper} {rest : List Oper}
def boundOf (d : Int) : Option Value → Option Int
  | none => some d
  | some (.int _ i) => some i
  | _ => none
theorem bound_some {d : Int} {V : Option Value} {z : Int} (h : boundOf d V = some z) : (V = none ∧ z = d) ∨ ∃ k, V = some (.int k z) := by
  cases V with
  | none => exact .inl ⟨rfl, by simpa [boundOf] using h.symm⟩
  | some v => cases v <;> simp [boundOf] at h; subst h; exact .inr ⟨_, rfl⟩
theorem sliceBounds_run {LV HV : Option Value} {l h n cap : Nat} (hlo : boundOf 0 LV = some (l : Int)) (hhi : boundOf (n : Int) HV = some (h : Int)) (hlh : l ≤ h) (hn : h ≤ n) (hc : n ≤ cap) : (Instr.sliceBounds true n cap LV HV none).run P w = .ok (l, h, cap) w := by
  have e1 : (0 : Int) ≤ (l : Int) ∧ (l : Int) ≤ (h : Int) := by omega
  have e2 : (0 : Int) ≤ (h : Int) ∧ (h : Int) ≤ (cap : Int) := by omega
  have e3 : (l : Int).toNat = l := Int.toNat_natCast l
  have e4 : (h : Int).toNat = h := Int.toNat_natCast h
  have hhc : h ≤ cap := by omega
  rcases bound_some hlo with ⟨rfl, hl⟩ | ⟨kl, rfl⟩ <;> rcases bound_some hhi with ⟨rfl, hh⟩ | ⟨kh, rfl⟩
  · obtain rfl : l = 0 := by omega
    obtain rfl : h = n := by omega
    rfl
  · obtain rfl : l = 0 := by omega
    simp only [Instr.sliceBounds, Instr.sliceBound, asIntOf, Sem.run_bind, Sem.run_pure, Result.andThen_ok]
    simp [e2, hhc, hlh]
  · obtain rfl : h = n := by omega
    simp [Instr.sliceBounds, Instr.sliceBound, asIntOf, e1, hlh, hhc]
  · simp [Instr.sliceBounds, Instr.sliceBound, asIntOf, e1, e2, hlh, hhc]
/-- v[lo:hi]. -/
theorem g_sub {r : Res} {dst : Option Tmp} {T : TypeId} {x : Operand} {lo hi : Option Operand} {ty : TypeId} {pos : String} {after : Array Edge} {g : Option (Nat × Bool)} {v : Value} {n k : Nat} {xs : List Value} {d : TypeId} (l h : Nat)
    (hx : (a.eval x, P.underlying T, (P.info? d).map (·.size)) = (v, some (.slice d), some k)) (hlo : boundOf 0 (lo.map a.eval) = some (l : Int)) (hhi : boundOf (n : Int) (hi.map a.eval) = some (h : Int)) (hlh : l ≤ h) (hn : h ≤ n) (i : Nat) (hi' : L[i]? = some r) (hr : SlRd r v n xs) :
    Gives P w0 E L ⟨dst, .slice T x lo hi none, ty, pos, after, g⟩ a (subV k v l h) := fun w ho => by
  obtain ⟨h1, h3, h4⟩ : a.eval x = v ∧ P.underlying T = _ ∧ (P.info? d).map (·.size) = some k := by simpa using hx
  obtain ⟨⟨ad, cap, e, hc1, hc2, _⟩, _⟩ := hr w (ho.fact i hi')
  have hz := sizeOf_run (w := w) h4
  have hb := sliceBounds_run (P := P) (w := w) hlo hhi hlh hn hc1
  rw [e] at h1
  simp only [execOp, Instr.sliceAt, h1, Option.map_none, Sem.run_bind, run_underlying h3, Result.andThen_ok, Instr.slice, hb, hz, Sem.run_pure]
  rw [e]
  rfl
theorem bnd {d t : Int} {l : Nat} {k : IntKind} (h : t = (l : Int)) : boundOf d (some (.int k t)) = some (l : Int) := by subst h; rfl
theorem g_sub2 {r : Res} {dst : Option Tmp} {T : TypeId} {x : Operand} {lo hi : Option Operand} {ty : TypeId} {pos : String} {after : Array Edge} {g : Option (Nat × Bool)} {v : Value} {n k : Nat} {xs : List Value} {d : TypeId} {LV HV : Option Value} (l h : Nat)
    (hx : (a.eval x, P.underlying T, (P.info? d).map (·.size), lo.map a.eval, hi.map a.eval) = (v, some (.slice d), some k, LV, HV)) (hlo : boundOf 0 LV = some (l : Int)) (hhi : boundOf (n : Int) HV = some (h : Int)) (hlh : l ≤ h) (hn : h ≤ n) (i : Nat) (hi' : L[i]? = some r) (hr : SlRd r v n xs) :
    Gives P w0 E L ⟨dst, .slice T x lo hi none, ty, pos, after, g⟩ a (subV k v l h) := by
  simp only [Prod.mk.injEq] at hx
  obtain ⟨e1, e2, e3, e4, e5⟩ := hx
  exact g_sub l h (by rw [e1, e2, e3]) (by rw [e4]; exact hlo) (by rw [e5]; exact hhi) hlh hn i hi' hr
theorem flat_sub {α : Type} {enc : α → List Value} {k : Nat} (he : ∀ a, (enc a).length = k) {l : List α} {lo hi : Nat} (hlo : lo ≤ hi) (hhi : hi ≤ l.length) {j : Nat} {u : Value} (h : (((l.take hi).drop lo).flatMap enc)[j]? = some u) : (l.flatMap enc)[lo * k + j]? = some u := by
  have e1 : l = l.take lo ++ ((l.take hi).drop lo ++ l.drop hi) := by
    rw [← List.append_assoc, show l.take lo = (l.take hi).take lo by rw [List.take_take, Nat.min_eq_left hlo], List.take_append_drop, List.take_append_drop]
  have hl : ((l.take lo).flatMap enc).length = lo * k := by rw [flat_len enc he, List.length_take, Nat.min_eq_left (by omega)]
  have hj := (List.getElem?_eq_some_iff.1 h).1
  rw [e1, List.flatMap_append, List.flatMap_append, List.getElem?_append_right (by omega), hl, Nat.add_sub_cancel_left, List.getElem?_append_left hj]
  exact h
/-- append of nothing. -/
theorem run_append_none {T ty E : TypeId} {i : TypeInfo} (ht : P.underlying T = some (.slice E)) (hi : P.info? E = some i) {v : Value} {n c k : Nat} {xs : List Value} {S : Nat → Prop} (h : SliceAt w v E k n xs S) :
    (Builtin.append_ #[T, T] ty #[v, .slice none 0 c]).run P w = .ok v w := by
  obtain ⟨hlen, ⟨rfl, rfl⟩ | ⟨g, off, cap, cs, rfl, hbk, hnc, hcm, hoff, hcells, hS⟩⟩ := h
  · simp [Builtin.append_, run_underlying ht, sizeOf, typeInfo, hi, Builtin.lenOf, Builtin.firstCells]
  · simp [Builtin.append_, run_underlying ht, sizeOf, typeInfo, hi, Builtin.lenOf, Builtin.firstCells, hnc, storeCells]
theorem op_apps {α : Type} {enc : α → List Value} {l l2 : List α} {dst : Option Tmp} {T : TypeId} {s x : Operand} {ty : TypeId} {pos : String} {after : Array Edge} {g : Option (Nat × Bool)} {v v2 : Value} {size : Nat} {d : TypeId} {r : Res} (lo hi : Nat)
    (hx : (a.eval s, a.eval x, P.underlying T, okInfo P d size) = (v, subV size v2 lo hi, some (.slice d), true)) (he : ∀ x, (enc x).length = size) (h1 : ∀ x, (enc x).all (·.oneCell') = true) (hlo : lo ≤ hi) (hhi : hi ≤ l2.length)
    (h : Own w0 E L w) (i : Nat) (hi' : L[i]? = some (rRows true v d size enc l)) (j : Nat) (hj : L[j]? = some r) (hr : SlRd r v2 l2.length (l2.flatMap enc)) (hb : l.length + (hi - lo) < 100000000000)
    (hK : ∀ v' w', Own w0 E (L.set i (rRows true v' d size enc (l ++ (l2.take hi).drop lo))) w' → K (a.put dst v') w') : Oper.wp P ⟨dst, .call { callee := .builtin .append, args := #[s, x], argTypes := #[T, T] }, ty, pos, after, g⟩ a w K Q := by
  simp only [Prod.mk.injEq] at hx
  obtain ⟨hs, hx, h3, h4'⟩ := hx
  obtain ⟨z, bytes, h4, h5, hby, h8⟩ := okInfo_spec h4'
  obtain ⟨⟨ad, cap, rfl, hnc, hcm, had⟩, hcells⟩ := hr w (h.fact j hj)
  have hlen : ((l2.take hi).drop lo).length = hi - lo := by rw [List.length_drop, List.length_take]; omega
  have key : ∃ v' w' S', (Builtin.append_ #[T, T] ty #[v, a.eval x]).run P w = .ok v' w' ∧ SliceAt w' v' d size (l.length + (hi - lo)) (l.flatMap enc ++ ((l2.take hi).drop lo).flatMap enc) S' ∧ Chg (blkOf v) w w' ∧ Grow (blkOf v) S' w w' := by
    have hf : SliceAt w v d size l.length (l.flatMap enc) (blkOf v) := h.fact i hi'
    have go : ∀ (q : Addr) (c : Nat), a.eval x = .slice (some q) (hi - lo) c → (∀ jj u, (((l2.take hi).drop lo).flatMap enc)[jj]? = some u → w.cell? (q.add jj) = some u) → ∃ v' w' S', (Builtin.append_ #[T, T] ty #[v, a.eval x]).run P w = .ok v' w' ∧ SliceAt w' v' d size (l.length + (hi - lo)) (l.flatMap enc ++ ((l2.take hi).drop lo).flatMap enc) S' ∧ Chg (blkOf v) w w' ∧ Grow (blkOf v) S' w w' := fun q c e hq => by
      rw [e]
      refine run_appendS (P := P) (ty := ty) (c := c) h3 h4 h5 h8 hf (a := q) (m := hi - lo) (news := ((l2.take hi).drop lo).flatMap enc) (by rw [flat_len enc he, hlen]) hq (fun u hu => ?_) (by unfold maxLen; omega) ?_
      · obtain ⟨y, _, hy⟩ := List.mem_flatMap.1 hu
        exact List.all_eq_true.1 (h1 y) u hy
      · have : (l.length + (hi - lo)) * bytes ≤ 100000000000 * 1000 := Nat.mul_le_mul (by omega) hby
        omega
    by_cases h0 : hi - lo = 0
    · have hnil : (l2.take hi).drop lo = [] := List.length_eq_zero_iff.1 (by rw [hlen]; exact h0)
      cases hq : (if cap = lo then ad else ad.map (·.add (lo * size))) with
      | some q =>
        refine go q (cap - lo) (by rw [hx]; simp only [subV, hq]) (fun jj u hj => ?_)
        rw [hnil] at hj; simp at hj
      | none =>
        obtain ⟨ii, hii, _⟩ := info_parts h4
        refine ⟨v, w, blkOf v, ?_, ?_, Chg.refl _ _, Grow.refl _ _ _⟩
        · rw [hx]
          simp only [subV, hq, h0]
          exact run_append_none h3 hii hf
        · rw [hnil, h0]; simpa using hf
    · have hal := had 0 (by omega)
      refine go ⟨blkN (.slice ad l2.length cap), offN (.slice ad l2.length cap) + lo * size, none⟩ (cap - lo) ?_ (fun jj u hj => ?_)
      · rw [hx]
        simp only [subV]
        rw [if_neg (by omega)]
        conv => lhs; rw [hal]
        simp only [Option.map_some, Addr.add_lit]
      · rw [Addr.add_lit]
        have := hcells (lo * size + jj) u (flat_sub he hlo hhi hj)
        rw [← Nat.add_assoc] at this
        exact this
  obtain ⟨v', w', S', hrun, hs', hc, hg⟩ := key
  obtain ⟨hs1, hs2⟩ := hs'.own
  unfold Oper.wp
  simp [execOp, resolve, invoke, builtin, hs, hrun, Result.andThen, Oper.upon]
  refine hK _ _ (h.upd i hi' rfl hc ?_ (fun b hb => ?_))
  · show SliceAt w' v' d size (l ++ (l2.take hi).drop lo).length ((l ++ (l2.take hi).drop lo).flatMap enc) _
    rw [List.flatMap_append, List.length_append, hlen]
    exact hs1
  · rcases hg b (hs2 b hb) with h | h
    · exact .inl h
    · exact .inr h.1
variable {fuel : Nat}
theorem sq_apps {α : Type} {enc : α → List Value} {l l2 : List α} {dst : Option Tmp} {T : TypeId} {s x : Operand} {ty : TypeId} {pos : String} {after : Array Edge} {g : Option (Nat × Bool)} {v v2 : Value} {size : Nat} {d : TypeId} {r : Res} (hg : Region.wanted ⟨dst, .call { callee := .builtin .append, args := #[s, x], argTypes := #[T, T] }, ty, pos, after, g⟩ (yielded ops a.tmps) = true) (lo hi : Nat)
    (hx : (a.eval s, a.eval x, P.underlying T, okInfo P d size) = (v, subV size v2 lo hi, some (.slice d), true)) (he : ∀ x, (enc x).length = size) (h1 : ∀ x, (enc x).all (·.oneCell') = true) (hlo : lo ≤ hi) (hhi : hi ≤ l2.length)
    (h : Own w0 E L w) (i : Nat) (hi' : L[i]? = some (rRows true v d size enc l)) (j : Nat) (hj : L[j]? = some r) (hr : SlRd r v2 l2.length (l2.flatMap enc)) (hb : l.length + (hi - lo) < 100000000000)
    (hK : ∀ v' w', Own w0 E (L.set i (rRows true v' d size enc (l ++ (l2.take hi).drop lo))) w' → LW P ops Q rest (a.put dst v') w') : LW P ops Q (⟨dst, .call { callee := .builtin .append, args := #[s, x], argTypes := #[T, T] }, ty, pos, after, g⟩ :: rest) a w := ⟨sqg hg (op_apps lo hi hx he h1 hlo hhi h i hi' j hj hr hb fun v' w' h => (hK v' w' h).out)⟩
/-- The slice that a call owns, as it is read. -/
theorem slRd_rows {α : Type} {enc : α → List Value} {wr : Bool} {v : Value} {T k : Nat} {l : List α} : SlRd (rRows wr v T k enc l) v l.length (l.flatMap enc) := slRd_sl

/-! ### Two resources turned at once: a table's cell and its slice -/
theorem Own.turn2 {w' : World} {r s r' s' : Res} {M : List Res} (h : Own w0 E (r :: s :: M) w) (hr : r.wr = true) (hs : s.wr = true) (c : Chg (fun x => r.foot x ∨ s.foot x) w w') (f1 : r'.fact w') (f2 : s'.fact w') (d : ∀ x, r'.foot x → ¬ s'.foot x)
    (g1 : ∀ x, r'.foot x → (r.foot x ∨ s.foot x) ∨ w.heap.size ≤ x) (g2 : ∀ x, s'.foot x → (r.foot x ∨ s.foot x) ∨ w.heap.size ≤ x) : Own w0 E (r' :: s' :: M) w' := by
  have he : ∀ t x, r.foot x ∨ s.foot x → entOf [r, s] t x := fun t x hx => by
    rcases hx with hx | hx
    · exact ⟨r, by simp, hx, fun _ => hr⟩
    · exact ⟨s, by simp, hx, fun _ => hs⟩
  refine Own.unfocus (L := [r, s]) (L' := [r', s']) (M := M) h ⟨c.mono fun x _ hx => he _ x hx, fun b ⟨q, h1, h2, _⟩ => ⟨q, h1, h2, fun e => by cases e⟩, ?_, ?_, ?_⟩
  · intro q hq
    simp only [List.mem_cons, List.mem_nil_iff, or_false] at hq
    rcases hq with rfl | rfl
    · exact f1
    · exact f2
  · refine List.pairwise_cons.2 ⟨fun q hq _ x hx hy => ?_, List.pairwise_singleton _ _⟩
    rw [List.mem_singleton.1 hq] at hy
    exact d x hx hy
  · intro q hq x hx
    simp only [List.mem_cons, List.mem_nil_iff, or_false] at hq
    rcases hq with rfl | rfl
    · exact (g1 x hx).imp (he _ x) id
    · exact (g2 x hx).imp (he _ x) id
end
end Go.Proofs.YtgebinfbbopnlaaDoor
