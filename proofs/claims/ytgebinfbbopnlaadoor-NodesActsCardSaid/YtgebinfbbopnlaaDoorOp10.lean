/- The operations' laws by what is owned: parts of one slice: a part of a part, a part cleared, a part appended to another part of the same slice, a slice cut to its beginning. Over any program, no condition. -/
import Derived.Test.YtgebinfbbopnlaaDoorOp9
import Derived.Test.YtgebinfbbopnlaaDoorClear
namespace Go.Proofs.YtgebinfbbopnlaaDoor
open Go.RowKit
set_option linter.unusedSectionVars false
set_option linter.unusedVariables false
set_option linter.unusedSimpArgs false
/-- Elements are stored over elements. -/
theorem SliceAt.setRows {α : Type} {enc : α → List Value} {k : Nat} (he : ∀ a, (enc a).length = k) {w : World} {g off cap E n : Nat} {l : List α} {S : Nat → Prop} (h : SliceAt w (.slice (some ⟨g, off, none⟩) n cap) E k n (l.flatMap enc) S) (hl : n = l.length) (lo : Nat) (news : List α) (hn : lo + news.length ≤ l.length) :
    SliceAt (w.setCells g (off + lo * k) (news.flatMap enc)) (.slice (some ⟨g, off, none⟩) n cap) E k n ((l.take lo ++ (news ++ l.drop (lo + news.length))).flatMap enc) S := by
  subst hl
  obtain ⟨h1, ⟨e, _⟩ | ⟨g', off', cap', cs, e, hb, h2, h3, h4, h5, h6⟩⟩ := h
  · cases e
  cases e
  obtain ⟨cs', e1, e2, e3, e4⟩ := block_setCells (news.flatMap enc) (off + lo * k) w cs hb
  have hnl : (news.flatMap enc).length = news.length * k := flat_len enc he news
  have htl : ((l.take lo).flatMap enc).length = lo * k := by rw [flat_len enc he, List.length_take, Nat.min_eq_left (by omega)]
  have hck : l.length * k ≤ cap * k := Nat.mul_le_mul_right _ h2
  have hlk : (lo + news.length) * k ≤ l.length * k := Nat.mul_le_mul_right _ hn
  rw [Nat.add_mul] at hlk
  have hlen : (l.take lo ++ (news ++ l.drop (lo + news.length))).length = l.length := by simp; omega
  refine ⟨by rw [flat_len enc he, hlen], .inr ⟨g, off, cap, cs', rfl, e1, h2, h3, by rw [e2]; exact h4, fun j u hj => ?_, h6⟩⟩
  have hjl := (List.getElem?_eq_some_iff.1 hj).1
  rw [flat_len enc he, hlen] at hjl
  have split3 : l.flatMap enc = (l.take lo).flatMap enc ++ (((l.drop lo).take news.length).flatMap enc ++ (l.drop (lo + news.length)).flatMap enc) := by
    rw [← List.flatMap_append, ← List.flatMap_append, ← List.drop_drop, List.take_append_drop, List.take_append_drop]
  have hml : (((l.drop lo).take news.length).flatMap enc).length = news.length * k := by rw [flat_len enc he, List.length_take, List.length_drop, Nat.min_eq_left (by omega)]
  rw [List.flatMap_append, List.flatMap_append, List.getElem?_append, htl] at hj
  by_cases c1 : j < lo * k
  · rw [if_pos c1] at hj
    rw [e4 _ (.inl (by omega))]
    refine h5 j u ?_
    rw [split3, List.getElem?_append, htl, if_pos c1]; exact hj
  · rw [if_neg c1, List.getElem?_append, hnl] at hj
    by_cases c2 : j - lo * k < news.length * k
    · rw [if_pos c2] at hj
      rw [show off + j = off + lo * k + (j - lo * k) by omega, e3 _ (by rw [hnl]; exact c2) (by omega)]
      exact hj
    · rw [if_neg c2] at hj
      rw [e4 _ (.inr (by rw [hnl]; omega))]
      refine h5 j u ?_
      rw [split3, List.getElem?_append, htl, if_neg c1, List.getElem?_append, hml, if_neg c2]; exact hj
theorem zeros_flat {α : Type} {enc : α → List Value} {z : Array Value} {zr : α} (hz : z.toList = enc zr) (h0 : 0 < z.size) (m : Nat) : (Builtin.zeroCells z m).toList = (List.replicate m zr).flatMap enc := by
  have hlen : (enc zr).length = z.size := by rw [← hz]; simp
  apply List.ext_getElem?
  intro j
  have hl1 : (Builtin.zeroCells z m).toList.length = m * z.size := zeroCells_len z m
  have hl2 : ((List.replicate m zr).flatMap enc).length = m * z.size := by
    clear hl1
    induction m with
    | zero => simp
    | succ m ih => rw [List.replicate_succ, List.flatMap_cons, List.length_append, ih, hlen, Nat.add_mul, Nat.one_mul, Nat.add_comm]
  by_cases hj : j < m * z.size
  · have hq : j / z.size < m := Nat.div_lt_of_lt_mul (by rw [Nat.mul_comm]; exact hj)
    have hr : j % z.size < z.size := Nat.mod_lt _ h0
    have e1 : (Builtin.zeroCells z m).toList[j]? = z.toList[j % z.size]? := by
      simp only [Builtin.zeroCells, Array.toList_map, List.getElem?_map, Array.toList_range, List.getElem?_range hj, Option.map_some]
      rw [getElem!_pos z _ hr, Array.getElem?_toList, Array.getElem?_eq_getElem hr]
    have e2 : ∀ (m q r : Nat), q < m → r < z.size → ((List.replicate m zr).flatMap enc)[q * z.size + r]? = (enc zr)[r]? := by
      intro m
      induction m with
      | zero => intro q r h; omega
      | succ m ih =>
        intro q r hq hr
        rw [List.replicate_succ, List.flatMap_cons]
        cases q with
        | zero => rw [Nat.zero_mul, Nat.zero_add, List.getElem?_append_left (by rw [hlen]; exact hr)]
        | succ q =>
          rw [List.getElem?_append_right (by rw [hlen, Nat.add_mul]; omega), hlen, show (q + 1) * z.size + r - z.size = q * z.size + r by rw [Nat.add_mul]; omega]
          exact ih q r (by omega) hr
    have e3 := e2 m (j / z.size) (j % z.size) hq hr
    rw [show j / z.size * z.size + j % z.size = j by rw [Nat.mul_comm]; exact Nat.div_add_mod j z.size] at e3
    rw [e1, e3, hz]
  · rw [List.getElem?_eq_none (by omega), List.getElem?_eq_none (by omega)]
section
variable {P : Program} {a : Act} {w w0 : World} {E : Ent} {L M : List Res} {K : Act → World → Prop} {Q : Exit → Act → World → Prop} {ops : Array Oper} {rest : List Oper}
variable {dst : Option Tmp} {x y : Operand} {T T2 ty : TypeId} {pos : String} {after : Array Edge} {g : Option (Nat × Bool)} {v : Value} {d k n : Nat} {xs : List Value}
variable {α : Type} {enc : α → List Value} {l : List α}
theorem sliceBounds_run2 {LV HV : Option Value} {l h n cap : Nat} (hlo : boundOf 0 LV = some (l : Int)) (hhi : boundOf (n : Int) HV = some (h : Int)) (hlh : l ≤ h) (hc : h ≤ cap) : (Instr.sliceBounds true n cap LV HV none).run P w = .ok (l, h, cap) w := by
  have e1 : (0 : Int) ≤ (l : Int) ∧ (l : Int) ≤ (h : Int) := by omega
  have e2 : (0 : Int) ≤ (h : Int) ∧ (h : Int) ≤ (cap : Int) := by omega
  have e3 : (l : Int).toNat = l := Int.toNat_natCast l
  have e4 : (h : Int).toNat = h := Int.toNat_natCast h
  rcases bound_some hlo with ⟨rfl, hl⟩ | ⟨kl, rfl⟩ <;> rcases bound_some hhi with ⟨rfl, hh⟩ | ⟨kh, rfl⟩
  · obtain rfl : l = 0 := by omega
    obtain rfl : h = n := by omega
    simp [Instr.sliceBounds, hc]
  · obtain rfl : l = 0 := by omega
    simp only [Instr.sliceBounds, Instr.sliceBound, asIntOf, Sem.run_bind, Sem.run_pure, Result.andThen_ok]
    simp [e2, hc, hlh]
  · obtain rfl : h = n := by omega
    simp [Instr.sliceBounds, Instr.sliceBound, asIntOf, e1, hlh, hc]
  · simp [Instr.sliceBounds, Instr.sliceBound, asIntOf, e1, e2, hlh, hc]
/-- A part of the beginning of a slice, perhaps beyond that beginning. -/
theorem g_sub0 {r : Res} {lo hi : Option Operand} {LV HV : Option Value} (m l h : Nat)
    (hx : (a.eval x, P.underlying T, (P.info? d).map (·.size), lo.map a.eval, hi.map a.eval) = (subV k v 0 m, some (.slice d), some k, LV, HV)) (hlo : boundOf 0 LV = some (l : Int)) (hhi : boundOf (m : Int) HV = some (h : Int)) (hlh : l ≤ h) (hn : h ≤ n) (i : Nat) (hi' : L[i]? = some r) (hr : SlRd r v n xs) :
    Gives P w0 E L ⟨dst, .slice T x lo hi none, ty, pos, after, g⟩ a (subV k v l h) := fun w ho => by
  simp only [Prod.mk.injEq] at hx
  obtain ⟨h1, h3, h4, e4, e5⟩ := hx
  obtain ⟨⟨ad, cap, e, hc1, hc2, _⟩, _⟩ := hr w (ho.fact i hi')
  have hz := sizeOf_run (w := w) h4
  have hb := sliceBounds_run2 (P := P) (w := w) (cap := cap) hlo hhi hlh (by omega)
  rw [e, subV_zero] at h1
  simp only [execOp, Instr.sliceAt, h1, e4, e5, Option.map_none, Sem.run_bind, run_underlying h3, Result.andThen_ok, Instr.slice, hb, hz, Sem.run_pure]
  rw [e]
  rfl
/-- v[l:h:m]. -/
def sub3V (k : Nat) (v : Value) (lo hi mx : Nat) : Value := match v with
  | .slice a _ _ => .slice (if mx = lo then a else a.map (·.add (lo * k))) (hi - lo) (mx - lo)
  | v => v
theorem g_sub3 {r : Res} {lo hi mx : Option Operand} {zl zh zm : Int} (l h m : Nat)
    (hx : (a.eval x, P.underlying T, (P.info? d).map (·.size), lo.map a.eval, hi.map a.eval, mx.map a.eval) = (v, some (.slice d), some k, some (.int .i64 zl), some (.int .i64 zh), some (.int .i64 zm))) (hl : zl = (l : Int)) (hh : zh = (h : Int)) (hm : zm = (m : Int)) (hlh : l ≤ h) (hhm : h ≤ m) (hn : m ≤ n) (i : Nat) (hi' : L[i]? = some r) (hr : SlRd r v n xs) :
    Gives P w0 E L ⟨dst, .slice T x lo hi mx, ty, pos, after, g⟩ a (sub3V k v l h m) := fun w ho => by
  subst hl hh hm
  simp only [Prod.mk.injEq] at hx
  obtain ⟨h1, h3, h4, e4, e5, e6⟩ := hx
  obtain ⟨⟨ad, cap, e, hc1, hc2, _⟩, _⟩ := hr w (ho.fact i hi')
  have hz := sizeOf_run (w := w) h4
  have q1 : (0 : Int) ≤ (l : Int) ∧ (l : Int) ≤ (h : Int) := by omega
  have q2 : (0 : Int) ≤ (h : Int) ∧ (h : Int) ≤ (m : Int) := by omega
  have q3 : (0 : Int) ≤ (m : Int) ∧ (m : Int) ≤ (cap : Int) := by omega
  have hb : (Instr.sliceBounds true n cap (some (.int .i64 l)) (some (.int .i64 h)) (some (.int .i64 m))).run P w = .ok (l, h, m) w := by
    have q2' : h ≤ m := hhm
    have q3' : m ≤ cap := by omega
    simp [Instr.sliceBounds, Instr.sliceBound, asIntOf, q1, q2, q3, hlh, q2', q3']
  rw [e] at h1
  simp only [execOp, Instr.sliceAt, h1, e4, e5, e6, Sem.run_bind, run_underlying h3, Result.andThen_ok, Instr.slice, hb, hz, Sem.run_pure]
  rw [e]
  rfl
/-- len of the beginning of a slice. -/
theorem g_len0 {r : Res} {m : Nat} (hx : (a.eval x, P.underlying T) = (subV k v 0 m, some (.slice d))) (i : Nat) (hi : L[i]? = some r) (hr : SlRd r v n xs) :
    Gives P w0 E L ⟨dst, .call { callee := .builtin .len, args := #[x], argTypes := #[T] }, ty, pos, after, g⟩ a (.int .i64 m) := fun w h => by
  simp only [Prod.mk.injEq] at hx
  obtain ⟨h1, h2⟩ := hx
  obtain ⟨⟨ad, cap, e, _⟩, _⟩ := hr w (h.fact i hi)
  rw [e, subV_zero] at h1
  simp [execOp, resolve, invoke, builtin, Builtin.len_, h1, Sem.run_bind, run_underlying h2, goInt]
theorem rows_place {w : World} (h : (rRows true v d k enc l).fact w) (hn : 0 < l.length) : ∃ g off cap cs, v = .slice (some ⟨g, off, none⟩) l.length cap ∧ w.heap[g]? = some (.cells cs d (0, 0)) ∧ l.length ≤ cap ∧ off + cap * k ≤ cs.size ∧ ∀ j u, (l.flatMap enc)[j]? = some u → cs[off + j]? = some u := by
  obtain ⟨_, ⟨_, h2⟩ | ⟨g, off, cap, cs, rfl, hb, h2, h3, h4, h5, _⟩⟩ := (h : SliceAt _ _ _ _ _ _ _)
  · have h2' : l.length = 0 := h2
    omega
  · exact ⟨g, off, cap, cs, rfl, hb, h2, h4, h5⟩
/-- A part is cleared. -/
theorem op_clear {size lo hi : Nat} {z : Value} (zr : α) (hx : (a.eval x, P.underlying T) = (subV size v lo hi, some (.slice d))) (hv : ∀ w, (zeroValue d).run P w = .ok z w) (hz : z.cells.toList = enc zr) (he : ∀ x, (enc x).length = size) (hs : 0 < size) (h1 : (enc zr).all (·.oneCell') = true) (hlt : lo < hi) (hhi : hi ≤ l.length)
    (h : Own w0 E L w) (i : Nat) (hi' : L[i]? = some (rRows true v d size enc l)) (hK : ∀ w', Own w0 E (L.set i (rRows true v d size enc (l.take lo ++ (List.replicate (hi - lo) zr ++ l.drop hi)))) w' → K (a.put dst (.tuple #[])) w') :
    Oper.wp P ⟨dst, .call { callee := .builtin .clear, args := #[x], argTypes := #[T] }, ty, pos, after, g⟩ a w K Q := by
  simp only [Prod.mk.injEq] at hx
  have hf : SliceAt w v d size l.length (l.flatMap enc) (blkOf v) := h.fact i hi'
  obtain ⟨b, off, cap, cs, rfl, hb, hcap, hoff, _⟩ := rows_place (h.fact i hi') (by omega)
  have hzs : z.cells.size = size := by rw [← he zr, ← hz]; simp
  have hlc : (lo + (hi - lo)) * size ≤ cap * size := Nat.mul_le_mul_right _ (by omega)
  rw [Nat.add_mul] at hlc
  have hrun := run_clearK (P := P) w T d ty z hx.2 hv (fun u hu => by rw [hz] at hu; exact List.all_eq_true.1 h1 u hu) (b := b) (o := off + lo * size) (n := hi - lo) (c := cap - lo) hb (by omega) (by rw [hzs]; omega)
  rw [zeros_flat hz (by omega)] at hrun
  have hval : a.eval x = .slice (some ⟨b, off + lo * size, none⟩) (hi - lo) (cap - lo) := by
    rw [hx.1]; simp [subV, show cap ≠ lo by omega, Addr.add_lit]
  unfold Oper.wp
  simp [execOp, resolve, invoke, builtin, hval, hrun, Result.andThen, Oper.upon]
  refine hK _ (h.upd i hi' rfl (chg_setCells _ _ _) ?_ (fun y hy => .inl hy))
  have hS := hf.setRows he rfl lo (List.replicate (hi - lo) zr) (by simp; omega)
  rw [List.length_replicate, show lo + (hi - lo) = hi by omega] at hS
  show SliceAt _ _ d size (l.take lo ++ (List.replicate (hi - lo) zr ++ l.drop hi)).length _ _
  rw [show (l.take lo ++ (List.replicate (hi - lo) zr ++ l.drop hi)).length = l.length by simp; omega]
  exact hS
/-- append(s[:i], s[j:]...). -/
theorem op_self {size lo hi : Nat} {s : Operand} (hx : (a.eval s, a.eval x, P.underlying T, okInfo P d size) = (subV size v 0 lo, subV size v hi l.length, some (.slice d), true)) (he : ∀ x, (enc x).length = size) (h1 : ∀ x, (enc x).all (·.oneCell') = true) (hlt : lo ≤ hi) (hhi : hi ≤ l.length) (hn : 0 < l.length)
    (h : Own w0 E L w) (i : Nat) (hi' : L[i]? = some (rRows true v d size enc l)) (hK : ∀ w', Own w0 E (L.set i (rRows true v d size enc (l.take lo ++ (l.drop hi ++ l.drop (lo + (l.length - hi)))))) w' → K (a.put dst (subV size v 0 (lo + (l.length - hi)))) w') :
    Oper.wp P ⟨dst, .call { callee := .builtin .append, args := #[s, x], argTypes := #[T, T] }, ty, pos, after, g⟩ a w K Q := by
  simp only [Prod.mk.injEq] at hx
  obtain ⟨hs, hx, h3, h4'⟩ := hx
  obtain ⟨z, bytes, h4, h5, hby, h8⟩ := okInfo_spec h4'
  obtain ⟨ii, hii, _, hsz, _⟩ := info_parts h4
  have hf : SliceAt w v d size l.length (l.flatMap enc) (blkOf v) := h.fact i hi'
  obtain ⟨b, off, cap, cs, rfl, hb, hcap, hoff, hcell⟩ := rows_place (h.fact i hi') hn
  rw [subV_zero] at hs
  have hdl : (l.drop hi).length = l.length - hi := List.length_drop
  have hnl : ((l.drop hi).flatMap enc).length = (l.length - hi) * size := by rw [flat_len enc he, hdl]
  obtain ⟨A, hA, hsrc⟩ : ∃ A : Addr, (if cap = hi then some (⟨b, off, none⟩ : Addr) else some (⟨b, off + hi * size, none⟩ : Addr)) = some A ∧ ∀ t u, ((l.drop hi).flatMap enc)[t]? = some u → w.cell? (A.add t) = some u := by
    by_cases hc : cap = hi
    · refine ⟨⟨b, off, none⟩, by simp [hc], fun t u hu => ?_⟩
      have := (List.getElem?_eq_some_iff.1 hu).1
      rw [hnl, show l.length - hi = 0 by omega, Nat.zero_mul] at this
      omega
    · refine ⟨⟨b, off + hi * size, none⟩, by simp [hc], fun t u hu => ?_⟩
      rw [Addr.add_lit, cell_of hb, Nat.add_assoc]
      refine hcell _ u ?_
      have e : l.flatMap enc = (l.take hi).flatMap enc ++ (l.drop hi).flatMap enc := by rw [← List.flatMap_append, List.take_append_drop]
      have tl : ((l.take hi).flatMap enc).length = hi * size := by rw [flat_len enc he, List.length_take, Nat.min_eq_left hhi]
      rw [e, List.getElem?_append_right (by omega), tl, Nat.add_sub_cancel_left]; exact hu
  have hval : a.eval x = .slice (some A) (l.length - hi) (cap - hi) := by
    rw [hx, ← hA]
    show Value.slice (if cap = hi then some (⟨b, off, none⟩ : Addr) else (some (⟨b, off, none⟩ : Addr)).map (·.add (hi * size))) (l.length - hi) (cap - hi) = _
    simp only [Option.map_some, Addr.add_lit]
  have hlc : (lo + (l.length - hi)) * size ≤ cap * size := Nat.mul_le_mul_right _ (by omega)
  rw [Nat.add_mul] at hlc
  have hrun := run_append_room_cells (P := P) w T ty d ii h3 hii b off lo cap A (l.length - hi) (cap - hi) ((l.drop hi).flatMap enc) (by rw [hsz]; exact hnl) hsrc (fun u hu => by
      obtain ⟨y, _, hy⟩ := List.mem_flatMap.1 hu
      exact List.all_eq_true.1 (h1 y) u hy) (by omega) (fun j hj => by rw [hsz, cell_of hb]; rw [hnl] at hj; simp; omega) (fun j hj => free_of hb _)
  rw [hsz] at hrun
  unfold Oper.wp
  simp [execOp, resolve, invoke, builtin, hs, hval, hrun, Result.andThen, Oper.upon]
  have hS := hf.setRows he rfl lo (l.drop hi) (by rw [hdl]; omega)
  rw [hdl] at hS
  have hF : (rRows true (.slice (some ⟨b, off, none⟩) l.length cap) d size enc (l.take lo ++ (l.drop hi ++ l.drop (lo + (l.length - hi))))).fact (w.setCells b (off + lo * size) ((l.drop hi).flatMap enc)) := by
    show SliceAt _ _ d size (l.take lo ++ (l.drop hi ++ l.drop (lo + (l.length - hi)))).length _ _
    rw [show (l.take lo ++ (l.drop hi ++ l.drop (lo + (l.length - hi)))).length = l.length by simp; omega]
    exact hS
  have := hK _ (h.upd i hi' rfl (chg_setCells _ _ _) hF (fun y hy => .inl hy))
  rw [subV_zero] at this
  exact this
/-- A slice cut to its beginning. -/
theorem Own.cut {m : Nat} (he : ∀ x, (enc x).length = k) (h : Own w0 E L w) (i : Nat) (hi' : L[i]? = some (rRows true v d k enc l)) (hm : m ≤ l.length) : Own w0 E (L.set i (rRows true (subV k v 0 m) d k enc (l.take m))) w := by
  have hf : SliceAt w v d k l.length (l.flatMap enc) (blkOf v) := h.fact i hi'
  have hb : blkOf (subV k v 0 m) = blkOf v := by
    obtain ⟨ad, cap, rfl⟩ := hf.shape
    rw [subV_zero]
    cases ad <;> rfl
  refine h.upd i hi' rfl (Chg.refl _ _) ?_ (fun y hy => .inl (show blkOf v y from hb ▸ hy))
  show SliceAt w (subV k v 0 m) d k (l.take m).length ((l.take m).flatMap enc) (blkOf (subV k v 0 m))
  rw [hb]
  have hl : (l.take m).length = m := by rw [List.length_take, Nat.min_eq_left hm]
  obtain ⟨e, ⟨rfl, h2⟩ | ⟨g, off, cap, cs, rfl, hbk, h2, h3, h4, h5, h6⟩⟩ := hf
  · have h2' : l.length = 0 := h2
    obtain rfl : m = 0 := by omega
    rw [subV_zero]
    exact ⟨by simp, .inl ⟨rfl, by simp⟩⟩
  · rw [subV_zero, hl]
    refine ⟨by rw [flat_len enc he, hl], .inr ⟨g, off, cap, cs, rfl, hbk, by omega, h3, h4, fun j u hj => h5 j u ?_, h6⟩⟩
    have e5 : l.flatMap enc = (l.take m).flatMap enc ++ (l.drop m).flatMap enc := by rw [← List.flatMap_append, List.take_append_drop]
    rw [e5, List.getElem?_append_left (List.getElem?_eq_some_iff.1 hj).1]; exact hj
theorem sq_clear {size lo hi : Nat} {z : Value} (zr : α) (hg : Region.wanted ⟨dst, .call { callee := .builtin .clear, args := #[x], argTypes := #[T] }, ty, pos, after, g⟩ (yielded ops a.tmps) = true) (hx : (a.eval x, P.underlying T) = (subV size v lo hi, some (.slice d))) (hv : ∀ w, (zeroValue d).run P w = .ok z w) (hz : z.cells.toList = enc zr) (he : ∀ x, (enc x).length = size) (hs : Nat.ble 1 size = true) (h1 : (enc zr).all (·.oneCell') = true) (hlt : lo < hi) (hhi : hi ≤ l.length)
    (h : Own w0 E L w) (i : Nat) (hi' : L[i]? = some (rRows true v d size enc l)) (hK : ∀ w', Own w0 E (L.set i (rRows true v d size enc (l.take lo ++ (List.replicate (hi - lo) zr ++ l.drop hi)))) w' → LW P ops Q rest (a.put dst (.tuple #[])) w') :
    LW P ops Q (⟨dst, .call { callee := .builtin .clear, args := #[x], argTypes := #[T] }, ty, pos, after, g⟩ :: rest) a w := ⟨sqg hg (op_clear zr hx hv hz he (Nat.le_of_ble_eq_true hs) h1 hlt hhi h i hi' fun w' h => (hK w' h).out)⟩
theorem sq_self {size lo hi : Nat} {s : Operand} (hg : Region.wanted ⟨dst, .call { callee := .builtin .append, args := #[s, x], argTypes := #[T, T] }, ty, pos, after, g⟩ (yielded ops a.tmps) = true) (hx : (a.eval s, a.eval x, P.underlying T, okInfo P d size) = (subV size v 0 lo, subV size v hi l.length, some (.slice d), true)) (he : ∀ x, (enc x).length = size) (h1 : ∀ x, (enc x).all (·.oneCell') = true) (hlt : lo ≤ hi) (hhi : hi ≤ l.length) (hn : 0 < l.length)
    (h : Own w0 E L w) (i : Nat) (hi' : L[i]? = some (rRows true v d size enc l)) (hK : ∀ w', Own w0 E (L.set i (rRows true v d size enc (l.take lo ++ (l.drop hi ++ l.drop (lo + (l.length - hi)))))) w' → LW P ops Q rest (a.put dst (subV size v 0 (lo + (l.length - hi)))) w') :
    LW P ops Q (⟨dst, .call { callee := .builtin .append, args := #[s, x], argTypes := #[T, T] }, ty, pos, after, g⟩ :: rest) a w := ⟨sqg hg (op_self hx he h1 hlt hhi hn h i hi' fun w' h => (hK w' h).out)⟩
variable {br : Nat → Bool} {fuel i0 : Nat} {listed : Array Bool} {is : List Nat}
theorem ad_self {size lo hi : Nat} {s : Operand} (js : List Nat) (hi0 : ops[i0]? = some ⟨dst, .call { callee := .builtin .append, args := #[s, x], argTypes := #[T, T] }, ty, pos, after, g⟩) (hb : (br i0, Region.wanted ⟨dst, .call { callee := .builtin .append, args := #[s, x], argTypes := #[T, T] }, ty, pos, after, g⟩ (yielded ops a.tmps)) = (false, true))
    (hx : (a.eval s, a.eval x, P.underlying T, okInfo P d size) = (subV size v 0 lo, subV size v hi l.length, some (.slice d), true)) (he : ∀ x, (enc x).length = size) (h1 : ∀ x, (enc x).all (·.oneCell') = true) (hlt : lo ≤ hi) (hhi : hi ≤ l.length) (hn : 0 < l.length)
    (h : Own w0 E M w) (i : Nat) (hi' : M[i]? = some (rRows true v d size enc l))
    (hK : ∀ w', Own w0 E (M.set i (rRows true v d size enc (l.take lo ++ (l.drop hi ++ l.drop (lo + (l.length - hi)))))) w' → pk js (M.set i (rRows true v d size enc (l.take lo ++ (l.drop hi ++ l.drop (lo + (l.length - hi)))))) = L ∧ DW P ops Q w0 E br fuel (listed.setIfInBounds i0 true) L (a.put dst (subV size v 0 (lo + (l.length - hi)))) w')
    (hs : AllD P ops Q w0 E br fuel listed L a w is) : AllD P ops Q w0 E br fuel listed L a w (i0 :: is) := by
  simp only [Prod.mk.injEq] at hb
  exact ⟨AllO.cons hi0 hb.1 hb.2 (op_self hx he h1 hlt hhi hn h i hi' fun w' h' => ⟨h'.sub js (hK w' h').1, (hK w' h').2.out⟩) hs.out⟩
end
end Go.Proofs.YtgebinfbbopnlaaDoor
