/- Lemmas: part 3. -/
import Derived.Test.YtemnibnlgimpkaaGreatDoorF2
import Derived.LaidEql
import Derived.Stop.Asserts
import Derived.RowKitTokens
import Derived.Lib.SliceRun
import Derived.Laws.IdiomCopy
set_option linter.all false
set_option maxRecDepth 100000
set_option maxHeartbeats 20000000
namespace Go.Proofs.YtemnibnlgimpkaaGreatDoor
open Go.RowKit
section
/- errors.As and errors.Is at the errors of package api, and at an api.Fault, by contracts; after the guide's worked Toyas and Sentry. -/
open Go.RowKit Go.Extern.Stop Go.Stop Go.Extern

/-- errors.As(nil, target). -/
theorem as_nil (t : Value) (w : World) :
    Calls Tryz.prog 47 #[.nilIface, t] w fun e w' => e = .returned (.bool false) ∧ w' = w := by
  go_enter Tryz.func47, Tryz.ntmps47
  go_wp2
  go_ret
  exact ⟨rfl, rfl⟩

/-! ### CLOSED FACTS ON THE MODEL's ENTRIES FOR internal/reflectlite, at this program's types: 25: *p.E · 27: **p.E · 23: error · 45: reflectlite's rtype · 1: how many package-level variables the dump has -/
theorem fa_valueOf27 (t : Addr) (w : World) : (ReflectliteValue.unpack (.iface 101 (.pointer (some t)))).run Tryz.prog w
    = .ok (.agg #[.pointer (some ⟨24, 101, none⟩), .pointer (some ⟨w.heap.size, 0, none⟩), .int .u64 150]) (w.alloc (.cells #[.pointer (some t)] 101)) := by kernel_rfl
theorem fa_type27 (a : Addr) (w : World) : (ReflectliteValue.methodAny (ReflectliteValue.valueError "reflectlite.Value.Type" 0) (fun t _ _ _ => ReflectliteType.toType t) #[.agg #[.pointer (some ⟨24, 101, none⟩), .pointer (some a), .int .u64 150]]).run Tryz.prog w
    = .ok (.iface 148 (.agg #[.pointer (some ⟨24, 101, none⟩)])) w := by kernel_rfl
theorem fa_methodKind (h : Value) (w : World) : (Go.method 321 148 (.agg #[h]) "Kind").run Tryz.prog w = .ok (123, h) w := by kernel_rfl
theorem fa_kind27 (w : World) : ((ReflectliteType.abiMethod fun t => (fun a : Nat => Value.int IntKind.u8 (a : Int)) <$> Rtype.kind t) #[.pointer (some ⟨24, 101, none⟩)]).run Tryz.prog w = .ok (.int .u8 22) w := by kernel_rfl
theorem fa_kind25 (w : World) : ((ReflectliteType.abiMethod fun t => (fun a : Nat => Value.int IntKind.u8 (a : Int)) <$> Rtype.kind t) #[.pointer (some ⟨24, 99, none⟩)]).run Tryz.prog w = .ok (.int .u8 22) w := by kernel_rfl

/-! ### THE ENTRIES THAT READ OR WRITE MEMORY: laws with a premise on the cell (after Derived/Lib/ReflectliteSlice.lean's manner: each unfolding a lemma of its own, by rfl) -/
theorem rlm (z : Sem Value) (f : TypeId → Addr → Nat → Nat → Sem Value) (v : Value) :
    ReflectliteValue.method z f #[v] = (do match ← ReflectliteValue.parts v with | none => z | some (t, a, fl) => f t a fl (fl % 32)) := rfl
theorem fa_parts27 (a : Addr) (w : World) : (ReflectliteValue.parts (.agg #[.pointer (some ⟨24, 101, none⟩), .pointer (some a), .int .u64 150])).run Tryz.prog w = .ok (some (101, a, 150)) w := by kernel_rfl
/-- (Value).IsNil at the Value of a **p.E that is not nil. -/
theorem fa_isNil27 (a p : Addr) (W : World) (ha : W.cell? a = some (.pointer (some p))) :
    (ReflectliteValue.method (ReflectliteValue.valueError "reflectlite.Value.IsNil" 0) ReflectliteValue.isNil #[.agg #[.pointer (some ⟨24, 101, none⟩), .pointer (some a), .int .u64 150]]).run Tryz.prog W = .ok (.bool false) W := by
  rw [rlm]
  simp only [Sem.run_bind, fa_parts27, Result.andThen]
  simp [ReflectliteValue.isNil, loadVar, isAgg, underlying, Tryz.underlying101, ha, Result.andThen]

theorem fa_methodElem (h : Value) (w : World) : (Go.method 321 148 (.agg #[h]) "Elem").run Tryz.prog w = .ok (138, .agg #[h]) w := by kernel_rfl
theorem fa_methodImplements (h : Value) (w : World) : (Go.method 321 148 (.agg #[h]) "Implements").run Tryz.prog w = .ok (139, .agg #[h]) w := by kernel_rfl
theorem fa_methodAssignableTo (h : Value) (w : World) : (Go.method 321 148 (.agg #[h]) "AssignableTo").run Tryz.prog w = .ok (136, .agg #[h]) w := by kernel_rfl
theorem fa_elem27 (w : World) : (ReflectliteType.method ReflectliteType.elem #[.agg #[.pointer (some ⟨24, 101, none⟩)]]).run Tryz.prog w = .ok (.iface 148 (.agg #[.pointer (some ⟨24, 99, none⟩)])) w := by kernel_rfl
theorem fa_implements25 (w : World) : (ReflectliteType.relation "Implements" ReflectliteType.implements_ #[.agg #[.pointer (some ⟨24, 99, none⟩)], .iface 148 (.agg #[.pointer (some ⟨24, 27, none⟩)])]).run Tryz.prog w = .ok (.bool true) w := by kernel_rfl
theorem fa_typeOf25 (v : Value) (w : World) : (ReflectliteType.typeOf #[.iface 99 v]).run Tryz.prog w = .ok (.iface 148 (.agg #[.pointer (some ⟨24, 99, none⟩)])) w := by kernel_rfl
theorem fa_assignable25 (w : World) : (ReflectliteType.relation "AssignableTo" ReflectliteType.assignableTo #[.agg #[.pointer (some ⟨24, 99, none⟩)], .iface 148 (.agg #[.pointer (some ⟨24, 99, none⟩)])]).run Tryz.prog w = .ok (.bool true) w := by kernel_rfl
theorem fa_valueOf25 (e : Addr) (w : World) : (ReflectliteValue.unpack (.iface 99 (.pointer (some e)))).run Tryz.prog w
    = .ok (.agg #[.pointer (some ⟨24, 99, none⟩), .pointer (some ⟨w.heap.size, 0, none⟩), .int .u64 150]) (w.alloc (.cells #[.pointer (some e)] 99)) := by kernel_rfl

theorem fa_elemOf27 (w : World) : (Rtype.elem? 101).run Tryz.prog w = .ok (some 99) w := by kernel_rfl
theorem fa_mk25 (p : Addr) (w : World) : (ReflectliteValue.mk 99 p ReflectliteValue.flagAddr).run Tryz.prog w = .ok (.agg #[.pointer (some ⟨24, 99, none⟩), .pointer (some p), .int .u64 406]) w := by kernel_rfl
/-- (Value).Elem at the Value of a **p.E that is not nil: the Value of the *p.E variable that it points to, addressable. -/
theorem fa_elemV27 (a p : Addr) (W : World) (ha : W.cell? a = some (.pointer (some p))) :
    (ReflectliteValue.method (ReflectliteValue.valueError "reflectlite.Value.Elem" 0) ReflectliteValue.elem #[.agg #[.pointer (some ⟨24, 101, none⟩), .pointer (some a), .int .u64 150]]).run Tryz.prog W
      = .ok (.agg #[.pointer (some ⟨24, 99, none⟩), .pointer (some p), .int .u64 406]) W := by
  rw [rlm]
  simp only [Sem.run_bind, fa_parts27, Result.andThen]
  simp [ReflectliteValue.elem, loadVar, isAgg, underlying, Tryz.underlying101, ha, Result.andThen, fa_elemOf27, fa_mk25]
theorem rls (v x : Value) : ReflectliteValue.set #[v, x] = (do
    let (some (dst, a, fl), some (src, b, _)) := (← ReflectliteValue.parts v, ← ReflectliteValue.parts x)
      | unsupported (.noEntry "extern/(internal/reflectlite.Value).Set.zeroValue")
    if fl / ReflectliteValue.flagAddr % 2 == 0 then unsupported (.noEntry "extern/(internal/reflectlite.Value).Set.unaddressable")
    let val ← loadVar src b
    if ← Rtype.directlyAssignable dst src then storeVar dst a val
    else if ← Rtype.implements dst src then
      if (← Rtype.kind src) == 20 then
        match val with
        | .nilIface => unsupported (.noEntry "extern/reflectlite: a nil value of one interface type handed on as a value of another")
        | _ => storeVar dst a val
      else storeVar dst a (.iface src val)
    else panicString ("reflectlite.Set: value of type " ++ (← Rtype.spelt src) ++ " is not assignable to type " ++ (← Rtype.spelt dst))
    pure (.tuple #[])) := rfl
theorem fa_parts25a (a : Addr) (w : World) : (ReflectliteValue.parts (.agg #[.pointer (some ⟨24, 99, none⟩), .pointer (some a), .int .u64 406])).run Tryz.prog w = .ok (some (99, a, 406)) w := by kernel_rfl
theorem fa_parts25 (a : Addr) (w : World) : (ReflectliteValue.parts (.agg #[.pointer (some ⟨24, 99, none⟩), .pointer (some a), .int .u64 150])).run Tryz.prog w = .ok (some (99, a, 150)) w := by kernel_rfl
theorem fa_direct25 (w : World) : (Rtype.directlyAssignable 99 99).run Tryz.prog w = .ok true w := by kernel_rfl
theorem fa_size25 (w : World) : (sizeOf 99).run Tryz.prog w = .ok 1 w := by kernel_rfl
/-- (Value).Set: the *p.E variable at 'ta' gets what the Value's own variable 'b' holds. -/
theorem fa_set25 (ta b e : Addr) (old : Value) (W : World) (hb : W.cell? b = some (.pointer (some e))) (ht : W.cell? ta = some old) (hf : W.frozen? ta = false) :
    (ReflectliteValue.set #[.agg #[.pointer (some ⟨24, 99, none⟩), .pointer (some ta), .int .u64 406], .agg #[.pointer (some ⟨24, 99, none⟩), .pointer (some b), .int .u64 150]]).run Tryz.prog W
      = .ok (.tuple #[]) (W.setCell ta (.pointer (some e))) := by
  rw [rls]
  simp only [Sem.run_bind, fa_parts25a, fa_parts25, Result.andThen]
  simp [ReflectliteValue.flagAddr, loadVar, isAgg, underlying, Tryz.underlying99, hb, Result.andThen, fa_direct25, storeVar, Value.cells, storeCells, Addr.add]
  rw [run_store Tryz.prog W ta _ _ (by rfl)]
  simp [ht, hf]

theorem fa_typeOfE (v : Value) (w : World) : (ReflectliteType.typeOf #[.iface 171 v]).run Tryz.prog w = .ok (.iface 148 (.agg #[.pointer (some ⟨24, 171, none⟩)])) w := by kernel_rfl
theorem fa_assignableE (w : World) : (ReflectliteType.relation "AssignableTo" ReflectliteType.assignableTo #[.agg #[.pointer (some ⟨24, 171, none⟩)], .iface 148 (.agg #[.pointer (some ⟨24, 99, none⟩)])]).run Tryz.prog w = .ok (.bool false) w := by kernel_rfl
theorem fa_noAsE (v : Value) (xT : TypeId) (w : World) : (Instr.typeAssert (.iface 171 v) xT 152 true).run Tryz.prog w = .ok (.tuple #[.nilIface, .bool false]) w := run_typeAssert_lacksB Tryz.underlying152 (by kernel_rfl) (by kernel_rfl) v xT w
theorem fa_noIsE (v : Value) (xT : TypeId) (w : World) : (Instr.typeAssert (.iface 171 v) xT 158 true).run Tryz.prog w = .ok (.tuple #[.nilIface, .bool false]) w := run_typeAssert_lacksB Tryz.underlying158 (by kernel_rfl) (by kernel_rfl) v xT w
theorem fa_noUnwrapE (v : Value) (xT : TypeId) (w : World) : (Instr.typeAssert (.iface 171 v) xT 155 true).run Tryz.prog w = .ok (.tuple #[.nilIface, .bool false]) w := run_typeAssert_lacksB Tryz.underlying155 (by kernel_rfl) (by kernel_rfl) v xT w
theorem fa_noUnwrapsE (v : Value) (xT : TypeId) (w : World) : (Instr.typeAssert (.iface 171 v) xT 156 true).run Tryz.prog w = .ok (.tuple #[.nilIface, .bool false]) w := run_typeAssert_lacksB Tryz.underlying156 (by kernel_rfl) (by kernel_rfl) v xT w
theorem fa_noIsF (v : Value) (xT : TypeId) (w : World) : (Instr.typeAssert (.iface 99 v) xT 158 true).run Tryz.prog w = .ok (.tuple #[.nilIface, .bool false]) w := run_typeAssert_lacksB Tryz.underlying158 (by kernel_rfl) (by kernel_rfl) v xT w
theorem fa_hasUnwrapF (v : Value) (xT : TypeId) (w : World) : (Instr.typeAssert (.iface 99 v) xT 155 true).run Tryz.prog w = .ok (.tuple #[.iface 99 v, .bool true]) w := run_typeAssert_hasB Tryz.underlying155 (by kernel_rfl) v xT w
theorem fa_methodUnwrap (v : Value) (w : World) : (Go.method 321 99 v "Unwrap").run Tryz.prog w = .ok (128, v) w := by kernel_rfl
theorem fa_callTypeOf (v : Value) (w : World) : (callFunc 67 #[.iface 171 v]).run Tryz.prog w = .ok (.value (.iface 148 (.agg #[.pointer (some ⟨24, 171, none⟩)]))) w := by kernel_rfl
theorem fa_callComparable (w : World) : (callFunc 137 #[.agg #[.pointer (some ⟨24, 171, none⟩)]]).run Tryz.prog w = .ok (.value (.bool true)) w := by kernel_rfl
theorem fa_isMethodComparable (v : Value) (w : World) : (Go.method 321 148 v "Comparable").run Tryz.prog w = .ok (137, v) w := by kernel_rfl
theorem fa_isComp : (Tryz.prog.info? 171).map (·.comparable) = some true := by kernel_rfl
theorem fa_isSize : (Tryz.prog.info? 173).map (·.size) = some 1 := by kernel_rfl

theorem as_hit (e t : Addr) (old : Value) (w : World) (hg : w.cell? ⟨15, 0, none⟩ = some (.iface 148 (.agg #[.pointer (some ⟨24, 27, none⟩)]))) (ht0 : w.cell? t = some old) (hf0 : w.frozen? t = false) :
    Calls Tryz.prog 47 #[.iface 99 (.pointer (some e)), .iface 101 (.pointer (some t))] w fun ev w' => ev = .returned (.bool true) ∧ w' = ((((w.alloc (.cells #[.pointer (some t)] 101)).alloc (.cells #[.pointer (some ⟨24, 101, none⟩), .pointer (some ⟨w.heap.size, 0, none⟩), .int .u64 150] 125)).alloc (.cells #[.pointer (some ⟨24, 101, none⟩), .pointer (some ⟨w.heap.size, 0, none⟩), .int .u64 150] 125)).alloc (.cells #[.pointer (some e)] 99)).setCell t (.pointer (some e)) := by
  have h6 := @run_callFunc_extern Tryz.prog 63 _ (fun args => ReflectliteValue.unpack (args.getD 0 (.tuple #[]))) Tryz.func63 (by kernel_rfl) (by kernel_rfl) (by kernel_rfl) (by kernel_rfl)
  have h7 := @run_callFunc_extern Tryz.prog 64 _ (ReflectliteValue.methodAny (ReflectliteValue.valueError "reflectlite.Value.Type" 0) (fun t _ _ _ => ReflectliteType.toType t)) Tryz.func64 (by kernel_rfl) (by kernel_rfl) (by kernel_rfl) (by kernel_rfl)
  have h8 := @run_callFunc_extern Tryz.prog 65 _ (ReflectliteValue.method (ReflectliteValue.valueError "reflectlite.Value.IsNil" 0) ReflectliteValue.isNil) Tryz.func65 (by kernel_rfl) (by kernel_rfl) (by kernel_rfl) (by kernel_rfl)
  have h27 := @run_callFunc_extern Tryz.prog 123 _ (ReflectliteType.abiMethod fun t => do pure (.int .u8 (← Rtype.kind t))) Tryz.func123 (by kernel_rfl) (by kernel_rfl) (by kernel_rfl) (by kernel_rfl)
  have h37 := @run_callFunc_extern Tryz.prog 138 _ (ReflectliteType.method ReflectliteType.elem) Tryz.func138 (by kernel_rfl) (by kernel_rfl) (by kernel_rfl) (by kernel_rfl)
  have h38 := @run_callFunc_extern Tryz.prog 139 _ (ReflectliteType.relation "Implements" ReflectliteType.implements_) Tryz.func139 (by kernel_rfl) (by kernel_rfl) (by kernel_rfl) (by kernel_rfl)
  have h10 := @run_callFunc_extern Tryz.prog 67 _ ReflectliteType.typeOf Tryz.func67 (by kernel_rfl) (by kernel_rfl) (by kernel_rfl) (by kernel_rfl)
  have h35 := @run_callFunc_extern Tryz.prog 136 _ (ReflectliteType.relation "AssignableTo" ReflectliteType.assignableTo) Tryz.func136 (by kernel_rfl) (by kernel_rfl) (by kernel_rfl) (by kernel_rfl)
  have h11 := @run_callFunc_extern Tryz.prog 79 _ (ReflectliteValue.method (ReflectliteValue.valueError "reflectlite.Value.Elem" 0) ReflectliteValue.elem) Tryz.func79 (by kernel_rfl) (by kernel_rfl) (by kernel_rfl) (by kernel_rfl)
  have h12 := @run_callFunc_extern Tryz.prog 80 _ ReflectliteValue.set Tryz.func80 (by kernel_rfl) (by kernel_rfl) (by kernel_rfl) (by kernel_rfl)
  have tO := fa_typeOf25
  have mA := fa_methodAssignableTo
  have a25 := fa_assignable25
  have v25 := fa_valueOf25
  have f6 := fa_valueOf27
  have f7 := fa_type27
  have mK := fa_methodKind
  have mE := fa_methodElem
  have mI := fa_methodImplements
  have k27 := fa_kind27
  have k25 := fa_kind25
  have e27 := fa_elem27
  have i25 := fa_implements25
  have n8 := fa_isNil27 ⟨w.heap.size, 0, none⟩ t ((w.alloc (.cells #[.pointer (some t)] 101)).alloc (.cells #[.pointer (some ⟨24, 101, none⟩), .pointer (some ⟨w.heap.size, 0, none⟩), .int .u64 150] 125)) (by simp)
  have hlt : 15 < w.heap.size := World.block_lt_of_cell? _ _ hg
  have hg2 : ((w.alloc (.cells #[.pointer (some t)] 101)).alloc (.cells #[.pointer (some ⟨24, 101, none⟩), .pointer (some ⟨w.heap.size, 0, none⟩), .int .u64 150] 125)).cell? ⟨15, 0, none⟩ = some (.iface 148 (.agg #[.pointer (some ⟨24, 27, none⟩)])) := by
    rw [World.cell?_alloc_lt _ _ ⟨15, 0, none⟩ (by simp; omega), World.cell?_alloc_lt _ _ ⟨15, 0, none⟩ hlt]; exact hg
  have htl : t.block < w.heap.size := by
    rcases Nat.lt_or_ge t.block w.heap.size with h | h
    · exact h
    · simp [World.cell?, Array.getElem?_eq_none h] at ht0
  have el := fa_elemV27 ⟨w.heap.size, 0, none⟩ t (((w.alloc (.cells #[.pointer (some t)] 101)).alloc (.cells #[.pointer (some ⟨24, 101, none⟩), .pointer (some ⟨w.heap.size, 0, none⟩), .int .u64 150] 125)).alloc (.cells #[.pointer (some ⟨24, 101, none⟩), .pointer (some ⟨w.heap.size, 0, none⟩), .int .u64 150] 125)) (by rw [World.cell?_alloc_lt _ _ ⟨w.heap.size, 0, none⟩ (by simp; omega)]; simp)
  have st := fa_set25 t ⟨w.heap.size + 1 + 1 + 1, 0, none⟩ e old ((((w.alloc (.cells #[.pointer (some t)] 101)).alloc (.cells #[.pointer (some ⟨24, 101, none⟩), .pointer (some ⟨w.heap.size, 0, none⟩), .int .u64 150] 125)).alloc (.cells #[.pointer (some ⟨24, 101, none⟩), .pointer (some ⟨w.heap.size, 0, none⟩), .int .u64 150] 125)).alloc (.cells #[.pointer (some e)] 99))
    (by rw [World.cell?_alloc_at _ _ _ _ (by simp)]; rfl)
    (by rw [World.cell?_alloc_lt _ _ t (by simp; omega), World.cell?_alloc_lt _ _ t (by simp; omega), World.cell?_alloc_lt _ _ t (by simp; omega), World.cell?_alloc_lt _ _ t htl]; exact ht0)
    (by rw [World.frozen?_alloc_old _ _ t (by simp; omega), World.frozen?_alloc_old _ _ t (by simp; omega), World.frozen?_alloc_old _ _ t (by simp; omega), World.frozen?_alloc_old _ _ t (Nat.ne_of_lt htl)]; exact hf0)
  go_enter Tryz.func47, Tryz.ntmps47
  go_wp2
  refine wp_loop_rounds 1 ?_
  rw [rounds_succ]
  go_wp2
  go_ret
  exact ⟨rfl, rfl⟩

theorem as_miss (x : Value) (t : Addr) (old : Value) (w : World) (hg : w.cell? ⟨15, 0, none⟩ = some (.iface 148 (.agg #[.pointer (some ⟨24, 27, none⟩)]))) (ht0 : w.cell? t = some old) (hf0 : w.frozen? t = false) :
    Calls Tryz.prog 47 #[.iface 171 x, .iface 101 (.pointer (some t))] w fun ev w' => ev = .returned (.bool false) ∧ w' = ((w.alloc (.cells #[.pointer (some t)] 101)).alloc (.cells #[.pointer (some ⟨24, 101, none⟩), .pointer (some ⟨w.heap.size, 0, none⟩), .int .u64 150] 125)).alloc (.cells #[.pointer (some ⟨24, 101, none⟩), .pointer (some ⟨w.heap.size, 0, none⟩), .int .u64 150] 125) := by
  have h6 := @run_callFunc_extern Tryz.prog 63 _ (fun args => ReflectliteValue.unpack (args.getD 0 (.tuple #[]))) Tryz.func63 (by kernel_rfl) (by kernel_rfl) (by kernel_rfl) (by kernel_rfl)
  have h7 := @run_callFunc_extern Tryz.prog 64 _ (ReflectliteValue.methodAny (ReflectliteValue.valueError "reflectlite.Value.Type" 0) (fun t _ _ _ => ReflectliteType.toType t)) Tryz.func64 (by kernel_rfl) (by kernel_rfl) (by kernel_rfl) (by kernel_rfl)
  have h8 := @run_callFunc_extern Tryz.prog 65 _ (ReflectliteValue.method (ReflectliteValue.valueError "reflectlite.Value.IsNil" 0) ReflectliteValue.isNil) Tryz.func65 (by kernel_rfl) (by kernel_rfl) (by kernel_rfl) (by kernel_rfl)
  have h27 := @run_callFunc_extern Tryz.prog 123 _ (ReflectliteType.abiMethod fun t => do pure (.int .u8 (← Rtype.kind t))) Tryz.func123 (by kernel_rfl) (by kernel_rfl) (by kernel_rfl) (by kernel_rfl)
  have h37 := @run_callFunc_extern Tryz.prog 138 _ (ReflectliteType.method ReflectliteType.elem) Tryz.func138 (by kernel_rfl) (by kernel_rfl) (by kernel_rfl) (by kernel_rfl)
  have h38 := @run_callFunc_extern Tryz.prog 139 _ (ReflectliteType.relation "Implements" ReflectliteType.implements_) Tryz.func139 (by kernel_rfl) (by kernel_rfl) (by kernel_rfl) (by kernel_rfl)
  have h10 := @run_callFunc_extern Tryz.prog 67 _ ReflectliteType.typeOf Tryz.func67 (by kernel_rfl) (by kernel_rfl) (by kernel_rfl) (by kernel_rfl)
  have h35 := @run_callFunc_extern Tryz.prog 136 _ (ReflectliteType.relation "AssignableTo" ReflectliteType.assignableTo) Tryz.func136 (by kernel_rfl) (by kernel_rfl) (by kernel_rfl) (by kernel_rfl)
  have h11 := @run_callFunc_extern Tryz.prog 79 _ (ReflectliteValue.method (ReflectliteValue.valueError "reflectlite.Value.Elem" 0) ReflectliteValue.elem) Tryz.func79 (by kernel_rfl) (by kernel_rfl) (by kernel_rfl) (by kernel_rfl)
  have h12 := @run_callFunc_extern Tryz.prog 80 _ ReflectliteValue.set Tryz.func80 (by kernel_rfl) (by kernel_rfl) (by kernel_rfl) (by kernel_rfl)
  have tO := fa_typeOfE
  have mA := fa_methodAssignableTo
  have a25 := fa_assignableE
  have f6 := fa_valueOf27
  have f7 := fa_type27
  have mK := fa_methodKind
  have mE := fa_methodElem
  have mI := fa_methodImplements
  have k27 := fa_kind27
  have k25 := fa_kind25
  have e27 := fa_elem27
  have i25 := fa_implements25
  have n8 := fa_isNil27 ⟨w.heap.size, 0, none⟩ t ((w.alloc (.cells #[.pointer (some t)] 101)).alloc (.cells #[.pointer (some ⟨24, 101, none⟩), .pointer (some ⟨w.heap.size, 0, none⟩), .int .u64 150] 125)) (by simp)
  have hlt : 15 < w.heap.size := World.block_lt_of_cell? _ _ hg
  have hg2 : ((w.alloc (.cells #[.pointer (some t)] 101)).alloc (.cells #[.pointer (some ⟨24, 101, none⟩), .pointer (some ⟨w.heap.size, 0, none⟩), .int .u64 150] 125)).cell? ⟨15, 0, none⟩ = some (.iface 148 (.agg #[.pointer (some ⟨24, 27, none⟩)])) := by
    rw [World.cell?_alloc_lt _ _ ⟨15, 0, none⟩ (by simp; omega), World.cell?_alloc_lt _ _ ⟨15, 0, none⟩ hlt]; exact hg
  have nA := fa_noAsE
  have nU := fa_noUnwrapE
  have nV := fa_noUnwrapsE
  go_enter Tryz.func47, Tryz.ntmps47
  go_wp2
  refine wp_loop_rounds 1 ?_
  rw [rounds_succ]
  go_wp2
  go_ret
  exact ⟨rfl, rfl⟩

/-- errors.Is(x, x), x a pointer to an errors.errorString. -/
theorem is_same (a : Addr) (w : World) :
    Calls Tryz.prog 48 #[.iface 171 (.pointer (some a)), .iface 171 (.pointer (some a))] w fun e w' => e = .returned (.bool true) ∧ w = w' := by
  obtain ⟨i, hi, hcmp⟩ := Option.map_eq_some_iff.1 fa_isComp
  obtain ⟨j, hj, hjs⟩ := Option.map_eq_some_iff.1 fa_isSize
  have tT := fa_callTypeOf
  have cT := fa_callComparable
  have mR := fa_isMethodComparable
  have heq := run_eql_iface_ptr_same (P := Tryz.prog) w a Tryz.underlying27 Tryz.underlying171 hi hcmp hj
  go_enter Tryz.func48, Tryz.ntmps48
  go_wp2
  refine wp_loop_rounds 1 ?_
  rw [rounds_succ]
  go_wp2
  go_ret
  exact ⟨rfl, rfl⟩

/-- errors.Is(x, y), two different pointers to errors.errorString. -/
theorem is_other (a b : Addr) (w : World) (hne : a ≠ b) (ha : ∃ x t, w.heap[a.block]? = some (.cells x t (0, 0))) (hb : ∃ x t, w.heap[b.block]? = some (.cells x t (0, 0))) :
    Calls Tryz.prog 48 #[.iface 171 (.pointer (some a)), .iface 171 (.pointer (some b))] w fun e w' => e = .returned (.bool false) ∧ w = w' := by
  obtain ⟨ca, ta, ha⟩ := ha
  obtain ⟨cb, tb, hb⟩ := hb
  obtain ⟨i, hi, hcmp⟩ := Option.map_eq_some_iff.1 fa_isComp
  obtain ⟨j, hj, hjs⟩ := Option.map_eq_some_iff.1 fa_isSize
  have tT := fa_callTypeOf
  have cT := fa_callComparable
  have mR := fa_isMethodComparable
  have nE := fa_noIsE
  have uE := fa_noUnwrapE
  have vE := fa_noUnwrapsE
  have heq := run_eql_iface_ptr_other (P := Tryz.prog) w Tryz.underlying27 Tryz.underlying171 hi hcmp hj (by rw [hjs]; decide) hne ha hb
  clear hb ha
  go_enter Tryz.func48, Tryz.ntmps48
  go_wp2
  refine wp_loop_rounds 1 ?_
  rw [rounds_succ]
  go_wp2
  go_ret
  exact ⟨rfl, rfl⟩

/-- errors.Is(e, x), e an api.Fault that wraps x itself. -/
theorem is_fault_same (pb po : Nat) (b : Addr) (w : World) (h1 : w.cell? ⟨pb, po + 1, none⟩ = some (.iface 171 (.pointer (some b)))) :
    Calls Tryz.prog 48 #[.iface 99 (.pointer (some ⟨pb, po, none⟩)), .iface 171 (.pointer (some b))] w fun e w' => e = .returned (.bool true) ∧ w = w' := by
  obtain ⟨i, hi, hcmp⟩ := Option.map_eq_some_iff.1 fa_isComp
  obtain ⟨j, hj, hjs⟩ := Option.map_eq_some_iff.1 fa_isSize
  have tT := fa_callTypeOf
  have cT := fa_callComparable
  have mR := fa_isMethodComparable
  have nE := fa_noIsE
  have uE := fa_noUnwrapE
  have vE := fa_noUnwrapsE
  have nW := fa_noIsF
  have uW := fa_hasUnwrapF
  have mU := fa_methodUnwrap
  have heq := run_eql_iface_ptr_same (P := Tryz.prog) w b Tryz.underlying27 Tryz.underlying171 hi hcmp hj
  have hty := run_eql_iface_types (P := Tryz.prog) 99 171 (.pointer (some ⟨pb, po, none⟩)) (.pointer (some b)) Tryz.underlying27 (by decide) w
  go_enter Tryz.func48, Tryz.ntmps48
  go_wp2
  refine wp_loop_rounds 2 ?_
  rw [rounds_succ]
  go_wp2
  rw [rounds_succ]
  go_wp2
  go_ret
  exact ⟨rfl, rfl⟩

/-- errors.Is(e, x), e an api.Fault that wraps another one. -/
theorem is_fault_other (pb po : Nat) (b a : Addr) (w : World) (h1 : w.cell? ⟨pb, po + 1, none⟩ = some (.iface 171 (.pointer (some a)))) (hne : a ≠ b) (ha : ∃ x t, w.heap[a.block]? = some (.cells x t (0, 0))) (hb : ∃ x t, w.heap[b.block]? = some (.cells x t (0, 0))) :
    Calls Tryz.prog 48 #[.iface 99 (.pointer (some ⟨pb, po, none⟩)), .iface 171 (.pointer (some b))] w fun e w' => e = .returned (.bool false) ∧ w = w' := by
  obtain ⟨ca, ta, ha⟩ := ha
  obtain ⟨cb, tb, hb⟩ := hb
  obtain ⟨i, hi, hcmp⟩ := Option.map_eq_some_iff.1 fa_isComp
  obtain ⟨j, hj, hjs⟩ := Option.map_eq_some_iff.1 fa_isSize
  have tT := fa_callTypeOf
  have cT := fa_callComparable
  have mR := fa_isMethodComparable
  have nE := fa_noIsE
  have uE := fa_noUnwrapE
  have vE := fa_noUnwrapsE
  have nW := fa_noIsF
  have uW := fa_hasUnwrapF
  have mU := fa_methodUnwrap
  have heq := run_eql_iface_ptr_other (P := Tryz.prog) w Tryz.underlying27 Tryz.underlying171 hi hcmp hj (by rw [hjs]; decide) hne ha hb
  have hty := run_eql_iface_types (P := Tryz.prog) 99 171 (.pointer (some ⟨pb, po, none⟩)) (.pointer (some b)) Tryz.underlying27 (by decide) w
  clear ha hb
  go_enter Tryz.func48, Tryz.ntmps48
  go_wp2
  refine wp_loop_rounds 2 ?_
  rw [rounds_succ]
  go_wp2
  rw [rounds_succ]
  go_wp2
  go_ret
  exact ⟨rfl, rfl⟩

end
/- plain.Code by contract: the number of an error and its place. -/

def allErrs : List Nat := [1, 2, 3, 4, 5, 6, 7, 8, 9, 10, 11, 12, 13, 14, 15]
/-- All errors, and errors' own handle. -/
structure EnvA (B : Nat) (ad : Nat → Addr) (w : World) : Prop where
  env : Env B ad allErrs w
  handle : w.cell? ⟨15, 0, none⟩ = some (.iface 148 (.agg #[.pointer (some ⟨24, 27, none⟩)])) ∧ 15 < B
theorem EnvA.keep {B : Nat} {ad : Nat → Addr} {S : Nat → Prop} {w w' : World} (h : EnvA B ad w) (c : Chg S w w') (hS : ∀ x, S x → B ≤ x) : EnvA B ad w' :=
  ⟨h.env.keep c hS, (c.cell (p := ⟨15, 0, none⟩) (Nat.lt_of_lt_of_le h.handle.2 h.env.size) (fun s => by have := hS _ s; have := h.handle.2; simp at *; omega)).trans h.handle.1, h.handle.2⟩
theorem EnvA.keepN {B : Nat} {ad : Nat → Addr} {w w' : World} (h : EnvA B ad w) (c : Chg Nil w w') : EnvA B ad w' := h.keep c (fun _ f => f.elim)
theorem EnvA.alloc {B : Nat} {ad : Nat → Addr} {w : World} (h : EnvA B ad w) (o : Obj) : EnvA B ad (w.alloc o) := h.keepN ((Chg.refl Nil w).alloc o)
theorem EnvA.sub {B : Nat} {ad : Nat → Addr} {ds : List Nat} {w : World} (h : EnvA B ad w) (hd : ∀ c ∈ ds, c ∈ allErrs) : Env B ad ds w := h.env.sub hd

theorem as_miss' (x : Value) (t : Addr) (old : Value) (w : World) (hg : w.cell? ⟨15, 0, none⟩ = some (.iface 148 (.agg #[.pointer (some ⟨24, 27, none⟩)])))
    (ht0 : w.cell? t = some old) (hf0 : w.frozen? t = false) :
    Calls Tryz.prog 47 #[.iface 171 x, .iface 101 (.pointer (some t))] w fun e w' => e = .returned (.bool false) ∧ Chg Nil w w' :=
  (as_miss x t old w hg ht0 hf0).mono fun e w' ⟨he, hw⟩ => ⟨he, by subst hw; exact ((((Chg.refl _ _).alloc _).alloc _).alloc _)⟩
theorem as_hit' (e t : Addr) (old : Value) (w : World) (hg : w.cell? ⟨15, 0, none⟩ = some (.iface 148 (.agg #[.pointer (some ⟨24, 27, none⟩)])))
    (ht0 : w.cell? t = some old) (hf0 : w.frozen? t = false) :
    Calls Tryz.prog 47 #[.iface 99 (.pointer (some e)), .iface 101 (.pointer (some t))] w fun ev w' => ev = .returned (.bool true) ∧ Chg (· = t.block) w w' ∧ w'.cell? t = some (.pointer (some e)) :=
  (as_hit e t old w hg ht0 hf0).mono fun ev w' ⟨he, hw⟩ => ⟨he, by subst hw; exact Chg.setCell (S := (· = t.block)) (p := t) ((((((Chg.refl _ _).alloc _).alloc _).alloc _).alloc _)) (.inr rfl) _, by
    subst hw
    have hl := World.block_lt_of_cell? _ _ ht0
    refine World.cell?_setCell_same _ _ _ (u := old) ?_
    rw [World.cell?_alloc_lt _ _ t (by simp; omega), World.cell?_alloc_lt _ _ t (by simp; omega), World.cell?_alloc_lt _ _ t (by simp; omega), World.cell?_alloc_lt _ _ t hl]
    exact ht0⟩

theorem code_nil (w : World) : Calls Tryz.prog 32 #[.nilIface] w fun e w' => e = .returned (.tuple #[.int .i64 0, .int .i64 (-1)]) ∧ w = w' := by
  go_enter Tryz.func32, Tryz.ntmps32
  go_wp2
  go_ret2
  exact ⟨rfl, rfl⟩

def Code1 (w : World) (sb : Nat) (ad : Nat → Addr) (c : Nat) (at_ : Int) (v i : Value) (wr : World) : Prop :=
  ∃ k : Nat, k < c ∧ v = .int .i64 at_ ∧ i = .int .i64 k ∧ Chg Nil w wr ∧ ∀ j, j < 15 → wr.cell? ⟨sb, j, none⟩ = some (.iface 171 (.pointer (some (ad (j + 1)))))

theorem code_err {B : Nat} (ad : Nat → Addr) (c : Nat) (w : World) (he : EnvA B ad w) (h0 : 0 < c) (h1 : c ≤ 15) :
    Calls Tryz.prog 32 #[.iface 171 (.pointer (some (ad c)))] w fun e w' => e = .returned (.tuple #[.int .i64 c, .int .i64 (-1)]) ∧ Chg Nil w w' := by
  have HE := Lib.hid he
  have hnn := fun W => run_eql_iface_nil_left (P := Tryz.prog) W 171 (.pointer (some (ad c))) Tryz.underlying27
  have hh := he.handle.1
  have hhl := Nat.lt_of_lt_of_le he.handle.2 he.env.size
  clear he
  go_enter Tryz.func32, Tryz.ntmps32
  go_wp2_with fail
  refine (as_miss' _ _ (.pointer none) _ ?_ ?_ ?_).mono ?_
  · rw [World.cell?_alloc_lt _ _ _ hhl]; exact hh
  · simp
  · simp
  rintro e w1 ⟨rfl, hc1⟩
  have hC1 : Chg Nil w w1 := ((Chg.refl _ _).alloc _).then hc1
  have hE1 := (HE.out.keepN hC1).env
  obtain ⟨q1, l1⟩ := hE1.get (c := 1) (by decide)
  obtain ⟨q2, l2⟩ := hE1.get (c := 2) (by decide)
  obtain ⟨q3, l3⟩ := hE1.get (c := 3) (by decide)
  obtain ⟨q4, l4⟩ := hE1.get (c := 4) (by decide)
  obtain ⟨q5, l5⟩ := hE1.get (c := 5) (by decide)
  obtain ⟨q6, l6⟩ := hE1.get (c := 6) (by decide)
  obtain ⟨q7, l7⟩ := hE1.get (c := 7) (by decide)
  obtain ⟨q8, l8⟩ := hE1.get (c := 8) (by decide)
  obtain ⟨q9, l9⟩ := hE1.get (c := 9) (by decide)
  obtain ⟨q10, l10⟩ := hE1.get (c := 10) (by decide)
  obtain ⟨q11, l11⟩ := hE1.get (c := 11) (by decide)
  obtain ⟨q12, l12⟩ := hE1.get (c := 12) (by decide)
  obtain ⟨q13, l13⟩ := hE1.get (c := 13) (by decide)
  obtain ⟨q14, l14⟩ := hE1.get (c := 14) (by decide)
  obtain ⟨q15, l15⟩ := hE1.get (c := 15) (by decide)
  simp only [gl] at q1 q2 q3 q4 q5 q6 q7 q8 q9 q10 q11 q12 q13 q14 q15
  clear l1 l2 l3 l4 l5 l6 l7 l8 l9 l10 l11 l12 l13 l14 l15 hE1 hh hhl
  go_wp2_with fail
  clear q1 q2 q3 q4 q5 q6 q7 q8 q9 q10 q11 q12 q13 q14 q15 hnn
  go_loopw [3, 33] (fun v i wr => Code1 w w1.heap.size ad c (-1) v i wr) (fun _ i _ => (15 - intOf i).toNat)
  case atStart =>
    refine ⟨0, h0, rfl, rfl, hC1.alloc _, fun j hj => ?_⟩
    rw [World.cell?_alloc_at _ _ _ _ rfl]
    rcases (show j = 0 ∨ j = 1 ∨ j = 2 ∨ j = 3 ∨ j = 4 ∨ j = 5 ∨ j = 6 ∨ j = 7 ∨ j = 8 ∨ j = 9 ∨ j = 10 ∨ j = 11 ∨ j = 12 ∨ j = 13 ∨ j = 14 by omega) with rfl | rfl | rfl | rfl | rfl | rfl | rfl | rfl | rfl | rfl | rfl | rfl | rfl | rfl | rfl <;> rfl
  case round =>
    rename_i wr _
    obtain ⟨k, hk, rfl, rfl, hC, hcell⟩ := hrel
    have hE := (HE.out.keepN hC).env
    have hc := hcell k (by omega)
    have hk15 : (k : Int) < 15 := by omega
    by_cases hkc : k + 1 = c
    · have hnum : ((k : Int) + 1) = (c : Int) := by omega
      have hI := is_same (ad c) wr
      rw [hkc] at hc
      have HN := Lib.hid hnum
      have HK := Lib.hid hkc
      have HC := Lib.hid hcell
      have HI := Lib.hid hI
      clear hnum hkc hcell hI
      go_wp2_with fail
      refine HI.out.mono ?_
      rintro e w2 ⟨rfl, rfl⟩
      go_wp2_with fail
      go_ret2
      exact ⟨by simp [HN.out], hC⟩
    · obtain ⟨_, r1, _⟩ := hE.row (k + 1) (by simp [allErrs]; omega)
      obtain ⟨_, r2, _⟩ := hE.row c (by simp [allErrs]; omega)
      have hI := is_other (ad c) (ad (k + 1)) wr (hE.dist c (by simp [allErrs]; omega) (k + 1) (by simp [allErrs]; omega) (fun e => hkc e.symm)) r2 r1
      have HC := Lib.hid hcell
      have HI := Lib.hid hI
      clear hcell hI r1 r2 hE
      go_wp2_with fail
      refine HI.out.mono ?_
      rintro e w2 ⟨rfl, rfl⟩
      go_wp2_with fail
      go_roundw
      case rel => exact ⟨k + 1, by omega, rfl, by go_num, hC, HC.out⟩
      case measure => simp [intOf]; omega

/- Resources: all errors and the errors' own handle (rEnvA); an error's number told (coded) by what is owned. No condition. -/

def rEnvA (B : Nat) (ad : Nat → Addr) : Res :=
  ⟨false, fun b => (∃ c ∈ allErrs, b = gl c ∨ b = (ad c).block) ∨ b = 15, fun w => EnvA B ad w, fun w w' h hs hb =>
    ⟨(rEnv B ad allErrs).stab w w' h.env hs (fun b hb' => hb b (.inl hb')), by
      rw [World.cell?_of_block (w := w) (hb 15 (.inr rfl))]; exact h.handle.1, h.handle.2⟩,
   fun w b h hb => by
    rcases hb with hb | rfl
    · exact (rEnv B ad allErrs).alive w b h.env hb
    · exact Nat.lt_of_lt_of_le h.handle.2 h.env.size⟩
theorem Own.addRO {w0 w : World} {E : Ent} {L : List Res} (h : Own w0 E L w) (i : Nat) {r r' : Res} (hi : L[i]? = some r) (hw : r.wr = false) (hw' : r'.wr = false) (hf : ∀ w, r.fact w → r'.fact w) (hs : ∀ b, r'.foot b → r.foot b) : Own w0 E (r' :: L) w := by
  have hm := List.mem_of_getElem? hi
  have h1 := h.perm (erase_perm hi).symm
  have ha := (List.pairwise_cons.1 h1.apart).1
  refine ⟨h.chg, h.mono, fun s hs' => ?_, List.pairwise_cons.2 ⟨fun s hs' hc b hb hsb => ?_, h.apart⟩, fun s hs' b hb => ?_⟩
  · rcases List.mem_cons.1 hs' with rfl | hs'
    · exact hf w (h.facts r hm)
    · exact h.facts s hs'
  · rcases hc with hc | hc
    · rw [hw'] at hc; cases hc
    · rcases List.mem_cons.1 ((erase_perm hi).symm.mem_iff.1 hs') with rfl | hs2
      · rw [hw] at hc; cases hc
      · exact ha s hs2 (.inr hc) b (hs b hb) hsb
  · rcases List.mem_cons.1 hs' with rfl | hs'
    · have := h.may r hm b (hs b hb)
      rw [hw] at this
      rw [hw']; exact this
    · exact h.may s hs' b hb
/-- Some of all errors. -/
theorem Own.envSub {w0 w : World} {E : Ent} {L : List Res} {B : Nat} {ad : Nat → Addr} (h : Own w0 E L w) (cs : List Nat) (i : Nat) (hi : L[i]? = some (rEnvA B ad)) (hc : ∀ c ∈ cs, c ∈ allErrs) : Own w0 E (rEnv B ad cs :: L) w :=
  h.addRO i hi rfl rfl (fun w hw => hw.env.sub hc) (fun b ⟨c, h1, h2⟩ => .inl ⟨c, hc c h1, h2⟩)
theorem Own.eS {w0 w : World} {E : Ent} {L : List Res} {B : Nat} {ad : Nat → Addr} (h : Own w0 E L w) (cs : List Nat) (i : Nat) (hi : L[i]? = some (rEnvA B ad)) (hc : ∀ c ∈ cs, c ∈ allErrs := by decide) : Own w0 E (rEnv B ad cs :: L) w := h.envSub cs i hi hc

/- An owned row of texts handed on as one that is only read; slices.Clip; the log's block (rBest). No condition. -/
section
variable {w0 w : World} {E : Ent} {L : List Res} {r r' : Res}
theorem Own.weakRO (h : Own w0 E (r :: L) w) (hr : r.wr = true) (hw' : r'.wr = false) (hf : r'.fact w) (hs : ∀ b, r'.foot b → r.foot b) : Own w0 E (r' :: L) w := by
  obtain ⟨a, c⟩ := List.pairwise_cons.1 h.apart
  refine ⟨h.chg, h.mono, fun s hs' => ?_, List.pairwise_cons.2 ⟨fun s hs' _ x hx => a s hs' (.inl hr) x (hs x hx), c⟩, fun s hs' b hb => ?_⟩
  · rcases List.mem_cons.1 hs' with rfl | hs'
    · exact hf
    · exact h.facts s (List.mem_cons_of_mem _ hs')
  · rcases List.mem_cons.1 hs' with rfl | hs'
    · rw [hw']
      rcases h.may r (List.mem_cons_self ..) b (hs b hb) with h1 | h1
      · exact .inl (h.mono b (hr ▸ h1))
      · exact .inr h1
    · exact h.may s (List.mem_cons_of_mem _ hs') b hb
/-- Some of some errors. -/
theorem Own.eSub {B : Nat} {ad : Nat → Addr} {cs : List Nat} (h : Own w0 E L w) (cs' : List Nat) (i : Nat) (hi : L[i]? = some (rEnv B ad cs)) (hc : ∀ c ∈ cs', c ∈ cs := by decide) : Own w0 E (rEnv B ad cs' :: L) w :=
  h.addRO i hi rfl rfl (fun w (hw : Env B ad cs w) => hw.sub hc) (fun b ⟨c, h1, h2⟩ => ⟨c, hc c h1, h2⟩)
end
theorem blk_clip (a : Option Addr) (n c m : Nat) : blkN (.slice a n c) = blkN (.slice a n m) ∧ offN (.slice a n c) = offN (.slice a n m) := by cases a <;> exact ⟨rfl, rfl⟩
theorem strs_get : ∀ (rs : List ByteArray) (i : Nat) (x : ByteArray), rs[i]? = some x → (rs.flatMap strC)[i]? = some (.string x)
  | _ :: _, 0, _, h => by simp at h; subst h; rfl
  | _ :: rs, i + 1, x, h => by
    simp at h
    rw [List.flatMap_cons]
    show (rs.flatMap strC)[i]? = _
    exact strs_get rs i x h
theorem arg_of_clip {w : World} {v : Value} {T : Nat} {rs : List ByteArray} (h : (rRows true v T 1 strC rs).fact w) :
    ∃ a c, v = .slice a rs.length c ∧ rs.length ≤ c ∧ (rArg v 1 strC rs).fact w ∧ (rArg (.slice a rs.length rs.length) 1 strC rs).fact w := by
  obtain ⟨⟨a, c, e, h1, h2, h3⟩, h4⟩ := slRd_rows (wr := true) (v := v) (T := T) (k := 1) (enc := strC) (l := rs) w h
  refine ⟨a, c, e, h1, ⟨⟨a, c, e, h2, h1, h3⟩, fun i x hx r u hu => ?_⟩, ⟨⟨a, rs.length, rfl, by omega, by omega, ?_⟩, fun i x hx r u hu => ?_⟩⟩
  · rcases r with _ | r
    · simp [strC] at hu; subst hu
      rw [Nat.mul_one, Nat.add_zero]
      exact h4 i _ (strs_get rs i x hx)
    · simp [strC] at hu
  · subst e; rw [(blk_clip a _ _ c).1, (blk_clip a _ _ c).2]; exact h3
  · subst e
    rw [(blk_clip a _ _ c).1, (blk_clip a _ _ c).2]
    rcases r with _ | r
    · simp [strC] at hu; subst hu
      rw [Nat.mul_one, Nat.add_zero]
      exact h4 i _ (strs_get rs i x hx)
    · simp [strC] at hu
theorem row_foot {w : World} {v : Value} {T : Nat} {rs : List ByteArray} (h : (rRows true v T 1 strC rs).fact w) {b : Nat} (hb : (rArg v 1 strC rs).foot b) : (rRows true v T 1 strC rs).foot b := by
  obtain ⟨hb, i, x, r, u, hx, _⟩ := hb
  have hi := (List.getElem?_eq_some_iff.1 hx).1
  obtain ⟨⟨a, c, e, h1, h2, h3⟩, h4⟩ := slRd_rows (wr := true) (v := v) (T := T) (k := 1) (enc := strC) (l := rs) w h
  have h5 := h3 i hi
  have h6 : blkOf v b = blkOf (.slice (some ⟨blkN v, offN v, none⟩) rs.length c) b := by rw [← h5, ← e]
  show blkOf v b
  rw [h6]
  exact hb
theorem Own.toArg {w0 w : World} {E : Ent} {L : List Res} {v : Value} {T : Nat} {rs : List ByteArray} (h : Own w0 E (rRows true v T 1 strC rs :: L) w) : Own w0 E (rArg v 1 strC rs :: L) w := by
  have hf := h.fact 0 rfl
  obtain ⟨a, c, e, _, h1, _⟩ := arg_of_clip hf
  exact h.weakRO rfl rfl h1 fun b hb => row_foot hf hb
theorem clip_any (a : Option Addr) (n c : Nat) (hc : n ≤ c) (w : World) :
    Calls Tryz.prog 31 #[.slice a n c] w fun e w' => e = .returned (.slice a n n) ∧ w' = w := by
  go_enter Tryz.func31, Tryz.ntmps31
  go_wp2_with fail
  go_ret
  exact ⟨rfl, rfl⟩
theorem clip_spec (v : Value) (rs : List ByteArray) : Spec Tryz.prog 31 #[v] [rRows true v 9 1 strC rs] fun u L => ∃ v', u = v' ∧ L = [rArg v' 1 strC rs] := fun E w0 w ho => by
  have hf := ho.fact 0 rfl
  obtain ⟨a, c, e, hc, h1, h2⟩ := arg_of_clip hf
  subst e
  refine (clip_any a rs.length c hc w).mono fun e w' ⟨he, hw⟩ => ⟨_, _, ⟨_, rfl, rfl⟩, he, ?_⟩
  subst hw
  exact ho.weakRO rfl rfl h2 fun b hb => row_foot hf (by obtain ⟨h3, h4⟩ := hb; exact ⟨by rw [h3]; exact (blk_clip a _ _ c).1, h4⟩)
/-- The best head so far. -/
def bestN (now : List ByteArray) : Nat → Option (Nat × Nat × Nat)
  | 0 => none
  | k + 1 => betterP (bestN now k) (candP now k)
theorem best_none (x : Option (Nat × Nat × Nat)) : betterP x none = x := by cases x <;> rfl
theorem best_all {now : List ByteArray} {k : Nat} (h2 : k ≤ 2) (hl : k ≤ now.length) (he : ¬ ((k : Int) < min 2 (now.length : Int))) (h1 : 1 ≤ now.length) : bestN now k = bestP now := by
  unfold bestP
  by_cases h : 2 ≤ now.length
  · obtain rfl : k = 2 := by omega
    rfl
  · obtain rfl : k = 1 := by omega
    have e : candP now 1 = none := by unfold candP; rw [List.getElem?_eq_none (by omega)]
    rw [e, best_none]
    rfl
theorem cand_bad {now : List ByteArray} {k : Nat} {s : ByteArray} (hs : now[k]? = some s) (hh : headP (tx s) = none) : candP now k = none := by
  unfold candP; rw [hs]; simp only [hh]
theorem cand_ok {now : List ByteArray} {k : Nat} {s : ByteArray} {c h z : Nat} (hs : now[k]? = some s) (hh : headP (tx s) = some (c, h, z)) : candP now k = if z % 64 = 0 ∧ z ≤ halfOf now.length * 64 then some (c, h, z) else none := by
  unfold candP; rw [hs]; simp only [hh]
theorem best_bad {now : List ByteArray} {k : Nat} {s : ByteArray} {bo : Option (Nat × Nat × Nat)} (hbo : bo = bestN now k) (hs : now[k]? = some s) (hh : headP (tx s) = none) : bo = bestN now (k + 1) := by
  rw [bestN, cand_bad hs hh, best_none]; exact hbo
theorem best_new {now : List ByteArray} {k : Nat} {s : ByteArray} {c h z : Nat} {bo : Option (Nat × Nat × Nat)} (hbo : bo = bestN now k) (hs : now[k]? = some s) (hh : headP (tx s) = some (c, h, z)) (hc : z % 64 = 0 ∧ z ≤ halfOf now.length * 64) (hb : ∀ a, bo = some a → c > a.1) : some (c, h, z) = bestN now (k + 1) := by
  rw [bestN, cand_ok hs hh, if_pos hc, ← hbo]
  rcases bo with _ | a
  · rfl
  · show _ = if c > a.1 then some (c, h, z) else some a
    rw [if_pos (hb a rfl)]
theorem best_old {now : List ByteArray} {k : Nat} {s : ByteArray} {c h z : Nat} {bo : Option (Nat × Nat × Nat)} (hbo : bo = bestN now k) (hs : now[k]? = some s) (hh : headP (tx s) = some (c, h, z)) (hc : ¬ (z % 64 = 0 ∧ z ≤ halfOf now.length * 64 ∧ ∀ a, bo = some a → c > a.1)) : bo = bestN now (k + 1) := by
  rw [bestN, cand_ok hs hh, ← hbo]
  by_cases h1 : z % 64 = 0 ∧ z ≤ halfOf now.length * 64
  · rw [if_pos h1]
    rcases bo with _ | a
    · exact absurd ⟨h1.1, h1.2, fun a e => by cases e⟩ hc
    · show _ = if c > a.1 then some (c, h, z) else some a
      rw [if_neg fun h2 => hc ⟨h1.1, h1.2, fun b e => by cases e; exact h2⟩]
  · rw [if_neg h1, best_none]
def bestV (b : Nat) : Option (Nat × Nat × Nat) → Value
  | none => .pointer none
  | some _ => .pointer (some ⟨b, 0, none⟩)
def rBest (db b : Nat) : Option (Nat × Nat × Nat) → Res
  | none => rNone
  | some (c, h, z) => rCell true b [.pointer (some ⟨db, 0, none⟩), .int .i64 (c : Int), .int .i64 (h : Int), .int .i64 (z : Int), .bool false] 70
theorem Own.best {w0 w : World} {E : Ent} {L : List Res} {db b c h z : Nat} (ho : Own w0 E (rCell true b [.pointer (some ⟨db, 0, none⟩), .int .i64 (c : Int), .int .i64 (h : Int), .int .i64 (z : Int), .bool false] 70 :: L) w) : Own w0 E (rBest db b (some (c, h, z)) :: L) w := ho
theorem Own.unbest {w0 w : World} {E : Ent} {L : List Res} {db b c h z : Nat} (ho : Own w0 E (rBest db b (some (c, h, z)) :: L) w) : Own w0 E (rCell true b [.pointer (some ⟨db, 0, none⟩), .int .i64 (c : Int), .int .i64 (h : Int), .int .i64 (z : Int), .bool false] 70 :: L) w := ho
theorem Own.nobest {w0 w : World} {E : Ent} {L : List Res} (db b : Nat) (ho : Own w0 E L w) : Own w0 E (rBest db b none :: L) w :=
  ⟨ho.chg, ho.mono, fun r hr => by rcases List.mem_cons.1 hr with rfl | hr; exact trivial; exact ho.facts r hr, List.pairwise_cons.2 ⟨fun r hr _ b' hb => hb.elim, ho.apart⟩, fun r hr b' hb => by rcases List.mem_cons.1 hr with rfl | hr; exact hb.elim; exact ho.may r hr b' hb⟩
section
variable {B b : Nat} {d : PDisk} {S : Nat → Prop} (ad : Nat → Addr)
theorem dreadN_spec (n : Int) (k : Nat) (s : ByteArray) (hn : n = (k : Int)) (hk : d.now[k]? = some s) : Spec Tryz.prog 25 #[.pointer (some ⟨b, 0, none⟩), .int .i64 n] [rDisk B b d S, rEnv B ad [2]] fun u L => u = .tuple #[.string s, .nilIface] ∧ L = [rDisk B b d S, rEnv B ad [2]] := by
  have h1 := (List.getElem?_eq_some_iff.1 hk).1
  have e : pRead d n = (s, 0) := by
    subst hn
    unfold pRead
    rw [if_neg (by omega)]
    simp only [Int.toNat_natCast, List.getD_eq_getElem?_getD, hk, Option.getD_some]
  refine (dread_spec ad n).mono ?_
  rintro u L ⟨rfl, rfl⟩
  rw [e]
  exact ⟨rfl, rfl⟩
end
theorem headOf_alt (a1 a2 : Addr) (s : ByteArray) (hs : s.size = 64) : Spec Tryz.prog 26 #[.string s] [rNumE a1 a2, rTab] fun u L => (∃ c h z : Nat, headP (tx s) = some (c, h, z) ∧ u = .tuple #[.int .i64 (c : Int), .int .i64 (h : Int), .int .i64 (z : Int), .bool true] ∧ L = [rNumE a1 a2, rTab]) ∨ (∃ c h z : Int, headP (tx s) = none ∧ u = .tuple #[.int .i64 c, .int .i64 h, .int .i64 z, .bool false] ∧ L = [rNumE a1 a2, rTab]) := by
  refine (headOf_spec a1 a2 s hs).mono ?_
  rintro u L ⟨rfl, ⟨c, h, z, h1, rfl⟩ | ⟨h1, c, h, z, rfl⟩⟩
  · exact .inl ⟨c, h, z, h1, rfl, rfl⟩
  · exact .inr ⟨c, h, z, h1, rfl, rfl⟩
/-- The data's first sectors. -/
def dataN (now : List ByteArray) (h m : Nat) : Tx := (List.range m).flatMap fun i => tx (now.getD (2 + h * halfOf now.length + i) ⟨#[]⟩)
theorem dataN_next {now : List ByteArray} {h m : Nat} {s : ByteArray} {t : Tx} (hs : now[2 + h * halfOf now.length + m]? = some s) (ht : t = dataN now h m) : t ++ s.data.toList = dataN now h (m + 1) := by
  unfold dataN at ht ⊢
  rw [List.range_succ, List.flatMap_append, ← ht]
  simp [List.getD_eq_getElem?_getD, hs, tx]
theorem half_mul {h : Nat} (m : Nat) (hh : h < 2) : 0 ≤ (h : Int) * (m : Int) ∧ (h : Int) * (m : Int) ≤ (m : Int) ∧ h * m ≤ m := by
  rcases h with _ | _ | h
  · simp
  · simp
  · omega
theorem best_lt {now : List ByteArray} {k c h z : Nat} (hb : bestN now k = some (c, h, z)) : c < 10000000000 ∧ h < 2 ∧ z < 10000000000 ∧ z % 64 = 0 ∧ z ≤ halfOf now.length * 64 := by
  have hc : ∀ k c h z, candP now k = some (c, h, z) → c < 10000000000 ∧ h < 2 ∧ z < 10000000000 ∧ z % 64 = 0 ∧ z ≤ halfOf now.length * 64 := fun k c h z e => by
    unfold candP at e
    split at e
    · split at e
      · next hh =>
        split at e
        · next hz =>
          cases e
          have := headP_lt hh
          unfold ten10 at this
          exact ⟨this.1, this.2.1, this.2.2, hz⟩
        · cases e
      · cases e
    · cases e
  induction k generalizing c h z with
  | zero => cases hb
  | succ k ih =>
    rw [bestN] at hb
    revert hb
    cases e1 : bestN now k with
    | none => exact fun e => hc _ _ _ _ e
    | some a =>
      cases e2 : candP now k with
      | none => exact fun e => ih (by rw [e1]; exact e)
      | some b =>
        intro e
        have e : (if b.1 > a.1 then some b else some a) = some (c, h, z) := e
        split at e
        · exact hc _ _ _ _ (e2.trans e)
        · exact ih (e1.trans e)
theorem open_none {now : List ByteArray} {k : Nat} (h : bestN now k = none) (hb : bestN now k = bestP now) : openP now = none := by
  unfold openP; rw [← hb, h]
theorem open_norec {now : List ByteArray} {k c h z : Nat} {t : Tx} (hn : bestN now k = some (c, h, z)) (hb : bestN now k = bestP now) (ht : t = dataN now h (z / 64)) (hr : recP t = none) : openP now = none := by
  unfold openP; rw [← hb, hn]
  show (recP (dataN now h (z / 64))).map _ = none
  rw [← ht, hr]; rfl
theorem open_some {now : List ByteArray} {k c h z : Nat} {t : Tx} {rs : List Tx} (hn : bestN now k = some (c, h, z)) (hb : bestN now k = bestP now) (ht : t = dataN now h (z / 64)) (hr : recP t = some rs) : openP now = some ((c, h, z), rs) := by
  unfold openP; rw [← hb, hn]
  show (recP (dataN now h (z / 64))).map _ = _
  rw [← ht, hr]; rfl
theorem dataN_len {now : List ByteArray} (h64 : ∀ s ∈ now, s.size = 64) (h : Nat) : ∀ m, (dataN now h m).length ≤ 64 * m
  | 0 => Nat.le_refl _
  | m + 1 => by
    have ih := dataN_len h64 h m
    unfold dataN at ih ⊢
    rw [List.range_succ, List.flatMap_append, List.length_append]
    have : (tx (now.getD (2 + h * halfOf now.length + m) ⟨#[]⟩)).length ≤ 64 := by
      rw [List.getD_eq_getElem?_getD]
      cases e : now[2 + h * halfOf now.length + m]? with
      | none => simp [tx]
      | some s => rw [tx_len]; exact Nat.le_of_eq (h64 s (List.mem_of_getElem? e))
    simp only [List.flatMap_cons, List.flatMap_nil, List.append_nil]
    omega
theorem data_nil {now : List ByteArray} {h m : Nat} {t : Tx} (h64 : ∀ s ∈ now, s.size = 64) (hr : m = 0 ∨ 2 + h * halfOf now.length + m ≤ now.length) (ht : t = dataN now h m) (he : t = []) : m = 0 := by
  rcases m with _ | m
  · rfl
  · have hs : now[2 + h * halfOf now.length + m]? = some (now[2 + h * halfOf now.length + m]'(by omega)) := List.getElem?_eq_getElem (by omega)
    have h1 := dataN_next (t := dataN now h m) hs rfl
    have h2 := h64 _ (List.mem_of_getElem? hs)
    have h3 : ((dataN now h m) ++ (now[2 + h * halfOf now.length + m]'(by omega)).data.toList).length = 0 := by rw [h1, ← ht, he]; rfl
    rw [List.length_append] at h3
    have h4 := tx_len (now[2 + h * halfOf now.length + m]'(by omega))
    unfold tx at h4
    omega

/- A family of blocks, each told by what lies in it, as one resource (rFam): what pointers in a map or in a slice point to. Over any program, no condition. -/

/-- Blocks of one type, no two alike; each holds just what enc tells. -/
structure FamAt {α : Type} (T : TypeId) (enc : α → List Value) (l : List (Nat × α)) (w : World) : Prop where
  dist : (l.map (fun e => e.1)).Nodup
  at_ : ∀ e ∈ l, w.heap[e.1]? = some (.cells (enc e.2).toArray T (0, 0))
def rFam {α : Type} (wr : Bool) (T : TypeId) (enc : α → List Value) (l : List (Nat × α)) : Res :=
  ⟨wr, fun b => ∃ e ∈ l, e.1 = b, fun w => FamAt T enc l w,
   fun w w' h _ hb => ⟨h.1, fun e he => (hb e.1 ⟨e, he, rfl⟩).trans (h.2 e he)⟩, fun w b h ⟨e, he, hb⟩ => by rw [← hb]; exact lt_of_block (h.2 e he)⟩
section
variable {α : Type} {enc : α → List Value} {T : TypeId} {l : List (Nat × α)} {i b : Nat} {x : α}
theorem rdFam {wr : Bool} (hi : l[i]? = some (b, x)) (off : Nat) {vs : List Value} (h : ((enc x).drop off).take vs.length = vs) : RdAt (rFam wr T enc l) b off vs := fun w hf =>
  rdCell (wr := true) (b := b) (T := T) off h w (hf.2 _ (List.mem_of_getElem? hi))
theorem map_fst_set : ∀ (l : List (Nat × α)) (i : Nat) (b : Nat) (x x' : α), l[i]? = some (b, x) → (l.set i (b, x')).map (fun e => e.1) = l.map (fun e => e.1)
  | [], _, _, _, _, h => by simp at h
  | y :: l, 0, b, x, x', h => by simp at h; subst h; rfl
  | y :: l, i + 1, b, x, x', h => by simp [map_fst_set l i b x x' (by simpa using h)]
theorem fam_other {l : List (Nat × α)} (hn : (l.map (fun e => e.1)).Nodup) {i : Nat} {b : Nat} {x x' : α} (hi : l[i]? = some (b, x)) {e : Nat × α} (he : e ∈ l.set i (b, x')) : e = (b, x') ∨ (e ∈ l ∧ e.1 ≠ b) := by
  obtain ⟨j, hj, rfl⟩ := List.mem_iff_getElem.1 he
  rw [List.length_set] at hj
  by_cases hij : i = j
  · subst hij; left; simp
  · right
    rw [List.getElem_set_ne hij]
    refine ⟨List.getElem_mem hj, fun e => hij ?_⟩
    obtain ⟨hil, hx⟩ := List.getElem?_eq_some_iff.1 hi
    have hp := List.pairwise_iff_getElem.1 hn
    rcases Nat.lt_trichotomy i j with h | h | h
    · exact (hp i j (by simpa using hil) (by simpa using hj) h (by simp only [List.getElem_map, hx, e])).elim
    · exact h
    · exact (hp j i (by simpa using hj) (by simpa using hil) h (by simp only [List.getElem_map, hx, e])).elim
/-- Part of one of them is stored. -/
theorem wrFam (hi : l[i]? = some (b, x)) (off : Nat) (x' : α) {vs : List Value} (h : (enc x).take off ++ (vs ++ (enc x).drop (off + vs.length)) = enc x') (hl : Nat.ble (off + vs.length) (enc x).length = true) :
    WrAt (rFam true T enc l) b off vs (rFam true T enc (l.set i (b, x'))) := by
  have hl' := Nat.le_of_ble_eq_true hl
  have hm := List.mem_of_getElem? hi
  obtain ⟨_, hw⟩ := wrCell (b := b) (cs := enc x) (T := T) off vs hl' h
  refine ⟨rfl, fun w hf => ?_⟩
  obtain ⟨h1, h2, h3, _⟩ := hw w (hf.2 _ hm)
  refine ⟨h1, ⟨by rw [map_fst_set l i b x x' hi]; exact hf.1, fun e he => ?_⟩, ⟨_, hm, rfl⟩, fun y ⟨e, he, hy⟩ => ?_⟩
  · rcases fam_other hf.1 hi he with rfl | ⟨he, hne⟩
    · exact h2
    · have c := (chg_setCells (b := b) vs off w).block e.1 (lt_of_block (hf.2 e he)) hne
      exact c.trans (hf.2 e he)
  · rcases List.mem_or_eq_of_mem_set he with he | rfl
    · exact ⟨e, he, hy⟩
    · exact ⟨_, hm, hy⟩
end
theorem fam_set {α : Type} {l : List α} {j : Nat} {x x' : α} (h : l[j]? = some x) : (l.set j x')[j]? = some x' := by
  rw [List.getElem?_set_self (List.getElem?_eq_some_iff.1 h).1]
section
variable {α : Type} {enc : α → List Value} {T : TypeId} {l : List (Nat × α)} {w0 w : World} {E : Ent} {M : List Res}
/-- A new one. -/
theorem Own.famAdd {b : Nat} {cs : List Value} {x : α} (h : Own w0 E (rCell true b cs T :: rFam true T enc l :: M) w) (he : enc x = cs) : Own w0 E (rFam true T enc (l ++ [(b, x)]) :: M) w := by
  subst he
  have h0 := h.fact 0 rfl
  have h1 := h.fact 1 rfl
  have ap := h.apart
  simp only [List.pairwise_cons, List.mem_cons] at ap
  refine ⟨h.chg, h.mono, ?_, List.pairwise_cons.2 ⟨fun s hs hc x hx hsx => ?_, ap.2.2⟩, ?_⟩
  · intro r hr
    rcases List.mem_cons.1 hr with rfl | hr
    · refine ⟨?_, fun e he => ?_⟩
      · rw [List.map_append]
        refine List.nodup_append.2 ⟨h1.1, by simp, fun a ha c hc => ?_⟩
        obtain ⟨e, he, rfl⟩ := List.mem_map.1 ha
        simp at hc
        subst hc
        exact fun e' => ap.1 _ (.inl rfl) (.inl rfl) _ rfl ⟨e, he, e'⟩
      · rcases List.mem_append.1 he with he | he
        · exact h1.2 e he
        · rw [List.mem_singleton.1 he]; exact h0
    · exact h.facts r (by simp [hr])
  · obtain ⟨e, he, rfl⟩ := hx
    rcases List.mem_append.1 he with he | he
    · exact ap.2.1 s hs (.inl rfl) _ ⟨e, he, rfl⟩ hsx
    · rw [List.mem_singleton.1 he] at hsx
      exact ap.1 s (.inr hs) (.inl rfl) _ rfl hsx
  · intro r hr x hx
    rcases List.mem_cons.1 hr with rfl | hr
    · obtain ⟨e, he, rfl⟩ := hx
      rcases List.mem_append.1 he with he | he
      · exact h.may (rFam true T enc l) (by simp) _ ⟨e, he, rfl⟩
      · rw [List.mem_singleton.1 he]
        exact h.may (rCell true b (enc x) T) (by simp) _ rfl
    · exact h.may r (by simp [hr]) x hx
/-- Fewer of them. -/
theorem Own.famSub {l' : List (Nat × α)} (h : Own w0 E (rFam true T enc l :: M) w) (hs : l'.Sublist l) : Own w0 E (rFam true T enc l' :: M) w := by
  have h1 := h.fact 0 rfl
  have ap := h.apart
  simp only [List.pairwise_cons] at ap
  have hm : ∀ e ∈ l', e ∈ l := fun e he => hs.subset he
  refine ⟨h.chg, h.mono, ?_, List.pairwise_cons.2 ⟨fun s hs' hc x hx hsx => ?_, ap.2⟩, ?_⟩
  · intro r hr
    rcases List.mem_cons.1 hr with rfl | hr
    · exact ⟨h1.1.sublist (hs.map _), fun e he => h1.2 e (hm e he)⟩
    · exact h.facts r (by simp [hr])
  · obtain ⟨e, he, rfl⟩ := hx
    exact ap.1 s hs' (.inl rfl) _ ⟨e, hm e he, rfl⟩ hsx
  · intro r hr x hx
    rcases List.mem_cons.1 hr with rfl | hr
    · obtain ⟨e, he, rfl⟩ := hx
      exact h.may (rFam true T enc l) (by simp) _ ⟨e, hm e he, rfl⟩
    · exact h.may r (by simp [hr]) x hx
/-- None yet. -/
theorem Own.famNil (h : Own w0 E M w) (T : TypeId) (enc : α → List Value) : Own w0 E (rFam true T enc [] :: M) w :=
  ⟨h.chg, h.mono, fun r hr => by
    rcases List.mem_cons.1 hr with rfl | hr
    · exact ⟨by simp, by simp⟩
    · exact h.facts r hr, List.pairwise_cons.2 ⟨fun s _ _ x ⟨e, he, _⟩ => by simp at he, h.apart⟩, fun r hr x hx => by
    rcases List.mem_cons.1 hr with rfl | hr
    · obtain ⟨e, he, _⟩ := hx; simp at he
    · exact h.may r hr x hx⟩
end

section
/- Loops over maps by what is owned: a map that is being gone through (rIter). Over any program, no condition. -/

open Go.MapKept
section
variable {α : Type} [DecidableEq α] {f : α → Value} {kv : List (α × Value)} {w : World} {P : Program}
/-- The entry that has come last. -/
def IterE (P : Program) (w : World) (b r : Nat) (u : Value) : Prop := ∀ w' : World, w'.heap[b]? = w.heap[b]? → w'.heap[r]? = w.heap[r]? → (Instr.entry (.pointer (some ⟨r, 0, none⟩))).run P w' = .ok u w'
theorem run_nextE {b r : Nat} {vis : α → Bool} (h : IterA w b r f kv vis) (inj : ∀ a b, f a = f b → a = b) (ty : TypeId) :
    ((∀ p ∈ kv, vis p.1 = true) ∧ (Instr.next (.pointer (some ⟨r, 0, none⟩)) false ty).run P w = .ok (.tuple #[.bool false]) w) ∨
    ∃ k v w', (k, v) ∈ kv ∧ vis k = false ∧ (Instr.next (.pointer (some ⟨r, 0, none⟩)) false ty).run P w = .ok (.tuple #[.bool true, f k, v]) w' ∧
      IterA w' b r f kv (fun x => vis x || decide (x = k)) ∧ Chg (· = r) w w' ∧ w'.heap.size = w.heap.size ∧ IterE P w' b r (.tuple #[f k, v]) := by
  have hne := h.lt.2.2
  obtain ⟨es, clock, since, seen, c0, hb, he, hs, hr, hold, hsc, hsk, hvis⟩ := h
  have hst := (stamped_iff es clock).1 hs
  have memkv : ∀ x ∈ es.toList, ∃ k, (k, x.val) ∈ kv ∧ x.key = f k := fun x hx => by
    have : (x.key, x.val) ∈ kv.map (fun p => (f p.1, p.2)) := by rw [← he]; exact List.mem_map.2 ⟨x, hx, rfl⟩
    obtain ⟨p, hp, e⟩ := List.mem_map.1 this
    simp only [Prod.mk.injEq] at e
    exact ⟨p.1, by rw [← e.2]; exact hp, e.1.symm⟩
  rcases run_next_at (P := P) w ty r b since c0 seen es clock hr hb hold hsc with ⟨h0, hrun⟩ | ⟨e, hem', w1, hal, hrun⟩
  · left
    refine ⟨fun p hp => ?_, hrun⟩
    have : (f p.1, p.2) ∈ es.toList.map (fun e => (e.key, e.val)) := by rw [he]; exact List.mem_map.2 ⟨p, hp, rfl⟩
    obtain ⟨x, hx, ex⟩ := List.mem_map.1 this
    simp only [Prod.mk.injEq] at ex
    rw [hvis x hx p.1 ex.1]
    exact all_seen es seen h0 x hx
  · right
    obtain ⟨hem, hes⟩ := mem_left hem'
    obtain ⟨k, hk, hkey⟩ := memkv e hem
    have hr1 : w1.heap[r]? = some (.mapIter (some b) since seen c0) := by rcases hal with rfl | rfl <;> exact hr
    have hb1 : w1.heap[b]? = some (.map es clock) := by rcases hal with rfl | rfl <;> exact hb
    have hset := heap_set (o' := .mapIter (some b) since (seen.push e.born) clock) hr1
    have hb' : (ChangeMaps.setBlock w1 r (.mapIter (some b) since (seen.push e.born) clock)).heap[b]? = some (.map es clock) := (hset.2 b (fun e1 => hne e1)).trans hb1
    refine ⟨k, e.val, _, hk, by rw [hvis e hem k hkey]; exact hes, by rw [← hkey]; exact hrun,
      ⟨es, clock, since, seen.push e.born, clock, hb', he, hs, hset.1, hold, hsk, hsk, fun x hx j hj => ?_⟩, ?_, ?_, fun w2 q1 q2 => by rw [← hkey]; exact run_entry_at _ r b since seen es clock e (q2.trans hset.1) (q1.trans hb') hem hst.2.1⟩
    · show (vis j || decide (j = k)) = _
      rw [hvis x hx j hj, contains_push]
      congr 1
      by_cases hbe : x.born = e.born
      · have := born_inj hst.2.1 hx hem hbe
        subst this
        have : j = k := inj _ _ (hj.symm.trans hkey)
        simp [this]
      · have hjk : j ≠ k := fun ejk => by
          subst ejk
          have := entry_eq_of_key hst.2.2 hx hem (hj.trans hkey.symm)
          subst this
          exact hbe rfl
        simp [hbe, hjk]
    · rcases hal with rfl | rfl <;> exact ⟨rfl, rfl, rfl, by simp [ChangeMaps.setBlock], fun i _ hi => hset.2 i (fun e1 => hi e1)⟩
    · rcases hal with rfl | rfl <;> simp [ChangeMaps.setBlock]
end
section
variable {α : Type} [DecidableEq α] {P : Program} {a : Act} {w w0 : World} {En : Ent} {L M : List Res} {Ka : Act → World → Prop} {Q : Exit → Act → World → Prop} {ops : Array Oper} {rest : List Oper} {K E : TypeId} {f : α → Value} {kv : List (α × Value)}
variable {dst : Option Tmp} {m x v : Operand} {T ty : TypeId} {pos : String} {after : Array Edge} {g : Option (Nat × Bool)} {b r : Nat} {vis : α → Bool}
/-- Block r goes through the map at block b; vis: the keys that have come. -/
def rIter (b r : Nat) (f : α → Value) (kv : List (α × Value)) (vis : α → Bool) : Res :=
  ⟨true, fun x => x = b ∨ x = r, fun w => IterA w b r f kv vis, fun w w' h _ hb => by
    obtain ⟨es, clock, since, seen, c0, h1, h2, h3, h4, rest⟩ := h
    exact ⟨es, clock, since, seen, c0, (hb b (.inl rfl)).trans h1, h2, h3, (hb r (.inr rfl)).trans h4, rest⟩, fun w x h hx => by
    obtain ⟨h1, h2, _⟩ := h.lt
    rcases hx with rfl | rfl
    · exact h1
    · exact h2⟩
/-- How many are still to come. -/
def lefts (vis : α → Bool) (kv : List (α × Value)) : Nat := (kv.filter fun p => !vis p.1).length
theorem lefts_lt {k : α} {l : Value} : ∀ {kv : List (α × Value)}, (k, l) ∈ kv → vis k = false → lefts (fun x => vis x || decide (x = k)) kv < lefts vis kv
  | [], h, _ => by cases h
  | p :: r, h, hk => by
    have mono : ∀ kv : List (α × Value), lefts (fun x => vis x || decide (x = k)) kv ≤ lefts vis kv := by
      intro kv
      unfold lefts
      rw [← List.countP_eq_length_filter, ← List.countP_eq_length_filter]
      exact List.countP_mono_left (fun p _ hp => by simp at hp ⊢; exact hp.1)
    rcases List.mem_cons.1 h with rfl | h
    · have := mono r
      simp only [lefts, List.filter_cons, hk, Bool.false_or, decide_true, Bool.not_true, Bool.not_false, if_true, Bool.false_eq_true, if_false, List.length_cons] at this ⊢
      omega
    · have := lefts_lt h hk
      unfold lefts at this ⊢
      simp only [List.filter_cons]
      cases hv : vis p.1 <;> by_cases e : p.1 = k <;> simp [e, hv] at this ⊢ <;> omega
/-- .. and u: the entry that has come last. -/
def rIterE (P : Program) (b r : Nat) (f : α → Value) (kv : List (α × Value)) (vis : α → Bool) (u : Value) : Res :=
  ⟨true, fun x => x = b ∨ x = r, fun w => IterA w b r f kv vis ∧ IterE P w b r u, fun w w' h hs hb =>
    ⟨(rIter b r f kv vis).stab w w' h.1 hs hb, fun w2 h1 h2 => h.2 w2 (h1.trans (hb b (.inl rfl))) (h2.trans (hb r (.inr rfl)))⟩, fun w x h hx => (rIter b r f kv vis).alive w x h.1 hx⟩
theorem g_entry {u : Value} (hx : a.eval m = .pointer (some ⟨r, 0, none⟩)) (i : Nat) (hi : L[i]? = some (rIterE P b r f kv vis u)) : Gives P w0 En L ⟨dst, .entry m, ty, pos, after, g⟩ a u := fun w ho => by
  have hm : IterA w b r f kv vis ∧ IterE P w b r u := ho.fact i hi
  simp [execOp, hx, hm.2 w rfl rfl, Result.andThen]
theorem Own.iterForget {u : Value} (h : Own w0 En L w) (i : Nat) (hi : L[i]? = some (rIterE P b r f kv vis u)) : Own w0 En (L.set i (rIter b r f kv vis)) w :=
  h.upd i hi rfl (Chg.refl _ _) (h.fact i hi : _ ∧ _).1 fun y hy => .inl hy
theorem op_range (hx : (a.eval m, P.underlying T) = (.map (some b), some (.map K E))) (h : Own w0 En L w) (i : Nat) (hi : L[i]? = some (rMap true b f kv))
    (hK : ∀ r w', Own w0 En (L.set i (rIter b r f kv (fun _ => false))) w' → Ka (a.put dst (.pointer (some ⟨r, 0, none⟩))) w') : Oper.wp P ⟨dst, .range T m, ty, pos, after, g⟩ a w Ka Q := by
  simp only [Prod.mk.injEq] at hx
  have hm : MapA w b f kv := h.fact i hi
  obtain ⟨w', hrun, r1, r2, r3⟩ := run_rangeA hx.2 hm
  unfold Oper.wp
  simp [execOp, hx.1, hrun, Result.andThen]
  exact hK _ _ (h.upd i hi rfl (r2.mono fun _ _ f => f.elim) r1 fun y hy => hy.imp (fun e => e) (fun e => Nat.le_of_eq e.symm))
theorem op_next (inj : ∀ a b, f a = f b → a = b) (hx : a.eval m = .pointer (some ⟨r, 0, none⟩)) (h : Own w0 En L w) (i : Nat) (hi : L[i]? = some (rIter b r f kv vis))
    (hDone : (∀ p ∈ kv, vis p.1 = true) → Own w0 En L w → Ka (a.put dst (.tuple #[.bool false])) w)
    (hMore : ∀ k v w', (k, v) ∈ kv → vis k = false → Own w0 En (L.set i (rIterE P b r f kv (fun x => vis x || decide (x = k)) (.tuple #[f k, v]))) w' → Ka (a.put dst (.tuple #[.bool true, f k, v])) w') : Oper.wp P ⟨dst, .next m false, ty, pos, after, g⟩ a w Ka Q := by
  have hm : IterA w b r f kv vis := h.fact i hi
  unfold Oper.wp
  rcases run_nextE (P := P) hm inj ty with ⟨h0, hrun⟩ | ⟨k, v, w', hk, hv, hrun, hit, hc, hz, hen⟩
  · simp [execOp, hx, hrun, Result.andThen]
    exact hDone h0 h
  · simp [execOp, hx, hrun, Result.andThen]
    exact hMore k v w' hk hv (h.upd i hi rfl (hc.mono fun _ _ e => .inr e) ⟨hit, hen⟩ fun y hy => .inl hy)
/-- The map again. -/
theorem Own.iterEnd (h : Own w0 En L w) (i : Nat) (hi : L[i]? = some (rIter b r f kv vis)) : Own w0 En (L.set i (rMap true b f kv)) w :=
  h.upd i hi rfl (Chg.refl _ _) (h.fact i hi : IterA w b r f kv vis).map fun y hy => .inl (.inl hy)
theorem sq_range (hg : Region.wanted ⟨dst, .range T m, ty, pos, after, g⟩ (yielded ops a.tmps) = true) (hx : (a.eval m, P.underlying T) = (.map (some b), some (.map K E))) (h : Own w0 En L w) (i : Nat) (hi : L[i]? = some (rMap true b f kv))
    (hK : ∀ r w', Own w0 En (L.set i (rIter b r f kv (fun _ => false))) w' → LW P ops Q rest (a.put dst (.pointer (some ⟨r, 0, none⟩))) w') : LW P ops Q (⟨dst, .range T m, ty, pos, after, g⟩ :: rest) a w := ⟨sqg hg (op_range hx h i hi fun r w' h => (hK r w' h).out)⟩
theorem sq_next (hg : Region.wanted ⟨dst, .next m false, ty, pos, after, g⟩ (yielded ops a.tmps) = true) (inj : ∀ a b, f a = f b → a = b) (hx : a.eval m = .pointer (some ⟨r, 0, none⟩)) (h : Own w0 En L w) (i : Nat) (hi : L[i]? = some (rIter b r f kv vis))
    (hDone : (∀ p ∈ kv, vis p.1 = true) → Own w0 En L w → LW P ops Q rest (a.put dst (.tuple #[.bool false])) w)
    (hMore : ∀ k v w', (k, v) ∈ kv → vis k = false → Own w0 En (L.set i (rIterE P b r f kv (fun x => vis x || decide (x = k)) (.tuple #[f k, v]))) w' → LW P ops Q rest (a.put dst (.tuple #[.bool true, f k, v])) w') : LW P ops Q (⟨dst, .next m false, ty, pos, after, g⟩ :: rest) a w :=
  ⟨sqg hg (op_next inj hx h i hi (fun h0 h => (hDone h0 h).out) fun k v w' h1 h2 h => (hMore k v w' h1 h2 h).out)⟩
end

end
section
/- The built-in clear and the built-in copy at structs; a slice cut behind; over any program, no condition. -/
open Go.RowKit Go.Lib

section
variable {α : Type} {enc : α → List Value} {k : Nat} {P : Program}
theorem zeroCells_len (z : Array Value) (n : Nat) : (Builtin.zeroCells z n).toList.length = n * z.size := by simp [Builtin.zeroCells]
theorem zeroCells_one {z : Array Value} (h1 : ∀ u ∈ z.toList, u.oneCell' = true) (n : Nat) : ∀ u ∈ (Builtin.zeroCells z n).toList, u.oneCell' = true := by
  intro u hu
  simp only [Builtin.zeroCells, Array.toList_map, List.mem_map, Array.mem_toList_iff, Array.mem_range] at hu
  obtain ⟨i, hi, rfl⟩ := hu
  have hz : 0 < z.size := by
    rcases Nat.eq_zero_or_pos z.size with h | h
    · rw [h] at hi; simp at hi
    · exact h
  have hm : i % z.size < z.size := Nat.mod_lt _ hz
  refine h1 _ ?_
  rw [getElem!_pos z _ hm]
  simp
/-- clear(s), s a slice of structs. -/
theorem run_clearK (w : World) (t e ty : TypeId) (z : Value) (ht : P.underlying t = some (.slice e)) (hv : ∀ w, (zeroValue e).run P w = .ok z w) (h1 : ∀ u ∈ z.cells.toList, u.oneCell' = true) {T : TypeId} {b o n c : Nat} {cs : Array Value} (hb : w.heap[b]? = some (.cells cs T (0, 0))) (hn : 0 < n) (hc : o + n * z.cells.size ≤ cs.size) :
    (Builtin.clear_ #[t] ty #[.slice (some ⟨b, o, none⟩) n c]).run P w = .ok (.tuple #[]) (w.setCells b o (Builtin.zeroCells z.cells n).toList) := by
  have hst := run_storeCells_cells (P := P) b o (Builtin.zeroCells z.cells n).toList 0 w (fun j hj => by
      rw [zeroCells_len] at hj
      rw [cell_of hb]
      simp; omega) (fun j _ => free_of hb _) (zeroCells_one h1 n)
  simp only [Nat.add_zero] at hst
  obtain ⟨m, rfl⟩ : ∃ m, n = m + 1 := ⟨n - 1, by omega⟩
  simp [Builtin.clear_, run_underlying ht, hv, hst]
/-- The slice cut behind its first i elements, what lay behind them written over. -/
theorem SliceAt.cutOver (he : ∀ a, (enc a).length = k) {w : World} {g off n cap E i : Nat} {l : List α} {S : Nat → Prop} (h : SliceAt w (.slice (some ⟨g, off, none⟩) n cap) E k n (l.flatMap enc) S) (hi : i ≤ n) (hl : n = l.length) {vs : List Value} (hv : vs.length = (n - i) * k) :
    SliceAt (w.setCells g (off + i * k) vs) (.slice (some ⟨g, off, none⟩) i cap) E k i ((l.take i).flatMap enc) S := by
  subst hl
  obtain ⟨h1, ⟨e, _⟩ | ⟨g', off', cap', cs, e, hb, h2, h3, h4, h5, h6⟩⟩ := h
  · cases e
  cases e
  obtain ⟨cs', e1, e2, e3, e4⟩ := block_setCells vs (off + i * k) w cs hb
  have hle : i * k ≤ l.length * k := Nat.mul_le_mul_right _ hi
  refine ⟨by rw [flat_len enc he, List.length_take, Nat.min_eq_left hi], .inr ⟨g, off, cap, cs', rfl, e1, by omega, h3, by rw [e2]; exact h4, fun j u hj => ?_, h6⟩⟩
  have hjl := (List.getElem?_eq_some_iff.1 hj).1
  rw [flat_len enc he, List.length_take, Nat.min_eq_left hi] at hjl
  rw [e4 _ (by omega)]
  refine h5 j u ?_
  have e5 : l.flatMap enc = (l.take i).flatMap enc ++ (l.drop i).flatMap enc := by rw [← List.flatMap_append, List.take_append_drop]
  rw [e5, List.getElem?_append_left (by rw [flat_len enc he, List.length_take, Nat.min_eq_left hi]; exact hjl)]
  exact hj
/-- copy(d, s), both of structs. -/
theorem run_copyK (w : World) (dT sT ty elem : TypeId) (b o dLen dCap : Nat) (a : Addr) (sLen sCap : Nat) (cs : List Value) {size : Nat}
    (hu : P.underlying dT = some (.slice elem)) (hs : (P.info? elem).map (·.size) = some size) (hn : cs.length = Nat.min sLen dLen * size)
    (hsrc : ∀ j v, cs[j]? = some v → w.cell? (a.add j) = some v) (hc : ∀ j, j < cs.length → (w.cell? ⟨b, o + j, none⟩).isSome = true) (hf : ∀ j, j < cs.length → w.frozen? ⟨b, o + j, none⟩ = false) (h1 : ∀ v ∈ cs, v.oneCell' = true) :
    (Builtin.copy_ #[dT, sT] ty #[.slice (some ⟨b, o, none⟩) dLen dCap, .slice (some a) sLen sCap]).run P w = .ok (goInt (Nat.min sLen dLen)) (w.setCells b o cs) := by
  have hl := run_loadCells_list (P := P) w a cs hsrc
  have hst := run_storeCells_cells (P := P) b o cs 0 w (by simpa using hc) (by simpa using hf) h1
  cases hq : P.info? elem with
  | none => simp [hq] at hs
  | some i =>
    have hi : i.size = size := by simpa [hq] using hs
    simp [Builtin.copy_, run_underlying hu, Builtin.lenOf, Builtin.firstCells, sizeOf, typeInfo, hq, hi, ← hn, hl, hst]
end

end
/- The operations' laws by what is owned: parts of one slice: a part of a part, a part cleared, a part appended to another part of the same slice, a slice cut to its beginning. Over any program, no condition. -/
/-- Elements are stored over elements. -/
theorem SliceAt.setRows {α : Type} {enc : α → List Value} {k : Nat} (he : ∀ a, (enc a).length = k) {w : World} {g off cap E n : Nat} {l : List α} {S : Nat → Prop} (h : SliceAt w (.slice (some ⟨g, off, none⟩) n cap) E k n (l.flatMap enc) S) (hl : n = l.length) (lo : Nat) (news : List α) (hn : lo + news.length ≤ l.length) :
    SliceAt (w.setCells g (off + lo * k) (news.flatMap enc)) (.slice (some ⟨g, off, none⟩) n cap) E k n ((l.take lo ++ (news ++ l.drop (lo + news.length))).flatMap enc) S := by
  subst hl
  obtain ⟨h1, ⟨e, _⟩ | ⟨g', off', cap', cs, e, hb, h2, h3, h4, h5, h6⟩⟩ := h
  · cases e
  cases e
  obtain ⟨cs', e1, e2, e3, e4⟩ := block_setCells (news.flatMap enc) (off + lo * k) w cs hb
  have hnl : (news.flatMap enc).length = news.length * k := flat_len enc he news
  have htl : ((l.take lo).flatMap enc).length = lo * k := by rw [flat_len enc he, List.length_take, Nat.min_eq_left (by omega)]
  have hck : l.length * k ≤ cap * k := Nat.mul_le_mul_right _ h2
  have hlk : (lo + news.length) * k ≤ l.length * k := Nat.mul_le_mul_right _ hn
  rw [Nat.add_mul] at hlk
  have hlen : (l.take lo ++ (news ++ l.drop (lo + news.length))).length = l.length := by simp; omega
  refine ⟨by rw [flat_len enc he, hlen], .inr ⟨g, off, cap, cs', rfl, e1, h2, h3, by rw [e2]; exact h4, fun j u hj => ?_, h6⟩⟩
  have hjl := (List.getElem?_eq_some_iff.1 hj).1
  rw [flat_len enc he, hlen] at hjl
  have split3 : l.flatMap enc = (l.take lo).flatMap enc ++ (((l.drop lo).take news.length).flatMap enc ++ (l.drop (lo + news.length)).flatMap enc) := by
    rw [← List.flatMap_append, ← List.flatMap_append, ← List.drop_drop, List.take_append_drop, List.take_append_drop]
  have hml : (((l.drop lo).take news.length).flatMap enc).length = news.length * k := by rw [flat_len enc he, List.length_take, List.length_drop, Nat.min_eq_left (by omega)]
  rw [List.flatMap_append, List.flatMap_append, List.getElem?_append, htl] at hj
  by_cases c1 : j < lo * k
  · rw [if_pos c1] at hj
    rw [e4 _ (.inl (by omega))]
    refine h5 j u ?_
    rw [split3, List.getElem?_append, htl, if_pos c1]; exact hj
  · rw [if_neg c1, List.getElem?_append, hnl] at hj
    by_cases c2 : j - lo * k < news.length * k
    · rw [if_pos c2] at hj
      rw [show off + j = off + lo * k + (j - lo * k) by omega, e3 _ (by rw [hnl]; exact c2) (by omega)]
      exact hj
    · rw [if_neg c2] at hj
      rw [e4 _ (.inr (by rw [hnl]; omega))]
      refine h5 j u ?_
      rw [split3, List.getElem?_append, htl, if_neg c1, List.getElem?_append, hml, if_neg c2]; exact hj
theorem zeros_flat {α : Type} {enc : α → List Value} {z : Array Value} {zr : α} (hz : z.toList = enc zr) (h0 : 0 < z.size) (m : Nat) : (Builtin.zeroCells z m).toList = (List.replicate m zr).flatMap enc := by
  have hlen : (enc zr).length = z.size := by rw [← hz]; simp
  apply List.ext_getElem?
  intro j
  have hl1 : (Builtin.zeroCells z m).toList.length = m * z.size := zeroCells_len z m
  have hl2 : ((List.replicate m zr).flatMap enc).length = m * z.size := by
    clear hl1
    induction m with
    | zero => simp
    | succ m ih => rw [List.replicate_succ, List.flatMap_cons, List.length_append, ih, hlen, Nat.add_mul, Nat.one_mul, Nat.add_comm]
  by_cases hj : j < m * z.size
  · have hq : j / z.size < m := Nat.div_lt_of_lt_mul (by rw [Nat.mul_comm]; exact hj)
    have hr : j % z.size < z.size := Nat.mod_lt _ h0
    have e1 : (Builtin.zeroCells z m).toList[j]? = z.toList[j % z.size]? := by
      simp only [Builtin.zeroCells, Array.toList_map, List.getElem?_map, Array.toList_range, List.getElem?_range hj, Option.map_some]
      rw [getElem!_pos z _ hr, Array.getElem?_toList, Array.getElem?_eq_getElem hr]
    have e2 : ∀ (m q r : Nat), q < m → r < z.size → ((List.replicate m zr).flatMap enc)[q * z.size + r]? = (enc zr)[r]? := by
      intro m
      induction m with
      | zero => intro q r h; omega
      | succ m ih =>
        intro q r hq hr
        rw [List.replicate_succ, List.flatMap_cons]
        cases q with
        | zero => rw [Nat.zero_mul, Nat.zero_add, List.getElem?_append_left (by rw [hlen]; exact hr)]
        | succ q =>
          rw [List.getElem?_append_right (by rw [hlen, Nat.add_mul]; omega), hlen, show (q + 1) * z.size + r - z.size = q * z.size + r by rw [Nat.add_mul]; omega]
          exact ih q r (by omega) hr
    have e3 := e2 m (j / z.size) (j % z.size) hq hr
    rw [show j / z.size * z.size + j % z.size = j by rw [Nat.mul_comm]; exact Nat.div_add_mod j z.size] at e3
    rw [e1, e3, hz]
  · rw [List.getElem?_eq_none (by omega), List.getElem?_eq_none (by omega)]
section
variable {P : Program} {a : Act} {w w0 : World} {E : Ent} {L M : List Res} {K : Act → World → Prop} {Q : Exit → Act → World → Prop} {ops : Array Oper} {rest : List Oper}
variable {dst : Option Tmp} {x y : Operand} {T T2 ty : TypeId} {pos : String} {after : Array Edge} {g : Option (Nat × Bool)} {v : Value} {d k n : Nat} {xs : List Value}
variable {α : Type} {enc : α → List Value} {l : List α}
theorem sliceBounds_run2 {LV HV : Option Value} {l h n cap : Nat} (hlo : boundOf 0 LV = some (l : Int)) (hhi : boundOf (n : Int) HV = some (h : Int)) (hlh : l ≤ h) (hc : h ≤ cap) : (Instr.sliceBounds true n cap LV HV none).run P w = .ok (l, h, cap) w := by
  have e1 : (0 : Int) ≤ (l : Int) ∧ (l : Int) ≤ (h : Int) := by omega
  have e2 : (0 : Int) ≤ (h : Int) ∧ (h : Int) ≤ (cap : Int) := by omega
  have e3 : (l : Int).toNat = l := Int.toNat_natCast l
  have e4 : (h : Int).toNat = h := Int.toNat_natCast h
  rcases bound_some hlo with ⟨rfl, hl⟩ | ⟨kl, rfl⟩ <;> rcases bound_some hhi with ⟨rfl, hh⟩ | ⟨kh, rfl⟩
  · obtain rfl : l = 0 := by omega
    obtain rfl : h = n := by omega
    simp [Instr.sliceBounds, hc]
  · obtain rfl : l = 0 := by omega
    simp only [Instr.sliceBounds, Instr.sliceBound, asIntOf, Sem.run_bind, Sem.run_pure, Result.andThen_ok]
    simp [e2, hc, hlh]
  · obtain rfl : h = n := by omega
    simp [Instr.sliceBounds, Instr.sliceBound, asIntOf, e1, hlh, hc]
  · simp [Instr.sliceBounds, Instr.sliceBound, asIntOf, e1, e2, hlh, hc]
/-- A part of the beginning of a slice, perhaps beyond that beginning. -/
theorem g_sub0 {r : Res} {lo hi : Option Operand} {LV HV : Option Value} (m l h : Nat)
    (hx : (a.eval x, P.underlying T, (P.info? d).map (·.size), lo.map a.eval, hi.map a.eval) = (subV k v 0 m, some (.slice d), some k, LV, HV)) (hlo : boundOf 0 LV = some (l : Int)) (hhi : boundOf (m : Int) HV = some (h : Int)) (hlh : l ≤ h) (hn : h ≤ n) (i : Nat) (hi' : L[i]? = some r) (hr : SlRd r v n xs) :
    Gives P w0 E L ⟨dst, .slice T x lo hi none, ty, pos, after, g⟩ a (subV k v l h) := fun w ho => by
  simp only [Prod.mk.injEq] at hx
  obtain ⟨h1, h3, h4, e4, e5⟩ := hx
  obtain ⟨⟨ad, cap, e, hc1, hc2, _⟩, _⟩ := hr w (ho.fact i hi')
  have hz := sizeOf_run (w := w) h4
  have hb := sliceBounds_run2 (P := P) (w := w) (cap := cap) hlo hhi hlh (by omega)
  rw [e, subV_zero] at h1
  simp only [execOp, Instr.sliceAt, h1, e4, e5, Option.map_none, Sem.run_bind, run_underlying h3, Result.andThen_ok, Instr.slice, hb, hz, Sem.run_pure]
  rw [e]
  rfl
/-- v[l:h:m]. -/
def sub3V (k : Nat) (v : Value) (lo hi mx : Nat) : Value := match v with
  | .slice a _ _ => .slice (if mx = lo then a else a.map (·.add (lo * k))) (hi - lo) (mx - lo)
  | v => v
theorem g_sub3 {r : Res} {lo hi mx : Option Operand} {zl zh zm : Int} (l h m : Nat)
    (hx : (a.eval x, P.underlying T, (P.info? d).map (·.size), lo.map a.eval, hi.map a.eval, mx.map a.eval) = (v, some (.slice d), some k, some (.int .i64 zl), some (.int .i64 zh), some (.int .i64 zm))) (hl : zl = (l : Int)) (hh : zh = (h : Int)) (hm : zm = (m : Int)) (hlh : l ≤ h) (hhm : h ≤ m) (hn : m ≤ n) (i : Nat) (hi' : L[i]? = some r) (hr : SlRd r v n xs) :
    Gives P w0 E L ⟨dst, .slice T x lo hi mx, ty, pos, after, g⟩ a (sub3V k v l h m) := fun w ho => by
  subst hl hh hm
  simp only [Prod.mk.injEq] at hx
  obtain ⟨h1, h3, h4, e4, e5, e6⟩ := hx
  obtain ⟨⟨ad, cap, e, hc1, hc2, _⟩, _⟩ := hr w (ho.fact i hi')
  have hz := sizeOf_run (w := w) h4
  have q1 : (0 : Int) ≤ (l : Int) ∧ (l : Int) ≤ (h : Int) := by omega
  have q2 : (0 : Int) ≤ (h : Int) ∧ (h : Int) ≤ (m : Int) := by omega
  have q3 : (0 : Int) ≤ (m : Int) ∧ (m : Int) ≤ (cap : Int) := by omega
  have hb : (Instr.sliceBounds true n cap (some (.int .i64 l)) (some (.int .i64 h)) (some (.int .i64 m))).run P w = .ok (l, h, m) w := by
    have q2' : h ≤ m := hhm
    have q3' : m ≤ cap := by omega
    simp [Instr.sliceBounds, Instr.sliceBound, asIntOf, q1, q2, q3, hlh, q2', q3']
  rw [e] at h1
  simp only [execOp, Instr.sliceAt, h1, e4, e5, e6, Sem.run_bind, run_underlying h3, Result.andThen_ok, Instr.slice, hb, hz, Sem.run_pure]
  rw [e]
  rfl
/-- len of the beginning of a slice. -/
theorem g_len0 {r : Res} {m : Nat} (hx : (a.eval x, P.underlying T) = (subV k v 0 m, some (.slice d))) (i : Nat) (hi : L[i]? = some r) (hr : SlRd r v n xs) :
    Gives P w0 E L ⟨dst, .call { callee := .builtin .len, args := #[x], argTypes := #[T] }, ty, pos, after, g⟩ a (.int .i64 m) := fun w h => by
  simp only [Prod.mk.injEq] at hx
  obtain ⟨h1, h2⟩ := hx
  obtain ⟨⟨ad, cap, e, _⟩, _⟩ := hr w (h.fact i hi)
  rw [e, subV_zero] at h1
  simp [execOp, resolve, invoke, builtin, Builtin.len_, h1, Sem.run_bind, run_underlying h2, goInt]
theorem rows_place {w : World} (h : (rRows true v d k enc l).fact w) (hn : 0 < l.length) : ∃ g off cap cs, v = .slice (some ⟨g, off, none⟩) l.length cap ∧ w.heap[g]? = some (.cells cs d (0, 0)) ∧ l.length ≤ cap ∧ off + cap * k ≤ cs.size ∧ ∀ j u, (l.flatMap enc)[j]? = some u → cs[off + j]? = some u := by
  obtain ⟨_, ⟨_, h2⟩ | ⟨g, off, cap, cs, rfl, hb, h2, h3, h4, h5, _⟩⟩ := (h : SliceAt _ _ _ _ _ _ _)
  · have h2' : l.length = 0 := h2
    omega
  · exact ⟨g, off, cap, cs, rfl, hb, h2, h4, h5⟩
/-- A part is cleared. -/
theorem op_clear {size lo hi : Nat} {z : Value} (zr : α) (hx : (a.eval x, P.underlying T) = (subV size v lo hi, some (.slice d))) (hv : ∀ w, (zeroValue d).run P w = .ok z w) (hz : z.cells.toList = enc zr) (he : ∀ x, (enc x).length = size) (hs : 0 < size) (h1 : (enc zr).all (·.oneCell') = true) (hlt : lo < hi) (hhi : hi ≤ l.length)
    (h : Own w0 E L w) (i : Nat) (hi' : L[i]? = some (rRows true v d size enc l)) (hK : ∀ w', Own w0 E (L.set i (rRows true v d size enc (l.take lo ++ (List.replicate (hi - lo) zr ++ l.drop hi)))) w' → K (a.put dst (.tuple #[])) w') :
    Oper.wp P ⟨dst, .call { callee := .builtin .clear, args := #[x], argTypes := #[T] }, ty, pos, after, g⟩ a w K Q := by
  simp only [Prod.mk.injEq] at hx
  have hf : SliceAt w v d size l.length (l.flatMap enc) (blkOf v) := h.fact i hi'
  obtain ⟨b, off, cap, cs, rfl, hb, hcap, hoff, _⟩ := rows_place (h.fact i hi') (by omega)
  have hzs : z.cells.size = size := by rw [← he zr, ← hz]; simp
  have hlc : (lo + (hi - lo)) * size ≤ cap * size := Nat.mul_le_mul_right _ (by omega)
  rw [Nat.add_mul] at hlc
  have hrun := run_clearK (P := P) w T d ty z hx.2 hv (fun u hu => by rw [hz] at hu; exact List.all_eq_true.1 h1 u hu) (b := b) (o := off + lo * size) (n := hi - lo) (c := cap - lo) hb (by omega) (by rw [hzs]; omega)
  rw [zeros_flat hz (by omega)] at hrun
  have hval : a.eval x = .slice (some ⟨b, off + lo * size, none⟩) (hi - lo) (cap - lo) := by
    rw [hx.1]; simp [subV, show cap ≠ lo by omega, Addr.add_lit]
  unfold Oper.wp
  simp [execOp, resolve, invoke, builtin, hval, hrun, Result.andThen, Oper.upon]
  refine hK _ (h.upd i hi' rfl (chg_setCells _ _ _) ?_ (fun y hy => .inl hy))
  have hS := hf.setRows he rfl lo (List.replicate (hi - lo) zr) (by simp; omega)
  rw [List.length_replicate, show lo + (hi - lo) = hi by omega] at hS
  show SliceAt _ _ d size (l.take lo ++ (List.replicate (hi - lo) zr ++ l.drop hi)).length _ _
  rw [show (l.take lo ++ (List.replicate (hi - lo) zr ++ l.drop hi)).length = l.length by simp; omega]
  exact hS
/-- append(s[:i], s[j:]...). -/
theorem op_self {size lo hi : Nat} {s : Operand} (hx : (a.eval s, a.eval x, P.underlying T, okInfo P d size) = (subV size v 0 lo, subV size v hi l.length, some (.slice d), true)) (he : ∀ x, (enc x).length = size) (h1 : ∀ x, (enc x).all (·.oneCell') = true) (hlt : lo ≤ hi) (hhi : hi ≤ l.length) (hn : 0 < l.length)
    (h : Own w0 E L w) (i : Nat) (hi' : L[i]? = some (rRows true v d size enc l)) (hK : ∀ w', Own w0 E (L.set i (rRows true v d size enc (l.take lo ++ (l.drop hi ++ l.drop (lo + (l.length - hi)))))) w' → K (a.put dst (subV size v 0 (lo + (l.length - hi)))) w') :
    Oper.wp P ⟨dst, .call { callee := .builtin .append, args := #[s, x], argTypes := #[T, T] }, ty, pos, after, g⟩ a w K Q := by
  simp only [Prod.mk.injEq] at hx
  obtain ⟨hs, hx, h3, h4'⟩ := hx
  obtain ⟨z, bytes, h4, h5, hby, h8⟩ := okInfo_spec h4'
  obtain ⟨ii, hii, _, hsz, _⟩ := info_parts h4
  have hf : SliceAt w v d size l.length (l.flatMap enc) (blkOf v) := h.fact i hi'
  obtain ⟨b, off, cap, cs, rfl, hb, hcap, hoff, hcell⟩ := rows_place (h.fact i hi') hn
  rw [subV_zero] at hs
  have hdl : (l.drop hi).length = l.length - hi := List.length_drop
  have hnl : ((l.drop hi).flatMap enc).length = (l.length - hi) * size := by rw [flat_len enc he, hdl]
  obtain ⟨A, hA, hsrc⟩ : ∃ A : Addr, (if cap = hi then some (⟨b, off, none⟩ : Addr) else some (⟨b, off + hi * size, none⟩ : Addr)) = some A ∧ ∀ t u, ((l.drop hi).flatMap enc)[t]? = some u → w.cell? (A.add t) = some u := by
    by_cases hc : cap = hi
    · refine ⟨⟨b, off, none⟩, by simp [hc], fun t u hu => ?_⟩
      have := (List.getElem?_eq_some_iff.1 hu).1
      rw [hnl, show l.length - hi = 0 by omega, Nat.zero_mul] at this
      omega
    · refine ⟨⟨b, off + hi * size, none⟩, by simp [hc], fun t u hu => ?_⟩
      rw [Addr.add_lit, cell_of hb, Nat.add_assoc]
      refine hcell _ u ?_
      have e : l.flatMap enc = (l.take hi).flatMap enc ++ (l.drop hi).flatMap enc := by rw [← List.flatMap_append, List.take_append_drop]
      have tl : ((l.take hi).flatMap enc).length = hi * size := by rw [flat_len enc he, List.length_take, Nat.min_eq_left hhi]
      rw [e, List.getElem?_append_right (by omega), tl, Nat.add_sub_cancel_left]; exact hu
  have hval : a.eval x = .slice (some A) (l.length - hi) (cap - hi) := by
    rw [hx, ← hA]
    show Value.slice (if cap = hi then some (⟨b, off, none⟩ : Addr) else (some (⟨b, off, none⟩ : Addr)).map (·.add (hi * size))) (l.length - hi) (cap - hi) = _
    simp only [Option.map_some, Addr.add_lit]
  have hlc : (lo + (l.length - hi)) * size ≤ cap * size := Nat.mul_le_mul_right _ (by omega)
  rw [Nat.add_mul] at hlc
  have hrun := run_append_room_cells (P := P) w T ty d ii h3 hii b off lo cap A (l.length - hi) (cap - hi) ((l.drop hi).flatMap enc) (by rw [hsz]; exact hnl) hsrc (fun u hu => by
      obtain ⟨y, _, hy⟩ := List.mem_flatMap.1 hu
      exact List.all_eq_true.1 (h1 y) u hy) (by omega) (fun j hj => by rw [hsz, cell_of hb]; rw [hnl] at hj; simp; omega) (fun j hj => free_of hb _)
  rw [hsz] at hrun
  unfold Oper.wp
  simp [execOp, resolve, invoke, builtin, hs, hval, hrun, Result.andThen, Oper.upon]
  have hS := hf.setRows he rfl lo (l.drop hi) (by rw [hdl]; omega)
  rw [hdl] at hS
  have hF : (rRows true (.slice (some ⟨b, off, none⟩) l.length cap) d size enc (l.take lo ++ (l.drop hi ++ l.drop (lo + (l.length - hi))))).fact (w.setCells b (off + lo * size) ((l.drop hi).flatMap enc)) := by
    show SliceAt _ _ d size (l.take lo ++ (l.drop hi ++ l.drop (lo + (l.length - hi)))).length _ _
    rw [show (l.take lo ++ (l.drop hi ++ l.drop (lo + (l.length - hi)))).length = l.length by simp; omega]
    exact hS
  have := hK _ (h.upd i hi' rfl (chg_setCells _ _ _) hF (fun y hy => .inl hy))
  rw [subV_zero] at this
  exact this
/-- A slice cut to its beginning. -/
theorem Own.cut {m : Nat} (he : ∀ x, (enc x).length = k) (h : Own w0 E L w) (i : Nat) (hi' : L[i]? = some (rRows true v d k enc l)) (hm : m ≤ l.length) : Own w0 E (L.set i (rRows true (subV k v 0 m) d k enc (l.take m))) w := by
  have hf : SliceAt w v d k l.length (l.flatMap enc) (blkOf v) := h.fact i hi'
  have hb : blkOf (subV k v 0 m) = blkOf v := by
    obtain ⟨ad, cap, rfl⟩ := hf.shape
    rw [subV_zero]
    cases ad <;> rfl
  refine h.upd i hi' rfl (Chg.refl _ _) ?_ (fun y hy => .inl (show blkOf v y from hb ▸ hy))
  show SliceAt w (subV k v 0 m) d k (l.take m).length ((l.take m).flatMap enc) (blkOf (subV k v 0 m))
  rw [hb]
  have hl : (l.take m).length = m := by rw [List.length_take, Nat.min_eq_left hm]
  obtain ⟨e, ⟨rfl, h2⟩ | ⟨g, off, cap, cs, rfl, hbk, h2, h3, h4, h5, h6⟩⟩ := hf
  · have h2' : l.length = 0 := h2
    obtain rfl : m = 0 := by omega
    rw [subV_zero]
    exact ⟨by simp, .inl ⟨rfl, by simp⟩⟩
  · rw [subV_zero, hl]
    refine ⟨by rw [flat_len enc he, hl], .inr ⟨g, off, cap, cs, rfl, hbk, by omega, h3, h4, fun j u hj => h5 j u ?_, h6⟩⟩
    have e5 : l.flatMap enc = (l.take m).flatMap enc ++ (l.drop m).flatMap enc := by rw [← List.flatMap_append, List.take_append_drop]
    rw [e5, List.getElem?_append_left (List.getElem?_eq_some_iff.1 hj).1]; exact hj
theorem sq_clear {size lo hi : Nat} {z : Value} (zr : α) (hg : Region.wanted ⟨dst, .call { callee := .builtin .clear, args := #[x], argTypes := #[T] }, ty, pos, after, g⟩ (yielded ops a.tmps) = true) (hx : (a.eval x, P.underlying T) = (subV size v lo hi, some (.slice d))) (hv : ∀ w, (zeroValue d).run P w = .ok z w) (hz : z.cells.toList = enc zr) (he : ∀ x, (enc x).length = size) (hs : Nat.ble 1 size = true) (h1 : (enc zr).all (·.oneCell') = true) (hlt : lo < hi) (hhi : hi ≤ l.length)
    (h : Own w0 E L w) (i : Nat) (hi' : L[i]? = some (rRows true v d size enc l)) (hK : ∀ w', Own w0 E (L.set i (rRows true v d size enc (l.take lo ++ (List.replicate (hi - lo) zr ++ l.drop hi)))) w' → LW P ops Q rest (a.put dst (.tuple #[])) w') :
    LW P ops Q (⟨dst, .call { callee := .builtin .clear, args := #[x], argTypes := #[T] }, ty, pos, after, g⟩ :: rest) a w := ⟨sqg hg (op_clear zr hx hv hz he (Nat.le_of_ble_eq_true hs) h1 hlt hhi h i hi' fun w' h => (hK w' h).out)⟩
theorem sq_self {size lo hi : Nat} {s : Operand} (hg : Region.wanted ⟨dst, .call { callee := .builtin .append, args := #[s, x], argTypes := #[T, T] }, ty, pos, after, g⟩ (yielded ops a.tmps) = true) (hx : (a.eval s, a.eval x, P.underlying T, okInfo P d size) = (subV size v 0 lo, subV size v hi l.length, some (.slice d), true)) (he : ∀ x, (enc x).length = size) (h1 : ∀ x, (enc x).all (·.oneCell') = true) (hlt : lo ≤ hi) (hhi : hi ≤ l.length) (hn : 0 < l.length)
    (h : Own w0 E L w) (i : Nat) (hi' : L[i]? = some (rRows true v d size enc l)) (hK : ∀ w', Own w0 E (L.set i (rRows true v d size enc (l.take lo ++ (l.drop hi ++ l.drop (lo + (l.length - hi)))))) w' → LW P ops Q rest (a.put dst (subV size v 0 (lo + (l.length - hi)))) w') :
    LW P ops Q (⟨dst, .call { callee := .builtin .append, args := #[s, x], argTypes := #[T, T] }, ty, pos, after, g⟩ :: rest) a w := ⟨sqg hg (op_self hx he h1 hlt hhi hn h i hi' fun w' h => (hK w' h).out)⟩
variable {br : Nat → Bool} {fuel i0 : Nat} {listed : Array Bool} {is : List Nat}
theorem ad_self {size lo hi : Nat} {s : Operand} (js : List Nat) (hi0 : ops[i0]? = some ⟨dst, .call { callee := .builtin .append, args := #[s, x], argTypes := #[T, T] }, ty, pos, after, g⟩) (hb : (br i0, Region.wanted ⟨dst, .call { callee := .builtin .append, args := #[s, x], argTypes := #[T, T] }, ty, pos, after, g⟩ (yielded ops a.tmps)) = (false, true))
    (hx : (a.eval s, a.eval x, P.underlying T, okInfo P d size) = (subV size v 0 lo, subV size v hi l.length, some (.slice d), true)) (he : ∀ x, (enc x).length = size) (h1 : ∀ x, (enc x).all (·.oneCell') = true) (hlt : lo ≤ hi) (hhi : hi ≤ l.length) (hn : 0 < l.length)
    (h : Own w0 E M w) (i : Nat) (hi' : M[i]? = some (rRows true v d size enc l))
    (hK : ∀ w', Own w0 E (M.set i (rRows true v d size enc (l.take lo ++ (l.drop hi ++ l.drop (lo + (l.length - hi)))))) w' → pk js (M.set i (rRows true v d size enc (l.take lo ++ (l.drop hi ++ l.drop (lo + (l.length - hi)))))) = L ∧ DW P ops Q w0 E br fuel (listed.setIfInBounds i0 true) L (a.put dst (subV size v 0 (lo + (l.length - hi)))) w')
    (hs : AllD P ops Q w0 E br fuel listed L a w is) : AllD P ops Q w0 E br fuel listed L a w (i0 :: is) := by
  simp only [Prod.mk.injEq] at hb
  exact ⟨AllO.cons hi0 hb.1 hb.2 (op_self hx he h1 hlt hhi hn h i hi' fun w' h' => ⟨h'.sub js (hK w' h').1, (hK w' h').2.out⟩) hs.out⟩
end

/- The operations' laws by what is owned: max and min of ints; what is owned, in another order. Over any program, no condition. -/
section
variable {P : Program} {a : Act} {w w0 : World} {E : Ent} {L : List Res} {dst : Option Tmp} {x y : Operand} {T ty : TypeId} {pos : String} {after : Array Edge} {g : Option (Nat × Bool)} {u v : Int}
theorem g_maxI (hx : (a.eval x, a.eval y) = (.int .i64 u, .int .i64 v)) : Gives P w0 E L ⟨dst, .call { callee := .builtin .max, args := #[x, y], argTypes := #[T, T] }, ty, pos, after, g⟩ a (.int .i64 (max u v)) := fun w _ => by
  simp only [Prod.mk.injEq] at hx
  have e : (if v > u then v else u) = max u v := by split <;> omega
  simp [execOp, resolve, invoke, builtin, hx.1, hx.2, Builtin.max_, Builtin.max2, Result.andThen, -gt_iff_lt]
  rw [e]
theorem g_minI (hx : (a.eval x, a.eval y) = (.int .i64 u, .int .i64 v)) : Gives P w0 E L ⟨dst, .call { callee := .builtin .min, args := #[x, y], argTypes := #[T, T] }, ty, pos, after, g⟩ a (.int .i64 (min u v)) := fun w _ => by
  simp only [Prod.mk.injEq] at hx
  have e : (if v < u then v else u) = min u v := by split <;> omega
  simp [execOp, resolve, invoke, builtin, hx.1, hx.2, Builtin.min_, Builtin.min2, Result.andThen]
  rw [e]
theorem Own.pickE {L M : List Res} (h : Own w0 E L w) (is : List Nat) (e : pk is L = M) : Own w0 E M w := e ▸ h.pick is
end

/- What is left of a number parted by a constant. Over any program, no condition. -/
section
variable {P : Program} {a : Act} {w w0 : World} {E : Ent} {L : List Res}
theorem rem_run {T : TypeId} {n k : Nat} (hT : P.underlying T = some (.int .i64)) (hk : 0 < k) (hn : n ≤ 9223372036854775807) : (binOp .rem T (.int .i64 (n : Int)) (.int .i64 (k : Int))).run P w = .ok (.int .i64 ((n % k : Nat) : Int)) w := by
  have h1 : ¬ (k : Int) = 0 := by omega
  have h2 : ((n : Int)).tmod (k : Int) = ((n % k : Nat) : Int) := by rw [Int.tmod_eq_emod_of_nonneg (by omega)]; rfl
  have h3 : n % k ≤ n := Nat.mod_le n k
  have h4 : IntKind.i64.wrap ((n : Int) % (k : Int)) = ((n % k : Nat) : Int) := by
    have e : (n : Int) % (k : Int) = ((n % k : Nat) : Int) := rfl
    rw [e]; generalize n % k = q at h3 ⊢; exact IntWalk.i64_in _ ⟨by omega, by omega⟩
  have h5 : ¬ k = 0 := by omega
  simp [binOp, run_underlying hT, Op.intDiv, h1, h2, h4, h5]
theorem g_rem {dst : Option Tmp} {T ty' : TypeId} {x y : Operand} {ty : TypeId} {pos : String} {after : Array Edge} {g : Option (Nat × Bool)} (n k : Nat)
    (hx : (a.eval x, a.eval y, P.underlying T) = (.int .i64 (n : Int), .int .i64 (k : Int), some (.int .i64))) (hk : 0 < k) (hn : n ≤ 9223372036854775807) :
    Gives P w0 E L ⟨dst, .binOp .rem T x y ty', ty, pos, after, g⟩ a (.int .i64 ((n % k : Nat) : Int)) := fun w ho => by
  simp only [Prod.mk.injEq] at hx
  obtain ⟨h1, h2, h3⟩ := hx
  simp only [execOp, h1, h2, Sem.run_bind, rem_run h3 hk hn, Result.andThen_ok, Sem.run_pure, eqGuard]
  rfl
/-- A block that holds one element, as a row. -/
theorem Own.cellRow1 {α : Type} {M : List Res} {b : Nat} {d : TypeId} (x : α) (k : Nat) (enc : α → List Value) (he : (enc x).length = k) (h : Own w0 E (rCell true b (enc x) d :: M) w) : Own w0 E (rRows true (.slice (some ⟨b, 0, none⟩) 1 1) d k enc [x] :: M) w :=
  h.upd (i := 0) (r := rCell true b (enc x) d) rfl rfl (Chg.refl _ _) ⟨by simp [he], .inr ⟨b, 0, 1, (enc x).toArray, rfl, h.fact 0 rfl, Nat.le_refl _, by unfold maxLen; omega, by simp [he], fun j u hj => by simpa using hj, rfl⟩⟩ fun y hy => .inl hy
end

/- logp: contracts by what is owned (printed by walk.py). -/
theorem open_spec {B : Nat} (ad : Nat → Addr) (a1 a2 : Addr) (db : Nat) (d : PDisk) (Sd : Nat → Prop) (h1 : 1 ≤ d.now.length) (h4 : d.now.length ≤ 4000) (h64 : ∀ s ∈ d.now, s.size = 64)  : Spec Tryz.prog 9 #[.pointer (some ⟨db, 0, none⟩)] [rDisk B db d Sd, rNumE a1 a2, rTab, rEnv B ad [1, 2]] (fun u L => (openP d.now = none ∧ u = .tuple #[.pointer none, .slice none 0 0, errV ad 1] ∧ L = [rDisk B db d Sd, rNumE a1 a2, rTab, rEnv B ad [1, 2]]) ∨ (∃ (lb : Nat) (v : Value) (c h z : Nat) (rs : List ByteArray), openP d.now = some ((c, h, z), rs.map tx) ∧ u = .tuple #[.pointer (some ⟨lb, 0, none⟩), v, .nilIface] ∧ L = [rDisk B db d Sd, rNumE a1 a2, rTab, rEnv B ad [1, 2], rCell true lb [.pointer (some ⟨db, 0, none⟩), .int .i64 (c : Int), .int .i64 (h : Int), .int .i64 (z : Int), .bool false] 70, rArg v 1 strC rs])) := by
  have hhf0 : halfOf d.now.length = (d.now.length - 2) / 2 := rfl
  refine spec_of (#[.pointer (some ⟨db, 0, none⟩), undef, undef, undef, undef, undef, undef, undef, undef, undef, undef, undef, undef, undef, undef, undef, undef, undef, undef, undef, undef, undef, undef, undef, undef, undef, undef, undef, undef, undef, undef, undef, undef, undef, undef, undef, undef, undef, undef, undef, undef, undef, undef, undef, undef, undef, undef, undef, undef, undef, undef, undef, undef, undef, undef, undef, undef, undef, undef, undef, undef, undef, undef, undef, undef, undef, undef, undef, undef, undef, undef, undef, undef, undef, undef, undef, undef, undef, undef, undef, undef, undef, undef, undef, undef, undef, undef, undef, undef, undef, undef, undef, undef, undef, undef, undef, undef, undef, undef, undef, undef, undef, undef, undef, undef, undef, undef, undef, undef, undef]) Tryz.func9 rfl (by kernel_rfl) fun E w0 w h => ?_
  have h := h.eSub [2] 3 rfl
  have h := h.nobest db 0
  refine c_seq ?_
  refine c_reg ?_
  refine sq_p (.pointer none) rfl (fun _ => by kernel_rfl) ?_
  refine sq_p (.slice none 0 0) rfl (fun _ => by kernel_rfl) ?_
  refine sq_p (.nilIface) rfl (fun _ => by kernel_rfl) ?_
  refine lnil ?_
  refine thn_n ?_
  refine c_seq ?_
  refine c_reg ?_
  refine sq_p (.pointer none) rfl (fun _ => by kernel_rfl) ?_
  refine lnil ?_
  refine thn_n ?_
  refine c_seq ?_
  refine c_seq ?_
  refine c_reg ?_
  refine sq_p (.pointer (some ⟨db, 0, none⟩)) rfl (fun _ => by kernel_rfl) ?_
  refine sq_call #[.pointer (some ⟨db, 0, none⟩)] [2] rfl (dsectors_spec (B := B) (d := d) (S := Sd)) (fun _ => by kernel_rfl) h ?_; rintro v_ L_ w ⟨rfl, rfl⟩ h
  refine sq_q rfl h (g_minI (u := 2) (v := (d.now.length : Int)) (by kernel_rfl)) ?_
  refine sq_p (.int .i64 0) rfl (fun _ => by kernel_rfl) ?_
  refine lnil ?_
  refine thn_n ?_
  refine c_block ?_
  refine c_loop (X := Nat × Nat × Value × Option (Nat × Nat × Nat) × (Nat → Value)) (fun ⟨k, bb, bv, bo, J0⟩ => ⟨#[.pointer (some ⟨db, 0, none⟩), undef, .pointer none, .slice none 0 0, .nilIface, bv, J0 6, J0 7, J0 8, J0 9, J0 10, J0 11, J0 12, undef, undef, undef, undef, undef, undef, .pointer (some ⟨db, 0, none⟩), .int .i64 (d.now.length : Int), .int .i64 (min 2 (d.now.length : Int)), .int .i64 ((k : Nat) : Int), J0 23, J0 24, J0 25, J0 26, J0 27, J0 28, J0 29, J0 30, J0 31, J0 32, J0 33, J0 34, J0 35, J0 36, J0 37, J0 38, J0 39, J0 40, J0 41, J0 42, J0 43, J0 44, J0 45, J0 46, J0 47, J0 48, J0 49, J0 50, J0 51, J0 52, J0 53, J0 54, J0 55, J0 56, J0 57, J0 58, J0 59, J0 60, J0 61, J0 62, J0 63, J0 64, J0 65, J0 66, J0 67, J0 68, J0 69, undef, undef, undef, undef, undef, undef, undef, undef, undef, undef, undef, undef, undef, undef, undef, undef, undef, undef, undef, undef, undef, undef, undef, undef, undef, undef, undef, undef, undef, undef, undef, undef, undef, undef, undef, undef, undef, undef, undef, undef], []⟩)
    (fun ⟨k, bb, bv, bo, J0⟩ => [rBest db bb bo, rDisk B db d Sd, rEnv B ad [2], rNumE a1 a2, rTab, rEnv B ad [1, 2]]) (fun ⟨k, bb, bv, bo, J0⟩ => k ≤ 2 ∧ k ≤ d.now.length ∧ bo = bestN d.now k ∧ (bv : Value) = bestV bb bo) (fun ⟨k, bb, bv, bo, J0⟩ => 2 - k)
    ⟨0, 0, (.pointer none), none, (fun n => (#[.pointer (some ⟨db, 0, none⟩), undef, .pointer none, .slice none 0 0, .nilIface, .pointer none, undef, undef, undef, undef, undef, undef, undef, undef, undef, undef, undef, undef, undef, .pointer (some ⟨db, 0, none⟩), .int .i64 (d.now.length : Int), .int .i64 (min 2 (d.now.length : Int)), .int .i64 0, undef, undef, undef, undef, undef, undef, undef, undef, undef, undef, undef, undef, undef, undef, undef, undef, undef, undef, undef, undef, undef, undef, undef, undef, undef, undef, undef, undef, undef, undef, undef, undef, undef, undef, undef, undef, undef, undef, undef, undef, undef, undef, undef, undef, undef, undef, undef, undef, undef, undef, undef, undef, undef, undef, undef, undef, undef, undef, undef, undef, undef, undef, undef, undef, undef, undef, undef, undef, undef, undef, undef, undef, undef, undef, undef, undef, undef, undef, undef, undef, undef, undef, undef, undef, undef, undef, undef] : Array Value).getD n undef)⟩ ⟨by omega, by omega, rfl, rfl⟩ (by kernel_rfl) [1, 0, 0, 0, 0, 0] (by kernel_rfl) h ?_
  rintro ⟨k, bb, bv, bo, J0⟩ w hG h
  obtain ⟨hk2, hkl, hbo, hbv⟩ : k ≤ 2 ∧ k ≤ d.now.length ∧ bo = bestN d.now k ∧ (bv : Value) = bestV bb bo := hG
  rcases bo with _ | ⟨c0, h0, z0⟩
  · skip
    obtain rfl : bv = .pointer none := hbv
    refine c_seq ?_
    refine c_reg ?_
    refine sq_p (.bool (decide (((k : Nat) : Int) < min 2 (d.now.length : Int)))) rfl (fun _ => by kernel_rfl) ?_
    refine lnil ?_
    refine thn_n ?_
    refine c_seq ?_
    refine c_cond (decide (((k : Nat) : Int) < min 2 (d.now.length : Int))) (by kernel_rfl) (fun hc1 => ?_) (fun hc1 => ?_)
    · skip
      have hc1 := of_decide_eq_true hc1
      obtain ⟨sk, hsk⟩ : ∃ s_, d.now[k]? = some s_ := ⟨_, List.getElem?_eq_getElem (by omega)⟩
      have hsz := h64 sk (List.mem_of_getElem? hsk)
      refine c_skip ?_
      refine thn_n ?_
      refine c_seq ?_
      refine c_block ?_
      refine c_seq ?_
      refine c_reg ?_
      refine sq_p (.int .i64 ((k : Nat) : Int)) rfl (fun _ => by kernel_rfl) ?_
      refine sq_p (.int .i64 ((k : Nat) : Int)) rfl (fun _ => by kernel_rfl) ?_
      refine lnil ?_
      refine thn_n ?_
      refine c_seq ?_
      refine c_reg ?_
      refine sq_p (.pointer (some ⟨db, 0, none⟩)) rfl (fun _ => by kernel_rfl) ?_
      refine sq_p (.int .i64 ((k : Nat) : Int)) rfl (fun _ => by kernel_rfl) ?_
      refine sq_call #[.pointer (some ⟨db, 0, none⟩), .int .i64 ((k : Nat) : Int)] [1, 1] rfl (dreadN_spec (B := B) (b := db) (d := d) (S := Sd) ad ((k : Nat) : Int) k sk (by (try push_cast); omega) hsk) (fun _ => by kernel_rfl) h ?_; rintro v_ L_ w ⟨rfl, rfl⟩ h
      refine sq_p (.tuple #[.string sk, .nilIface]) rfl (fun _ => by kernel_rfl) ?_
      refine sq_p (.string sk) rfl (fun _ => by kernel_rfl) ?_
      refine sq_p (.nilIface) rfl (fun _ => by kernel_rfl) ?_
      refine sq_p (.string sk) rfl (fun _ => by kernel_rfl) ?_
      refine sq_p (.nilIface) rfl (fun _ => by kernel_rfl) ?_
      refine lnil ?_
      refine thn_n ?_
      refine c_seq ?_
      refine c_reg ?_
      refine sq_p (.string sk) rfl (fun _ => by kernel_rfl) ?_
      refine sq_call #[.string sk] [3, 3] rfl (headOf_alt a1 a2 sk hsz) (fun _ => by kernel_rfl) h ?_; rintro v_ L_ w (⟨cc2, hw3, zz4, hhd5, rfl, rfl⟩ | ⟨cc2, hw3, zz4, hhd5, rfl, rfl⟩) h
      · skip
        have hlt_hhd5 := headP_lt hhd5
        unfold ten10 at hlt_hhd5
        refine sq_p (.tuple #[.int .i64 (cc2 : Int), .int .i64 (hw3 : Int), .int .i64 (zz4 : Int), .bool true]) rfl (fun _ => by kernel_rfl) ?_
        refine sq_p (.int .i64 (cc2 : Int)) rfl (fun _ => by kernel_rfl) ?_
        refine sq_p (.int .i64 (hw3 : Int)) rfl (fun _ => by kernel_rfl) ?_
        refine sq_p (.int .i64 (zz4 : Int)) rfl (fun _ => by kernel_rfl) ?_
        refine sq_p (.bool true) rfl (fun _ => by kernel_rfl) ?_
        refine sq_p (.int .i64 (cc2 : Int)) rfl (fun _ => by kernel_rfl) ?_
        refine sq_p (.int .i64 (hw3 : Int)) rfl (fun _ => by kernel_rfl) ?_
        refine sq_p (.int .i64 (zz4 : Int)) rfl (fun _ => by kernel_rfl) ?_
        refine sq_p (.bool true) rfl (fun _ => by kernel_rfl) ?_
        refine lnil ?_
        refine thn_n ?_
        refine c_seq ?_
        refine c_reg ?_
        refine sq_p (.bool true) rfl (fun _ => by kernel_rfl) ?_
        refine sq_p (.bool true) rfl (fun _ => by kernel_rfl) ?_
        refine sq_p (.int .i64 (zz4 : Int)) (by kernel_rfl) (fun _ => by kernel_rfl) ?_
        refine sq_q (by kernel_rfl) h (g_rem zz4 64 (by kernel_rfl) (by omega) (by omega)) ?_
        obtain ⟨b6, hb6⟩ : ∃ b_ : Bool, b_ = (decide (((zz4 % 64 : Nat) : Int) = 0)) := ⟨_, rfl⟩
        refine sq_q (v := .bool b6) (by kernel_rfl) h (by subst hb6; exact g_pure (v := .bool (decide (((zz4 % 64 : Nat) : Int) = 0))) fun _ => by kernel_rfl) ?_
        refine sq_p (.bool b6) rfl (fun _ => by kernel_rfl) ?_
        refine sq_p (.bool b6) rfl (fun _ => by kernel_rfl) ?_
        refine sq_m1 (v := .int .i64 (zz4 : Int)) b6 (by cases b6 <;> kernel_rfl) h (fun hB => by subst hB; exact g_pure (v := .int .i64 (zz4 : Int)) fun _ => by kernel_rfl) ?_
        refine sq_m1 (v := .pointer (some ⟨db, 0, none⟩)) b6 (by cases b6 <;> kernel_rfl) h (fun hB => by subst hB; exact g_pure (v := .pointer (some ⟨db, 0, none⟩)) fun _ => by kernel_rfl) ?_
        rcases Bool.eq_false_or_eq_true b6 with hc7 | hc7
        · skip
          subst hc7
          have q8 := hb6.symm
          have q8 := of_decide_eq_true q8
          refine sq_call #[.pointer (some ⟨db, 0, none⟩)] [2] (by kernel_rfl) (half_spec (B := B) db d Sd h1 h4) (fun _ => by kernel_rfl) h ?_; rintro v_ L_ w ⟨rfl, rfl⟩ h
          refine sq_q (by kernel_rfl) h (g_eq (v := .int .i64 (IntKind.i64.wrap (((halfOf d.now.length : Nat) : Int) * 64))) (v' := .int .i64 (((halfOf d.now.length : Nat) : Int) * 64)) (g_pure fun _ => by kernel_rfl) (wr (by omega))) ?_
          obtain ⟨b9, hb9⟩ : ∃ b_ : Bool, b_ = (decide ((zz4 : Int) ≤ ((halfOf d.now.length : Nat) : Int) * 64)) := ⟨_, rfl⟩
          refine sq_q (v := .bool b9) (by kernel_rfl) h (by subst hb9; exact g_pure (v := .bool (decide ((zz4 : Int) ≤ ((halfOf d.now.length : Nat) : Int) * 64))) fun _ => by kernel_rfl) ?_
          refine sq_p (.bool b9) rfl (fun _ => by kernel_rfl) ?_
          refine sq_p (.bool b9) rfl (fun _ => by kernel_rfl) ?_
          refine sq_m1 (v := .pointer none) b9 (by cases b9 <;> kernel_rfl) h (fun hB => by subst hB; exact g_pure (v := .pointer none) fun _ => by kernel_rfl) ?_
          refine sq_m1 (v := .bool true) b9 (by cases b9 <;> kernel_rfl) h (fun hB => by subst hB; exact g_pure (v := .bool true) fun _ => by kernel_rfl) ?_
          refine sq_m1 (v := .bool true) b9 (by cases b9 <;> kernel_rfl) h (fun hB => by subst hB; exact g_pure (v := .bool true) fun _ => by kernel_rfl) ?_
          refine sn (by cases b9 <;> kernel_rfl) ?_
          refine sn (by cases b9 <;> kernel_rfl) ?_
          refine sn (by cases b9 <;> kernel_rfl) ?_
          refine sn (by cases b9 <;> kernel_rfl) ?_
          refine sn (by cases b9 <;> kernel_rfl) ?_
          refine sn (by cases b9 <;> kernel_rfl) ?_
          refine sq_m1 (v := .bool true) b9 (by cases b9 <;> kernel_rfl) h (fun hB => by subst hB; exact g_pure (v := .bool true) fun _ => by kernel_rfl) ?_
          obtain ⟨b10, hb10⟩ : ∃ b_ : Bool, b_ = (b9 && true) := ⟨_, rfl⟩
          refine sq_q (v := .bool b10) rfl h (by subst hb10; exact g_pure (v := .bool (b9 && true)) fun _ => by cases b9 <;> kernel_rfl) ?_
          refine lnil ?_
          refine thn_n ?_
          refine c_cond (b10) (by kernel_rfl) (fun hc11 => ?_) (fun hc11 => ?_)
          · skip
            have q12 : (b9 && true) = true := by rw [← hb10]; exact hc11
            have q13 : b9 = true := by revert q12; cases b9 <;> simp
            have q14 : true = true := by revert q12; cases b9 <;> cases true <;> simp
            have q15 : (decide ((zz4 : Int) ≤ ((halfOf d.now.length : Nat) : Int) * 64)) = true := by rw [← hb9]; exact q13
            have q15 := of_decide_eq_true q15
            refine c_reg ?_
            refine sq_p (.pointer (some ⟨db, 0, none⟩)) rfl (fun _ => by kernel_rfl) ?_
            refine sq_p (.int .i64 (cc2 : Int)) rfl (fun _ => by kernel_rfl) ?_
            refine sq_p (.int .i64 (hw3 : Int)) rfl (fun _ => by kernel_rfl) ?_
            refine sq_p (.int .i64 (zz4 : Int)) rfl (fun _ => by kernel_rfl) ?_
            refine sq_p (.agg #[.pointer (some ⟨db, 0, none⟩), .int .i64 (cc2 : Int), .int .i64 (hw3 : Int), .int .i64 (zz4 : Int), .bool false]) rfl (fun _ => by kernel_rfl) ?_
            refine sq_new rfl (fun b => .pointer (some ⟨b, 0, none⟩)) [.pointer (some ⟨db, 0, none⟩), .int .i64 (cc2 : Int), .int .i64 (hw3 : Int), .int .i64 (zz4 : Int), .bool false] 70 (fun _ => by kernel_rfl) h ?_; intro k16 w h
            refine sq_p (.pointer (some ⟨k16, 0, none⟩)) rfl (fun _ => by kernel_rfl) ?_
            refine lnil ?_
            refine blk_n (thn_n ?_)
            refine c_reg ?_
            refine sq_q rfl h (g_eq (v := .int .i64 (IntKind.i64.wrap (((k : Nat) : Int) + 1))) (v' := .int .i64 ((k + 1 : Nat) : Int)) (g_pure fun _ => by kernel_rfl) (wr (by omega))) ?_
            refine sq_p (.int .i64 ((k + 1 : Nat) : Int)) rfl (fun _ => by kernel_rfl) ?_
            refine lnil ?_
            have h := (h.pick [0, 0, 0, 0, 0, 0, 0]).best
            have hQ17 : ((k + 1) ≤ 2 ∧ (k + 1) ≤ d.now.length ∧ (some (cc2, hw3, zz4)) = bestN d.now (k + 1) ∧ ((.pointer (some ⟨k16, 0, none⟩)) : Value) = bestV k16 (some (cc2, hw3, zz4))) ∧ (2 - (k + 1)) < (2 - k) := ⟨⟨by omega, by omega, best_new hbo hsk hhd5 ⟨by omega, by have hgo_ := hc11; subst hb10; subst hb9; simp at hgo_; omega⟩ (fun a e_ => by cases e_), rfl⟩, by omega⟩
            refine loop_end (fun j => ⟨k + 1, k16, .pointer (some ⟨k16, 0, none⟩), (some (cc2, hw3, zz4)), j⟩) hQ17 (by kernel_rfl) [0, 0, 2, 0, 0, 1] (by kernel_rfl) h
          · skip
            have q18 : (b9 && true) = false := by rw [← hb10]; exact hc11
            refine c_skip ?_
            refine blk_n (thn_n ?_)
            refine c_reg ?_
            refine sq_q rfl h (g_eq (v := .int .i64 (IntKind.i64.wrap (((k : Nat) : Int) + 1))) (v' := .int .i64 ((k + 1 : Nat) : Int)) (g_pure fun _ => by kernel_rfl) (wr (by omega))) ?_
            refine sq_p (.int .i64 ((k + 1 : Nat) : Int)) rfl (fun _ => by kernel_rfl) ?_
            refine lnil ?_
            have hQ19 : ((k + 1) ≤ 2 ∧ (k + 1) ≤ d.now.length ∧ none = bestN d.now (k + 1) ∧ ((.pointer none) : Value) = bestV bb none) ∧ (2 - (k + 1)) < (2 - k) := ⟨⟨by omega, by omega, best_old hbo hsk hhd5 (fun hx_ => by obtain ⟨hx1_, hx2_, hx3_⟩ := hx_; have hgo_ := hc11; subst hb10; subst hb9; simp at hgo_; omega), rfl⟩, by omega⟩
            refine loop_end (fun j => ⟨k + 1, bb, .pointer none, none, j⟩) hQ19 (by kernel_rfl) [4, 0, 2, 0, 0, 0] (by kernel_rfl) h
        · skip
          subst hc7
          have q20 := hb6.symm
          have q20 := of_decide_eq_false q20
          refine sn (by kernel_rfl) ?_
          refine sn (by kernel_rfl) ?_
          refine sn (by kernel_rfl) ?_
          refine sq_p (.bool false) rfl (fun _ => by kernel_rfl) ?_
          refine sq_p (.bool false) rfl (fun _ => by kernel_rfl) ?_
          refine sn (by kernel_rfl) ?_
          refine sn (by kernel_rfl) ?_
          refine sn (by kernel_rfl) ?_
          refine sn (by kernel_rfl) ?_
          refine sn (by kernel_rfl) ?_
          refine sn (by kernel_rfl) ?_
          refine sn (by kernel_rfl) ?_
          refine sn (by kernel_rfl) ?_
          refine sn (by kernel_rfl) ?_
          refine sn (by kernel_rfl) ?_
          refine sq_p (.bool false) rfl (fun _ => by kernel_rfl) ?_
          refine lnil ?_
          refine thn_n ?_
          refine c_false (by kernel_rfl) ?_
          refine c_skip ?_
          refine blk_n (thn_n ?_)
          refine c_reg ?_
          refine sq_q rfl h (g_eq (v := .int .i64 (IntKind.i64.wrap (((k : Nat) : Int) + 1))) (v' := .int .i64 ((k + 1 : Nat) : Int)) (g_pure fun _ => by kernel_rfl) (wr (by omega))) ?_
          refine sq_p (.int .i64 ((k + 1 : Nat) : Int)) rfl (fun _ => by kernel_rfl) ?_
          refine lnil ?_
          have hQ21 : ((k + 1) ≤ 2 ∧ (k + 1) ≤ d.now.length ∧ none = bestN d.now (k + 1) ∧ ((.pointer none) : Value) = bestV bb none) ∧ (2 - (k + 1)) < (2 - k) := ⟨⟨by omega, by omega, best_old hbo hsk hhd5 (fun hx_ => by have := hx_.1; omega), rfl⟩, by omega⟩
          refine loop_end (fun j => ⟨k + 1, bb, .pointer none, none, j⟩) hQ21 (by kernel_rfl) [4, 2, 2, 0, 0, 0] (by kernel_rfl) h
      · skip
        refine sq_p (.tuple #[.int .i64 cc2, .int .i64 hw3, .int .i64 zz4, .bool false]) rfl (fun _ => by kernel_rfl) ?_
        refine sq_p (.int .i64 cc2) rfl (fun _ => by kernel_rfl) ?_
        refine sq_p (.int .i64 hw3) rfl (fun _ => by kernel_rfl) ?_
        refine sq_p (.int .i64 zz4) rfl (fun _ => by kernel_rfl) ?_
        refine sq_p (.bool false) rfl (fun _ => by kernel_rfl) ?_
        refine sq_p (.int .i64 cc2) rfl (fun _ => by kernel_rfl) ?_
        refine sq_p (.int .i64 hw3) rfl (fun _ => by kernel_rfl) ?_
        refine sq_p (.int .i64 zz4) rfl (fun _ => by kernel_rfl) ?_
        refine sq_p (.bool false) rfl (fun _ => by kernel_rfl) ?_
        refine lnil ?_
        refine thn_n ?_
        refine c_seq ?_
        refine c_reg ?_
        refine sq_p (.bool false) rfl (fun _ => by kernel_rfl) ?_
        refine sq_p (.bool false) rfl (fun _ => by kernel_rfl) ?_
        refine sn (by kernel_rfl) ?_
        refine sn (by kernel_rfl) ?_
        refine sn (by kernel_rfl) ?_
        refine sq_p (.bool false) rfl (fun _ => by kernel_rfl) ?_
        refine sq_p (.bool false) rfl (fun _ => by kernel_rfl) ?_
        refine sn (by kernel_rfl) ?_
        refine sn (by kernel_rfl) ?_
        refine sn (by kernel_rfl) ?_
        refine sn (by kernel_rfl) ?_
        refine sn (by kernel_rfl) ?_
        refine sq_p (.bool false) rfl (fun _ => by kernel_rfl) ?_
        refine sq_p (.bool false) rfl (fun _ => by kernel_rfl) ?_
        refine sn (by kernel_rfl) ?_
        refine sn (by kernel_rfl) ?_
        refine sn (by kernel_rfl) ?_
        refine sn (by kernel_rfl) ?_
        refine sn (by kernel_rfl) ?_
        refine sn (by kernel_rfl) ?_
        refine sn (by kernel_rfl) ?_
        refine sn (by kernel_rfl) ?_
        refine sn (by kernel_rfl) ?_
        refine sn (by kernel_rfl) ?_
        refine sq_p (.bool false) rfl (fun _ => by kernel_rfl) ?_
        refine lnil ?_
        refine thn_n ?_
        refine c_false (by kernel_rfl) ?_
        refine c_skip ?_
        refine blk_n (thn_n ?_)
        refine c_reg ?_
        refine sq_q rfl h (g_eq (v := .int .i64 (IntKind.i64.wrap (((k : Nat) : Int) + 1))) (v' := .int .i64 ((k + 1 : Nat) : Int)) (g_pure fun _ => by kernel_rfl) (wr (by omega))) ?_
        refine sq_p (.int .i64 ((k + 1 : Nat) : Int)) rfl (fun _ => by kernel_rfl) ?_
        refine lnil ?_
        have hQ22 : ((k + 1) ≤ 2 ∧ (k + 1) ≤ d.now.length ∧ none = bestN d.now (k + 1) ∧ ((.pointer none) : Value) = bestV bb none) ∧ (2 - (k + 1)) < (2 - k) := ⟨⟨by omega, by omega, best_bad hbo hsk hhd5, rfl⟩, by omega⟩
        refine loop_end (fun j => ⟨k + 1, bb, .pointer none, none, j⟩) hQ22 (by kernel_rfl) [4, 2, 2, 0, 0, 0] (by kernel_rfl) h
    · skip
      have hc1 := of_decide_eq_false hc1
      have hba : bestN d.now k = bestP d.now := best_all hk2 hkl (by omega) h1
      refine c_exit ?_
      refine thn_e (rnd_e (blk_e (thn_n ?_)))
      refine c_seq ?_
      refine c_seq ?_
      refine c_reg ?_
      refine sq_p (.pointer none) rfl (fun _ => by kernel_rfl) ?_
      refine sq_p (.bool true) rfl (fun _ => by kernel_rfl) ?_
      refine lnil ?_
      refine thn_n ?_
      refine c_true (by kernel_rfl) ?_
      refine c_seq ?_
      refine d_start 4 [5] (by kernel_rfl) h fun w h => ?_
      refine d_take 0 6 [5] rfl (v := errV ad 1) (by kernel_rfl) (qp_thn (qp_thn qp_body)) (yq (by kernel_rfl) (g_ldr (b := gl 1) 0 [errV ad 1] (errV ad 1) (by kernel_rfl) 0 rfl (rdEnv (c := 1) (by decide) rfl))) h (by kernel_rfl) ?_
      refine d_take 1 1 [5] rfl (v := .pointer none) (by kernel_rfl) (qp_thn (qp_thn qp_body)) (yq (by kernel_rfl) (g_pure (v := .pointer none) fun _ => by kernel_rfl)) h (by kernel_rfl) ?_
      refine d_take 2 3 [5] rfl (v := .slice none 0 0) (by kernel_rfl) (qp_thn (qp_thn qp_body)) (yq (by kernel_rfl) (g_pure (v := .slice none 0 0) fun _ => by kernel_rfl)) h (by kernel_rfl) ?_
      refine d_take 3 7 [5] rfl (v := errV ad 1) (by kernel_rfl) (qp_thn (qp_thn qp_body)) (yq (by kernel_rfl) (g_pure (v := errV ad 1) fun _ => by kernel_rfl)) h (by kernel_rfl) ?_
      refine d_done (by kernel_rfl) ?_
      refine thn_n ?_
      refine c_ret ?_
      refine thn_r ?_
      refine ret_end [.pointer none, .slice none 0 0, errV ad 1] [1, 2, 2, 2] h (by kernel_rfl) (res_t (by kernel_rfl) (res_t (by kernel_rfl) (res_t (by kernel_rfl) res_n))) ?_
      exact .inl ⟨open_none hbo.symm hba, rfl, rfl⟩
  · skip
    obtain rfl : bv = .pointer (some ⟨bb, 0, none⟩) := hbv
    have h := h.unbest
    obtain ⟨hc0, hh0, hz0, hz64, hzh⟩ := best_lt hbo.symm
    obtain ⟨hm0, hm1, hm2⟩ := half_mul (halfOf d.now.length) hh0
    refine c_seq ?_
    refine c_reg ?_
    refine sq_p (.bool (decide (((k : Nat) : Int) < min 2 (d.now.length : Int)))) rfl (fun _ => by kernel_rfl) ?_
    refine lnil ?_
    refine thn_n ?_
    refine c_seq ?_
    refine c_cond (decide (((k : Nat) : Int) < min 2 (d.now.length : Int))) (by kernel_rfl) (fun hc23 => ?_) (fun hc23 => ?_)
    · skip
      have hc23 := of_decide_eq_true hc23
      obtain ⟨sk, hsk⟩ : ∃ s_, d.now[k]? = some s_ := ⟨_, List.getElem?_eq_getElem (by omega)⟩
      have hsz := h64 sk (List.mem_of_getElem? hsk)
      refine c_skip ?_
      refine thn_n ?_
      refine c_seq ?_
      refine c_block ?_
      refine c_seq ?_
      refine c_reg ?_
      refine sq_p (.int .i64 ((k : Nat) : Int)) rfl (fun _ => by kernel_rfl) ?_
      refine sq_p (.int .i64 ((k : Nat) : Int)) rfl (fun _ => by kernel_rfl) ?_
      refine lnil ?_
      refine thn_n ?_
      refine c_seq ?_
      refine c_reg ?_
      refine sq_p (.pointer (some ⟨db, 0, none⟩)) rfl (fun _ => by kernel_rfl) ?_
      refine sq_p (.int .i64 ((k : Nat) : Int)) rfl (fun _ => by kernel_rfl) ?_
      refine sq_call #[.pointer (some ⟨db, 0, none⟩), .int .i64 ((k : Nat) : Int)] [1, 1] rfl (dreadN_spec (B := B) (b := db) (d := d) (S := Sd) ad ((k : Nat) : Int) k sk (by (try push_cast); omega) hsk) (fun _ => by kernel_rfl) h ?_; rintro v_ L_ w ⟨rfl, rfl⟩ h
      refine sq_p (.tuple #[.string sk, .nilIface]) rfl (fun _ => by kernel_rfl) ?_
      refine sq_p (.string sk) rfl (fun _ => by kernel_rfl) ?_
      refine sq_p (.nilIface) rfl (fun _ => by kernel_rfl) ?_
      refine sq_p (.string sk) rfl (fun _ => by kernel_rfl) ?_
      refine sq_p (.nilIface) rfl (fun _ => by kernel_rfl) ?_
      refine lnil ?_
      refine thn_n ?_
      refine c_seq ?_
      refine c_reg ?_
      refine sq_p (.string sk) rfl (fun _ => by kernel_rfl) ?_
      refine sq_call #[.string sk] [3, 3] rfl (headOf_alt a1 a2 sk hsz) (fun _ => by kernel_rfl) h ?_; rintro v_ L_ w (⟨cc24, hw25, zz26, hhd27, rfl, rfl⟩ | ⟨cc24, hw25, zz26, hhd27, rfl, rfl⟩) h
      · skip
        have hlt_hhd27 := headP_lt hhd27
        unfold ten10 at hlt_hhd27
        refine sq_p (.tuple #[.int .i64 (cc24 : Int), .int .i64 (hw25 : Int), .int .i64 (zz26 : Int), .bool true]) rfl (fun _ => by kernel_rfl) ?_
        refine sq_p (.int .i64 (cc24 : Int)) rfl (fun _ => by kernel_rfl) ?_
        refine sq_p (.int .i64 (hw25 : Int)) rfl (fun _ => by kernel_rfl) ?_
        refine sq_p (.int .i64 (zz26 : Int)) rfl (fun _ => by kernel_rfl) ?_
        refine sq_p (.bool true) rfl (fun _ => by kernel_rfl) ?_
        refine sq_p (.int .i64 (cc24 : Int)) rfl (fun _ => by kernel_rfl) ?_
        refine sq_p (.int .i64 (hw25 : Int)) rfl (fun _ => by kernel_rfl) ?_
        refine sq_p (.int .i64 (zz26 : Int)) rfl (fun _ => by kernel_rfl) ?_
        refine sq_p (.bool true) rfl (fun _ => by kernel_rfl) ?_
        refine lnil ?_
        refine thn_n ?_
        refine c_seq ?_
        refine c_reg ?_
        refine sq_p (.bool true) rfl (fun _ => by kernel_rfl) ?_
        refine sq_p (.bool true) rfl (fun _ => by kernel_rfl) ?_
        refine sq_p (.int .i64 (zz26 : Int)) (by kernel_rfl) (fun _ => by kernel_rfl) ?_
        refine sq_q (by kernel_rfl) h (g_rem zz26 64 (by kernel_rfl) (by omega) (by omega)) ?_
        obtain ⟨b28, hb28⟩ : ∃ b_ : Bool, b_ = (decide (((zz26 % 64 : Nat) : Int) = 0)) := ⟨_, rfl⟩
        refine sq_q (v := .bool b28) (by kernel_rfl) h (by subst hb28; exact g_pure (v := .bool (decide (((zz26 % 64 : Nat) : Int) = 0))) fun _ => by kernel_rfl) ?_
        refine sq_p (.bool b28) rfl (fun _ => by kernel_rfl) ?_
        refine sq_p (.bool b28) rfl (fun _ => by kernel_rfl) ?_
        refine sq_m1 (v := .int .i64 (zz26 : Int)) b28 (by cases b28 <;> kernel_rfl) h (fun hB => by subst hB; exact g_pure (v := .int .i64 (zz26 : Int)) fun _ => by kernel_rfl) ?_
        refine sq_m1 (v := .pointer (some ⟨db, 0, none⟩)) b28 (by cases b28 <;> kernel_rfl) h (fun hB => by subst hB; exact g_pure (v := .pointer (some ⟨db, 0, none⟩)) fun _ => by kernel_rfl) ?_
        rcases Bool.eq_false_or_eq_true b28 with hc29 | hc29
        · skip
          subst hc29
          have q30 := hb28.symm
          have q30 := of_decide_eq_true q30
          refine sq_call #[.pointer (some ⟨db, 0, none⟩)] [2] (by kernel_rfl) (half_spec (B := B) db d Sd h1 h4) (fun _ => by kernel_rfl) h ?_; rintro v_ L_ w ⟨rfl, rfl⟩ h
          refine sq_q (by kernel_rfl) h (g_eq (v := .int .i64 (IntKind.i64.wrap (((halfOf d.now.length : Nat) : Int) * 64))) (v' := .int .i64 (((halfOf d.now.length : Nat) : Int) * 64)) (g_pure fun _ => by kernel_rfl) (wr (by omega))) ?_
          obtain ⟨b31, hb31⟩ : ∃ b_ : Bool, b_ = (decide ((zz26 : Int) ≤ ((halfOf d.now.length : Nat) : Int) * 64)) := ⟨_, rfl⟩
          refine sq_q (v := .bool b31) (by kernel_rfl) h (by subst hb31; exact g_pure (v := .bool (decide ((zz26 : Int) ≤ ((halfOf d.now.length : Nat) : Int) * 64))) fun _ => by kernel_rfl) ?_
          refine sq_p (.bool b31) rfl (fun _ => by kernel_rfl) ?_
          refine sq_p (.bool b31) rfl (fun _ => by kernel_rfl) ?_
          refine sq_m1 (v := .pointer (some ⟨bb, 0, none⟩)) b31 (by cases b31 <;> kernel_rfl) h (fun hB => by subst hB; exact g_pure (v := .pointer (some ⟨bb, 0, none⟩)) fun _ => by kernel_rfl) ?_
          refine sq_m1 (v := .bool false) b31 (by cases b31 <;> kernel_rfl) h (fun hB => by subst hB; exact g_pure (v := .bool false) fun _ => by kernel_rfl) ?_
          refine sq_m1 (v := .bool false) b31 (by cases b31 <;> kernel_rfl) h (fun hB => by subst hB; exact g_pure (v := .bool false) fun _ => by kernel_rfl) ?_
          refine sq_m1 (v := .int .i64 (cc24 : Int)) b31 (by cases b31 <;> kernel_rfl) h (fun hB => by subst hB; exact g_pure (v := .int .i64 (cc24 : Int)) fun _ => by kernel_rfl) ?_
          refine sq_m1 (v := .pointer (some ⟨bb, 0, none⟩)) b31 (by cases b31 <;> kernel_rfl) h (fun hB => by subst hB; exact g_pure (v := .pointer (some ⟨bb, 0, none⟩)) fun _ => by kernel_rfl) ?_
          refine sq_m1 (v := .pointer (some ⟨bb, 0, none⟩)) b31 (by cases b31 <;> kernel_rfl) h (fun hB => by subst hB; exact g_pure (v := .pointer (some ⟨bb, 0, none⟩)) fun _ => by kernel_rfl) ?_
          refine sq_m1 (v := .pointer (some ⟨bb, 1, none⟩)) b31 (by cases b31 <;> kernel_rfl) h (fun hB => by subst hB; exact g_pure (v := .pointer (some ⟨bb, 1, none⟩)) fun _ => by kernel_rfl) ?_
          refine sq_m1 (v := .int .i64 (c0 : Int)) b31 (by cases b31 <;> kernel_rfl) h (fun hB => by subst hB; exact g_ld 1 [.int .i64 (c0 : Int)] (.int .i64 (c0 : Int)) (by kernel_rfl) 4 rfl) ?_
          obtain ⟨b32, hb32⟩ : ∃ b_ : Bool, b_ = (decide ((cc24 : Int) > (c0 : Int))) := ⟨_, rfl⟩
          refine sq_m1 (v := .bool b32) b31 (by cases b31 <;> kernel_rfl) h (fun hB => by subst hB; exact by subst hb32; exact g_pure (v := .bool (decide ((cc24 : Int) > (c0 : Int)))) fun _ => by kernel_rfl) ?_
          refine sq_m1 (v := .bool b32) b31 (by cases b31 <;> kernel_rfl) h (fun hB => by subst hB; exact g_pure (v := .bool b32) fun _ => by kernel_rfl) ?_
          obtain ⟨b33, hb33⟩ : ∃ b_ : Bool, b_ = (b31 && b32) := ⟨_, rfl⟩
          refine sq_q (v := .bool b33) rfl h (by subst hb33; exact g_pure (v := .bool (b31 && b32)) fun _ => by cases b31 <;> kernel_rfl) ?_
          refine lnil ?_
          refine thn_n ?_
          refine c_cond (b33) (by kernel_rfl) (fun hc34 => ?_) (fun hc34 => ?_)
          · skip
            have q35 : (b31 && b32) = true := by rw [← hb33]; exact hc34
            have q36 : b31 = true := by revert q35; cases b31 <;> simp
            have q37 : b32 = true := by revert q35; cases b31 <;> cases b32 <;> simp
            have q38 : (decide ((zz26 : Int) ≤ ((halfOf d.now.length : Nat) : Int) * 64)) = true := by rw [← hb31]; exact q36
            have q38 := of_decide_eq_true q38
            have q39 : (decide ((cc24 : Int) > (c0 : Int))) = true := by rw [← hb32]; exact q37
            have q39 := of_decide_eq_true q39
            refine c_reg ?_
            refine sq_p (.pointer (some ⟨db, 0, none⟩)) rfl (fun _ => by kernel_rfl) ?_
            refine sq_p (.int .i64 (cc24 : Int)) rfl (fun _ => by kernel_rfl) ?_
            refine sq_p (.int .i64 (hw25 : Int)) rfl (fun _ => by kernel_rfl) ?_
            refine sq_p (.int .i64 (zz26 : Int)) rfl (fun _ => by kernel_rfl) ?_
            refine sq_p (.agg #[.pointer (some ⟨db, 0, none⟩), .int .i64 (cc24 : Int), .int .i64 (hw25 : Int), .int .i64 (zz26 : Int), .bool false]) rfl (fun _ => by kernel_rfl) ?_
            refine sq_new rfl (fun b => .pointer (some ⟨b, 0, none⟩)) [.pointer (some ⟨db, 0, none⟩), .int .i64 (cc24 : Int), .int .i64 (hw25 : Int), .int .i64 (zz26 : Int), .bool false] 70 (fun _ => by kernel_rfl) h ?_; intro k40 w h
            refine sq_p (.pointer (some ⟨k40, 0, none⟩)) rfl (fun _ => by kernel_rfl) ?_
            refine lnil ?_
            refine blk_n (thn_n ?_)
            refine c_reg ?_
            refine sq_q rfl h (g_eq (v := .int .i64 (IntKind.i64.wrap (((k : Nat) : Int) + 1))) (v' := .int .i64 ((k + 1 : Nat) : Int)) (g_pure fun _ => by kernel_rfl) (wr (by omega))) ?_
            refine sq_p (.int .i64 ((k + 1 : Nat) : Int)) rfl (fun _ => by kernel_rfl) ?_
            refine lnil ?_
            have h := (h.pick [0, 0, 0, 0, 0, 0, 0]).best
            have hQ41 : ((k + 1) ≤ 2 ∧ (k + 1) ≤ d.now.length ∧ (some (cc24, hw25, zz26)) = bestN d.now (k + 1) ∧ ((.pointer (some ⟨k40, 0, none⟩)) : Value) = bestV k40 (some (cc24, hw25, zz26))) ∧ (2 - (k + 1)) < (2 - k) := ⟨⟨by omega, by omega, best_new hbo hsk hhd27 ⟨by omega, by have hgo_ := hc34; subst hb33; subst hb32; subst hb31; simp at hgo_; omega⟩ (fun a e_ => by obtain rfl := Option.some.inj e_; have hgo_ := hc34; subst hb33; subst hb32; subst hb31; simp at hgo_; show cc24 > c0; omega), rfl⟩, by omega⟩
            refine loop_end (fun j => ⟨k + 1, k40, .pointer (some ⟨k40, 0, none⟩), (some (cc24, hw25, zz26)), j⟩) hQ41 (by kernel_rfl) [0, 0, 2, 0, 0, 1] (by kernel_rfl) h
          · skip
            have q42 : (b31 && b32) = false := by rw [← hb33]; exact hc34
            have q43 : (¬ ((zz26 : Int) ≤ ((halfOf d.now.length : Nat) : Int) * 64) ∨ ¬ ((cc24 : Int) > (c0 : Int))) := by subst hb32; subst hb31; revert q42; first | (simp; done) | (simp; omega)
            refine c_skip ?_
            refine blk_n (thn_n ?_)
            refine c_reg ?_
            refine sq_q rfl h (g_eq (v := .int .i64 (IntKind.i64.wrap (((k : Nat) : Int) + 1))) (v' := .int .i64 ((k + 1 : Nat) : Int)) (g_pure fun _ => by kernel_rfl) (wr (by omega))) ?_
            refine sq_p (.int .i64 ((k + 1 : Nat) : Int)) rfl (fun _ => by kernel_rfl) ?_
            refine lnil ?_
            have h := (h.pick [4, 0, 0, 0, 0, 0]).best
            have hQ44 : ((k + 1) ≤ 2 ∧ (k + 1) ≤ d.now.length ∧ (some (c0, h0, z0)) = bestN d.now (k + 1) ∧ ((.pointer (some ⟨bb, 0, none⟩)) : Value) = bestV bb (some (c0, h0, z0))) ∧ (2 - (k + 1)) < (2 - k) := ⟨⟨by omega, by omega, best_old hbo hsk hhd27 (fun hx_ => by obtain ⟨hx1_, hx2_, hx3_⟩ := hx_; have hx5_ : cc24 > c0 := hx3_ _ rfl; have hgo_ := hc34; subst hb33; subst hb32; subst hb31; simp at hgo_; omega), rfl⟩, by omega⟩
            refine loop_end (fun j => ⟨k + 1, bb, .pointer (some ⟨bb, 0, none⟩), (some (c0, h0, z0)), j⟩) hQ44 (by kernel_rfl) [0, 0, 2, 0, 0, 0] (by kernel_rfl) h
        · skip
          subst hc29
          have q45 := hb28.symm
          have q45 := of_decide_eq_false q45
          refine sn (by kernel_rfl) ?_
          refine sn (by kernel_rfl) ?_
          refine sn (by kernel_rfl) ?_
          refine sq_p (.bool false) rfl (fun _ => by kernel_rfl) ?_
          refine sq_p (.bool false) rfl (fun _ => by kernel_rfl) ?_
          refine sn (by kernel_rfl) ?_
          refine sn (by kernel_rfl) ?_
          refine sn (by kernel_rfl) ?_
          refine sn (by kernel_rfl) ?_
          refine sn (by kernel_rfl) ?_
          refine sn (by kernel_rfl) ?_
          refine sn (by kernel_rfl) ?_
          refine sn (by kernel_rfl) ?_
          refine sn (by kernel_rfl) ?_
          refine sn (by kernel_rfl) ?_
          refine sq_p (.bool false) rfl (fun _ => by kernel_rfl) ?_
          refine lnil ?_
          refine thn_n ?_
          refine c_false (by kernel_rfl) ?_
          refine c_skip ?_
          refine blk_n (thn_n ?_)
          refine c_reg ?_
          refine sq_q rfl h (g_eq (v := .int .i64 (IntKind.i64.wrap (((k : Nat) : Int) + 1))) (v' := .int .i64 ((k + 1 : Nat) : Int)) (g_pure fun _ => by kernel_rfl) (wr (by omega))) ?_
          refine sq_p (.int .i64 ((k + 1 : Nat) : Int)) rfl (fun _ => by kernel_rfl) ?_
          refine lnil ?_
          have h := (h.pick [4, 0, 0, 0, 0, 0]).best
          have hQ46 : ((k + 1) ≤ 2 ∧ (k + 1) ≤ d.now.length ∧ (some (c0, h0, z0)) = bestN d.now (k + 1) ∧ ((.pointer (some ⟨bb, 0, none⟩)) : Value) = bestV bb (some (c0, h0, z0))) ∧ (2 - (k + 1)) < (2 - k) := ⟨⟨by omega, by omega, best_old hbo hsk hhd27 (fun hx_ => by have := hx_.1; omega), rfl⟩, by omega⟩
          refine loop_end (fun j => ⟨k + 1, bb, .pointer (some ⟨bb, 0, none⟩), (some (c0, h0, z0)), j⟩) hQ46 (by kernel_rfl) [0, 2, 2, 0, 0, 0] (by kernel_rfl) h
      · skip
        refine sq_p (.tuple #[.int .i64 cc24, .int .i64 hw25, .int .i64 zz26, .bool false]) rfl (fun _ => by kernel_rfl) ?_
        refine sq_p (.int .i64 cc24) rfl (fun _ => by kernel_rfl) ?_
        refine sq_p (.int .i64 hw25) rfl (fun _ => by kernel_rfl) ?_
        refine sq_p (.int .i64 zz26) rfl (fun _ => by kernel_rfl) ?_
        refine sq_p (.bool false) rfl (fun _ => by kernel_rfl) ?_
        refine sq_p (.int .i64 cc24) rfl (fun _ => by kernel_rfl) ?_
        refine sq_p (.int .i64 hw25) rfl (fun _ => by kernel_rfl) ?_
        refine sq_p (.int .i64 zz26) rfl (fun _ => by kernel_rfl) ?_
        refine sq_p (.bool false) rfl (fun _ => by kernel_rfl) ?_
        refine lnil ?_
        refine thn_n ?_
        refine c_seq ?_
        refine c_reg ?_
        refine sq_p (.bool false) rfl (fun _ => by kernel_rfl) ?_
        refine sq_p (.bool false) rfl (fun _ => by kernel_rfl) ?_
        refine sn (by kernel_rfl) ?_
        refine sn (by kernel_rfl) ?_
        refine sn (by kernel_rfl) ?_
        refine sq_p (.bool false) rfl (fun _ => by kernel_rfl) ?_
        refine sq_p (.bool false) rfl (fun _ => by kernel_rfl) ?_
        refine sn (by kernel_rfl) ?_
        refine sn (by kernel_rfl) ?_
        refine sn (by kernel_rfl) ?_
        refine sn (by kernel_rfl) ?_
        refine sn (by kernel_rfl) ?_
        refine sq_p (.bool false) rfl (fun _ => by kernel_rfl) ?_
        refine sq_p (.bool false) rfl (fun _ => by kernel_rfl) ?_
        refine sn (by kernel_rfl) ?_
        refine sn (by kernel_rfl) ?_
        refine sn (by kernel_rfl) ?_
        refine sn (by kernel_rfl) ?_
        refine sn (by kernel_rfl) ?_
        refine sn (by kernel_rfl) ?_
        refine sn (by kernel_rfl) ?_
        refine sn (by kernel_rfl) ?_
        refine sn (by kernel_rfl) ?_
        refine sn (by kernel_rfl) ?_
        refine sq_p (.bool false) rfl (fun _ => by kernel_rfl) ?_
        refine lnil ?_
        refine thn_n ?_
        refine c_false (by kernel_rfl) ?_
        refine c_skip ?_
        refine blk_n (thn_n ?_)
        refine c_reg ?_
        refine sq_q rfl h (g_eq (v := .int .i64 (IntKind.i64.wrap (((k : Nat) : Int) + 1))) (v' := .int .i64 ((k + 1 : Nat) : Int)) (g_pure fun _ => by kernel_rfl) (wr (by omega))) ?_
        refine sq_p (.int .i64 ((k + 1 : Nat) : Int)) rfl (fun _ => by kernel_rfl) ?_
        refine lnil ?_
        have h := (h.pick [4, 0, 0, 0, 0, 0]).best
        have hQ47 : ((k + 1) ≤ 2 ∧ (k + 1) ≤ d.now.length ∧ (some (c0, h0, z0)) = bestN d.now (k + 1) ∧ ((.pointer (some ⟨bb, 0, none⟩)) : Value) = bestV bb (some (c0, h0, z0))) ∧ (2 - (k + 1)) < (2 - k) := ⟨⟨by omega, by omega, best_bad hbo hsk hhd27, rfl⟩, by omega⟩
        refine loop_end (fun j => ⟨k + 1, bb, .pointer (some ⟨bb, 0, none⟩), (some (c0, h0, z0)), j⟩) hQ47 (by kernel_rfl) [0, 2, 2, 0, 0, 0] (by kernel_rfl) h
    · skip
      have hc23 := of_decide_eq_false hc23
      have hba : bestN d.now k = bestP d.now := best_all hk2 hkl (by omega) h1
      refine c_exit ?_
      refine thn_e (rnd_e (blk_e (thn_n ?_)))
      refine c_seq ?_
      refine c_seq ?_
      refine c_reg ?_
      refine sq_p (.pointer (some ⟨bb, 0, none⟩)) rfl (fun _ => by kernel_rfl) ?_
      refine sq_p (.bool false) rfl (fun _ => by kernel_rfl) ?_
      refine lnil ?_
      refine thn_n ?_
      refine c_false (by kernel_rfl) ?_
      refine c_skip ?_
      refine thn_n ?_
      refine c_seq ?_
      refine c_reg ?_
      refine sq_new rfl (fun b => .pointer (some ⟨b, 0, none⟩)) [.pointer none, .slice none 0 0] 74 (fun _ => by kernel_rfl) h ?_; intro k48 w h
      refine lnil ?_
      refine thn_n ?_
      refine c_seq ?_
      refine c_seq ?_
      refine c_reg ?_
      have h := h.nilTxt 5
      refine sq_p (.pointer (some ⟨bb, 0, none⟩)) rfl (fun _ => by kernel_rfl) ?_
      refine sq_p (.pointer (some ⟨bb, 0, none⟩)) rfl (fun _ => by kernel_rfl) ?_
      refine sq_p (.pointer (some ⟨bb, 3, none⟩)) rfl (fun _ => by kernel_rfl) ?_
      refine sq_q rfl h (g_ld 3 [.int .i64 (z0 : Int)] (.int .i64 (z0 : Int)) (by kernel_rfl) 2 rfl) ?_
      refine sq_q rfl h (g_quo z0 64 (by kernel_rfl) (by omega) (by omega)) ?_
      refine sq_p (.int .i64 0) rfl (fun _ => by kernel_rfl) ?_
      refine lnil ?_
      refine thn_n ?_
      refine c_block ?_
      refine c_loop (X := Nat × Value × Value × Tx × (Nat → Value)) (fun ⟨m, p, v, t, J1⟩ => ⟨#[.pointer (some ⟨db, 0, none⟩), undef, .pointer none, .slice none 0 0, .nilIface, .pointer (some ⟨bb, 0, none⟩), J0 6, J0 7, J0 8, J0 9, J0 10, J0 11, J0 12, .pointer (some ⟨k48, 0, none⟩), J1 14, J1 15, J1 16, undef, undef, .pointer (some ⟨db, 0, none⟩), .int .i64 (d.now.length : Int), .int .i64 (min 2 (d.now.length : Int)), .int .i64 ((k : Nat) : Int), .bool (decide (((k : Nat) : Int) < min 2 (d.now.length : Int))), J0 24, J0 25, J0 26, J0 27, J0 28, J0 29, J0 30, J0 31, J0 32, J0 33, J0 34, J0 35, J0 36, J0 37, J0 38, J0 39, J0 40, J0 41, J0 42, J0 43, J0 44, J0 45, J0 46, J0 47, J0 48, J0 49, J0 50, J0 51, J0 52, J0 53, J0 54, J0 55, J0 56, J0 57, J0 58, J0 59, J0 60, J0 61, J0 62, J0 63, J0 64, J0 65, J0 66, J0 67, J0 68, J0 69, .pointer (some ⟨bb, 0, none⟩), .bool false, undef, .pointer (some ⟨bb, 0, none⟩), .pointer (some ⟨bb, 0, none⟩), .pointer (some ⟨bb, 3, none⟩), .int .i64 (z0 : Int), .int .i64 ((z0 / 64 : Nat) : Int), .int .i64 ((m : Nat) : Int), J1 79, J1 80, J1 81, J1 82, J1 83, J1 84, J1 85, J1 86, J1 87, J1 88, J1 89, J1 90, J1 91, J1 92, J1 93, J1 94, J1 95, J1 96, J1 97, J1 98, undef, undef, undef, undef, undef, undef, undef, undef, undef, undef, undef], []⟩)
        (fun ⟨m, p, v, t, J1⟩ => [rTxt v 5 t, rCell true k48 [p, v] 74, rCell true bb [.pointer (some ⟨db, 0, none⟩), .int .i64 (c0 : Int), .int .i64 (h0 : Int), .int .i64 (z0 : Int), .bool false] 70, rDisk B db d Sd, rEnv B ad [2], rNumE a1 a2, rTab, rEnv B ad [1, 2]]) (fun ⟨m, p, v, t, J1⟩ => m ≤ z0 / 64 ∧ ((p : Value) = .pointer none ∨ (p : Value) = .pointer (some ⟨k48, 0, none⟩)) ∧ (m = 0 → (v : Value) = .slice none 0 0) ∧ t = dataN d.now h0 m) (fun ⟨m, p, v, t, J1⟩ => z0 / 64 - m)
        ⟨0, (.pointer none), (.slice none 0 0), [], (fun n => (#[.pointer (some ⟨db, 0, none⟩), undef, .pointer none, .slice none 0 0, .nilIface, .pointer (some ⟨bb, 0, none⟩), J0 6, J0 7, J0 8, J0 9, J0 10, J0 11, J0 12, .pointer (some ⟨k48, 0, none⟩), undef, undef, undef, undef, undef, .pointer (some ⟨db, 0, none⟩), .int .i64 (d.now.length : Int), .int .i64 (min 2 (d.now.length : Int)), .int .i64 ((k : Nat) : Int), .bool (decide (((k : Nat) : Int) < min 2 (d.now.length : Int))), J0 24, J0 25, J0 26, J0 27, J0 28, J0 29, J0 30, J0 31, J0 32, J0 33, J0 34, J0 35, J0 36, J0 37, J0 38, J0 39, J0 40, J0 41, J0 42, J0 43, J0 44, J0 45, J0 46, J0 47, J0 48, J0 49, J0 50, J0 51, J0 52, J0 53, J0 54, J0 55, J0 56, J0 57, J0 58, J0 59, J0 60, J0 61, J0 62, J0 63, J0 64, J0 65, J0 66, J0 67, J0 68, J0 69, .pointer (some ⟨bb, 0, none⟩), .bool false, undef, .pointer (some ⟨bb, 0, none⟩), .pointer (some ⟨bb, 0, none⟩), .pointer (some ⟨bb, 3, none⟩), .int .i64 (z0 : Int), .int .i64 ((z0 / 64 : Nat) : Int), .int .i64 0, undef, undef, undef, undef, undef, undef, undef, undef, undef, undef, undef, undef, undef, undef, undef, undef, undef, undef, undef, undef, undef, undef, undef, undef, undef, undef, undef, undef, undef, undef, undef] : Array Value).getD n undef)⟩ ⟨by omega, .inl rfl, fun _ => rfl, rfl⟩ (by kernel_rfl) [0, 0, 0, 0, 0, 0, 0, 0] (by kernel_rfl) h ?_
      rintro ⟨m, p, v, t, J1⟩ w hG h
      obtain ⟨hml, hpp, hv0, ht⟩ : m ≤ z0 / 64 ∧ ((p : Value) = .pointer none ∨ (p : Value) = .pointer (some ⟨k48, 0, none⟩)) ∧ (m = 0 → (v : Value) = .slice none 0 0) ∧ t = dataN d.now h0 m := hG
      have htl : t.length ≤ 64 * m := by rw [ht]; exact dataN_len h64 h0 m
      refine c_seq ?_
      refine c_reg ?_
      refine sq_p (.bool (decide (((m : Nat) : Int) < ((z0 / 64 : Nat) : Int)))) rfl (fun _ => by kernel_rfl) ?_
      refine lnil ?_
      refine thn_n ?_
      refine c_seq ?_
      refine c_cond (decide (((m : Nat) : Int) < ((z0 / 64 : Nat) : Int))) (by kernel_rfl) (fun hc49 => ?_) (fun hc49 => ?_)
      · skip
        have hc49 := of_decide_eq_true hc49
        have hhf : halfOf d.now.length = (d.now.length - 2) / 2 := rfl
        obtain ⟨sm, hsm⟩ : ∃ s_, d.now[2 + h0 * halfOf d.now.length + m]? = some s_ := ⟨_, List.getElem?_eq_getElem (by omega)⟩
        have hsz := h64 sm (List.mem_of_getElem? hsm)
        refine c_skip ?_
        refine thn_n ?_
        refine c_seq ?_
        refine c_block ?_
        refine c_seq ?_
        refine c_reg ?_
        refine sq_p (.int .i64 ((m : Nat) : Int)) rfl (fun _ => by kernel_rfl) ?_
        refine sq_p (.int .i64 ((m : Nat) : Int)) rfl (fun _ => by kernel_rfl) ?_
        refine lnil ?_
        refine thn_n ?_
        refine c_seq ?_
        refine d_start 17 [2] (by kernel_rfl) h fun w h => ?_
        refine d_take 0 2046 [2] rfl (v := .pointer (some ⟨db, 0, none⟩)) (by kernel_rfl) (qp_thn (qp_blk (qp_thn (qp_rnd (qp_blk (qp_thn qp_body)))))) (yq (by kernel_rfl) (g_pure (v := .pointer (some ⟨db, 0, none⟩)) fun _ => by kernel_rfl)) h (by kernel_rfl) ?_
        refine d_take 1 609 [2] rfl (v := .pointer (some ⟨bb, 0, none⟩)) (by kernel_rfl) (qp_thn (qp_blk (qp_thn (qp_rnd (qp_blk (qp_thn qp_body)))))) (yq (by kernel_rfl) (g_pure (v := .pointer (some ⟨bb, 0, none⟩)) fun _ => by kernel_rfl)) h (by kernel_rfl) ?_
        refine d_take 2 611 [2] rfl (v := .pointer (some ⟨bb, 0, none⟩)) (by kernel_rfl) (qp_thn (qp_blk (qp_thn (qp_rnd (qp_blk (qp_thn qp_body)))))) (yq (by kernel_rfl) (g_pure (v := .pointer (some ⟨bb, 0, none⟩)) fun _ => by kernel_rfl)) h (by kernel_rfl) ?_
        refine d_take 3 615 [2] rfl (v := .pointer (some ⟨bb, 2, none⟩)) (by kernel_rfl) (qp_thn (qp_blk (qp_thn (qp_rnd (qp_blk (qp_thn qp_body)))))) (yq (by kernel_rfl) (g_pure (v := .pointer (some ⟨bb, 2, none⟩)) fun _ => by kernel_rfl)) h (by kernel_rfl) ?_
        refine d_take 4 623 [2] rfl (v := .int .i64 (h0 : Int)) (by kernel_rfl) (qp_thn (qp_blk (qp_thn (qp_rnd (qp_blk (qp_thn qp_body)))))) (yq (by kernel_rfl) (g_ld 2 [.int .i64 (h0 : Int)] (.int .i64 (h0 : Int)) (by kernel_rfl) 0 rfl)) h (by kernel_rfl) ?_
        refine d_take 5 543 [2] rfl (v := .pointer (some ⟨db, 0, none⟩)) (by kernel_rfl) (qp_thn (qp_blk (qp_thn (qp_rnd (qp_blk (qp_thn qp_body)))))) (yq (by kernel_rfl) (g_pure (v := .pointer (some ⟨db, 0, none⟩)) fun _ => by kernel_rfl)) h (by kernel_rfl) ?_
        refine d_take 9 511 [2] rfl (v := .int .i64 ((m : Nat) : Int)) (by kernel_rfl) (qp_thn (qp_blk (qp_thn (qp_rnd (qp_blk (qp_thn qp_body)))))) (yq (by kernel_rfl) (g_pure (v := .int .i64 ((m : Nat) : Int)) fun _ => by kernel_rfl)) h (by kernel_rfl) ?_
        refine d_ready [6] (by kernel_rfl) rfl ?_
        refine ad_call #[.pointer (some ⟨db, 0, none⟩)] [3] [3] rfl (by kernel_rfl) (half_spec (B := B) db d Sd h1 h4) (fun _ => by kernel_rfl) h ?_ ?_
        · skip
          rintro v_ L_ w ⟨rfl, rfl⟩ h
          refine ⟨by kernel_rfl, ?_⟩
          refine d_take 7 639 [3] rfl (v := .int .i64 ((h0 : Int) * ((halfOf d.now.length : Nat) : Int))) (by kernel_rfl) (qp_thn (qp_blk (qp_thn (qp_rnd (qp_blk (qp_thn qp_body)))))) (yq (by kernel_rfl) (g_eq (v := .int .i64 (IntKind.i64.wrap ((h0 : Int) * ((halfOf d.now.length : Nat) : Int)))) (v' := .int .i64 ((h0 : Int) * ((halfOf d.now.length : Nat) : Int))) (g_pure fun _ => by kernel_rfl) (wr (by omega)))) h (by kernel_rfl) ?_
          refine d_take 8 767 [3] rfl (v := .int .i64 (2 + ((h0 : Int) * ((halfOf d.now.length : Nat) : Int)))) (by kernel_rfl) (qp_thn (qp_blk (qp_thn (qp_rnd (qp_blk (qp_thn qp_body)))))) (yq (by kernel_rfl) (g_eq (v := .int .i64 (IntKind.i64.wrap (2 + ((h0 : Int) * ((halfOf d.now.length : Nat) : Int))))) (v' := .int .i64 (2 + ((h0 : Int) * ((halfOf d.now.length : Nat) : Int)))) (g_pure fun _ => by kernel_rfl) (wr (by omega)))) h (by kernel_rfl) ?_
          refine d_take 10 1023 [3] rfl (v := .int .i64 ((2 + ((h0 : Int) * ((halfOf d.now.length : Nat) : Int))) + ((m : Nat) : Int))) (by kernel_rfl) (qp_thn (qp_blk (qp_thn (qp_rnd (qp_blk (qp_thn qp_body)))))) (yq (by kernel_rfl) (g_eq (v := .int .i64 (IntKind.i64.wrap ((2 + ((h0 : Int) * ((halfOf d.now.length : Nat) : Int))) + ((m : Nat) : Int)))) (v' := .int .i64 ((2 + ((h0 : Int) * ((halfOf d.now.length : Nat) : Int))) + ((m : Nat) : Int))) (g_pure fun _ => by kernel_rfl) (wr (by omega)))) h (by kernel_rfl) ?_
          refine d_ready [11] (by kernel_rfl) rfl ?_
          refine ad_call #[.pointer (some ⟨db, 0, none⟩), .int .i64 ((2 + ((h0 : Int) * ((halfOf d.now.length : Nat) : Int))) + ((m : Nat) : Int))] [0, 3] [4] rfl (by kernel_rfl) (dreadN_spec (B := B) (b := db) (d := d) (S := Sd) ad ((2 + ((h0 : Int) * ((halfOf d.now.length : Nat) : Int))) + ((m : Nat) : Int)) (2 + h0 * halfOf d.now.length + m) sm (by (try push_cast); omega) hsm) (fun _ => by kernel_rfl) h ?_ ?_
          · skip
            rintro v_ L_ w ⟨rfl, rfl⟩ h
            refine ⟨by kernel_rfl, ?_⟩
            refine d_take 12 4095 [4] rfl (v := .tuple #[.string sm, .nilIface]) (by kernel_rfl) (qp_thn (qp_blk (qp_thn (qp_rnd (qp_blk (qp_thn qp_body)))))) (yq (by kernel_rfl) (g_pure (v := .tuple #[.string sm, .nilIface]) fun _ => by kernel_rfl)) h (by kernel_rfl) ?_
            refine d_take 13 24575 [4] rfl (v := .string sm) (by kernel_rfl) (qp_thn (qp_blk (qp_thn (qp_rnd (qp_blk (qp_thn qp_body)))))) (yq (by kernel_rfl) (g_pure (v := .string sm) fun _ => by kernel_rfl)) h (by kernel_rfl) ?_
            refine d_take 14 49151 [4] rfl (v := .nilIface) (by kernel_rfl) (qp_thn (qp_blk (qp_thn (qp_rnd (qp_blk (qp_thn qp_body)))))) (yq (by kernel_rfl) (g_pure (v := .nilIface) fun _ => by kernel_rfl)) h (by kernel_rfl) ?_
            refine d_take 15 32767 [4] rfl (v := .string sm) (by kernel_rfl) (qp_thn (qp_blk (qp_thn (qp_rnd (qp_blk (qp_thn qp_body)))))) (yq (by kernel_rfl) (g_pure (v := .string sm) fun _ => by kernel_rfl)) h (by kernel_rfl) ?_
            refine d_take 16 65535 [4] rfl (v := .nilIface) (by kernel_rfl) (qp_thn (qp_blk (qp_thn (qp_rnd (qp_blk (qp_thn qp_body)))))) (yq (by kernel_rfl) (g_pure (v := .nilIface) fun _ => by kernel_rfl)) h (by kernel_rfl) ?_
            refine d_done (by kernel_rfl) ?_
            refine thn_n ?_
            refine c_reg ?_
            refine sq_p (.string sm) rfl (fun _ => by kernel_rfl) ?_
            refine sq_call #[.pointer (some ⟨k48, 0, none⟩), .string sm] [3, 2] rfl (bwrite_spec k48 p v hpp t sm (by omega)) (fun _ => by kernel_rfl) h ?_; rintro v_ L_ w ⟨vw50, rfl, rfl⟩ h
            refine lnil ?_
            refine blk_n (thn_n ?_)
            refine c_reg ?_
            refine sq_q rfl h (g_eq (v := .int .i64 (IntKind.i64.wrap (((m : Nat) : Int) + 1))) (v' := .int .i64 ((m + 1 : Nat) : Int)) (g_pure fun _ => by kernel_rfl) (wr (by omega))) ?_
            refine sq_p (.int .i64 ((m + 1 : Nat) : Int)) rfl (fun _ => by kernel_rfl) ?_
            refine lnil ?_
            have hQ51 : ((m + 1) ≤ z0 / 64 ∧ (((.pointer (some ⟨k48, 0, none⟩)) : Value) = .pointer none ∨ ((.pointer (some ⟨k48, 0, none⟩)) : Value) = .pointer (some ⟨k48, 0, none⟩)) ∧ ((m + 1) = 0 → (vw50 : Value) = .slice none 0 0) ∧ (t ++ sm.data.toList) = dataN d.now h0 (m + 1)) ∧ (z0 / 64 - (m + 1)) < (z0 / 64 - m) := ⟨⟨by omega, .inr rfl, fun h0_ => absurd h0_ (by omega), dataN_next hsm ht⟩, by omega⟩
            refine loop_end (fun j => ⟨m + 1, .pointer (some ⟨k48, 0, none⟩), vw50, t ++ sm.data.toList, j⟩) hQ51 (by kernel_rfl) [1, 0, 2, 0, 0, 0, 0, 0] (by kernel_rfl) h
          exact ad_nil
        exact ad_nil
      · skip
        have hc49 := of_decide_eq_false hc49
        refine c_exit ?_
        refine thn_e (rnd_e (blk_e (thn_n ?_)))
        refine c_seq ?_
        refine c_reg ?_
        refine sq_call #[.pointer (some ⟨k48, 0, none⟩)] [1, 0] rfl (bstr_spec k48 p v t (fun e_ => hv0 (data_nil h64 (by omega) ht e_))) (fun _ => by kernel_rfl) h ?_; rintro v_ L_ w ⟨rfl, rfl⟩ h
        refine sq_call #[.string (ofT t)] [4] rfl (records_spec a1 a2 (ofT t) (by rw [size_of]; omega)) (fun _ => by kernel_rfl) h ?_; rintro v_ L_ w (⟨rv52, rs53, hrr54, rfl, rfl⟩ | ⟨hrr54, rfl, rfl⟩) h
        · skip
          refine sq_p (.tuple #[rv52, .bool true]) rfl (fun _ => by kernel_rfl) ?_
          refine sq_p (rv52) rfl (fun _ => by kernel_rfl) ?_
          refine sq_p (.bool true) rfl (fun _ => by kernel_rfl) ?_
          refine sq_p (rv52) rfl (fun _ => by kernel_rfl) ?_
          refine sq_p (.bool true) rfl (fun _ => by kernel_rfl) ?_
          refine lnil ?_
          refine thn_n ?_
          refine c_seq ?_
          refine c_seq ?_
          refine c_reg ?_
          refine sq_p (.bool true) rfl (fun _ => by kernel_rfl) ?_
          refine sq_p (.bool false) rfl (fun _ => by kernel_rfl) ?_
          refine lnil ?_
          refine thn_n ?_
          refine c_false (by kernel_rfl) ?_
          refine c_skip ?_
          refine thn_n ?_
          refine c_seq ?_
          refine c_reg ?_
          refine sq_p (.pointer (some ⟨bb, 0, none⟩)) rfl (fun _ => by kernel_rfl) ?_
          refine sq_p (rv52) rfl (fun _ => by kernel_rfl) ?_
          refine sq_call #[rv52] [1] rfl (clip_spec rv52 rs53) (fun _ => by kernel_rfl) h ?_; rintro cv55 L_ w ⟨_, rfl, rfl⟩ h
          refine sq_p (.pointer (some ⟨bb, 0, none⟩)) rfl (fun _ => by kernel_rfl) ?_
          refine sq_p (cv55) rfl (fun _ => by kernel_rfl) ?_
          refine sq_p (.nilIface) rfl (fun _ => by kernel_rfl) ?_
          refine lnil ?_
          refine thn_n ?_
          refine c_ret ?_
          refine ret_end [.pointer (some ⟨bb, 0, none⟩), cv55, .nilIface] [4, 1, 4, 4, 2, 0] h (by kernel_rfl) (res_t (by kernel_rfl) (res_t (by kernel_rfl) (res_t (by kernel_rfl) res_n))) ?_
          have hmz : m = z0 / 64 := by omega
          subst hmz
          rw [tx_of] at hrr54
          exact .inr ⟨_, _, _, _, _, _, open_some hbo.symm hba ht hrr54, rfl, rfl⟩
        · skip
          refine sq_p (.tuple #[.slice none 0 0, .bool false]) rfl (fun _ => by kernel_rfl) ?_
          refine sq_p (.slice none 0 0) rfl (fun _ => by kernel_rfl) ?_
          refine sq_p (.bool false) rfl (fun _ => by kernel_rfl) ?_
          refine sq_p (.slice none 0 0) rfl (fun _ => by kernel_rfl) ?_
          refine sq_p (.bool false) rfl (fun _ => by kernel_rfl) ?_
          refine lnil ?_
          refine thn_n ?_
          refine c_seq ?_
          refine c_seq ?_
          refine c_reg ?_
          refine sq_p (.bool false) rfl (fun _ => by kernel_rfl) ?_
          refine sq_p (.bool true) rfl (fun _ => by kernel_rfl) ?_
          refine lnil ?_
          refine thn_n ?_
          refine c_true (by kernel_rfl) ?_
          refine c_seq ?_
          refine d_start 4 [6] (by kernel_rfl) h fun w h => ?_
          refine d_take 0 6 [6] rfl (v := errV ad 1) (by kernel_rfl) (qp_thn (qp_thn qp_body)) (yq (by kernel_rfl) (g_ldr (b := gl 1) 0 [errV ad 1] (errV ad 1) (by kernel_rfl) 0 rfl (rdEnv (c := 1) (by decide) rfl))) h (by kernel_rfl) ?_
          refine d_take 1 1 [6] rfl (v := .pointer none) (by kernel_rfl) (qp_thn (qp_thn qp_body)) (yq (by kernel_rfl) (g_pure (v := .pointer none) fun _ => by kernel_rfl)) h (by kernel_rfl) ?_
          refine d_take 2 3 [6] rfl (v := .slice none 0 0) (by kernel_rfl) (qp_thn (qp_thn qp_body)) (yq (by kernel_rfl) (g_pure (v := .slice none 0 0) fun _ => by kernel_rfl)) h (by kernel_rfl) ?_
          refine d_take 3 7 [6] rfl (v := errV ad 1) (by kernel_rfl) (qp_thn (qp_thn qp_body)) (yq (by kernel_rfl) (g_pure (v := errV ad 1) fun _ => by kernel_rfl)) h (by kernel_rfl) ?_
          refine d_done (by kernel_rfl) ?_
          refine thn_n ?_
          refine c_ret ?_
          refine thn_r ?_
          refine ret_end [.pointer none, .slice none 0 0, errV ad 1] [3, 0, 3, 3] h (by kernel_rfl) (res_t (by kernel_rfl) (res_t (by kernel_rfl) (res_t (by kernel_rfl) res_n))) ?_
          have hmz : m = z0 / 64 := by omega
          subst hmz
          rw [tx_of] at hrr54
          exact .inl ⟨open_norec hbo.symm hba ht hrr54, rfl, rfl⟩

/- The log's writes: a disk's Write and Flush told by two answers; what a log's write comes to, step by step. No condition. -/
section
variable {B b : Nat} {d : PDisk} {S : Nat → Prop} (ad : Nat → Addr)
theorem dwriteN_spec (n : Int) (k : Nat) (s : ByteArray) (hn : n = (k : Int)) (hk : k < d.now.length) (hs : s.size ≤ 64) (hf : d.waits.length ≤ 1000000) : Spec Tryz.prog 33 #[.pointer (some ⟨b, 0, none⟩), .int .i64 n, .string s] [rDisk B b d S, rEnv B ad [2, 3, 15]] fun u L =>
    (∃ (d' : PDisk) (S' : Nat → Prop), pWrite d (k : Int) s = (d', 0) ∧ u = .nilIface ∧ L = [rDisk B b d' S', rEnv B ad [2, 3, 15]]) ∨ (∃ (d' : PDisk) (S' : Nat → Prop), pWrite d (k : Int) s = (d', 15) ∧ u = errV ad 15 ∧ L = [rDisk B b d' S', rEnv B ad [2, 3, 15]]) := by
  subst hn
  refine (dwrite_spec ad (k : Int) s (by omega)).mono ?_
  rintro u L ⟨S', rfl, rfl⟩
  obtain ⟨d', e, hr⟩ : ∃ d' e, pWrite d (k : Int) s = (d', e) := ⟨_, _, rfl⟩
  have h2 := (write_in hk hs).2.1
  rw [hr] at h2 ⊢
  rcases h2 with h2 | h2
  · have h2 : e = 0 := h2
    subst h2
    exact .inl ⟨d', S', rfl, rfl, rfl⟩
  · have h2 : e = 15 := h2
    subst h2
    exact .inr ⟨d', S', rfl, rfl, rfl⟩
theorem dflushN_spec (hf : d.now.length ≤ 4000) : Spec Tryz.prog 34 #[.pointer (some ⟨b, 0, none⟩)] [rDisk B b d S, rEnv B ad [15]] fun u L =>
    (∃ (d' : PDisk) (S' : Nat → Prop), pFlush d = (d', 0) ∧ u = .nilIface ∧ L = [rDisk B b d' S', rEnv B ad [15]]) ∨ (∃ (d' : PDisk) (S' : Nat → Prop), pFlush d = (d', 15) ∧ u = errV ad 15 ∧ L = [rDisk B b d' S', rEnv B ad [15]]) := by
  refine (dflush_spec ad hf).mono ?_
  rintro u L ⟨S', rfl, rfl⟩
  obtain ⟨d', e, hr⟩ : ∃ d' e, pFlush d = (d', e) := ⟨_, _, rfl⟩
  have h2 := (flush_at d).1
  rw [hr] at h2 ⊢
  rcases h2 with h2 | h2
  · have h2 : e = 0 := h2
    subst h2
    exact .inl ⟨d', S', rfl, rfl, rfl⟩
  · have h2 : e = 15 := h2
    subst h2
    exact .inr ⟨d', S', rfl, rfl, rfl⟩
end
theorem wr_next {d d1 : PDisk} {f : Nat} {s : ByteArray} {j : Nat} {r : PDisk × Nat} (h1 : wrN d f s j = (d1, 0)) (h2 : pWrite d1 ((f + j : Nat) : Int) (cut64 s j) = r) : wrN d f s (j + 1) = r := by
  unfold wrN
  rw [h1, ← h2]
  rfl
theorem wr_stick {d d1 : PDisk} {f : Nat} {s : ByteArray} {j : Nat} (h1 : wrN d f s j = (d1, 15)) : ∀ m, j ≤ m → wrN d f s m = (d1, 15) := fun m hm => by
  obtain ⟨i, rfl⟩ : ∃ i, m = j + i := ⟨m - j, by omega⟩
  clear hm
  induction i with
  | zero => exact h1
  | succ i ih =>
    show wrN d f s ((j + i) + 1) = _
    unfold wrN
    rw [ih]
    rfl
theorem wr_waits (d : PDisk) (f : Nat) (s : ByteArray) : ∀ j, (wrN d f s j).1.waits.length ≤ d.waits.length + j
  | 0 => Nat.le_refl _
  | j + 1 => by
    have ih := wr_waits d f s j
    unfold wrN
    split
    · obtain ⟨_, _, e3⟩ := pSpend_same (wrN d f s j).1
      unfold pWrite
      split
      · exact Nat.le_succ_of_le ih
      · split
        · exact Nat.le_succ_of_le ih
        · split
          · show (List.length (_ ++ _)) ≤ _
            rw [List.length_append, e3]
            show _ + 1 ≤ _
            omega
          · show (pSpend _).1.waits.length ≤ _
            rw [e3]; omega
    · omega
theorem wr_at {d d1 : PDisk} {f m : Nat} {s : ByteArray} {j e : Nat} (hs : s.size = 64 * m) (hf : f + m ≤ d.now.length) (hj : j ≤ m) (h : wrN d f s j = (d1, e)) : d1.now.length = d.now.length ∧ d1.waits.length ≤ d.waits.length + j := by
  have h1 := (wrN_in hs hf j hj).1.len
  have h2 := wr_waits d f s j
  rw [h] at h1 h2
  exact ⟨h1, h2⟩
section
variable {n c k z f m : Nat} {d d1 d2 d3 : PDisk} {s : ByteArray}
theorem lw_1 (hf : f = 2 + k * halfOf n + z / 64) (hm : m = s.size / 64) (h1 : wrN d f s m = (d1, 15)) : logWr n d c k z s = (d1, 15) := by
  unfold logWr; rw [← hf, ← hm, h1]; rfl
theorem lw_2 (hf : f = 2 + k * halfOf n + z / 64) (hm : m = s.size / 64) (h1 : wrN d f s m = (d1, 0)) (h2 : pFlush d1 = (d2, 15)) : logWr n d c k z s = (d2, 15) := by
  unfold logWr; rw [← hf, ← hm, h1]; simp only [h2]; rfl
theorem lw_3 (hf : f = 2 + k * halfOf n + z / 64) (hm : m = s.size / 64) (h1 : wrN d f s m = (d1, 0)) (h2 : pFlush d1 = (d2, 0)) (h3 : pWrite d2 (((c + 1) % 2 : Nat) : Int) (headS (c + 1) k (z + s.size)) = (d3, 15)) : logWr n d c k z s = (d3, 15) := by
  unfold logWr; rw [← hf, ← hm, h1]; simp only [h2, h3]; rfl
theorem lw_4 (hf : f = 2 + k * halfOf n + z / 64) (hm : m = s.size / 64) (h1 : wrN d f s m = (d1, 0)) (h2 : pFlush d1 = (d2, 0)) (h3 : pWrite d2 (((c + 1) % 2 : Nat) : Int) (headS (c + 1) k (z + s.size)) = (d3, 0)) {r : PDisk × Nat} (h4 : pFlush d3 = r) : logWr n d c k z s = r := by
  unfold logWr; rw [← hf, ← hm, h1]; simp only [h2, h3]; exact h4
theorem flush_len {d d' : PDisk} {e : Nat} (h : pFlush d = (d', e)) : d'.now = d.now ∧ (e = 0 → d'.waits = []) := by
  obtain ⟨_, _, h3, h4, _⟩ := flush_at d
  rw [h] at h3 h4
  exact ⟨h3, fun e => (h4 e).2⟩
theorem write_len {d d' : PDisk} {k e : Nat} {s : ByteArray} (hk : k < d.now.length) (hs : s.size ≤ 64) (h : pWrite d (k : Int) s = (d', e)) : d'.now.length = d.now.length := by
  have := (write_in hk hs).1.len
  rw [h] at this
  exact this
end
theorem pk_size {rs : List ByteArray} {N : Nat} (hb : (packT (rs.map tx)).length ≤ N) : (ofT (packB (rs.map tx))).size % 64 = 0 ∧ (ofT (packB (rs.map tx))).size ≤ N + 64 := by
  rw [size_of]
  have := packB_len (rs.map tx)
  omega

/- logp: contracts by what is owned (printed by walk.py). -/
theorem write_spec {B : Nat} (ad : Nat → Addr) (lb db : Nat) (d : PDisk) (Sd : Nat → Prop) (c hh zz k z : Nat) (lo : Bool) (s : ByteArray) (h8 : 8 ≤ d.now.length) (h4 : d.now.length ≤ 4000) (hk : k < 2) (hz : z % 64 = 0) (hs : s.size % 64 = 0) (hfit : z + s.size ≤ halfOf d.now.length * 64) (hc : c + 1 < 10000000000) (hwt : d.waits.length ≤ 1000)  : Spec Tryz.prog 50 #[.pointer (some ⟨lb, 0, none⟩), .int .i64 (k : Int), .int .i64 (z : Int), .string s] [rCell true lb [.pointer (some ⟨db, 0, none⟩), .int .i64 (c : Int), .int .i64 (hh : Int), .int .i64 (zz : Int), .bool lo] 70, rDisk B db d Sd, rTab, rEnv B ad [2, 3, 15]] (fun u L => (∃ (d' : PDisk) (S' : Nat → Prop), logWr d.now.length d c k z s = (d', 0) ∧ u = .nilIface ∧ L = [rCell true lb [.pointer (some ⟨db, 0, none⟩), .int .i64 (c : Int), .int .i64 (hh : Int), .int .i64 (zz : Int), .bool lo] 70, rDisk B db d' S', rTab, rEnv B ad [2, 3, 15]]) ∨ (∃ (d' : PDisk) (S' : Nat → Prop), logWr d.now.length d c k z s = (d', 15) ∧ u = errV ad 15 ∧ L = [rCell true lb [.pointer (some ⟨db, 0, none⟩), .int .i64 (c : Int), .int .i64 (hh : Int), .int .i64 (zz : Int), .bool lo] 70, rDisk B db d' S', rTab, rEnv B ad [2, 3, 15]])) := by
  have hhf0 : halfOf d.now.length = (d.now.length - 2) / 2 := rfl
  have h1 : 1 ≤ d.now.length := by omega
  obtain ⟨m, hsm⟩ : ∃ m_, s.size = 64 * m_ := ⟨s.size / 64, by omega⟩
  have hmd : m = s.size / 64 := by omega
  obtain ⟨first, hfirst⟩ : ∃ f_, f_ = 2 + k * halfOf d.now.length + z / 64 := ⟨_, rfl⟩
  obtain ⟨hm0, hm1, hm2⟩ := half_mul (halfOf d.now.length) hk
  have hin : first + m ≤ d.now.length := by omega
  refine spec_of (#[.pointer (some ⟨lb, 0, none⟩), .int .i64 (k : Int), .int .i64 (z : Int), .string s, undef, undef, undef, undef, undef, undef, undef, undef, undef, undef, undef, undef, undef, undef, undef, undef, undef, undef, undef, undef, undef, undef, undef, undef, undef, undef, undef, undef, undef, undef, undef, undef, undef, undef, undef, undef, undef, undef, undef, undef, undef, undef, undef, undef, undef, undef, undef, undef, undef, undef, undef, undef, undef, undef, undef, undef, undef, undef, undef, undef, undef, undef, undef, undef, undef, undef, undef, undef, undef, undef, undef, undef, undef, undef, undef, undef, undef, undef, undef, undef, undef, undef]) Tryz.func50 rfl (by kernel_rfl) fun E w0 w h => ?_
  have h := h.eSub [15] 3 rfl
  refine c_seq ?_
  refine c_reg ?_
  refine sq_p (.nilIface) rfl (fun _ => by kernel_rfl) ?_
  refine lnil ?_
  refine thn_n ?_
  refine c_seq ?_
  refine c_reg ?_
  refine sq_p (.int .i64 (k : Int)) rfl (fun _ => by kernel_rfl) ?_
  refine sq_p (.pointer (some ⟨lb, 0, none⟩)) rfl (fun _ => by kernel_rfl) ?_
  refine sq_p (.pointer (some ⟨lb, 0, none⟩)) rfl (fun _ => by kernel_rfl) ?_
  refine sq_p (.pointer (some ⟨lb, 0, none⟩)) rfl (fun _ => by kernel_rfl) ?_
  refine sq_q rfl h (g_ld 0 [.pointer (some ⟨db, 0, none⟩)] (.pointer (some ⟨db, 0, none⟩)) (by kernel_rfl) 1 rfl) ?_
  refine sq_call #[.pointer (some ⟨db, 0, none⟩)] [2] rfl (half_spec (B := B) db d Sd h1 h4) (fun _ => by kernel_rfl) h ?_; rintro v_ L_ w ⟨rfl, rfl⟩ h
  refine sq_q rfl h (g_eq (v := .int .i64 (IntKind.i64.wrap ((k : Int) * ((halfOf d.now.length : Nat) : Int)))) (v' := .int .i64 ((k : Int) * ((halfOf d.now.length : Nat) : Int))) (g_pure fun _ => by kernel_rfl) (wr (by omega))) ?_
  refine sq_q rfl h (g_eq (v := .int .i64 (IntKind.i64.wrap (2 + ((k : Int) * ((halfOf d.now.length : Nat) : Int))))) (v' := .int .i64 (2 + ((k : Int) * ((halfOf d.now.length : Nat) : Int)))) (g_pure fun _ => by kernel_rfl) (wr (by omega))) ?_
  refine sq_p (.int .i64 (z : Int)) rfl (fun _ => by kernel_rfl) ?_
  refine sq_q rfl h (g_quo z 64 (by kernel_rfl) (by omega) (by omega)) ?_
  refine sq_q rfl h (g_eq (v := .int .i64 (IntKind.i64.wrap ((2 + ((k : Int) * ((halfOf d.now.length : Nat) : Int))) + ((z / 64 : Nat) : Int)))) (v' := .int .i64 ((2 + ((k : Int) * ((halfOf d.now.length : Nat) : Int))) + ((z / 64 : Nat) : Int))) (g_pure fun _ => by kernel_rfl) (wr (by omega))) ?_
  refine sq_p (.int .i64 ((2 + ((k : Int) * ((halfOf d.now.length : Nat) : Int))) + ((z / 64 : Nat) : Int))) rfl (fun _ => by kernel_rfl) ?_
  refine lnil ?_
  refine thn_n ?_
  refine c_seq ?_
  refine c_seq ?_
  refine c_reg ?_
  refine sq_p (.int .i64 0) rfl (fun _ => by kernel_rfl) ?_
  refine lnil ?_
  refine thn_n ?_
  refine c_block ?_
  refine c_loop (X := Nat × PDisk × (Nat → Prop) × (Nat → Value)) (fun ⟨qq, dj, Sj, J0⟩ => ⟨#[.pointer (some ⟨lb, 0, none⟩), .int .i64 (k : Int), .int .i64 (z : Int), .string s, undef, undef, undef, undef, J0 8, .int .i64 ((2 + ((k : Int) * ((halfOf d.now.length : Nat) : Int))) + ((z / 64 : Nat) : Int)), .int .i64 ((64 * qq : Nat) : Int), J0 11, undef, undef, .int .i64 (k : Int), .pointer (some ⟨lb, 0, none⟩), .pointer (some ⟨lb, 0, none⟩), .pointer (some ⟨lb, 0, none⟩), .pointer (some ⟨db, 0, none⟩), .int .i64 ((halfOf d.now.length : Nat) : Int), .int .i64 ((k : Int) * ((halfOf d.now.length : Nat) : Int)), .int .i64 (2 + ((k : Int) * ((halfOf d.now.length : Nat) : Int))), .int .i64 (z : Int), .int .i64 ((z / 64 : Nat) : Int), .int .i64 ((2 + ((k : Int) * ((halfOf d.now.length : Nat) : Int))) + ((z / 64 : Nat) : Int)), J0 25, J0 26, J0 27, J0 28, J0 29, J0 30, J0 31, J0 32, J0 33, J0 34, J0 35, J0 36, J0 37, J0 38, J0 39, J0 40, J0 41, J0 42, J0 43, J0 44, J0 45, J0 46, J0 47, undef, undef, undef, undef, undef, undef, undef, undef, undef, undef, undef, undef, undef, undef, undef, undef, undef, undef, undef, undef, undef, undef, undef, undef, undef, undef, undef, undef, undef, undef, undef, undef, undef, undef, undef, undef, undef, undef], []⟩)
    (fun ⟨qq, dj, Sj, J0⟩ => [rDisk B db dj Sj, rEnv B ad [15], rCell true lb [.pointer (some ⟨db, 0, none⟩), .int .i64 (c : Int), .int .i64 (hh : Int), .int .i64 (zz : Int), .bool lo] 70, rTab, rEnv B ad [2, 3, 15]]) (fun ⟨qq, dj, Sj, J0⟩ => qq ≤ m ∧ wrN d first s qq = (dj, 0)) (fun ⟨qq, dj, Sj, J0⟩ => m - qq)
    ⟨0, d, Sd, (fun n => (#[.pointer (some ⟨lb, 0, none⟩), .int .i64 (k : Int), .int .i64 (z : Int), .string s, undef, undef, undef, undef, .nilIface, .int .i64 ((2 + ((k : Int) * ((halfOf d.now.length : Nat) : Int))) + ((z / 64 : Nat) : Int)), .int .i64 0, undef, undef, undef, .int .i64 (k : Int), .pointer (some ⟨lb, 0, none⟩), .pointer (some ⟨lb, 0, none⟩), .pointer (some ⟨lb, 0, none⟩), .pointer (some ⟨db, 0, none⟩), .int .i64 ((halfOf d.now.length : Nat) : Int), .int .i64 ((k : Int) * ((halfOf d.now.length : Nat) : Int)), .int .i64 (2 + ((k : Int) * ((halfOf d.now.length : Nat) : Int))), .int .i64 (z : Int), .int .i64 ((z / 64 : Nat) : Int), .int .i64 ((2 + ((k : Int) * ((halfOf d.now.length : Nat) : Int))) + ((z / 64 : Nat) : Int)), undef, undef, undef, undef, undef, undef, undef, undef, undef, undef, undef, undef, undef, undef, undef, undef, undef, undef, undef, undef, undef, undef, undef, undef, undef, undef, undef, undef, undef, undef, undef, undef, undef, undef, undef, undef, undef, undef, undef, undef, undef, undef, undef, undef, undef, undef, undef, undef, undef, undef, undef, undef, undef, undef, undef, undef, undef, undef, undef, undef, undef] : Array Value).getD n undef)⟩ ⟨by omega, rfl⟩ (by kernel_rfl) [0, 0, 0, 0, 0] (by kernel_rfl) h ?_
  rintro ⟨qq, dj, Sj, J0⟩ w hG h
  obtain ⟨hjm, hdj⟩ : qq ≤ m ∧ wrN d first s qq = (dj, 0) := hG
  obtain ⟨hjl, hjw⟩ := wr_at hsm hin hjm hdj
  refine c_seq ?_
  refine c_seq ?_
  refine c_reg ?_
  refine sq_p (.int .i64 ((64 * qq : Nat) : Int)) rfl (fun _ => by kernel_rfl) ?_
  refine sq_p (.string s) rfl (fun _ => by kernel_rfl) ?_
  refine sq_p (.int .i64 (s.size : Int)) rfl (fun _ => by kernel_rfl) ?_
  refine sq_p (.bool (decide (((64 * qq : Nat) : Int) < (s.size : Int)))) rfl (fun _ => by kernel_rfl) ?_
  refine lnil ?_
  refine thn_n ?_
  refine c_cond (decide (((64 * qq : Nat) : Int) < (s.size : Int))) (by kernel_rfl) (fun hc1 => ?_) (fun hc1 => ?_)
  · skip
    have hc1 := of_decide_eq_true hc1
    refine c_skip ?_
    refine thn_n ?_
    refine c_seq ?_
    refine c_block ?_
    refine c_seq ?_
    refine d_start 15 [2] (by kernel_rfl) h fun w h => ?_
    refine d_take 0 8176 [2] rfl (v := .pointer (some ⟨lb, 0, none⟩)) (by kernel_rfl) (qp_thn (qp_blk (qp_thn (qp_rnd (qp_blk (qp_thn qp_body)))))) (yq (by kernel_rfl) (g_pure (v := .pointer (some ⟨lb, 0, none⟩)) fun _ => by kernel_rfl)) h (by kernel_rfl) ?_
    refine d_take 1 8177 [2] rfl (v := .pointer (some ⟨lb, 0, none⟩)) (by kernel_rfl) (qp_thn (qp_blk (qp_thn (qp_rnd (qp_blk (qp_thn qp_body)))))) (yq (by kernel_rfl) (g_pure (v := .pointer (some ⟨lb, 0, none⟩)) fun _ => by kernel_rfl)) h (by kernel_rfl) ?_
    refine d_take 2 8179 [2] rfl (v := .pointer (some ⟨lb, 0, none⟩)) (by kernel_rfl) (qp_thn (qp_blk (qp_thn (qp_rnd (qp_blk (qp_thn qp_body)))))) (yq (by kernel_rfl) (g_pure (v := .pointer (some ⟨lb, 0, none⟩)) fun _ => by kernel_rfl)) h (by kernel_rfl) ?_
    refine d_take 3 8183 [2] rfl (v := .pointer (some ⟨db, 0, none⟩)) (by kernel_rfl) (qp_thn (qp_blk (qp_thn (qp_rnd (qp_blk (qp_thn qp_body)))))) (yq (by kernel_rfl) (g_ld 0 [.pointer (some ⟨db, 0, none⟩)] (.pointer (some ⟨db, 0, none⟩)) (by kernel_rfl) 0 rfl)) h (by kernel_rfl) ?_
    refine d_take 4 8047 [2] rfl (v := .int .i64 ((2 + ((k : Int) * ((halfOf d.now.length : Nat) : Int))) + ((z / 64 : Nat) : Int))) (by kernel_rfl) (qp_thn (qp_blk (qp_thn (qp_rnd (qp_blk (qp_thn qp_body)))))) (yq (by kernel_rfl) (g_pure (v := .int .i64 ((2 + ((k : Int) * ((halfOf d.now.length : Nat) : Int))) + ((z / 64 : Nat) : Int))) fun _ => by kernel_rfl)) h (by kernel_rfl) ?_
    refine d_take 5 7967 [2] rfl (v := .int .i64 ((64 * qq : Nat) : Int)) (by kernel_rfl) (qp_thn (qp_blk (qp_thn (qp_rnd (qp_blk (qp_thn qp_body)))))) (yq (by kernel_rfl) (g_pure (v := .int .i64 ((64 * qq : Nat) : Int)) fun _ => by kernel_rfl)) h (by kernel_rfl) ?_
    refine d_take 6 7999 [2] rfl (v := .int .i64 (((64 * qq) / 64 : Nat) : Int)) (by kernel_rfl) (qp_thn (qp_blk (qp_thn (qp_rnd (qp_blk (qp_thn qp_body)))))) (yq (by kernel_rfl) (g_quo (64 * qq) 64 (by kernel_rfl) (by omega) (by omega))) h (by kernel_rfl) ?_
    refine d_take 7 8063 [2] rfl (v := .int .i64 (((2 + ((k : Int) * ((halfOf d.now.length : Nat) : Int))) + ((z / 64 : Nat) : Int)) + (((64 * qq) / 64 : Nat) : Int))) (by kernel_rfl) (qp_thn (qp_blk (qp_thn (qp_rnd (qp_blk (qp_thn qp_body)))))) (yq (by kernel_rfl) (g_eq (v := .int .i64 (IntKind.i64.wrap (((2 + ((k : Int) * ((halfOf d.now.length : Nat) : Int))) + ((z / 64 : Nat) : Int)) + (((64 * qq) / 64 : Nat) : Int)))) (v' := .int .i64 (((2 + ((k : Int) * ((halfOf d.now.length : Nat) : Int))) + ((z / 64 : Nat) : Int)) + (((64 * qq) / 64 : Nat) : Int))) (g_pure fun _ => by kernel_rfl) (wr (by omega)))) h (by kernel_rfl) ?_
    refine d_take 8 3839 [2] rfl (v := .string s) (by kernel_rfl) (qp_thn (qp_blk (qp_thn (qp_rnd (qp_blk (qp_thn qp_body)))))) (yq (by kernel_rfl) (g_pure (v := .string s) fun _ => by kernel_rfl)) h (by kernel_rfl) ?_
    refine d_take 9 3583 [2] rfl (v := .int .i64 ((64 * qq : Nat) : Int)) (by kernel_rfl) (qp_thn (qp_blk (qp_thn (qp_rnd (qp_blk (qp_thn qp_body)))))) (yq (by kernel_rfl) (g_pure (v := .int .i64 ((64 * qq : Nat) : Int)) fun _ => by kernel_rfl)) h (by kernel_rfl) ?_
    refine d_take 10 1023 [2] rfl (v := .int .i64 ((64 * qq : Nat) : Int)) (by kernel_rfl) (qp_thn (qp_blk (qp_thn (qp_rnd (qp_blk (qp_thn qp_body)))))) (yq (by kernel_rfl) (g_pure (v := .int .i64 ((64 * qq : Nat) : Int)) fun _ => by kernel_rfl)) h (by kernel_rfl) ?_
    refine d_take 11 2047 [2] rfl (v := .int .i64 (((64 * qq) + 64 : Nat) : Int)) (by kernel_rfl) (qp_thn (qp_blk (qp_thn (qp_rnd (qp_blk (qp_thn qp_body)))))) (yq (by kernel_rfl) (g_eq (v := .int .i64 (IntKind.i64.wrap (((64 * qq : Nat) : Int) + 64))) (v' := .int .i64 (((64 * qq) + 64 : Nat) : Int)) (g_pure fun _ => by kernel_rfl) (wr (by omega)))) h (by kernel_rfl) ?_
    refine d_take 12 4095 [2] rfl (v := .string (s.extract (64 * qq) ((64 * qq) + 64))) (by kernel_rfl) (qp_thn (qp_blk (qp_thn (qp_rnd (qp_blk (qp_thn qp_body)))))) (yq (by kernel_rfl) (g_subT s (LV := (some (.int .i64 ((64 * qq : Nat) : Int)))) (HV := (some (.int .i64 (((64 * qq) + 64 : Nat) : Int)))) (64 * qq) ((64 * qq) + 64) (by kernel_rfl) (bnd rfl) (bnd rfl) (by first | omega | (simp; omega)) (by first | omega | (simp; omega)))) h (by kernel_rfl) ?_
    refine d_ready [13] (by kernel_rfl) rfl ?_
    refine ad_call #[.pointer (some ⟨db, 0, none⟩), .int .i64 (((2 + ((k : Int) * ((halfOf d.now.length : Nat) : Int))) + ((z / 64 : Nat) : Int)) + (((64 * qq) / 64 : Nat) : Int)), .string (s.extract (64 * qq) ((64 * qq) + 64))] [0, 3] [3] rfl (by kernel_rfl) (dwriteN_spec (B := B) (b := db) (d := dj) (S := Sj) ad (((2 + ((k : Int) * ((halfOf d.now.length : Nat) : Int))) + ((z / 64 : Nat) : Int)) + (((64 * qq) / 64 : Nat) : Int)) (first + qq) (cut64 s qq) (by (try push_cast); omega) (by omega) (by rw [cut64_size hsm (by omega)]; omega) (by omega)) (fun _ => by kernel_rfl) h ?_ ?_
    · skip
      rintro v_ L_ w (⟨dd2, Sx3, hdw4, rfl, rfl⟩ | ⟨dd2, Sx3, hdw4, rfl, rfl⟩) h
      · skip
        refine ⟨by kernel_rfl, ?_⟩
        refine d_take 14 16383 [3] rfl (v := .nilIface) (by kernel_rfl) (qp_thn (qp_blk (qp_thn (qp_rnd (qp_blk (qp_thn qp_body)))))) (yq (by kernel_rfl) (g_pure (v := .nilIface) fun _ => by kernel_rfl)) h (by kernel_rfl) ?_
        refine d_done (by kernel_rfl) ?_
        refine thn_n ?_
        refine c_seq ?_
        refine c_reg ?_
        refine sq_p (.nilIface) rfl (fun _ => by kernel_rfl) ?_
        refine sq_p (.bool false) rfl (fun _ => by kernel_rfl) ?_
        refine lnil ?_
        refine thn_n ?_
        refine c_false (by kernel_rfl) ?_
        refine c_skip ?_
        refine blk_n (thn_n ?_)
        refine c_reg ?_
        refine sq_p (.int .i64 ((64 * qq : Nat) : Int)) rfl (fun _ => by kernel_rfl) ?_
        refine sq_q rfl h (g_eq (v := .int .i64 (IntKind.i64.wrap (((64 * qq : Nat) : Int) + 64))) (v' := .int .i64 (((64 * qq) + 64 : Nat) : Int)) (g_pure fun _ => by kernel_rfl) (wr (by omega))) ?_
        refine sq_p (.int .i64 (((64 * qq) + 64 : Nat) : Int)) rfl (fun _ => by kernel_rfl) ?_
        refine lnil ?_
        have hQ5 : ((qq + 1) ≤ m ∧ wrN d first s (qq + 1) = (dd2, 0)) ∧ (m - (qq + 1)) < (m - qq) := ⟨⟨by omega, wr_next hdj hdw4⟩, by omega⟩
        refine loop_end (fun j => ⟨qq + 1, dd2, Sx3, j⟩) hQ5 (by kernel_rfl) [0, 1, 1, 1, 0] (by kernel_rfl) h
      · skip
        refine ⟨by kernel_rfl, ?_⟩
        refine d_take 14 16383 [3] rfl (v := errV ad 15) (by kernel_rfl) (qp_thn (qp_blk (qp_thn (qp_rnd (qp_blk (qp_thn qp_body)))))) (yq (by kernel_rfl) (g_pure (v := errV ad 15) fun _ => by kernel_rfl)) h (by kernel_rfl) ?_
        refine d_done (by kernel_rfl) ?_
        refine thn_n ?_
        refine c_seq ?_
        refine c_reg ?_
        refine sq_p (errV ad 15) rfl (fun _ => by kernel_rfl) ?_
        refine sq_p (.bool true) rfl (fun _ => by kernel_rfl) ?_
        refine lnil ?_
        refine thn_n ?_
        refine c_true (by kernel_rfl) ?_
        refine c_seq ?_
        refine c_reg ?_
        refine sq_p (errV ad 15) rfl (fun _ => by kernel_rfl) ?_
        refine sq_p (errV ad 15) rfl (fun _ => by kernel_rfl) ?_
        refine lnil ?_
        refine thn_n ?_
        refine c_ret ?_
        refine blk_r (thn_r (rnd_r (blk_r (thn_r ?_))))
        refine ret_end [errV ad 15] [3, 0, 2, 0] h (by kernel_rfl) (res_t (by kernel_rfl) res_n) ?_
        exact .inr ⟨_, _, lw_1 hfirst hmd (wr_stick (wr_next hdj hdw4) m (by omega)), rfl, rfl⟩
    exact ad_nil
  · skip
    have hc1 := of_decide_eq_false hc1
    refine c_exit ?_
    refine thn_e (rnd_e (blk_e (thn_n ?_)))
    refine c_seq ?_
    refine c_seq ?_
    refine c_reg ?_
    refine sq_p (.pointer (some ⟨lb, 0, none⟩)) rfl (fun _ => by kernel_rfl) ?_
    refine sq_p (.pointer (some ⟨lb, 0, none⟩)) rfl (fun _ => by kernel_rfl) ?_
    refine sq_p (.pointer (some ⟨lb, 0, none⟩)) rfl (fun _ => by kernel_rfl) ?_
    refine sq_q rfl h (g_ld 0 [.pointer (some ⟨db, 0, none⟩)] (.pointer (some ⟨db, 0, none⟩)) (by kernel_rfl) 2 rfl) ?_
    refine sq_call #[.pointer (some ⟨db, 0, none⟩)] [0, 0] rfl (dflushN_spec (B := B) (b := db) (d := dj) (S := Sj) ad (by omega)) (fun _ => by kernel_rfl) h ?_; rintro v_ L_ w (⟨dd6, Sx7, hdf8, rfl, rfl⟩ | ⟨dd6, Sx7, hdf8, rfl, rfl⟩) h
    · skip
      refine sq_p (.nilIface) rfl (fun _ => by kernel_rfl) ?_
      refine lnil ?_
      refine thn_n ?_
      refine c_seq ?_
      refine c_reg ?_
      refine sq_p (.nilIface) rfl (fun _ => by kernel_rfl) ?_
      refine sq_p (.bool false) rfl (fun _ => by kernel_rfl) ?_
      refine lnil ?_
      refine thn_n ?_
      refine c_false (by kernel_rfl) ?_
      refine c_skip ?_
      refine thn_n ?_
      refine c_seq ?_
      refine c_seq ?_
      refine d_start 23 [2] (by kernel_rfl) h fun w h => ?_
      refine d_take 0 2097136 [2] rfl (v := .pointer (some ⟨lb, 0, none⟩)) (by kernel_rfl) (qp_thn (qp_thn qp_body)) (yq (by kernel_rfl) (g_pure (v := .pointer (some ⟨lb, 0, none⟩)) fun _ => by kernel_rfl)) h (by kernel_rfl) ?_
      refine d_take 1 2097137 [2] rfl (v := .pointer (some ⟨lb, 0, none⟩)) (by kernel_rfl) (qp_thn (qp_thn qp_body)) (yq (by kernel_rfl) (g_pure (v := .pointer (some ⟨lb, 0, none⟩)) fun _ => by kernel_rfl)) h (by kernel_rfl) ?_
      refine d_take 2 2097139 [2] rfl (v := .pointer (some ⟨lb, 0, none⟩)) (by kernel_rfl) (qp_thn (qp_thn qp_body)) (yq (by kernel_rfl) (g_pure (v := .pointer (some ⟨lb, 0, none⟩)) fun _ => by kernel_rfl)) h (by kernel_rfl) ?_
      refine d_take 3 2097143 [2] rfl (v := .pointer (some ⟨db, 0, none⟩)) (by kernel_rfl) (qp_thn (qp_thn qp_body)) (yq (by kernel_rfl) (g_ld 0 [.pointer (some ⟨db, 0, none⟩)] (.pointer (some ⟨db, 0, none⟩)) (by kernel_rfl) 0 rfl)) h (by kernel_rfl) ?_
      refine d_take 4 2096143 [2] rfl (v := .pointer (some ⟨lb, 0, none⟩)) (by kernel_rfl) (qp_thn (qp_thn qp_body)) (yq (by kernel_rfl) (g_pure (v := .pointer (some ⟨lb, 0, none⟩)) fun _ => by kernel_rfl)) h (by kernel_rfl) ?_
      refine d_take 5 2096159 [2] rfl (v := .pointer (some ⟨lb, 0, none⟩)) (by kernel_rfl) (qp_thn (qp_thn qp_body)) (yq (by kernel_rfl) (g_pure (v := .pointer (some ⟨lb, 0, none⟩)) fun _ => by kernel_rfl)) h (by kernel_rfl) ?_
      refine d_take 6 2096191 [2] rfl (v := .pointer (some ⟨lb, 1, none⟩)) (by kernel_rfl) (qp_thn (qp_thn qp_body)) (yq (by kernel_rfl) (g_pure (v := .pointer (some ⟨lb, 1, none⟩)) fun _ => by kernel_rfl)) h (by kernel_rfl) ?_
      refine d_take 7 2096255 [2] rfl (v := .int .i64 (c : Int)) (by kernel_rfl) (qp_thn (qp_thn qp_body)) (yq (by kernel_rfl) (g_ld 1 [.int .i64 (c : Int)] (.int .i64 (c : Int)) (by kernel_rfl) 0 rfl)) h (by kernel_rfl) ?_
      refine d_take 8 2096383 [2] rfl (v := .int .i64 ((c + 1 : Nat) : Int)) (by kernel_rfl) (qp_thn (qp_thn qp_body)) (yq (by kernel_rfl) (g_eq (v := .int .i64 (IntKind.i64.wrap ((c : Int) + 1))) (v' := .int .i64 ((c + 1 : Nat) : Int)) (g_pure fun _ => by kernel_rfl) (wr (by omega)))) h (by kernel_rfl) ?_
      refine d_take 9 2096639 [2] rfl (v := .int .i64 (((c + 1) % 2 : Nat) : Int)) (by kernel_rfl) (qp_thn (qp_thn qp_body)) (yq (by kernel_rfl) (g_rem (c + 1) 2 (by kernel_rfl) (by omega) (by omega))) h (by kernel_rfl) ?_
      refine d_take 10 1016831 [2] rfl (v := .pointer (some ⟨lb, 0, none⟩)) (by kernel_rfl) (qp_thn (qp_thn qp_body)) (yq (by kernel_rfl) (g_pure (v := .pointer (some ⟨lb, 0, none⟩)) fun _ => by kernel_rfl)) h (by kernel_rfl) ?_
      refine d_take 11 1017855 [2] rfl (v := .pointer (some ⟨lb, 0, none⟩)) (by kernel_rfl) (qp_thn (qp_thn qp_body)) (yq (by kernel_rfl) (g_pure (v := .pointer (some ⟨lb, 0, none⟩)) fun _ => by kernel_rfl)) h (by kernel_rfl) ?_
      refine d_take 12 1019903 [2] rfl (v := .pointer (some ⟨lb, 1, none⟩)) (by kernel_rfl) (qp_thn (qp_thn qp_body)) (yq (by kernel_rfl) (g_pure (v := .pointer (some ⟨lb, 1, none⟩)) fun _ => by kernel_rfl)) h (by kernel_rfl) ?_
      refine d_take 13 1023999 [2] rfl (v := .int .i64 (c : Int)) (by kernel_rfl) (qp_thn (qp_thn qp_body)) (yq (by kernel_rfl) (g_ld 1 [.int .i64 (c : Int)] (.int .i64 (c : Int)) (by kernel_rfl) 0 rfl)) h (by kernel_rfl) ?_
      refine d_take 14 1032191 [2] rfl (v := .int .i64 ((c + 1 : Nat) : Int)) (by kernel_rfl) (qp_thn (qp_thn qp_body)) (yq (by kernel_rfl) (g_eq (v := .int .i64 (IntKind.i64.wrap ((c : Int) + 1))) (v' := .int .i64 ((c + 1 : Nat) : Int)) (g_pure fun _ => by kernel_rfl) (wr (by omega)))) h (by kernel_rfl) ?_
      refine d_take 15 1015807 [2] rfl (v := .int .i64 (k : Int)) (by kernel_rfl) (qp_thn (qp_thn qp_body)) (yq (by kernel_rfl) (g_pure (v := .int .i64 (k : Int)) fun _ => by kernel_rfl)) h (by kernel_rfl) ?_
      refine d_take 16 458751 [2] rfl (v := .int .i64 (z : Int)) (by kernel_rfl) (qp_thn (qp_thn qp_body)) (yq (by kernel_rfl) (g_pure (v := .int .i64 (z : Int)) fun _ => by kernel_rfl)) h (by kernel_rfl) ?_
      refine d_take 17 131071 [2] rfl (v := .string s) (by kernel_rfl) (qp_thn (qp_thn qp_body)) (yq (by kernel_rfl) (g_pure (v := .string s) fun _ => by kernel_rfl)) h (by kernel_rfl) ?_
      refine d_take 18 262143 [2] rfl (v := .int .i64 (s.size : Int)) (by kernel_rfl) (qp_thn (qp_thn qp_body)) (yq (by kernel_rfl) (g_pure (v := .int .i64 (s.size : Int)) fun _ => by kernel_rfl)) h (by kernel_rfl) ?_
      refine d_take 19 524287 [2] rfl (v := .int .i64 ((z + s.size : Nat) : Int)) (by kernel_rfl) (qp_thn (qp_thn qp_body)) (yq (by kernel_rfl) (g_eq (v := .int .i64 (IntKind.i64.wrap ((z : Int) + (s.size : Int)))) (v' := .int .i64 ((z + s.size : Nat) : Int)) (g_pure fun _ => by kernel_rfl) (wr (by omega)))) h (by kernel_rfl) ?_
      refine d_ready [20] (by kernel_rfl) rfl ?_
      refine ad_call #[.int .i64 ((c + 1 : Nat) : Int), .int .i64 (k : Int), .int .i64 ((z + s.size : Nat) : Int)] [3] [3] rfl (by kernel_rfl) (head_spec (c + 1) k (z + s.size) (by omega) (by omega) (by omega)) (fun _ => by kernel_rfl) h ?_ ?_
      · skip
        rintro v_ L_ w ⟨rfl, rfl⟩ h
        refine ⟨by kernel_rfl, ?_⟩
        refine d_ready [21] (by kernel_rfl) rfl ?_
        refine ad_call #[.pointer (some ⟨db, 0, none⟩), .int .i64 (((c + 1) % 2 : Nat) : Int), .string (headS (c + 1) k (z + s.size))] [1, 3] [4] rfl (by kernel_rfl) (dwriteN_spec (B := B) (b := db) (d := dd6) (S := Sx7) ad (((c + 1) % 2 : Nat) : Int) ((c + 1) % 2) (headS (c + 1) k (z + s.size)) (by (try push_cast); omega) (by rw [(flush_len hdf8).1, hjl]; omega) (by rw [headS_size (by unfold ten10; omega) (by omega) (by unfold ten10; omega)]; omega) (by rw [(flush_len hdf8).2 rfl]; simp)) (fun _ => by kernel_rfl) h ?_ ?_
        · skip
          rintro v_ L_ w (⟨dd9, Sx10, hdw11, rfl, rfl⟩ | ⟨dd9, Sx10, hdw11, rfl, rfl⟩) h
          · skip
            refine ⟨by kernel_rfl, ?_⟩
            refine d_take 22 4194303 [4] rfl (v := .nilIface) (by kernel_rfl) (qp_thn (qp_thn qp_body)) (yq (by kernel_rfl) (g_pure (v := .nilIface) fun _ => by kernel_rfl)) h (by kernel_rfl) ?_
            refine d_done (by kernel_rfl) ?_
            refine thn_n ?_
            refine c_seq ?_
            refine c_reg ?_
            refine sq_p (.nilIface) rfl (fun _ => by kernel_rfl) ?_
            refine sq_p (.bool false) rfl (fun _ => by kernel_rfl) ?_
            refine lnil ?_
            refine thn_n ?_
            refine c_false (by kernel_rfl) ?_
            refine c_skip ?_
            refine thn_n ?_
            refine c_seq ?_
            refine c_reg ?_
            refine sq_p (.pointer (some ⟨lb, 0, none⟩)) rfl (fun _ => by kernel_rfl) ?_
            refine sq_p (.pointer (some ⟨lb, 0, none⟩)) rfl (fun _ => by kernel_rfl) ?_
            refine sq_p (.pointer (some ⟨lb, 0, none⟩)) rfl (fun _ => by kernel_rfl) ?_
            refine sq_q rfl h (g_ld 0 [.pointer (some ⟨db, 0, none⟩)] (.pointer (some ⟨db, 0, none⟩)) (by kernel_rfl) 4 rfl) ?_
            refine sq_call #[.pointer (some ⟨db, 0, none⟩)] [0, 2] rfl (dflushN_spec (B := B) (b := db) (d := dd9) (S := Sx10) ad (by rw [write_len (by rw [(flush_len hdf8).1, hjl]; omega) (by rw [headS_size (by unfold ten10; omega) (by omega) (by unfold ten10; omega)]; omega) hdw11, (flush_len hdf8).1]; omega)) (fun _ => by kernel_rfl) h ?_; rintro v_ L_ w (⟨dd12, Sx13, hdf14, rfl, rfl⟩ | ⟨dd12, Sx13, hdf14, rfl, rfl⟩) h
            · skip
              refine sq_p (.nilIface) rfl (fun _ => by kernel_rfl) ?_
              refine lnil ?_
              refine thn_n ?_
              refine c_ret ?_
              refine ret_end [.nilIface] [4, 0, 2, 1] h (by kernel_rfl) (res_t (by kernel_rfl) res_n) ?_
              have hjm2 : qq = m := by omega
              subst hjm2
              exact .inl ⟨_, _, lw_4 hfirst hmd hdj hdf8 hdw11 hdf14, rfl, rfl⟩
            · skip
              refine sq_p (errV ad 15) rfl (fun _ => by kernel_rfl) ?_
              refine lnil ?_
              refine thn_n ?_
              refine c_ret ?_
              refine ret_end [errV ad 15] [4, 0, 2, 1] h (by kernel_rfl) (res_t (by kernel_rfl) res_n) ?_
              have hjm2 : qq = m := by omega
              subst hjm2
              exact .inr ⟨_, _, lw_4 hfirst hmd hdj hdf8 hdw11 hdf14, rfl, rfl⟩
          · skip
            refine ⟨by kernel_rfl, ?_⟩
            refine d_take 22 4194303 [4] rfl (v := errV ad 15) (by kernel_rfl) (qp_thn (qp_thn qp_body)) (yq (by kernel_rfl) (g_pure (v := errV ad 15) fun _ => by kernel_rfl)) h (by kernel_rfl) ?_
            refine d_done (by kernel_rfl) ?_
            refine thn_n ?_
            refine c_seq ?_
            refine c_reg ?_
            refine sq_p (errV ad 15) rfl (fun _ => by kernel_rfl) ?_
            refine sq_p (.bool true) rfl (fun _ => by kernel_rfl) ?_
            refine lnil ?_
            refine thn_n ?_
            refine c_true (by kernel_rfl) ?_
            refine c_seq ?_
            refine c_reg ?_
            refine sq_p (errV ad 15) rfl (fun _ => by kernel_rfl) ?_
            refine sq_p (errV ad 15) rfl (fun _ => by kernel_rfl) ?_
            refine lnil ?_
            refine thn_n ?_
            refine c_ret ?_
            refine thn_r ?_
            refine ret_end [errV ad 15] [4, 0, 1, 0] h (by kernel_rfl) (res_t (by kernel_rfl) res_n) ?_
            have hjm2 : qq = m := by omega
            subst hjm2
            exact .inr ⟨_, _, lw_3 hfirst hmd hdj hdf8 hdw11, rfl, rfl⟩
        exact ad_nil
      exact ad_nil
    · skip
      refine sq_p (errV ad 15) rfl (fun _ => by kernel_rfl) ?_
      refine lnil ?_
      refine thn_n ?_
      refine c_seq ?_
      refine c_reg ?_
      refine sq_p (errV ad 15) rfl (fun _ => by kernel_rfl) ?_
      refine sq_p (.bool true) rfl (fun _ => by kernel_rfl) ?_
      refine lnil ?_
      refine thn_n ?_
      refine c_true (by kernel_rfl) ?_
      refine c_seq ?_
      refine c_reg ?_
      refine sq_p (errV ad 15) rfl (fun _ => by kernel_rfl) ?_
      refine sq_p (errV ad 15) rfl (fun _ => by kernel_rfl) ?_
      refine lnil ?_
      refine thn_n ?_
      refine c_ret ?_
      refine thn_r ?_
      refine ret_end [errV ad 15] [2, 0, 1, 1] h (by kernel_rfl) (res_t (by kernel_rfl) res_n) ?_
      have hjm2 : qq = m := by omega
      subst hjm2
      exact .inr ⟨_, _, lw_2 hfirst hmd hdj hdf8, rfl, rfl⟩

/- logp: contracts by what is owned (printed by walk.py). -/
theorem put_spec {B : Nat} (ad : Nat → Addr) (lb db : Nat) (d : PDisk) (Sd : Nat → Prop) (c hh zz k z : Nat) (lo : Bool) (s : ByteArray) (h8 : 8 ≤ d.now.length) (h4 : d.now.length ≤ 4000) (hk : k < 2) (hz : z % 64 = 0) (hs : s.size % 64 = 0) (hfit : z + s.size ≤ halfOf d.now.length * 64) (hc : c + 1 < 10000000000) (hwt : d.waits.length ≤ 1000)  : Spec Tryz.prog 35 #[.pointer (some ⟨lb, 0, none⟩), .int .i64 (k : Int), .int .i64 (z : Int), .string s] [rCell true lb [.pointer (some ⟨db, 0, none⟩), .int .i64 (c : Int), .int .i64 (hh : Int), .int .i64 (zz : Int), .bool lo] 70, rDisk B db d Sd, rTab, rEnv B ad [2, 3, 15]] (fun u L => (∃ (d' : PDisk) (S' : Nat → Prop), logWr d.now.length d c k z s = (d', 0) ∧ u = .nilIface ∧ L = [rCell true lb [.pointer (some ⟨db, 0, none⟩), .int .i64 ((c + 1 : Nat) : Int), .int .i64 (k : Int), .int .i64 ((z + s.size : Nat) : Int), .bool lo] 70, rDisk B db d' S', rTab, rEnv B ad [2, 3, 15]]) ∨ (∃ (d' : PDisk) (S' : Nat → Prop), logWr d.now.length d c k z s = (d', 15) ∧ u = errV ad 15 ∧ L = [rCell true lb [.pointer (some ⟨db, 0, none⟩), .int .i64 (c : Int), .int .i64 (hh : Int), .int .i64 (zz : Int), .bool true] 70, rDisk B db d' S', rTab, rEnv B ad [2, 3, 15]])) := by
  have hhf0 : halfOf d.now.length = (d.now.length - 2) / 2 := rfl
  refine spec_of (#[.pointer (some ⟨lb, 0, none⟩), .int .i64 (k : Int), .int .i64 (z : Int), .string s, undef, undef, undef, undef, undef, undef, undef, undef, undef, undef, undef, undef, undef, undef, undef, undef, undef, undef, undef, undef, undef, undef, undef, undef, undef, undef, undef, undef, undef, undef, undef, undef, undef, undef, undef, undef]) Tryz.func35 rfl (by kernel_rfl) fun E w0 w h => ?_
  refine c_seq ?_
  refine c_reg ?_
  refine sq_p (.nilIface) rfl (fun _ => by kernel_rfl) ?_
  refine lnil ?_
  refine thn_n ?_
  refine c_seq ?_
  refine c_reg ?_
  refine sq_p (.pointer (some ⟨lb, 0, none⟩)) rfl (fun _ => by kernel_rfl) ?_
  refine sq_p (.int .i64 (k : Int)) rfl (fun _ => by kernel_rfl) ?_
  refine sq_p (.int .i64 (z : Int)) rfl (fun _ => by kernel_rfl) ?_
  refine sq_p (.string s) rfl (fun _ => by kernel_rfl) ?_
  refine sq_call #[.pointer (some ⟨lb, 0, none⟩), .int .i64 (k : Int), .int .i64 (z : Int), .string s] [0, 0, 0, 0] rfl (write_spec ad lb db d Sd c hh zz k z lo s h8 h4 hk hz hs hfit hc hwt) (fun _ => by kernel_rfl) h ?_; rintro v_ L_ w (⟨dd1, Sx2, hlw3, rfl, rfl⟩ | ⟨dd1, Sx2, hlw3, rfl, rfl⟩) h
  · skip
    refine sq_p (.nilIface) rfl (fun _ => by kernel_rfl) ?_
    refine lnil ?_
    refine thn_n ?_
    refine c_seq ?_
    refine c_seq ?_
    refine c_reg ?_
    refine sq_p (.nilIface) rfl (fun _ => by kernel_rfl) ?_
    refine sq_p (.bool false) rfl (fun _ => by kernel_rfl) ?_
    refine lnil ?_
    refine thn_n ?_
    refine c_false (by kernel_rfl) ?_
    refine c_skip ?_
    refine thn_n ?_
    refine c_seq ?_
    refine c_reg ?_
    refine sq_p (.pointer (some ⟨lb, 0, none⟩)) rfl (fun _ => by kernel_rfl) ?_
    refine sq_p (.pointer (some ⟨lb, 0, none⟩)) rfl (fun _ => by kernel_rfl) ?_
    refine sq_p (.pointer (some ⟨lb, 0, none⟩)) rfl (fun _ => by kernel_rfl) ?_
    refine sq_p (.pointer (some ⟨lb, 0, none⟩)) rfl (fun _ => by kernel_rfl) ?_
    refine sq_p (.pointer (some ⟨lb, 0, none⟩)) rfl (fun _ => by kernel_rfl) ?_
    refine sq_p (.pointer (some ⟨lb, 1, none⟩)) rfl (fun _ => by kernel_rfl) ?_
    refine sq_q rfl h (g_ld 1 [.int .i64 (c : Int)] (.int .i64 (c : Int)) (by kernel_rfl) 0 rfl) ?_
    refine sq_q rfl h (g_eq (v := .int .i64 (IntKind.i64.wrap ((c : Int) + 1))) (v' := .int .i64 ((c + 1 : Nat) : Int)) (g_pure fun _ => by kernel_rfl) (wr (by omega))) ?_
    refine sq_p (.int .i64 (k : Int)) rfl (fun _ => by kernel_rfl) ?_
    refine sq_p (.int .i64 (z : Int)) rfl (fun _ => by kernel_rfl) ?_
    refine sq_p (.string s) rfl (fun _ => by kernel_rfl) ?_
    refine sq_p (.int .i64 (s.size : Int)) rfl (fun _ => by kernel_rfl) ?_
    refine sq_q rfl h (g_eq (v := .int .i64 (IntKind.i64.wrap ((z : Int) + (s.size : Int)))) (v' := .int .i64 ((z + s.size : Nat) : Int)) (g_pure fun _ => by kernel_rfl) (wr (by omega))) ?_
    refine sq_p (.pointer (some ⟨lb, 0, none⟩)) rfl (fun _ => by kernel_rfl) ?_
    refine sq_p (.pointer (some ⟨lb, 1, none⟩)) rfl (fun _ => by kernel_rfl) ?_
    refine sq_st rfl 1 [.int .i64 ((c + 1 : Nat) : Int)] [.pointer (some ⟨db, 0, none⟩), .int .i64 ((c + 1 : Nat) : Int), .int .i64 (hh : Int), .int .i64 (zz : Int), .bool lo] h 0 rfl (by kernel_rfl) ?_; intro w h
    refine sq_p (.pointer (some ⟨lb, 0, none⟩)) rfl (fun _ => by kernel_rfl) ?_
    refine sq_p (.pointer (some ⟨lb, 2, none⟩)) rfl (fun _ => by kernel_rfl) ?_
    refine sq_st rfl 2 [.int .i64 (k : Int)] [.pointer (some ⟨db, 0, none⟩), .int .i64 ((c + 1 : Nat) : Int), .int .i64 (k : Int), .int .i64 (zz : Int), .bool lo] h 0 rfl (by kernel_rfl) ?_; intro w h
    refine sq_p (.pointer (some ⟨lb, 0, none⟩)) rfl (fun _ => by kernel_rfl) ?_
    refine sq_p (.pointer (some ⟨lb, 3, none⟩)) rfl (fun _ => by kernel_rfl) ?_
    refine sq_st rfl 3 [.int .i64 ((z + s.size : Nat) : Int)] [.pointer (some ⟨db, 0, none⟩), .int .i64 ((c + 1 : Nat) : Int), .int .i64 (k : Int), .int .i64 ((z + s.size : Nat) : Int), .bool lo] h 0 rfl (by kernel_rfl) ?_; intro w h
    refine lnil ?_
    refine thn_n ?_
    refine c_seq ?_
    refine c_reg ?_
    refine sq_p (.nilIface) rfl (fun _ => by kernel_rfl) ?_
    refine lnil ?_
    refine thn_n ?_
    refine c_ret ?_
    refine ret_end [.nilIface] [0, 0, 0, 0] h (by kernel_rfl) (res_t (by kernel_rfl) res_n) ?_
    exact .inl ⟨_, _, hlw3, rfl, rfl⟩
  · skip
    refine sq_p (errV ad 15) rfl (fun _ => by kernel_rfl) ?_
    refine lnil ?_
    refine thn_n ?_
    refine c_seq ?_
    refine c_seq ?_
    refine c_reg ?_
    refine sq_p (errV ad 15) rfl (fun _ => by kernel_rfl) ?_
    refine sq_p (.bool true) rfl (fun _ => by kernel_rfl) ?_
    refine lnil ?_
    refine thn_n ?_
    refine c_true (by kernel_rfl) ?_
    refine c_seq ?_
    refine c_reg ?_
    refine sq_p (.pointer (some ⟨lb, 0, none⟩)) rfl (fun _ => by kernel_rfl) ?_
    refine sq_p (.pointer (some ⟨lb, 0, none⟩)) rfl (fun _ => by kernel_rfl) ?_
    refine sq_p (.pointer (some ⟨lb, 4, none⟩)) rfl (fun _ => by kernel_rfl) ?_
    refine sq_st rfl 4 [.bool true] [.pointer (some ⟨db, 0, none⟩), .int .i64 (c : Int), .int .i64 (hh : Int), .int .i64 (zz : Int), .bool true] h 0 rfl (by kernel_rfl) ?_; intro w h
    refine lnil ?_
    refine thn_n ?_
    refine c_seq ?_
    refine c_reg ?_
    refine sq_p (errV ad 15) rfl (fun _ => by kernel_rfl) ?_
    refine sq_p (errV ad 15) rfl (fun _ => by kernel_rfl) ?_
    refine lnil ?_
    refine thn_n ?_
    refine c_ret ?_
    refine thn_r ?_
    refine ret_end [errV ad 15] [0, 0, 0, 0] h (by kernel_rfl) (res_t (by kernel_rfl) res_n) ?_
    exact .inr ⟨_, _, hlw3, rfl, rfl⟩

theorem putI_spec {B : Nat} (ad : Nat → Addr) (lb db : Nat) (d : PDisk) (Sd : Nat → Prop) (c hh zz k z : Nat) (lo : Bool) (s : ByteArray) (ki zi : Int) (hki : ki = (k : Int)) (hzi : zi = (z : Int)) (h8 : 8 ≤ d.now.length) (h4 : d.now.length ≤ 4000) (hk : k < 2) (hz : z % 64 = 0) (hs : s.size % 64 = 0) (hfit : z + s.size ≤ halfOf d.now.length * 64) (hc : c + 1 < 10000000000) (hwt : d.waits.length ≤ 1000)  : Spec Tryz.prog 35 #[.pointer (some ⟨lb, 0, none⟩), .int .i64 ki, .int .i64 zi, .string s] [rCell true lb [.pointer (some ⟨db, 0, none⟩), .int .i64 (c : Int), .int .i64 (hh : Int), .int .i64 (zz : Int), .bool lo] 70, rDisk B db d Sd, rTab, rEnv B ad [2, 3, 15]] fun u L => (∃ (d' : PDisk) (S' : Nat → Prop), logWr d.now.length d c k z s = (d', 0) ∧ u = .nilIface ∧ L = [rCell true lb [.pointer (some ⟨db, 0, none⟩), .int .i64 ((c + 1 : Nat) : Int), .int .i64 (k : Int), .int .i64 ((z + s.size : Nat) : Int), .bool lo] 70, rDisk B db d' S', rTab, rEnv B ad [2, 3, 15]]) ∨ (∃ (d' : PDisk) (S' : Nat → Prop), logWr d.now.length d c k z s = (d', 15) ∧ u = errV ad 15 ∧ L = [rCell true lb [.pointer (some ⟨db, 0, none⟩), .int .i64 (c : Int), .int .i64 (hh : Int), .int .i64 (zz : Int), .bool true] 70, rDisk B db d' S', rTab, rEnv B ad [2, 3, 15]]) := by
  subst hki hzi
  exact put_spec ad lb db d Sd c hh zz k z lo s h8 h4 hk hz hs hfit hc hwt

theorem add_ok {B : Nat} (ad : Nat → Addr) (lb db : Nat) (d : PDisk) (Sd : Nat → Prop) (c hh zz : Nat) (rv : Value) (rs : List ByteArray) (hb : (packT (rs.map tx)).length ≤ 90000000) (h8 : 8 ≤ d.now.length) (h4 : d.now.length ≤ 4000) (hh2 : hh < 2) (hz : zz % 64 = 0 ∧ zz ≤ halfOf d.now.length * 64) (hc : c + 1 < 10000000000) (hwt : d.waits.length ≤ 1000)  : Spec Tryz.prog 20 #[.pointer (some ⟨lb, 0, none⟩), rv] [rCell true lb [.pointer (some ⟨db, 0, none⟩), .int .i64 (c : Int), .int .i64 (hh : Int), .int .i64 (zz : Int), .bool false] 70, rDisk B db d Sd, rTab, rEnv B ad [2, 3, 9, 15], rRows true rv 9 1 strC rs] (fun u L => (¬ zz + (ofT (packB (rs.map tx))).size ≤ halfOf d.now.length * 64 ∧ u = errV ad 9 ∧ L = [rCell true lb [.pointer (some ⟨db, 0, none⟩), .int .i64 (c : Int), .int .i64 (hh : Int), .int .i64 (zz : Int), .bool false] 70, rDisk B db d Sd, rTab, rEnv B ad [2, 3, 9, 15], rRows true rv 9 1 strC rs]) ∨ (ofT (packB (rs.map tx)) = (⟨#[]⟩ : ByteArray) ∧ u = .nilIface ∧ L = [rCell true lb [.pointer (some ⟨db, 0, none⟩), .int .i64 (c : Int), .int .i64 (hh : Int), .int .i64 (zz : Int), .bool false] 70, rDisk B db d Sd, rTab, rEnv B ad [2, 3, 9, 15], rRows true rv 9 1 strC rs]) ∨ (∃ (d' : PDisk) (S' : Nat → Prop), ¬ ofT (packB (rs.map tx)) = (⟨#[]⟩ : ByteArray) ∧ zz + (ofT (packB (rs.map tx))).size ≤ halfOf d.now.length * 64 ∧ logWr d.now.length d c hh zz (ofT (packB (rs.map tx))) = (d', 0) ∧ u = .nilIface ∧ L = [rCell true lb [.pointer (some ⟨db, 0, none⟩), .int .i64 ((c + 1 : Nat) : Int), .int .i64 (hh : Int), .int .i64 ((zz + (ofT (packB (rs.map tx))).size : Nat) : Int), .bool false] 70, rDisk B db d' S', rTab, rEnv B ad [2, 3, 9, 15], rRows true rv 9 1 strC rs]) ∨ (∃ (d' : PDisk) (S' : Nat → Prop), ¬ ofT (packB (rs.map tx)) = (⟨#[]⟩ : ByteArray) ∧ zz + (ofT (packB (rs.map tx))).size ≤ halfOf d.now.length * 64 ∧ logWr d.now.length d c hh zz (ofT (packB (rs.map tx))) = (d', 15) ∧ u = errV ad 15 ∧ L = [rCell true lb [.pointer (some ⟨db, 0, none⟩), .int .i64 (c : Int), .int .i64 (hh : Int), .int .i64 (zz : Int), .bool true] 70, rDisk B db d' S', rTab, rEnv B ad [2, 3, 9, 15], rRows true rv 9 1 strC rs])) := by
  have hhf0 : halfOf d.now.length = (d.now.length - 2) / 2 := rfl
  have h1 : 1 ≤ d.now.length := by omega
  obtain ⟨hs, hsl⟩ := pk_size hb
  refine spec_of (#[.pointer (some ⟨lb, 0, none⟩), rv, undef, undef, undef, undef, undef, undef, undef, undef, undef, undef, undef, undef, undef, undef, undef, undef, undef, undef, undef, undef, undef, undef, undef, undef, undef, undef, undef, undef, undef, undef, undef, undef, undef, undef, undef, undef, undef, undef, undef, undef, undef, undef]) Tryz.func20 rfl (by kernel_rfl) fun E w0 w h => ?_
  have h := h.eSub [2, 3, 15] 3 rfl
  refine c_seq ?_
  refine c_reg ?_
  refine sq_p (.nilIface) rfl (fun _ => by kernel_rfl) ?_
  refine lnil ?_
  refine thn_n ?_
  refine c_seq ?_
  refine c_reg ?_
  refine sq_p (rv) rfl (fun _ => by kernel_rfl) ?_
  refine sq_call #[rv] [3, 4] rfl (pack_spec rv rs hb) (fun _ => by kernel_rfl) h ?_; rintro v_ L_ w ⟨rfl, rfl⟩ h
  refine sq_p (.string (ofT (packB (rs.map tx)))) rfl (fun _ => by kernel_rfl) ?_
  refine lnil ?_
  refine thn_n ?_
  refine c_seq ?_
  refine c_block ?_
  refine c_seq ?_
  refine c_reg ?_
  refine sq_p (.pointer (some ⟨lb, 0, none⟩)) rfl (fun _ => by kernel_rfl) ?_
  refine sq_p (.pointer (some ⟨lb, 0, none⟩)) rfl (fun _ => by kernel_rfl) ?_
  refine sq_p (.pointer (some ⟨lb, 4, none⟩)) rfl (fun _ => by kernel_rfl) ?_
  refine sq_q rfl h (g_ld 4 [.bool false] (.bool false) (by kernel_rfl) 3 rfl) ?_
  refine sq_p (.bool false) rfl (fun _ => by kernel_rfl) ?_
  refine lnil ?_
  refine thn_n ?_
  refine c_false (by kernel_rfl) ?_
  refine c_seq ?_
  refine d_start 15 [3] (by kernel_rfl) h fun w h => ?_
  refine d_take 0 8112 [3] rfl (v := .pointer (some ⟨lb, 0, none⟩)) (by kernel_rfl) (qp_thn (qp_blk (qp_thn qp_body))) (yq (by kernel_rfl) (g_pure (v := .pointer (some ⟨lb, 0, none⟩)) fun _ => by kernel_rfl)) h (by kernel_rfl) ?_
  refine d_take 1 8113 [3] rfl (v := .pointer (some ⟨lb, 0, none⟩)) (by kernel_rfl) (qp_thn (qp_blk (qp_thn qp_body))) (yq (by kernel_rfl) (g_pure (v := .pointer (some ⟨lb, 0, none⟩)) fun _ => by kernel_rfl)) h (by kernel_rfl) ?_
  refine d_take 2 8115 [3] rfl (v := .pointer (some ⟨lb, 3, none⟩)) (by kernel_rfl) (qp_thn (qp_blk (qp_thn qp_body))) (yq (by kernel_rfl) (g_pure (v := .pointer (some ⟨lb, 3, none⟩)) fun _ => by kernel_rfl)) h (by kernel_rfl) ?_
  refine d_take 3 8119 [3] rfl (v := .int .i64 (zz : Int)) (by kernel_rfl) (qp_thn (qp_blk (qp_thn qp_body))) (yq (by kernel_rfl) (g_ld 3 [.int .i64 (zz : Int)] (.int .i64 (zz : Int)) (by kernel_rfl) 0 rfl)) h (by kernel_rfl) ?_
  refine d_take 4 8079 [3] rfl (v := .string (ofT (packB (rs.map tx)))) (by kernel_rfl) (qp_thn (qp_blk (qp_thn qp_body))) (yq (by kernel_rfl) (g_pure (v := .string (ofT (packB (rs.map tx)))) fun _ => by kernel_rfl)) h (by kernel_rfl) ?_
  refine d_take 5 8095 [3] rfl (v := .int .i64 ((ofT (packB (rs.map tx))).size : Int)) (by kernel_rfl) (qp_thn (qp_blk (qp_thn qp_body))) (yq (by kernel_rfl) (g_pure (v := .int .i64 ((ofT (packB (rs.map tx))).size : Int)) fun _ => by kernel_rfl)) h (by kernel_rfl) ?_
  refine d_take 6 8127 [3] rfl (v := .int .i64 ((zz + ((ofT (packB (rs.map tx))).size) : Nat) : Int)) (by kernel_rfl) (qp_thn (qp_blk (qp_thn qp_body))) (yq (by kernel_rfl) (g_eq (v := .int .i64 (IntKind.i64.wrap ((zz : Int) + ((ofT (packB (rs.map tx))).size : Int)))) (v' := .int .i64 ((zz + ((ofT (packB (rs.map tx))).size) : Nat) : Int)) (g_pure fun _ => by kernel_rfl) (wr (by omega)))) h (by kernel_rfl) ?_
  refine d_take 7 127 [3] rfl (v := .pointer (some ⟨lb, 0, none⟩)) (by kernel_rfl) (qp_thn (qp_blk (qp_thn qp_body))) (yq (by kernel_rfl) (g_pure (v := .pointer (some ⟨lb, 0, none⟩)) fun _ => by kernel_rfl)) h (by kernel_rfl) ?_
  refine d_take 8 255 [3] rfl (v := .pointer (some ⟨lb, 0, none⟩)) (by kernel_rfl) (qp_thn (qp_blk (qp_thn qp_body))) (yq (by kernel_rfl) (g_pure (v := .pointer (some ⟨lb, 0, none⟩)) fun _ => by kernel_rfl)) h (by kernel_rfl) ?_
  refine d_take 9 511 [3] rfl (v := .pointer (some ⟨lb, 0, none⟩)) (by kernel_rfl) (qp_thn (qp_blk (qp_thn qp_body))) (yq (by kernel_rfl) (g_pure (v := .pointer (some ⟨lb, 0, none⟩)) fun _ => by kernel_rfl)) h (by kernel_rfl) ?_
  refine d_take 10 1023 [3] rfl (v := .pointer (some ⟨db, 0, none⟩)) (by kernel_rfl) (qp_thn (qp_blk (qp_thn qp_body))) (yq (by kernel_rfl) (g_ld 0 [.pointer (some ⟨db, 0, none⟩)] (.pointer (some ⟨db, 0, none⟩)) (by kernel_rfl) 0 rfl)) h (by kernel_rfl) ?_
  refine d_ready [11] (by kernel_rfl) rfl ?_
  refine ad_call #[.pointer (some ⟨db, 0, none⟩)] [4] [4] rfl (by kernel_rfl) (half_spec (B := B) db d Sd h1 h4) (fun _ => by kernel_rfl) h ?_ ?_
  · skip
    rintro v_ L_ w ⟨rfl, rfl⟩ h
    refine ⟨by kernel_rfl, ?_⟩
    refine d_take 12 4095 [4] rfl (v := .int .i64 (((halfOf d.now.length : Nat) : Int) * 64)) (by kernel_rfl) (qp_thn (qp_blk (qp_thn qp_body))) (yq (by kernel_rfl) (g_eq (v := .int .i64 (IntKind.i64.wrap (((halfOf d.now.length : Nat) : Int) * 64))) (v' := .int .i64 (((halfOf d.now.length : Nat) : Int) * 64)) (g_pure fun _ => by kernel_rfl) (wr (by omega)))) h (by kernel_rfl) ?_
    refine d_take 13 8191 [4] rfl (v := .bool (decide (((zz + ((ofT (packB (rs.map tx))).size) : Nat) : Int) > ((halfOf d.now.length : Nat) : Int) * 64))) (by kernel_rfl) (qp_thn (qp_blk (qp_thn qp_body))) (yq (by kernel_rfl) (g_pure (v := .bool (decide (((zz + ((ofT (packB (rs.map tx))).size) : Nat) : Int) > ((halfOf d.now.length : Nat) : Int) * 64))) fun _ => by kernel_rfl)) h (by kernel_rfl) ?_
    refine d_take 14 16383 [4] rfl (v := .bool (decide (((zz + ((ofT (packB (rs.map tx))).size) : Nat) : Int) > ((halfOf d.now.length : Nat) : Int) * 64))) (by kernel_rfl) (qp_thn (qp_blk (qp_thn qp_body))) (yq (by kernel_rfl) (g_pure (v := .bool (decide (((zz + ((ofT (packB (rs.map tx))).size) : Nat) : Int) > ((halfOf d.now.length : Nat) : Int) * 64))) fun _ => by kernel_rfl)) h (by kernel_rfl) ?_
    refine d_done (by kernel_rfl) ?_
    refine thn_n ?_
    refine c_cond (decide (((zz + ((ofT (packB (rs.map tx))).size) : Nat) : Int) > ((halfOf d.now.length : Nat) : Int) * 64)) (by kernel_rfl) (fun hc1 => ?_) (fun hc1 => ?_)
    · skip
      have hc1 := of_decide_eq_true hc1
      refine c_seq ?_
      refine c_reg ?_
      refine sq_q rfl h (g_ldr (b := gl 9) 0 [errV ad 9] (errV ad 9) (by kernel_rfl) 5 rfl (rdEnv (c := 9) (by decide) rfl)) ?_
      refine sq_p (errV ad 9) rfl (fun _ => by kernel_rfl) ?_
      refine lnil ?_
      refine thn_n ?_
      refine c_ret ?_
      refine blk_r (thn_r ?_)
      refine ret_end [errV ad 9] [4, 0, 0, 2, 0] h (by kernel_rfl) (res_t (by kernel_rfl) res_n) ?_
      exact .inl ⟨by omega, rfl, rfl⟩
    · skip
      have hc1 := of_decide_eq_false hc1
      refine c_seq ?_
      refine c_reg ?_
      refine sq_p (.string (ofT (packB (rs.map tx)))) rfl (fun _ => by kernel_rfl) ?_
      refine sq_q rfl h (g_eq (v := .bool ((ofT (packB (rs.map tx))).toList == (⟨#[]⟩ : ByteArray).toList)) (v' := .bool (decide (ofT (packB (rs.map tx)) = (⟨#[]⟩ : ByteArray)))) (g_pure fun _ => by kernel_rfl) beqS) ?_
      refine sq_p (.bool (decide (ofT (packB (rs.map tx)) = (⟨#[]⟩ : ByteArray)))) rfl (fun _ => by kernel_rfl) ?_
      refine lnil ?_
      refine thn_n ?_
      refine c_cond (decide (ofT (packB (rs.map tx)) = (⟨#[]⟩ : ByteArray))) (by kernel_rfl) (fun hc2 => ?_) (fun hc2 => ?_)
      · skip
        have hc2 := of_decide_eq_true hc2
        refine c_seq ?_
        refine c_reg ?_
        refine sq_p (.nilIface) rfl (fun _ => by kernel_rfl) ?_
        refine lnil ?_
        refine thn_n ?_
        refine c_ret ?_
        refine blk_r (thn_r ?_)
        refine ret_end [.nilIface] [4, 0, 0, 2, 0] h (by kernel_rfl) (res_t (by kernel_rfl) res_n) ?_
        exact .inr (.inl ⟨by assumption, rfl, rfl⟩)
      · skip
        have hc2 := of_decide_eq_false hc2
        refine c_skip ?_
        refine blk_n (thn_n ?_)
        refine c_seq ?_
        refine d_start 12 [] (by kernel_rfl) h fun w h => ?_
        refine d_take 0 1022 [] rfl (v := .pointer (some ⟨lb, 0, none⟩)) (by kernel_rfl) (qp_thn qp_body) (yq (by kernel_rfl) (g_pure (v := .pointer (some ⟨lb, 0, none⟩)) fun _ => by kernel_rfl)) h (by kernel_rfl) ?_
        refine d_take 1 993 [] rfl (v := .pointer (some ⟨lb, 0, none⟩)) (by kernel_rfl) (qp_thn qp_body) (yq (by kernel_rfl) (g_pure (v := .pointer (some ⟨lb, 0, none⟩)) fun _ => by kernel_rfl)) h (by kernel_rfl) ?_
        refine d_take 2 995 [] rfl (v := .pointer (some ⟨lb, 0, none⟩)) (by kernel_rfl) (qp_thn qp_body) (yq (by kernel_rfl) (g_pure (v := .pointer (some ⟨lb, 0, none⟩)) fun _ => by kernel_rfl)) h (by kernel_rfl) ?_
        refine d_take 3 999 [] rfl (v := .pointer (some ⟨lb, 2, none⟩)) (by kernel_rfl) (qp_thn qp_body) (yq (by kernel_rfl) (g_pure (v := .pointer (some ⟨lb, 2, none⟩)) fun _ => by kernel_rfl)) h (by kernel_rfl) ?_
        refine d_take 5 543 [] rfl (v := .pointer (some ⟨lb, 0, none⟩)) (by kernel_rfl) (qp_thn qp_body) (yq (by kernel_rfl) (g_pure (v := .pointer (some ⟨lb, 0, none⟩)) fun _ => by kernel_rfl)) h (by kernel_rfl) ?_
        refine d_take 6 575 [] rfl (v := .pointer (some ⟨lb, 0, none⟩)) (by kernel_rfl) (qp_thn qp_body) (yq (by kernel_rfl) (g_pure (v := .pointer (some ⟨lb, 0, none⟩)) fun _ => by kernel_rfl)) h (by kernel_rfl) ?_
        refine d_take 7 639 [] rfl (v := .pointer (some ⟨lb, 3, none⟩)) (by kernel_rfl) (qp_thn qp_body) (yq (by kernel_rfl) (g_pure (v := .pointer (some ⟨lb, 3, none⟩)) fun _ => by kernel_rfl)) h (by kernel_rfl) ?_
        refine d_take 9 511 [] rfl (v := .string (ofT (packB (rs.map tx)))) (by kernel_rfl) (qp_thn qp_body) (yq (by kernel_rfl) (g_pure (v := .string (ofT (packB (rs.map tx)))) fun _ => by kernel_rfl)) h (by kernel_rfl) ?_
        refine d_ready [4, 8] (by kernel_rfl) rfl ?_
        refine ad_q [] rfl (by kernel_rfl) (v := .int .i64 (hh : Int)) (g_ld 2 [.int .i64 (hh : Int)] (.int .i64 (hh : Int)) (by kernel_rfl) 4 rfl) h (by kernel_rfl) ?_ ?_
        · skip
          refine d_ready [8] (by kernel_rfl) rfl ?_
          refine ad_q [] rfl (by kernel_rfl) (v := .int .i64 (zz : Int)) (g_ld 3 [.int .i64 (zz : Int)] (.int .i64 (zz : Int)) (by kernel_rfl) 4 rfl) h (by kernel_rfl) ?_ ?_
          · skip
            refine d_ready [10] (by kernel_rfl) rfl ?_
            refine ad_call #[.pointer (some ⟨lb, 0, none⟩), .int .i64 (hh : Int), .int .i64 (zz : Int), .string (ofT (packB (rs.map tx)))] [4, 0, 0, 1] [] rfl (by kernel_rfl) (putI_spec ad lb db d Sd c hh zz hh zz false (ofT (packB (rs.map tx))) (hh : Int) (zz : Int) (by omega) (by omega) h8 h4 (by omega) (by omega) hs (by omega) hc hwt) (fun _ => by kernel_rfl) h ?_ ?_
            · skip
              rintro v_ L_ w (⟨dd3, Sx4, hlw5, rfl, rfl⟩ | ⟨dd3, Sx4, hlw5, rfl, rfl⟩) h
              · skip
                refine ⟨by kernel_rfl, ?_⟩
                refine d_take 11 2047 [] rfl (v := .nilIface) (by kernel_rfl) (qp_thn qp_body) (yq (by kernel_rfl) (g_pure (v := .nilIface) fun _ => by kernel_rfl)) h (by kernel_rfl) ?_
                refine d_done (by kernel_rfl) ?_
                refine thn_n ?_
                refine c_ret ?_
                refine ret_end [.nilIface] [0, 0, 0, 2, 1] h (by kernel_rfl) (res_t (by kernel_rfl) res_n) ?_
                exact .inr (.inr (.inl ⟨_, _, by assumption, by omega, hlw5, rfl, rfl⟩))
              · skip
                refine ⟨by kernel_rfl, ?_⟩
                refine d_take 11 2047 [] rfl (v := errV ad 15) (by kernel_rfl) (qp_thn qp_body) (yq (by kernel_rfl) (g_pure (v := errV ad 15) fun _ => by kernel_rfl)) h (by kernel_rfl) ?_
                refine d_done (by kernel_rfl) ?_
                refine thn_n ?_
                refine c_ret ?_
                refine ret_end [errV ad 15] [0, 0, 0, 2, 1] h (by kernel_rfl) (res_t (by kernel_rfl) res_n) ?_
                exact .inr (.inr (.inr ⟨_, _, by assumption, by omega, hlw5, rfl, rfl⟩))
            exact ad_nil
          exact ad_nil
        refine ad_q [] rfl (by kernel_rfl) (v := .int .i64 (zz : Int)) (g_ld 3 [.int .i64 (zz : Int)] (.int .i64 (zz : Int)) (by kernel_rfl) 4 rfl) h (by kernel_rfl) ?_ ?_
        · skip
          refine d_ready [4] (by kernel_rfl) rfl ?_
          refine ad_q [] rfl (by kernel_rfl) (v := .int .i64 (hh : Int)) (g_ld 2 [.int .i64 (hh : Int)] (.int .i64 (hh : Int)) (by kernel_rfl) 4 rfl) h (by kernel_rfl) ?_ ?_
          · skip
            refine d_ready [10] (by kernel_rfl) rfl ?_
            refine ad_call #[.pointer (some ⟨lb, 0, none⟩), .int .i64 (hh : Int), .int .i64 (zz : Int), .string (ofT (packB (rs.map tx)))] [4, 0, 0, 1] [] rfl (by kernel_rfl) (putI_spec ad lb db d Sd c hh zz hh zz false (ofT (packB (rs.map tx))) (hh : Int) (zz : Int) (by omega) (by omega) h8 h4 (by omega) (by omega) hs (by omega) hc hwt) (fun _ => by kernel_rfl) h ?_ ?_
            · skip
              rintro v_ L_ w (⟨dd6, Sx7, hlw8, rfl, rfl⟩ | ⟨dd6, Sx7, hlw8, rfl, rfl⟩) h
              · skip
                refine ⟨by kernel_rfl, ?_⟩
                refine d_take 11 2047 [] rfl (v := .nilIface) (by kernel_rfl) (qp_thn qp_body) (yq (by kernel_rfl) (g_pure (v := .nilIface) fun _ => by kernel_rfl)) h (by kernel_rfl) ?_
                refine d_done (by kernel_rfl) ?_
                refine thn_n ?_
                refine c_ret ?_
                refine ret_end [.nilIface] [0, 0, 0, 2, 1] h (by kernel_rfl) (res_t (by kernel_rfl) res_n) ?_
                exact .inr (.inr (.inl ⟨_, _, by assumption, by omega, hlw8, rfl, rfl⟩))
              · skip
                refine ⟨by kernel_rfl, ?_⟩
                refine d_take 11 2047 [] rfl (v := errV ad 15) (by kernel_rfl) (qp_thn qp_body) (yq (by kernel_rfl) (g_pure (v := errV ad 15) fun _ => by kernel_rfl)) h (by kernel_rfl) ?_
                refine d_done (by kernel_rfl) ?_
                refine thn_n ?_
                refine c_ret ?_
                refine ret_end [errV ad 15] [0, 0, 0, 2, 1] h (by kernel_rfl) (res_t (by kernel_rfl) res_n) ?_
                exact .inr (.inr (.inr ⟨_, _, by assumption, by omega, hlw8, rfl, rfl⟩))
            exact ad_nil
          exact ad_nil
        exact ad_nil
  exact ad_nil
theorem add_lost {B : Nat} (ad : Nat → Addr) (lb db : Nat) (d : PDisk) (Sd : Nat → Prop) (c hh zz : Nat) (rv : Value) (rs : List ByteArray) (hb : (packT (rs.map tx)).length ≤ 90000000)  : Spec Tryz.prog 20 #[.pointer (some ⟨lb, 0, none⟩), rv] [rCell true lb [.pointer (some ⟨db, 0, none⟩), .int .i64 (c : Int), .int .i64 (hh : Int), .int .i64 (zz : Int), .bool true] 70, rDisk B db d Sd, rTab, rEnv B ad [2, 3, 9, 15], rRows true rv 9 1 strC rs] (fun u L => u = errV ad 15 ∧ L = [rCell true lb [.pointer (some ⟨db, 0, none⟩), .int .i64 (c : Int), .int .i64 (hh : Int), .int .i64 (zz : Int), .bool true] 70, rDisk B db d Sd, rTab, rEnv B ad [2, 3, 9, 15], rRows true rv 9 1 strC rs]) := by
  refine spec_of (#[.pointer (some ⟨lb, 0, none⟩), rv, undef, undef, undef, undef, undef, undef, undef, undef, undef, undef, undef, undef, undef, undef, undef, undef, undef, undef, undef, undef, undef, undef, undef, undef, undef, undef, undef, undef, undef, undef, undef, undef, undef, undef, undef, undef, undef, undef, undef, undef, undef, undef]) Tryz.func20 rfl (by kernel_rfl) fun E w0 w h => ?_
  refine c_seq ?_
  refine c_reg ?_
  refine sq_p (.nilIface) rfl (fun _ => by kernel_rfl) ?_
  refine lnil ?_
  refine thn_n ?_
  refine c_seq ?_
  refine c_reg ?_
  refine sq_p (rv) rfl (fun _ => by kernel_rfl) ?_
  refine sq_call #[rv] [2, 3] rfl (pack_spec rv rs hb) (fun _ => by kernel_rfl) h ?_; rintro v_ L_ w ⟨rfl, rfl⟩ h
  refine sq_p (.string (ofT (packB (rs.map tx)))) rfl (fun _ => by kernel_rfl) ?_
  refine lnil ?_
  refine thn_n ?_
  refine c_seq ?_
  refine c_block ?_
  refine c_seq ?_
  refine c_reg ?_
  refine sq_p (.pointer (some ⟨lb, 0, none⟩)) rfl (fun _ => by kernel_rfl) ?_
  refine sq_p (.pointer (some ⟨lb, 0, none⟩)) rfl (fun _ => by kernel_rfl) ?_
  refine sq_p (.pointer (some ⟨lb, 4, none⟩)) rfl (fun _ => by kernel_rfl) ?_
  refine sq_q rfl h (g_ld 4 [.bool true] (.bool true) (by kernel_rfl) 2 rfl) ?_
  refine sq_p (.bool true) rfl (fun _ => by kernel_rfl) ?_
  refine lnil ?_
  refine thn_n ?_
  refine c_true (by kernel_rfl) ?_
  refine c_seq ?_
  refine c_reg ?_
  refine sq_q rfl h (g_ldr (b := gl 15) 0 [errV ad 15] (errV ad 15) (by kernel_rfl) 4 rfl (rdEnv (c := 15) (by decide) rfl)) ?_
  refine sq_p (errV ad 15) rfl (fun _ => by kernel_rfl) ?_
  refine lnil ?_
  refine thn_n ?_
  refine c_ret ?_
  refine blk_r (thn_r ?_)
  refine ret_end [errV ad 15] [2, 2, 0, 1, 0] h (by kernel_rfl) (res_t (by kernel_rfl) res_n) ?_
  exact ⟨rfl, rfl⟩
theorem clear_ok {B : Nat} (ad : Nat → Addr) (lb db : Nat) (d : PDisk) (Sd : Nat → Prop) (c hh zz : Nat) (rv : Value) (rs : List ByteArray) (hb : (packT (rs.map tx)).length ≤ 90000000) (h8 : 8 ≤ d.now.length) (h4 : d.now.length ≤ 4000) (hh2 : hh < 2) (hz : zz % 64 = 0 ∧ zz ≤ halfOf d.now.length * 64) (hc : c + 1 < 10000000000) (hwt : d.waits.length ≤ 1000)  : Spec Tryz.prog 36 #[.pointer (some ⟨lb, 0, none⟩), rv] [rCell true lb [.pointer (some ⟨db, 0, none⟩), .int .i64 (c : Int), .int .i64 (hh : Int), .int .i64 (zz : Int), .bool false] 70, rDisk B db d Sd, rTab, rEnv B ad [2, 3, 9, 15], rRows true rv 9 1 strC rs] (fun u L => (¬ (ofT (packB (rs.map tx))).size ≤ halfOf d.now.length * 64 ∧ u = errV ad 9 ∧ L = [rCell true lb [.pointer (some ⟨db, 0, none⟩), .int .i64 (c : Int), .int .i64 (hh : Int), .int .i64 (zz : Int), .bool false] 70, rDisk B db d Sd, rTab, rEnv B ad [2, 3, 9, 15], rRows true rv 9 1 strC rs]) ∨ (∃ (d' : PDisk) (S' : Nat → Prop), (ofT (packB (rs.map tx))).size ≤ halfOf d.now.length * 64 ∧ logWr d.now.length d c (1 - hh) 0 (ofT (packB (rs.map tx))) = (d', 0) ∧ u = .nilIface ∧ L = [rCell true lb [.pointer (some ⟨db, 0, none⟩), .int .i64 ((c + 1 : Nat) : Int), .int .i64 (((1 - hh) : Nat) : Int), .int .i64 ((0 + (ofT (packB (rs.map tx))).size : Nat) : Int), .bool false] 70, rDisk B db d' S', rTab, rEnv B ad [2, 3, 9, 15], rRows true rv 9 1 strC rs]) ∨ (∃ (d' : PDisk) (S' : Nat → Prop), (ofT (packB (rs.map tx))).size ≤ halfOf d.now.length * 64 ∧ logWr d.now.length d c (1 - hh) 0 (ofT (packB (rs.map tx))) = (d', 15) ∧ u = errV ad 15 ∧ L = [rCell true lb [.pointer (some ⟨db, 0, none⟩), .int .i64 (c : Int), .int .i64 (hh : Int), .int .i64 (zz : Int), .bool true] 70, rDisk B db d' S', rTab, rEnv B ad [2, 3, 9, 15], rRows true rv 9 1 strC rs])) := by
  have hhf0 : halfOf d.now.length = (d.now.length - 2) / 2 := rfl
  have h1 : 1 ≤ d.now.length := by omega
  obtain ⟨hs, hsl⟩ := pk_size hb
  refine spec_of (#[.pointer (some ⟨lb, 0, none⟩), rv, undef, undef, undef, undef, undef, undef, undef, undef, undef, undef, undef, undef, undef, undef, undef, undef, undef, undef, undef, undef, undef, undef, undef, undef, undef, undef, undef, undef, undef, undef, undef]) Tryz.func36 rfl (by kernel_rfl) fun E w0 w h => ?_
  have h := h.eSub [2, 3, 15] 3 rfl
  refine c_seq ?_
  refine c_reg ?_
  refine sq_p (.nilIface) rfl (fun _ => by kernel_rfl) ?_
  refine lnil ?_
  refine thn_n ?_
  refine c_seq ?_
  refine c_reg ?_
  refine sq_p (rv) rfl (fun _ => by kernel_rfl) ?_
  refine sq_call #[rv] [3, 4] rfl (pack_spec rv rs hb) (fun _ => by kernel_rfl) h ?_; rintro v_ L_ w ⟨rfl, rfl⟩ h
  refine sq_p (.string (ofT (packB (rs.map tx)))) rfl (fun _ => by kernel_rfl) ?_
  refine lnil ?_
  refine thn_n ?_
  refine c_seq ?_
  refine c_block ?_
  refine c_seq ?_
  refine c_reg ?_
  refine sq_p (.pointer (some ⟨lb, 0, none⟩)) rfl (fun _ => by kernel_rfl) ?_
  refine sq_p (.pointer (some ⟨lb, 0, none⟩)) rfl (fun _ => by kernel_rfl) ?_
  refine sq_p (.pointer (some ⟨lb, 4, none⟩)) rfl (fun _ => by kernel_rfl) ?_
  refine sq_q rfl h (g_ld 4 [.bool false] (.bool false) (by kernel_rfl) 3 rfl) ?_
  refine sq_p (.bool false) rfl (fun _ => by kernel_rfl) ?_
  refine lnil ?_
  refine thn_n ?_
  refine c_false (by kernel_rfl) ?_
  refine c_seq ?_
  refine c_reg ?_
  refine sq_p (.string (ofT (packB (rs.map tx)))) rfl (fun _ => by kernel_rfl) ?_
  refine sq_p (.int .i64 ((ofT (packB (rs.map tx))).size : Int)) rfl (fun _ => by kernel_rfl) ?_
  refine sq_p (.pointer (some ⟨lb, 0, none⟩)) rfl (fun _ => by kernel_rfl) ?_
  refine sq_p (.pointer (some ⟨lb, 0, none⟩)) rfl (fun _ => by kernel_rfl) ?_
  refine sq_p (.pointer (some ⟨lb, 0, none⟩)) rfl (fun _ => by kernel_rfl) ?_
  refine sq_q rfl h (g_ld 0 [.pointer (some ⟨db, 0, none⟩)] (.pointer (some ⟨db, 0, none⟩)) (by kernel_rfl) 3 rfl) ?_
  refine sq_call #[.pointer (some ⟨db, 0, none⟩)] [4] rfl (half_spec (B := B) db d Sd h1 h4) (fun _ => by kernel_rfl) h ?_; rintro v_ L_ w ⟨rfl, rfl⟩ h
  refine sq_q rfl h (g_eq (v := .int .i64 (IntKind.i64.wrap (((halfOf d.now.length : Nat) : Int) * 64))) (v' := .int .i64 (((halfOf d.now.length : Nat) : Int) * 64)) (g_pure fun _ => by kernel_rfl) (wr (by omega))) ?_
  refine sq_p (.bool (decide (((ofT (packB (rs.map tx))).size : Int) > ((halfOf d.now.length : Nat) : Int) * 64))) rfl (fun _ => by kernel_rfl) ?_
  refine sq_p (.bool (decide (((ofT (packB (rs.map tx))).size : Int) > ((halfOf d.now.length : Nat) : Int) * 64))) rfl (fun _ => by kernel_rfl) ?_
  refine lnil ?_
  refine thn_n ?_
  refine c_cond (decide (((ofT (packB (rs.map tx))).size : Int) > ((halfOf d.now.length : Nat) : Int) * 64)) (by kernel_rfl) (fun hc1 => ?_) (fun hc1 => ?_)
  · skip
    have hc1 := of_decide_eq_true hc1
    refine c_seq ?_
    refine c_reg ?_
    refine sq_q rfl h (g_ldr (b := gl 9) 0 [errV ad 9] (errV ad 9) (by kernel_rfl) 5 rfl (rdEnv (c := 9) (by decide) rfl)) ?_
    refine sq_p (errV ad 9) rfl (fun _ => by kernel_rfl) ?_
    refine lnil ?_
    refine thn_n ?_
    refine c_ret ?_
    refine blk_r (thn_r ?_)
    refine ret_end [errV ad 9] [4, 0, 0, 2, 0] h (by kernel_rfl) (res_t (by kernel_rfl) res_n) ?_
    exact .inl ⟨by omega, rfl, rfl⟩
  · skip
    have hc1 := of_decide_eq_false hc1
    refine c_skip ?_
    refine blk_n (thn_n ?_)
    refine c_seq ?_
    refine c_reg ?_
    refine sq_p (.pointer (some ⟨lb, 0, none⟩)) rfl (fun _ => by kernel_rfl) ?_
    refine sq_p (.pointer (some ⟨lb, 0, none⟩)) rfl (fun _ => by kernel_rfl) ?_
    refine sq_p (.pointer (some ⟨lb, 0, none⟩)) rfl (fun _ => by kernel_rfl) ?_
    refine sq_p (.pointer (some ⟨lb, 2, none⟩)) rfl (fun _ => by kernel_rfl) ?_
    refine sq_q rfl h (g_ld 2 [.int .i64 (hh : Int)] (.int .i64 (hh : Int)) (by kernel_rfl) 4 rfl) ?_
    refine sq_q rfl h (g_eq (v := .int .i64 (IntKind.i64.wrap (1 - (hh : Int)))) (v' := .int .i64 (1 - (hh : Int))) (g_pure fun _ => by kernel_rfl) (wr (by omega))) ?_
    refine sq_p (.string (ofT (packB (rs.map tx)))) rfl (fun _ => by kernel_rfl) ?_
    refine sq_call #[.pointer (some ⟨lb, 0, none⟩), .int .i64 (1 - (hh : Int)), .int .i64 0, .string (ofT (packB (rs.map tx)))] [4, 0, 0, 1] rfl (putI_spec ad lb db d Sd c hh zz (1 - hh) 0 false (ofT (packB (rs.map tx))) (1 - (hh : Int)) 0 (by omega) (by omega) h8 h4 (by omega) (by omega) hs (by omega) hc hwt) (fun _ => by kernel_rfl) h ?_; rintro v_ L_ w (⟨dd2, Sx3, hlw4, rfl, rfl⟩ | ⟨dd2, Sx3, hlw4, rfl, rfl⟩) h
    · skip
      refine sq_p (.nilIface) rfl (fun _ => by kernel_rfl) ?_
      refine lnil ?_
      refine thn_n ?_
      refine c_ret ?_
      refine ret_end [.nilIface] [0, 0, 0, 2, 1] h (by kernel_rfl) (res_t (by kernel_rfl) res_n) ?_
      exact .inr (.inl ⟨_, _, by omega, hlw4, rfl, rfl⟩)
    · skip
      refine sq_p (errV ad 15) rfl (fun _ => by kernel_rfl) ?_
      refine lnil ?_
      refine thn_n ?_
      refine c_ret ?_
      refine ret_end [errV ad 15] [0, 0, 0, 2, 1] h (by kernel_rfl) (res_t (by kernel_rfl) res_n) ?_
      exact .inr (.inr ⟨_, _, by omega, hlw4, rfl, rfl⟩)
theorem clear_lost {B : Nat} (ad : Nat → Addr) (lb db : Nat) (d : PDisk) (Sd : Nat → Prop) (c hh zz : Nat) (rv : Value) (rs : List ByteArray) (hb : (packT (rs.map tx)).length ≤ 90000000)  : Spec Tryz.prog 36 #[.pointer (some ⟨lb, 0, none⟩), rv] [rCell true lb [.pointer (some ⟨db, 0, none⟩), .int .i64 (c : Int), .int .i64 (hh : Int), .int .i64 (zz : Int), .bool true] 70, rDisk B db d Sd, rTab, rEnv B ad [2, 3, 9, 15], rRows true rv 9 1 strC rs] (fun u L => u = errV ad 15 ∧ L = [rCell true lb [.pointer (some ⟨db, 0, none⟩), .int .i64 (c : Int), .int .i64 (hh : Int), .int .i64 (zz : Int), .bool true] 70, rDisk B db d Sd, rTab, rEnv B ad [2, 3, 9, 15], rRows true rv 9 1 strC rs]) := by
  refine spec_of (#[.pointer (some ⟨lb, 0, none⟩), rv, undef, undef, undef, undef, undef, undef, undef, undef, undef, undef, undef, undef, undef, undef, undef, undef, undef, undef, undef, undef, undef, undef, undef, undef, undef, undef, undef, undef, undef, undef, undef]) Tryz.func36 rfl (by kernel_rfl) fun E w0 w h => ?_
  refine c_seq ?_
  refine c_reg ?_
  refine sq_p (.nilIface) rfl (fun _ => by kernel_rfl) ?_
  refine lnil ?_
  refine thn_n ?_
  refine c_seq ?_
  refine c_reg ?_
  refine sq_p (rv) rfl (fun _ => by kernel_rfl) ?_
  refine sq_call #[rv] [2, 3] rfl (pack_spec rv rs hb) (fun _ => by kernel_rfl) h ?_; rintro v_ L_ w ⟨rfl, rfl⟩ h
  refine sq_p (.string (ofT (packB (rs.map tx)))) rfl (fun _ => by kernel_rfl) ?_
  refine lnil ?_
  refine thn_n ?_
  refine c_seq ?_
  refine c_block ?_
  refine c_seq ?_
  refine c_reg ?_
  refine sq_p (.pointer (some ⟨lb, 0, none⟩)) rfl (fun _ => by kernel_rfl) ?_
  refine sq_p (.pointer (some ⟨lb, 0, none⟩)) rfl (fun _ => by kernel_rfl) ?_
  refine sq_p (.pointer (some ⟨lb, 4, none⟩)) rfl (fun _ => by kernel_rfl) ?_
  refine sq_q rfl h (g_ld 4 [.bool true] (.bool true) (by kernel_rfl) 2 rfl) ?_
  refine sq_p (.bool true) rfl (fun _ => by kernel_rfl) ?_
  refine lnil ?_
  refine thn_n ?_
  refine c_true (by kernel_rfl) ?_
  refine c_seq ?_
  refine c_reg ?_
  refine sq_q rfl h (g_ldr (b := gl 15) 0 [errV ad 15] (errV ad 15) (by kernel_rfl) 4 rfl (rdEnv (c := 15) (by decide) rfl)) ?_
  refine sq_p (errV ad 15) rfl (fun _ => by kernel_rfl) ?_
  refine lnil ?_
  refine thn_n ?_
  refine c_ret ?_
  refine blk_r (thn_r ?_)
  refine ret_end [errV ad 15] [2, 2, 0, 1, 0] h (by kernel_rfl) (res_t (by kernel_rfl) res_n) ?_
  exact ⟨rfl, rfl⟩

/- Format's steps at a disk whose power stays. No condition. -/
section
variable {B b : Nat} {d : PDisk} {S : Nat → Prop} (ad : Nat → Addr)
theorem dwrite0_spec (n : Int) (s : ByteArray) (hf : d.waits.length ≤ 1000000) (h0 : (pWrite d n s).2 = 0) : Spec Tryz.prog 33 #[.pointer (some ⟨b, 0, none⟩), .int .i64 n, .string s] [rDisk B b d S, rEnv B ad [2, 3, 15]] fun u L =>
    ∃ S' : Nat → Prop, u = .nilIface ∧ L = [rDisk B b (pWrite d n s).1 S', rEnv B ad [2, 3, 15]] := by
  refine (dwrite_spec ad n s (by omega)).mono ?_
  rintro u L ⟨S', rfl, rfl⟩
  rw [h0]
  exact ⟨S', rfl, rfl⟩
theorem dflush0_spec (hf : d.now.length ≤ 4000) (h0 : (pFlush d).2 = 0) : Spec Tryz.prog 34 #[.pointer (some ⟨b, 0, none⟩)] [rDisk B b d S, rEnv B ad [15]] fun u L =>
    ∃ S' : Nat → Prop, u = .nilIface ∧ L = [rDisk B b (pFlush d).1 S', rEnv B ad [15]] := by
  refine (dflush_spec ad hf).mono ?_
  rintro u L ⟨S', rfl, rfl⟩
  rw [h0]
  exact ⟨S', rfl, rfl⟩
theorem put0_spec (lb : Nat) (n : Nat) (hn : d.now.length = n) (h8 : 8 ≤ n) (h4 : n ≤ 4000) (hwt : d.waits.length ≤ 1000) (h0 : (logWr n d 0 0 0 noB).2 = 0) :
    Spec Tryz.prog 35 #[.pointer (some ⟨lb, 0, none⟩), .int .i64 0, .int .i64 0, .string noB] [rCell true lb [.pointer (some ⟨b, 0, none⟩), .int .i64 0, .int .i64 0, .int .i64 0, .bool false] 70, rDisk B b d S, rTab, rEnv B ad [2, 3, 15]] fun u L =>
    ∃ S' : Nat → Prop, u = .nilIface ∧ L = [rCell true lb [.pointer (some ⟨b, 0, none⟩), .int .i64 1, .int .i64 0, .int .i64 0, .bool false] 70, rDisk B b (logWr n d 0 0 0 noB).1 S', rTab, rEnv B ad [2, 3, 15]] := by
  subst hn
  refine (putI_spec ad lb b d S 0 0 0 0 0 false noB 0 0 rfl rfl h8 h4 (by omega) rfl rfl (by show 0 + 0 ≤ _; omega) (by omega) hwt).mono ?_
  rintro u L (⟨d', S', hw, rfl, rfl⟩ | ⟨d', S', hw, rfl, rfl⟩)
  · rw [hw]; exact ⟨S', rfl, rfl⟩
  · rw [hw] at h0; cases h0
end
theorem fm_facts {n : Nat} {d : PDisk} (hn : d.now.length = n) (h8 : 8 ≤ n) (hw : d.waits.length ≤ 10) (h1 : (pWrite d 0 noB).2 = 0) (h3 : (pFlush (pWrite (pWrite d 0 noB).1 1 noB).1).2 = 0) :
    (pWrite d 0 noB).1.waits.length ≤ 11 ∧ (pWrite d 0 noB).1.now.length = n ∧ (pWrite (pWrite d 0 noB).1 1 noB).1.now.length = n ∧ (pFlush (pWrite (pWrite d 0 noB).1 1 noB).1).1.now.length = n ∧ (pFlush (pWrite (pWrite d 0 noB).1 1 noB).1).1.waits.length ≤ 10 := by
  obtain ⟨a1, _, _, a4⟩ := write_in (d := d) (k := 0) (s := noB) (by omega) (by decide)
  have a4 := (a4 h1).2
  have b1 := (write_in (d := (pWrite d ((0 : Nat) : Int) noB).1) (k := 1) (s := noB) (by rw [a1.len]; omega) (by decide)).1
  obtain ⟨_, _, c3, c4, _⟩ := flush_at (pWrite (pWrite d 0 noB).1 1 noB).1
  refine ⟨?_, a1.len.trans hn, b1.len.trans (a1.len.trans hn), ?_, ?_⟩
  · have a4 : (pWrite d 0 noB).1.waits = d.waits ++ [((0 : Int), padS noB)] := a4
    rw [a4, List.length_append]
    show _ + 1 ≤ _
    omega
  · rw [c3]; exact b1.len.trans (a1.len.trans hn)
  · rw [(c4 h3).2]; exact Nat.zero_le _

/- logp: contracts by what is owned (printed by walk.py). -/
theorem format_small {B : Nat} (ad : Nat → Addr) (db : Nat) (d : PDisk) (Sd : Nat → Prop) (h8 : d.now.length < 8)  : Spec Tryz.prog 11 #[.pointer (some ⟨db, 0, none⟩)] [rDisk B db d Sd, rTab, rEnv B ad [2, 3, 9, 15]] (fun u L => u = .tuple #[.pointer none, errV ad 9] ∧ L = [rDisk B db d Sd, rTab, rEnv B ad [2, 3, 9, 15]]) := by
  refine spec_of (#[.pointer (some ⟨db, 0, none⟩), undef, undef, undef, undef, undef, undef, undef, undef, undef, undef, undef, undef, undef, undef, undef, undef, undef, undef, undef, undef, undef, undef, undef, undef, undef, undef, undef, undef, undef, undef, undef, undef, undef, undef, undef, undef]) Tryz.func11 rfl (by kernel_rfl) fun E w0 w h => ?_
  refine c_seq ?_
  refine c_reg ?_
  refine sq_p (.pointer none) rfl (fun _ => by kernel_rfl) ?_
  refine sq_p (.nilIface) rfl (fun _ => by kernel_rfl) ?_
  refine lnil ?_
  refine thn_n ?_
  refine c_seq ?_
  refine c_seq ?_
  refine c_reg ?_
  refine sq_p (.pointer (some ⟨db, 0, none⟩)) rfl (fun _ => by kernel_rfl) ?_
  refine sq_call #[.pointer (some ⟨db, 0, none⟩)] [0] rfl (dsectors_spec (B := B) (d := d) (S := Sd)) (fun _ => by kernel_rfl) h ?_; rintro v_ L_ w ⟨rfl, rfl⟩ h
  refine sq_p (.bool (decide ((d.now.length : Int) < 8))) rfl (fun _ => by kernel_rfl) ?_
  refine lnil ?_
  refine thn_n ?_
  refine c_cond (decide ((d.now.length : Int) < 8)) (by kernel_rfl) (fun hc1 => ?_) (fun hc1 => ?_)
  · skip
    have hc1 := of_decide_eq_true hc1
    refine c_seq ?_
    refine d_start 3 [2] (by kernel_rfl) h fun w h => ?_
    refine d_take 0 2 [2] rfl (v := errV ad 9) (by kernel_rfl) (qp_thn (qp_thn qp_body)) (yq (by kernel_rfl) (g_ldr (b := gl 9) 0 [errV ad 9] (errV ad 9) (by kernel_rfl) 0 rfl (rdEnv (c := 9) (by decide) rfl))) h (by kernel_rfl) ?_
    refine d_take 1 1 [2] rfl (v := .pointer none) (by kernel_rfl) (qp_thn (qp_thn qp_body)) (yq (by kernel_rfl) (g_pure (v := .pointer none) fun _ => by kernel_rfl)) h (by kernel_rfl) ?_
    refine d_take 2 3 [2] rfl (v := errV ad 9) (by kernel_rfl) (qp_thn (qp_thn qp_body)) (yq (by kernel_rfl) (g_pure (v := errV ad 9) fun _ => by kernel_rfl)) h (by kernel_rfl) ?_
    refine d_done (by kernel_rfl) ?_
    refine thn_n ?_
    refine c_ret ?_
    refine thn_r ?_
    refine ret_end [.pointer none, errV ad 9] [0, 0, 0] h (by kernel_rfl) (res_t (by kernel_rfl) (res_t (by kernel_rfl) res_n)) ?_
    exact ⟨rfl, rfl⟩
  · skip
    have hc1 := of_decide_eq_false hc1
    exact absurd h8 (by omega)
theorem format_spec {B : Nat} (ad : Nat → Addr) (db : Nat) (d : PDisk) (Sd : Nat → Prop) (h8 : 8 ≤ d.now.length) (h4 : d.now.length ≤ 4000) (hl : d.left = -1) (hwt : d.waits.length ≤ 10) (h64 : ∀ s ∈ d.now, s.size = 64)  : Spec Tryz.prog 11 #[.pointer (some ⟨db, 0, none⟩)] [rDisk B db d Sd, rTab, rEnv B ad [2, 3, 9, 15]] (fun u L => ∃ (lb : Nat) (S' : Nat → Prop), u = .tuple #[.pointer (some ⟨lb, 0, none⟩), .nilIface] ∧ L = [rDisk B db (pFormat d.now.length d) S', rTab, rEnv B ad [2, 3, 9, 15], rCell true lb [.pointer (some ⟨db, 0, none⟩), .int .i64 1, .int .i64 0, .int .i64 0, .bool false] 70]) := by
  obtain ⟨hf1, hf2, hf3, hf4, _⟩ := format_ok hl rfl h8 h4 h64
  obtain ⟨hg1, hg2, hg3, hg4, hg5⟩ := fm_facts rfl h8 hwt hf1 hf3
  refine spec_of (#[.pointer (some ⟨db, 0, none⟩), undef, undef, undef, undef, undef, undef, undef, undef, undef, undef, undef, undef, undef, undef, undef, undef, undef, undef, undef, undef, undef, undef, undef, undef, undef, undef, undef, undef, undef, undef, undef, undef, undef, undef, undef, undef]) Tryz.func11 rfl (by kernel_rfl) fun E w0 w h => ?_
  have h := h.eSub [2, 3, 15] 2 rfl
  have h := h.eSub [15] 0 rfl
  refine c_seq ?_
  refine c_reg ?_
  refine sq_p (.pointer none) rfl (fun _ => by kernel_rfl) ?_
  refine sq_p (.nilIface) rfl (fun _ => by kernel_rfl) ?_
  refine lnil ?_
  refine thn_n ?_
  refine c_seq ?_
  refine c_seq ?_
  refine c_reg ?_
  refine sq_p (.pointer (some ⟨db, 0, none⟩)) rfl (fun _ => by kernel_rfl) ?_
  refine sq_call #[.pointer (some ⟨db, 0, none⟩)] [2] rfl (dsectors_spec (B := B) (d := d) (S := Sd)) (fun _ => by kernel_rfl) h ?_; rintro v_ L_ w ⟨rfl, rfl⟩ h
  refine sq_p (.bool (decide ((d.now.length : Int) < 8))) rfl (fun _ => by kernel_rfl) ?_
  refine lnil ?_
  refine thn_n ?_
  refine c_cond (decide ((d.now.length : Int) < 8)) (by kernel_rfl) (fun hc1 => ?_) (fun hc1 => ?_)
  · skip
    have hc1 := of_decide_eq_true hc1
    exact absurd h8 (by omega)
  · skip
    have hc1 := of_decide_eq_false hc1
    refine c_skip ?_
    refine thn_n ?_
    refine c_seq ?_
    refine c_seq ?_
    refine c_reg ?_
    refine sq_p (.int .i64 0) rfl (fun _ => by kernel_rfl) ?_
    refine lnil ?_
    refine thn_n ?_
    refine c_block ?_
    refine c_unroll 2 ?_
    refine c_seq ?_
    refine c_reg ?_
    refine sq_p (.bool true) rfl (fun _ => by kernel_rfl) ?_
    refine lnil ?_
    refine thn_n ?_
    refine c_seq ?_
    refine c_true (by kernel_rfl) ?_
    refine c_skip ?_
    refine thn_n ?_
    refine c_seq ?_
    refine c_block ?_
    refine c_seq ?_
    refine c_reg ?_
    refine sq_p (.int .i64 0) rfl (fun _ => by kernel_rfl) ?_
    refine sq_p (.int .i64 0) rfl (fun _ => by kernel_rfl) ?_
    refine lnil ?_
    refine thn_n ?_
    refine c_seq ?_
    refine c_reg ?_
    refine sq_p (.pointer (some ⟨db, 0, none⟩)) rfl (fun _ => by kernel_rfl) ?_
    refine sq_p (.int .i64 0) rfl (fun _ => by kernel_rfl) ?_
    refine sq_call #[.pointer (some ⟨db, 0, none⟩), .int .i64 0, .string (⟨#[]⟩ : ByteArray)] [0, 1] rfl (dwrite0_spec (B := B) (b := db) (d := d) (S := Sd) ad 0 noB (by omega) hf1) (fun _ => by kernel_rfl) h ?_; rintro v_ L_ w ⟨Sx2, rfl, rfl⟩ h
    refine sq_p (.nilIface) rfl (fun _ => by kernel_rfl) ?_
    refine lnil ?_
    refine thn_n ?_
    refine c_seq ?_
    refine c_reg ?_
    refine sq_p (.nilIface) rfl (fun _ => by kernel_rfl) ?_
    refine sq_p (.bool false) rfl (fun _ => by kernel_rfl) ?_
    refine lnil ?_
    refine thn_n ?_
    refine c_false (by kernel_rfl) ?_
    refine c_skip ?_
    refine blk_n (thn_n ?_)
    refine c_reg ?_
    refine sq_p (.int .i64 1) rfl (fun _ => by kernel_rfl) ?_
    refine sq_p (.int .i64 1) rfl (fun _ => by kernel_rfl) ?_
    refine lnil ?_
    refine unr_n ?_
    refine c_seq ?_
    refine c_reg ?_
    refine sq_p (.bool true) rfl (fun _ => by kernel_rfl) ?_
    refine lnil ?_
    refine thn_n ?_
    refine c_seq ?_
    refine c_true (by kernel_rfl) ?_
    refine c_skip ?_
    refine thn_n ?_
    refine c_seq ?_
    refine c_block ?_
    refine c_seq ?_
    refine c_reg ?_
    refine sq_p (.int .i64 1) rfl (fun _ => by kernel_rfl) ?_
    refine sq_p (.int .i64 1) rfl (fun _ => by kernel_rfl) ?_
    refine lnil ?_
    refine thn_n ?_
    refine c_seq ?_
    refine c_reg ?_
    refine sq_p (.pointer (some ⟨db, 0, none⟩)) rfl (fun _ => by kernel_rfl) ?_
    refine sq_p (.int .i64 1) rfl (fun _ => by kernel_rfl) ?_
    refine sq_call #[.pointer (some ⟨db, 0, none⟩), .int .i64 1, .string (⟨#[]⟩ : ByteArray)] [0, 0] rfl (dwrite0_spec (B := B) (b := db) (d := ((pWrite d 0 noB).1)) (S := Sx2) ad 1 noB (by omega) hf2) (fun _ => by kernel_rfl) h ?_; rintro v_ L_ w ⟨Sx3, rfl, rfl⟩ h
    refine sq_p (.nilIface) rfl (fun _ => by kernel_rfl) ?_
    refine lnil ?_
    refine thn_n ?_
    refine c_seq ?_
    refine c_reg ?_
    refine sq_p (.nilIface) rfl (fun _ => by kernel_rfl) ?_
    refine sq_p (.bool false) rfl (fun _ => by kernel_rfl) ?_
    refine lnil ?_
    refine thn_n ?_
    refine c_false (by kernel_rfl) ?_
    refine c_skip ?_
    refine blk_n (thn_n ?_)
    refine c_reg ?_
    refine sq_p (.int .i64 2) rfl (fun _ => by kernel_rfl) ?_
    refine sq_p (.int .i64 2) rfl (fun _ => by kernel_rfl) ?_
    refine lnil ?_
    refine unr_n ?_
    refine c_seq ?_
    refine c_reg ?_
    refine sq_p (.bool false) rfl (fun _ => by kernel_rfl) ?_
    refine lnil ?_
    refine thn_n ?_
    refine c_seq ?_
    refine c_false (by kernel_rfl) ?_
    refine c_exit ?_
    refine thn_e (unr_e (blk_e (thn_n ?_)))
    refine c_seq ?_
    refine c_seq ?_
    refine c_reg ?_
    refine sq_p (.pointer (some ⟨db, 0, none⟩)) rfl (fun _ => by kernel_rfl) ?_
    refine sq_call #[.pointer (some ⟨db, 0, none⟩)] [0, 1] rfl (dflush0_spec (B := B) (b := db) (d := ((pWrite (pWrite d 0 noB).1 1 noB).1)) (S := Sx3) ad (by omega) hf3) (fun _ => by kernel_rfl) h ?_; rintro v_ L_ w ⟨Sx4, rfl, rfl⟩ h
    refine sq_p (.nilIface) rfl (fun _ => by kernel_rfl) ?_
    refine lnil ?_
    refine thn_n ?_
    refine c_seq ?_
    refine c_reg ?_
    refine sq_p (.nilIface) rfl (fun _ => by kernel_rfl) ?_
    refine sq_p (.bool false) rfl (fun _ => by kernel_rfl) ?_
    refine lnil ?_
    refine thn_n ?_
    refine c_false (by kernel_rfl) ?_
    refine c_skip ?_
    refine thn_n ?_
    refine c_seq ?_
    refine c_reg ?_
    refine sq_p (.pointer (some ⟨db, 0, none⟩)) rfl (fun _ => by kernel_rfl) ?_
    refine sq_p (.agg #[.pointer (some ⟨db, 0, none⟩), .int .i64 0, .int .i64 0, .int .i64 0, .bool false]) rfl (fun _ => by kernel_rfl) ?_
    refine sq_new rfl (fun b => .pointer (some ⟨b, 0, none⟩)) [.pointer (some ⟨db, 0, none⟩), .int .i64 0, .int .i64 0, .int .i64 0, .bool false] 70 (fun _ => by kernel_rfl) h ?_; intro k5 w h
    refine sq_p (.pointer (some ⟨k5, 0, none⟩)) rfl (fun _ => by kernel_rfl) ?_
    refine lnil ?_
    refine thn_n ?_
    refine c_seq ?_
    refine c_seq ?_
    refine c_reg ?_
    refine sq_p (.pointer (some ⟨k5, 0, none⟩)) rfl (fun _ => by kernel_rfl) ?_
    refine sq_call #[.pointer (some ⟨k5, 0, none⟩), .int .i64 0, .int .i64 0, .string (⟨#[]⟩ : ByteArray)] [0, 0, 2, 1] rfl (put0_spec (B := B) (b := db) (d := ((pFlush (pWrite (pWrite d 0 noB).1 1 noB).1).1)) (S := Sx4) ad k5 d.now.length hg4 h8 h4 (by omega) hf4) (fun _ => by kernel_rfl) h ?_; rintro v_ L_ w ⟨Sx6, rfl, rfl⟩ h
    refine sq_p (.nilIface) rfl (fun _ => by kernel_rfl) ?_
    refine lnil ?_
    refine thn_n ?_
    refine c_seq ?_
    refine c_reg ?_
    refine sq_p (.nilIface) rfl (fun _ => by kernel_rfl) ?_
    refine sq_p (.bool false) rfl (fun _ => by kernel_rfl) ?_
    refine lnil ?_
    refine thn_n ?_
    refine c_false (by kernel_rfl) ?_
    refine c_skip ?_
    refine thn_n ?_
    refine c_seq ?_
    refine c_reg ?_
    refine sq_p (.pointer (some ⟨k5, 0, none⟩)) rfl (fun _ => by kernel_rfl) ?_
    refine sq_p (.pointer (some ⟨k5, 0, none⟩)) rfl (fun _ => by kernel_rfl) ?_
    refine sq_p (.nilIface) rfl (fun _ => by kernel_rfl) ?_
    refine lnil ?_
    refine thn_n ?_
    refine c_ret ?_
    refine ret_end [.pointer (some ⟨k5, 0, none⟩), .nilIface] [1, 1, 3, 0] h (by kernel_rfl) (res_t (by kernel_rfl) (res_t (by kernel_rfl) res_n)) ?_
    exact ⟨_, _, rfl, rfl⟩

/- Plain lemmas beside the law's functions. Over no program. -/
theorem same_next {us bs : List ByteArray} {i : Nat} {x y : ByteArray} (h : ∀ m, m < i → us[m]? = bs[m]?) (hx : us[i]? = some x) (hy : bs[i]? = some y) (e : x = y) : ∀ m, m < i + 1 → us[m]? = bs[m]? := fun m hm => by
  by_cases hmi : m = i
  · subst hmi; rw [hx, hy, e]
  · exact h m (by omega)
theorem same_yes {us bs : List ByteArray} (hl : us.length = bs.length) {i : Nat} (hi : us.length ≤ i) (h : ∀ m, m < i → us[m]? = bs[m]?) : decide (us = bs) = true := by
  refine decide_eq_true (List.ext_getElem? fun m => ?_)
  by_cases hm : m < i
  · exact h m hm
  · rw [List.getElem?_eq_none (by omega), List.getElem?_eq_none (by omega)]
theorem same_len {us bs : List ByteArray} (hl : us.length ≠ bs.length) : decide (us = bs) = false := decide_eq_false fun e => hl (by rw [e])
theorem same_no {us bs : List ByteArray} {i : Nat} {x y : ByteArray} (hx : us[i]? = some x) (hy : bs[i]? = some y) (e : x ≠ y) : decide (us = bs) = false := decide_eq_false fun q => by
  subst q; rw [hx] at hy; exact e (Option.some.inj hy)
theorem wt_next {rs : List ByteArray} {i : Nat} {x : ByteArray} {nn : Nat} (hx : rs[i]? = some x) (hn : nn = wt16 ((rs.take i).map tx)) : nn + (16 + x.size) = wt16 ((rs.take (i + 1)).map tx) := by
  obtain ⟨h, rfl⟩ := List.getElem?_eq_some_iff.1 hx
  rw [List.take_succ_eq_append_getElem h, List.map_append, wt_app16, ← hn]
  unfold wt16
  simp [tx_len]
theorem wt_take {rs : List ByteArray} {N : Nat} (hb : wt16 (rs.map tx) ≤ N) (i : Nat) : wt16 ((rs.take i).map tx) ≤ N := by
  have h := wt_app16 ((rs.take i).map tx) ((rs.drop i).map tx)
  rw [← List.map_append, List.take_append_drop] at h
  omega
theorem wt_cnt : ∀ rs : List ByteArray, rs.length ≤ wt16 (rs.map tx)
  | [] => Nat.zero_le _
  | r :: rs => by
    have h := wt_cnt rs
    unfold wt16 at h ⊢
    rw [List.map_cons, List.map_cons, List.sum_cons, List.length_cons]
    omega
theorem wt_one {rs : List ByteArray} {N : Nat} (hb : wt16 (rs.map tx) ≤ N) {x : ByteArray} (hx : x ∈ rs) : x.size ≤ N := by
  obtain ⟨i, hi⟩ := List.mem_iff_getElem?.1 hx
  have h1 := wt_next hi rfl
  have h2 := wt_take hb (i + 1)
  omega

/- logp: contracts by what is owned (printed by walk.py). -/
theorem own_spec (v : Value) (rs : List ByteArray) (hb : rs.length < 1000000)  : Spec Tryz.prog 37 #[v] [rArg v 1 strC rs] (fun u L => ∃ v' : Value, u = v' ∧ L = [rArg v 1 strC rs, rRows true v' 9 1 strC rs]) := by
  refine spec_of (#[v, undef, undef, undef, undef, undef, undef]) Tryz.func37 rfl (by kernel_rfl) fun E w0 w h => ?_
  refine c_seq ?_
  refine c_reg ?_
  refine sq_p (.slice none 0 0) rfl (fun _ => by kernel_rfl) ?_
  refine lnil ?_
  refine thn_n ?_
  refine c_seq ?_
  refine c_reg ?_
  refine sq_p (.slice none 0 0) rfl (fun _ => by kernel_rfl) ?_
  refine lnil ?_
  refine thn_n ?_
  refine c_seq ?_
  refine c_reg ?_
  refine sq_p (.slice none 0 0) rfl (fun _ => by kernel_rfl) ?_
  refine sq_p (v) rfl (fun _ => by kernel_rfl) ?_
  have h := h.nilRows 9 1 strC
  refine sq_appw rfl (by kernel_rfl) strC_len (fun _ => rfl) h 0 rfl 1 rfl (slRd_arg strC_len (by decide)) (by (try simp only [List.length_append, List.length_cons, List.length_nil, List.length_map]); omega) ?_; intro v1 w h
  refine sq_p (v1) rfl (fun _ => by kernel_rfl) ?_
  refine lnil ?_
  refine thn_n ?_
  refine c_ret ?_
  refine ret_end [v1] [1, 0] h (by kernel_rfl) (res_t (by kernel_rfl) res_n) ?_
  exact ⟨_, rfl, rfl⟩
theorem same_spec (v1 v2 : Value) (us bs : List ByteArray) (hb : us.length < 1000000)  : Spec Tryz.prog 18 #[v1, v2] [rArg v1 1 strC us, rArg v2 1 strC bs] (fun u L => u = .bool (decide (us = bs)) ∧ L = [rArg v1 1 strC us, rArg v2 1 strC bs]) := by
  refine spec_of (#[v1, v2, undef, undef, undef, undef, undef, undef, undef, undef, undef, undef, undef, undef, undef, undef, undef, undef, undef, undef, undef, undef, undef, undef, undef, undef]) Tryz.func18 rfl (by kernel_rfl) fun E w0 w h => ?_
  refine c_seq ?_
  refine c_reg ?_
  refine sq_p (.bool false) rfl (fun _ => by kernel_rfl) ?_
  refine lnil ?_
  refine thn_n ?_
  refine c_seq ?_
  refine c_seq ?_
  refine c_reg ?_
  refine sq_p (v1) rfl (fun _ => by kernel_rfl) ?_
  refine sq_q rfl h (g_lenA 9 (by kernel_rfl) 0 rfl) ?_
  refine sq_p (v2) rfl (fun _ => by kernel_rfl) ?_
  refine sq_q rfl h (g_lenA 9 (by kernel_rfl) 1 rfl) ?_
  refine sq_p (.bool (!(decide ((us.length : Int) = (bs.length : Int))))) rfl (fun _ => by kernel_rfl) ?_
  refine lnil ?_
  refine thn_n ?_
  refine c_cond (!(decide ((us.length : Int) = (bs.length : Int)))) (by kernel_rfl) (fun hc1 => ?_) (fun hc1 => ?_)
  · skip
    have q2 : (decide ((us.length : Int) = (bs.length : Int))) = false := by simpa using hc1
    have q2 := of_decide_eq_false q2
    have hlen : us.length ≠ bs.length := by omega
    refine c_seq ?_
    refine c_reg ?_
    refine sq_p (.bool false) rfl (fun _ => by kernel_rfl) ?_
    refine lnil ?_
    refine thn_n ?_
    refine c_ret ?_
    refine thn_r ?_
    refine ret_end [.bool false] [0, 0] h (by kernel_rfl) (res_t (by kernel_rfl) res_n) ?_
    refine ⟨?_, rfl⟩
    show Value.bool _ = _
    rw [same_len hlen]
  · skip
    have q3 : (decide ((us.length : Int) = (bs.length : Int))) = true := by simpa using hc1
    have q3 := of_decide_eq_true q3
    have hlen : us.length = bs.length := by omega
    refine c_skip ?_
    refine thn_n ?_
    refine c_seq ?_
    refine c_seq ?_
    refine c_reg ?_
    refine sq_p (.int .i64 0) rfl (fun _ => by kernel_rfl) ?_
    refine lnil ?_
    refine thn_n ?_
    refine c_block ?_
    refine c_loop (X := Nat × (Nat → Value)) (fun ⟨ii, J0⟩ => ⟨#[v1, v2, undef, undef, J0 4, .int .i64 ((ii : Nat) : Int), v1, .int .i64 (us.length : Int), v2, .int .i64 (bs.length : Int), .bool (!(decide ((us.length : Int) = (bs.length : Int)))), J0 11, J0 12, J0 13, J0 14, J0 15, J0 16, J0 17, J0 18, J0 19, J0 20, J0 21, J0 22, J0 23, J0 24, J0 25], []⟩)
      (fun ⟨ii, J0⟩ => [rArg v1 1 strC us, rArg v2 1 strC bs]) (fun ⟨ii, J0⟩ => ii ≤ us.length ∧ ∀ m_, m_ < ii → us[m_]? = bs[m_]?) (fun ⟨ii, J0⟩ => us.length - ii)
      ⟨0, (fun n => (#[v1, v2, undef, undef, .bool false, .int .i64 0, v1, .int .i64 (us.length : Int), v2, .int .i64 (bs.length : Int), .bool (!(decide ((us.length : Int) = (bs.length : Int)))), undef, undef, undef, undef, undef, undef, undef, undef, undef, undef, undef, undef, undef, undef, undef] : Array Value).getD n undef)⟩ ⟨by omega, fun m_ hm_ => absurd hm_ (by omega)⟩ (by kernel_rfl) [0, 0] (by kernel_rfl) h ?_
    rintro ⟨ii, J0⟩ w hG h
    obtain ⟨hil, hie⟩ : ii ≤ us.length ∧ ∀ m_, m_ < ii → us[m_]? = bs[m_]? := hG
    refine c_seq ?_
    refine c_seq ?_
    refine c_reg ?_
    refine sq_p (.int .i64 ((ii : Nat) : Int)) rfl (fun _ => by kernel_rfl) ?_
    refine sq_p (v1) rfl (fun _ => by kernel_rfl) ?_
    refine sq_q rfl h (g_lenA 9 (by kernel_rfl) 0 rfl) ?_
    refine sq_p (.bool (decide (((ii : Nat) : Int) < (us.length : Int)))) rfl (fun _ => by kernel_rfl) ?_
    refine lnil ?_
    refine thn_n ?_
    refine c_cond (decide (((ii : Nat) : Int) < (us.length : Int))) (by kernel_rfl) (fun hc4 => ?_) (fun hc4 => ?_)
    · skip
      have hc4 := of_decide_eq_true hc4
      refine c_skip ?_
      refine thn_n ?_
      refine c_seq ?_
      refine c_block ?_
      refine c_seq ?_
      refine d_start 9 [0, 0] (by kernel_rfl) h fun w h => ?_
      refine d_take 0 242 [0, 0] rfl (v := v1) (by kernel_rfl) (qp_thn (qp_blk (qp_thn (qp_rnd (qp_blk (qp_thn qp_body)))))) (yq (by kernel_rfl) (g_pure (v := v1) fun _ => by kernel_rfl)) h (by kernel_rfl) ?_
      refine d_take 1 241 [0, 0] rfl (v := .int .i64 ((ii : Nat) : Int)) (by kernel_rfl) (qp_thn (qp_blk (qp_thn (qp_rnd (qp_blk (qp_thn qp_body)))))) (yq (by kernel_rfl) (g_pure (v := .int .i64 ((ii : Nat) : Int)) fun _ => by kernel_rfl)) h (by kernel_rfl) ?_
      have hi5 : ii < us.length := by omega
      obtain ⟨x6, hx7⟩ : ∃ x, us[ii]? = some x := ⟨_, List.getElem?_eq_getElem hi5⟩
      refine d_take 2 243 [0, 0] rfl (v := .pointer (some ⟨blkN v1, offN v1 + ii * 1, none⟩)) (by kernel_rfl) (qp_thn (qp_blk (qp_thn (qp_rnd (qp_blk (qp_thn qp_body)))))) (yq (by kernel_rfl) (g_idxA 9 ii (by kernel_rfl) hi5 0 rfl)) h (by kernel_rfl) ?_
      refine d_take 3 247 [0, 0] rfl (v := .string x6) (by kernel_rfl) (qp_thn (qp_blk (qp_thn (qp_rnd (qp_blk (qp_thn qp_body)))))) (yq (by kernel_rfl) (g_ldr (b := blkN v1) (offN v1 + ii * 1) [.string x6] (.string x6) (by kernel_rfl) 0 rfl (rdArg0 hx7 (by kernel_rfl)))) h (by kernel_rfl) ?_
      refine d_take 4 47 [0, 0] rfl (v := v2) (by kernel_rfl) (qp_thn (qp_blk (qp_thn (qp_rnd (qp_blk (qp_thn qp_body)))))) (yq (by kernel_rfl) (g_pure (v := v2) fun _ => by kernel_rfl)) h (by kernel_rfl) ?_
      refine d_take 5 31 [0, 0] rfl (v := .int .i64 ((ii : Nat) : Int)) (by kernel_rfl) (qp_thn (qp_blk (qp_thn (qp_rnd (qp_blk (qp_thn qp_body)))))) (yq (by kernel_rfl) (g_pure (v := .int .i64 ((ii : Nat) : Int)) fun _ => by kernel_rfl)) h (by kernel_rfl) ?_
      have hi8 : ii < bs.length := by omega
      obtain ⟨x9, hx10⟩ : ∃ x, bs[ii]? = some x := ⟨_, List.getElem?_eq_getElem hi8⟩
      refine d_take 6 63 [0, 0] rfl (v := .pointer (some ⟨blkN v2, offN v2 + ii * 1, none⟩)) (by kernel_rfl) (qp_thn (qp_blk (qp_thn (qp_rnd (qp_blk (qp_thn qp_body)))))) (yq (by kernel_rfl) (g_idxA 9 ii (by kernel_rfl) hi8 1 rfl)) h (by kernel_rfl) ?_
      refine d_take 7 127 [0, 0] rfl (v := .string x9) (by kernel_rfl) (qp_thn (qp_blk (qp_thn (qp_rnd (qp_blk (qp_thn qp_body)))))) (yq (by kernel_rfl) (g_ldr (b := blkN v2) (offN v2 + ii * 1) [.string x9] (.string x9) (by kernel_rfl) 1 rfl (rdArg0 hx10 (by kernel_rfl)))) h (by kernel_rfl) ?_
      refine d_take 8 255 [0, 0] rfl (v := .bool (!(decide (x6 = x9)))) (by kernel_rfl) (qp_thn (qp_blk (qp_thn (qp_rnd (qp_blk (qp_thn qp_body)))))) (yq (by kernel_rfl) (g_eq (v := .bool !(x6.toList == x9.toList)) (v' := .bool (!(decide (x6 = x9)))) (g_pure fun _ => by kernel_rfl) bneS)) h (by kernel_rfl) ?_
      refine d_done (by kernel_rfl) ?_
      refine thn_n ?_
      refine c_cond (!(decide (x6 = x9))) (by kernel_rfl) (fun hc11 => ?_) (fun hc11 => ?_)
      · skip
        have q12 : (decide (x6 = x9)) = false := by simpa using hc11
        have q12 := of_decide_eq_false q12
        have hce13 := hc11
        refine c_seq ?_
        refine c_reg ?_
        refine sq_p (.bool false) rfl (fun _ => by kernel_rfl) ?_
        refine lnil ?_
        refine thn_n ?_
        refine c_ret ?_
        refine blk_r (thn_r (rnd_r (blk_r (thn_r ?_))))
        refine ret_end [.bool false] [0, 0] h (by kernel_rfl) (res_t (by kernel_rfl) res_n) ?_
        refine ⟨?_, rfl⟩
        show Value.bool _ = _
        rw [same_no (by assumption) (by assumption) (by simpa using hce13)]
      · skip
        have q14 : (decide (x6 = x9)) = true := by simpa using hc11
        have q14 := of_decide_eq_true q14
        have hce15 := hc11
        refine c_skip ?_
        refine blk_n (thn_n ?_)
        refine c_reg ?_
        refine sq_p (.int .i64 ((ii : Nat) : Int)) rfl (fun _ => by kernel_rfl) ?_
        refine sq_q rfl h (g_eq (v := .int .i64 (IntKind.i64.wrap (((ii : Nat) : Int) + 1))) (v' := .int .i64 ((ii + 1 : Nat) : Int)) (g_pure fun _ => by kernel_rfl) (wr (by omega))) ?_
        refine sq_p (.int .i64 ((ii + 1 : Nat) : Int)) rfl (fun _ => by kernel_rfl) ?_
        refine lnil ?_
        have hQ16 : ((ii + 1) ≤ us.length ∧ ∀ m_, m_ < (ii + 1) → us[m_]? = bs[m_]?) ∧ (us.length - (ii + 1)) < (us.length - ii) := ⟨⟨by omega, same_next hie (by assumption) (by assumption) (by simpa using hce15)⟩, by omega⟩
        refine loop_end (fun j => ⟨ii + 1, j⟩) hQ16 (by kernel_rfl) [0, 0] (by kernel_rfl) h
    · skip
      have hc4 := of_decide_eq_false hc4
      refine c_exit ?_
      refine thn_e (rnd_e (blk_e (thn_n ?_)))
      refine c_seq ?_
      refine c_reg ?_
      refine sq_p (.bool true) rfl (fun _ => by kernel_rfl) ?_
      refine lnil ?_
      refine thn_n ?_
      refine c_ret ?_
      refine ret_end [.bool true] [0, 0] h (by kernel_rfl) (res_t (by kernel_rfl) res_n) ?_
      refine ⟨?_, rfl⟩
      show Value.bool _ = _
      rw [same_yes hlen (by omega) hie]
theorem fits_spec (v : Value) (rs : List ByteArray) (adds sectors : Nat) (ha : adds ≤ 1000) (hs : sectors ≤ 4000) (hb : wt16 (rs.map tx) ≤ 1000000)  : Spec Tryz.prog 17 #[v, .int .i64 (adds : Int), .int .i64 (sectors : Int)] [rArg v 1 strC rs] (fun u L => u = .bool (decide (3 * (64 + 64 * adds + wt16 (rs.map tx)) ≤ sectors * 64)) ∧ L = [rArg v 1 strC rs]) := by
  refine spec_of (#[v, .int .i64 (adds : Int), .int .i64 (sectors : Int), undef, undef, undef, undef, undef, undef, undef, undef, undef, undef, undef, undef, undef, undef, undef, undef, undef, undef, undef, undef, undef, undef, undef, undef, undef, undef, undef, undef]) Tryz.func17 rfl (by kernel_rfl) fun E w0 w h => ?_
  refine c_seq ?_
  refine c_reg ?_
  refine sq_p (.bool false) rfl (fun _ => by kernel_rfl) ?_
  refine lnil ?_
  refine thn_n ?_
  refine c_seq ?_
  refine c_reg ?_
  refine sq_p (.int .i64 (adds : Int)) rfl (fun _ => by kernel_rfl) ?_
  refine sq_q rfl h (g_eq (v := .int .i64 (IntKind.i64.wrap (64 * (adds : Int)))) (v' := .int .i64 (64 * (adds : Int))) (g_pure fun _ => by kernel_rfl) (wr (by omega))) ?_
  refine sq_q rfl h (g_eq (v := .int .i64 (IntKind.i64.wrap (64 + (64 * (adds : Int))))) (v' := .int .i64 (64 + (64 * (adds : Int)))) (g_pure fun _ => by kernel_rfl) (wr (by omega))) ?_
  refine sq_p (.int .i64 (64 + (64 * (adds : Int)))) rfl (fun _ => by kernel_rfl) ?_
  refine lnil ?_
  refine thn_n ?_
  refine c_seq ?_
  refine c_seq ?_
  refine c_reg ?_
  refine sq_p (.int .i64 0) rfl (fun _ => by kernel_rfl) ?_
  refine lnil ?_
  refine thn_n ?_
  refine c_block ?_
  refine c_loop (X := Nat × Nat × (Nat → Value)) (fun ⟨ii, nn, J0⟩ => ⟨#[v, .int .i64 (adds : Int), .int .i64 (sectors : Int), undef, undef, undef, .bool false, .int .i64 ((nn : Nat) : Int), .int .i64 ((ii : Nat) : Int), .int .i64 (adds : Int), .int .i64 (64 * (adds : Int)), .int .i64 (64 + (64 * (adds : Int))), J0 12, J0 13, J0 14, J0 15, J0 16, J0 17, J0 18, J0 19, J0 20, J0 21, J0 22, J0 23, J0 24, J0 25, undef, undef, undef, undef, undef], []⟩)
    (fun ⟨ii, nn, J0⟩ => [rArg v 1 strC rs]) (fun ⟨ii, nn, J0⟩ => ii ≤ rs.length ∧ nn = 64 + 64 * adds + wt16 ((rs.take ii).map tx)) (fun ⟨ii, nn, J0⟩ => rs.length - ii)
    ⟨0, (64 + 64 * adds), (fun n => (#[v, .int .i64 (adds : Int), .int .i64 (sectors : Int), undef, undef, undef, .bool false, .int .i64 (64 + (64 * (adds : Int))), .int .i64 0, .int .i64 (adds : Int), .int .i64 (64 * (adds : Int)), .int .i64 (64 + (64 * (adds : Int))), undef, undef, undef, undef, undef, undef, undef, undef, undef, undef, undef, undef, undef, undef, undef, undef, undef, undef, undef] : Array Value).getD n undef)⟩ ⟨by omega, rfl⟩ (by kernel_rfl) [0] (by kernel_rfl) h ?_
  rintro ⟨ii, nn, J0⟩ w hG h
  obtain ⟨hil, hin⟩ : ii ≤ rs.length ∧ nn = 64 + 64 * adds + wt16 ((rs.take ii).map tx) := hG
  have hle := wt_take hb ii
  have hcn := wt_cnt rs
  refine c_seq ?_
  refine c_seq ?_
  refine c_reg ?_
  refine sq_p (.int .i64 ((ii : Nat) : Int)) rfl (fun _ => by kernel_rfl) ?_
  refine sq_p (v) rfl (fun _ => by kernel_rfl) ?_
  refine sq_q rfl h (g_lenA 9 (by kernel_rfl) 0 rfl) ?_
  refine sq_p (.bool (decide (((ii : Nat) : Int) < (rs.length : Int)))) rfl (fun _ => by kernel_rfl) ?_
  refine lnil ?_
  refine thn_n ?_
  refine c_cond (decide (((ii : Nat) : Int) < (rs.length : Int))) (by kernel_rfl) (fun hc1 => ?_) (fun hc1 => ?_)
  · skip
    have hc1 := of_decide_eq_true hc1
    refine c_skip ?_
    refine thn_n ?_
    refine c_seq ?_
    refine c_block ?_
    refine c_reg ?_
    refine sq_p (.int .i64 ((nn : Nat) : Int)) rfl (fun _ => by kernel_rfl) ?_
    refine sq_q rfl h (g_eq (v := .int .i64 (IntKind.i64.wrap (((nn : Nat) : Int) + 16))) (v' := .int .i64 ((nn + 16 : Nat) : Int)) (g_pure fun _ => by kernel_rfl) (wr (by omega))) ?_
    refine sq_p (v) rfl (fun _ => by kernel_rfl) ?_
    refine sq_p (.int .i64 ((ii : Nat) : Int)) rfl (fun _ => by kernel_rfl) ?_
    have hi2 : ii < rs.length := by omega
    obtain ⟨x3, hx4⟩ : ∃ x, rs[ii]? = some x := ⟨_, List.getElem?_eq_getElem hi2⟩
    have hxb_x3 := wt_one hb (List.mem_of_getElem? hx4)
    refine sq_q rfl h (g_idxA 9 ii (by kernel_rfl) hi2 0 rfl) ?_
    refine sq_q rfl h (g_ldr (b := blkN v) (offN v + ii * 1) [.string x3] (.string x3) (by kernel_rfl) 0 rfl (rdArg0 hx4 (by kernel_rfl))) ?_
    refine sq_p (.int .i64 (x3.size : Int)) rfl (fun _ => by kernel_rfl) ?_
    refine sq_q rfl h (g_eq (v := .int .i64 (IntKind.i64.wrap (((nn + 16 : Nat) : Int) + (x3.size : Int)))) (v' := .int .i64 (((nn + 16) + x3.size : Nat) : Int)) (g_pure fun _ => by kernel_rfl) (wr (by omega))) ?_
    refine sq_p (.int .i64 (((nn + 16) + x3.size : Nat) : Int)) rfl (fun _ => by kernel_rfl) ?_
    refine lnil ?_
    refine blk_n (thn_n ?_)
    refine c_reg ?_
    refine sq_p (.int .i64 ((ii : Nat) : Int)) rfl (fun _ => by kernel_rfl) ?_
    refine sq_q rfl h (g_eq (v := .int .i64 (IntKind.i64.wrap (((ii : Nat) : Int) + 1))) (v' := .int .i64 ((ii + 1 : Nat) : Int)) (g_pure fun _ => by kernel_rfl) (wr (by omega))) ?_
    refine sq_p (.int .i64 ((ii + 1 : Nat) : Int)) rfl (fun _ => by kernel_rfl) ?_
    refine lnil ?_
    have hQ5 : ((ii + 1) ≤ rs.length ∧ ((nn + 16) + x3.size) = 64 + 64 * adds + wt16 ((rs.take (ii + 1)).map tx)) ∧ (rs.length - (ii + 1)) < (rs.length - ii) := ⟨⟨by omega, by rw [← wt_next (by assumption) rfl]; omega⟩, by omega⟩
    refine loop_end (fun j => ⟨ii + 1, (nn + 16) + x3.size, j⟩) hQ5 (by kernel_rfl) [0] (by kernel_rfl) h
  · skip
    have hc1 := of_decide_eq_false hc1
    refine c_exit ?_
    refine thn_e (rnd_e (blk_e (thn_n ?_)))
    refine c_seq ?_
    refine c_reg ?_
    refine sq_p (.int .i64 ((nn : Nat) : Int)) rfl (fun _ => by kernel_rfl) ?_
    refine sq_q rfl h (g_eq (v := .int .i64 (IntKind.i64.wrap (3 * ((nn : Nat) : Int)))) (v' := .int .i64 (3 * ((nn : Nat) : Int))) (g_pure fun _ => by kernel_rfl) (wr (by omega))) ?_
    refine sq_p (.int .i64 (sectors : Int)) rfl (fun _ => by kernel_rfl) ?_
    refine sq_q rfl h (g_eq (v := .int .i64 (IntKind.i64.wrap ((sectors : Int) * 64))) (v' := .int .i64 ((sectors : Int) * 64)) (g_pure fun _ => by kernel_rfl) (wr (by omega))) ?_
    refine sq_p (.bool (decide (3 * ((nn : Nat) : Int) ≤ (sectors : Int) * 64))) rfl (fun _ => by kernel_rfl) ?_
    refine sq_p (.bool (decide (3 * ((nn : Nat) : Int) ≤ (sectors : Int) * 64))) rfl (fun _ => by kernel_rfl) ?_
    refine lnil ?_
    refine thn_n ?_
    refine c_ret ?_
    refine ret_end [.bool (decide (3 * ((nn : Nat) : Int) ≤ (sectors : Int) * 64))] [0] h (by kernel_rfl) (res_t (by kernel_rfl) res_n) ?_
    refine ⟨?_, rfl⟩
    show Value.bool _ = _
    have hall : (rs.take ii).map tx = rs.map tx := by rw [List.take_of_length_le (by omega)]
    rw [hall] at hin
    congr 1
    rw [decide_eq_decide]
    omega

/- Add and Clear at a log that is right: what they make of it, with the power's going. Records as an argument. No condition. -/
/-- A call that was done. -/
structure Done (n : Nat) (d d' : PDisk) (c c' h' z' : Nat) (pk' : List (List Tx)) (new : List Tx) (m : Nat) : Prop where
  valid : Valid n d'.now c' h' z' pk'
  quiet : Quiet d'
  flat : pk'.flatten = new
  cle : c' ≤ c + 1
  len : pk'.length ≤ m
  left : d.left = -1 → d'.left = -1
/-- A disk of n sectors whose waiting writes are of them. -/
structure PIn (n : Nat) (d : PDisk) : Prop where
  kept : d.kept.length = n
  now : d.now.length = n
  ins : ∀ p ∈ d.waits, 0 ≤ p.1 ∧ p.1 < n
theorem PIn.ok {n : Nat} {d : PDisk} (h : PIn n d) : POk n d.waits.length d := ⟨h.kept, h.now, h.ins, Nat.le_refl _⟩
theorem POk.pin {n m : Nat} {d : PDisk} (h : POk n m d) : PIn n d := ⟨h.kept, h.now, h.ins⟩
theorem PIn.write {n : Nat} {d : PDisk} (h : PIn n d) (i : Int) (s : ByteArray) : PIn n (pWrite d i s).1 := by
  have := (h.ok.act kwW i s []).pin
  unfold pAct at this
  rwa [if_pos rfl] at this
theorem PIn.flush {n : Nat} {d : PDisk} (h : PIn n d) : PIn n (pFlush d).1 := by
  have := (h.ok.act kwF 0 ⟨#[]⟩ []).pin
  unfold pAct at this
  rwa [if_neg (by decide), if_pos rfl] at this
theorem PIn.wr {n first : Nat} {d : PDisk} {s : ByteArray} (h : PIn n d) : ∀ j, PIn n (wrN d first s j).1
  | 0 => h
  | j + 1 => by
    unfold wrN
    split
    · exact (h.wr j).write _ _
    · exact h.wr j
theorem PIn.log {n m c k z : Nat} {d : PDisk} {s : ByteArray} (h : PIn n d) : PIn n (logWr m d c k z s).1 := by
  unfold logWr
  simp only
  split
  · split
    · split
      · exact ((h.wr _).flush.write _ _).flush
      · exact (h.wr _).flush.write _ _
    · exact (h.wr _).flush
  · exact h.wr _
/-- A call behind which the power has gone. -/
structure Went (n : Nat) (d d' : PDisk) (c : Nat) (old new : List Tx) : Prop where
  left : d.left ≠ -1
  pin : PIn n d'
  crash : ∀ keep, ∃ (c' h' z' : Nat) (pk' : List (List Tx)), Valid n (pCrash d' keep).now c' h' z' pk' ∧ c' ≤ c + 1 ∧ (pk'.flatten = old ∨ pk'.flatten = new)
theorem few_of {rs : List ByteArray} {N : Nat} (hb : (packT (rs.map tx)).length ≤ N) (hN : N < 10000000000 := by omega) : ∀ r ∈ rs.map tx, r.length < ten10 := fun r hr => by
  obtain ⟨x, hx, rfl⟩ := List.mem_map.1 hr
  obtain ⟨i, hi⟩ := List.mem_iff_getElem?.1 hx
  rw [tx_len]
  exact pk_ltx hb hi hN
theorem pk_empty {rs : List ByteArray} (h : ofT (packB (rs.map tx)) = (⟨#[]⟩ : ByteArray)) : rs = [] := by
  have h1 := congrArg tx h
  rw [tx_of] at h1
  have h2 := congrArg List.length h1
  unfold packB at h2
  rw [List.length_append] at h2
  have h3 := pk_cnt rs
  have h4 : (tx (⟨#[]⟩ : ByteArray)).length = 0 := rfl
  exact List.eq_nil_of_length_eq_zero (by omega)
section
variable {n c h z k z1 : Nat} {d d' : PDisk} {pk pk1 : List (List Tx)} {rs : List ByteArray}
theorem put_done (v : Valid n d.now c h z pk) (q : Quiet d) (pl : Place n c h z k z1 pk pk1) (hb : (packT (rs.map tx)).length ≤ 90000000) (hfit : z1 + (ofT (packB (rs.map tx))).size ≤ halfOf n * 64) (hc : c + 1 < ten10) (hw : logWr n d c k z1 (ofT (packB (rs.map tx))) = (d', 0)) :
    Done n d d' c (c + 1) k (z1 + (ofT (packB (rs.map tx))).size) (pk1 ++ [rs.map tx]) (pk1.flatten ++ rs.map tx) (pk1.length + 1) := by
  obtain ⟨_, h2, h3, _⟩ := log_write v q pl (tx_of _) (few_of hb) hfit hc
  rw [hw] at h2 h3
  obtain ⟨h3, h4⟩ := h3 rfl
  exact ⟨h4, h3, by simp, Nat.le_refl _, by simp, fun hl => (h2 hl).2⟩
theorem put_went (v : Valid n d.now c h z pk) (q : Quiet d) (pl : Place n c h z k z1 pk pk1) (hb : (packT (rs.map tx)).length ≤ 90000000) (hfit : z1 + (ofT (packB (rs.map tx))).size ≤ halfOf n * 64) (hc : c + 1 < ten10) (hw : logWr n d c k z1 (ofT (packB (rs.map tx))) = (d', 15)) :
    Went n d d' c pk.flatten (pk1.flatten ++ rs.map tx) := by
  obtain ⟨_, h2, _, h4⟩ := log_write v q pl (tx_of _) (few_of hb) hfit hc
  rw [hw] at h2 h4
  refine ⟨fun hl => absurd (h2 hl).1 (by simp), ?_, fun keep => ?_⟩
  · have hp : PIn n d := ⟨by rw [q.kept]; exact v.len, v.len, fun p hp => by rw [q.waits] at hp; cases hp⟩
    have := hp.log (m := n) (c := c) (k := k) (z := z1) (s := ofT (packB (rs.map tx)))
    rwa [hw] at this
  rcases h4 rfl keep with ⟨h', z', hv⟩ | ⟨h', z', hv⟩
  · exact ⟨c, h', z', pk, hv, Nat.le_succ _, .inl rfl⟩
  · exact ⟨c + 1, h', z', _, hv, Nat.le_refl _, .inr (by simp)⟩
end
abbrev logCell (lb db c h z : Nat) (lo : Bool) : Res := rCell true lb [.pointer (some ⟨db, 0, none⟩), .int .i64 (c : Int), .int .i64 (h : Int), .int .i64 (z : Int), .bool lo] 70
section
variable {B : Nat} (ad : Nat → Addr) (lb db : Nat) (d : PDisk) (Sd : Nat → Prop) (c h z : Nat) (pk : List (List Tx)) (rv : Value) (rs : List ByteArray)
theorem addL_spec (hb : (packT (rs.map tx)).length ≤ 90000000) (v : Valid d.now.length d.now c h z pk) (q : Quiet d) (hc : c + 1 < ten10) :
    Spec Tryz.prog 20 #[.pointer (some ⟨lb, 0, none⟩), rv] [logCell lb db c h z false, rDisk B db d Sd, rTab, rEnv B ad [2, 3, 9, 15], rRows true rv 9 1 strC rs] fun u L =>
      (¬ z + (packB (rs.map tx)).length ≤ halfOf d.now.length * 64 ∧ u = errV ad 9 ∧ L = [logCell lb db c h z false, rDisk B db d Sd, rTab, rEnv B ad [2, 3, 9, 15], rRows true rv 9 1 strC rs]) ∨
      (∃ (d' : PDisk) (S' : Nat → Prop) (c' h' z' : Nat) (pk' : List (List Tx)), Done d.now.length d d' c c' h' z' pk' (pk.flatten ++ rs.map tx) (pk.length + 1) ∧ u = .nilIface ∧ L = [logCell lb db c' h' z' false, rDisk B db d' S', rTab, rEnv B ad [2, 3, 9, 15], rRows true rv 9 1 strC rs]) ∨
      (∃ (d' : PDisk) (S' : Nat → Prop), Went d.now.length d d' c pk.flatten (pk.flatten ++ rs.map tx) ∧ u = errV ad 15 ∧ L = [logCell lb db c h z true, rDisk B db d' S', rTab, rEnv B ad [2, 3, 9, 15], rRows true rv 9 1 strC rs]) := by
  refine (add_ok ad lb db d Sd c h z rv rs hb v.n8 v.n4 v.hh v.hz hc (by rw [q.waits]; exact Nat.zero_le _)).mono ?_
  rintro u L (⟨h1, rfl, rfl⟩ | ⟨h1, rfl, rfl⟩ | ⟨d', S', h1, h2, hw, rfl, rfl⟩ | ⟨d', S', h1, h2, hw, rfl, rfl⟩)
  · rw [size_of] at h1
    exact .inl ⟨h1, rfl, rfl⟩
  · obtain rfl := pk_empty h1
    exact .inr (.inl ⟨d, Sd, c, h, z, pk, ⟨v, q, by simp, Nat.le_succ _, Nat.le_succ _, fun e => e⟩, rfl, rfl⟩)
  · exact .inr (.inl ⟨d', S', _, _, _, _, put_done v q ⟨.inl ⟨rfl, rfl, rfl⟩⟩ hb h2 hc hw, rfl, rfl⟩)
  · exact .inr (.inr ⟨d', S', put_went v q ⟨.inl ⟨rfl, rfl, rfl⟩⟩ hb h2 hc hw, rfl, rfl⟩)
theorem clearL_spec (hb : (packT (rs.map tx)).length ≤ 90000000) (v : Valid d.now.length d.now c h z pk) (q : Quiet d) (hc : c + 1 < ten10) :
    Spec Tryz.prog 36 #[.pointer (some ⟨lb, 0, none⟩), rv] [logCell lb db c h z false, rDisk B db d Sd, rTab, rEnv B ad [2, 3, 9, 15], rRows true rv 9 1 strC rs] fun u L =>
      (¬ (packB (rs.map tx)).length ≤ halfOf d.now.length * 64 ∧ u = errV ad 9 ∧ L = [logCell lb db c h z false, rDisk B db d Sd, rTab, rEnv B ad [2, 3, 9, 15], rRows true rv 9 1 strC rs]) ∨
      (∃ (d' : PDisk) (S' : Nat → Prop) (c' h' z' : Nat) (pk' : List (List Tx)), Done d.now.length d d' c c' h' z' pk' (rs.map tx) 1 ∧ u = .nilIface ∧ L = [logCell lb db c' h' z' false, rDisk B db d' S', rTab, rEnv B ad [2, 3, 9, 15], rRows true rv 9 1 strC rs]) ∨
      (∃ (d' : PDisk) (S' : Nat → Prop), Went d.now.length d d' c pk.flatten (rs.map tx) ∧ u = errV ad 15 ∧ L = [logCell lb db c h z true, rDisk B db d' S', rTab, rEnv B ad [2, 3, 9, 15], rRows true rv 9 1 strC rs]) := by
  refine (clear_ok ad lb db d Sd c h z rv rs hb v.n8 v.n4 v.hh v.hz hc (by rw [q.waits]; exact Nat.zero_le _)).mono ?_
  rintro u L (⟨h1, rfl, rfl⟩ | ⟨d', S', h2, hw, rfl, rfl⟩ | ⟨d', S', h2, hw, rfl, rfl⟩)
  · rw [size_of] at h1
    exact .inl ⟨h1, rfl, rfl⟩
  · exact .inr (.inl ⟨d', S', _, _, _, _, put_done v q (pk1 := []) ⟨.inr ⟨rfl, rfl, rfl⟩⟩ hb (by omega) hc hw, rfl, rfl⟩)
  · exact .inr (.inr ⟨d', S', put_went v q (pk1 := []) ⟨.inr ⟨rfl, rfl, rfl⟩⟩ hb (by omega) hc hw, rfl, rfl⟩)
end
/-! ### Records -/
abbrev Rec := Bool × (Option Addr × Nat × List ByteArray) × Unit
def slV (x : Option Addr × Nat × List ByteArray) : Value := .slice x.1 x.2.2.length x.2.1
def recC (x : Rec) : List Value := [.bool x.1, slV x.2.1]
theorem recC_len (x : Rec) : (recC x).length = 2 := rfl
abbrev recL (x : Rec) : List ByteArray := x.2.1.2.2
/-- Read-only resources, one for each member of a list. -/
def rSub {α : Type} (f : α → Res) (l : List α) : Res :=
  ⟨false, fun b => ∃ x ∈ l, (f x).foot b, fun w => ∀ x ∈ l, (f x).fact w, fun w w' hf hs hb x hx => (f x).stab w w' (hf x hx) hs fun b hb' => hb b ⟨x, hx, hb'⟩, fun w b hf ⟨x, hx, hb⟩ => (f x).alive w b (hf x hx) hb⟩
theorem Own.inner {α : Type} {f : α → Res} {l : List α} {w0 w : World} {E : Ent} {L : List Res} (ho : Own w0 E L w) (i : Nat) (hi : L[i]? = some (rSub f l)) {x : α} {j : Nat} (hx : l[j]? = some x) (hr : (f x).wr = false) : Own w0 E (f x :: L) w :=
  ho.addRO i hi rfl hr (fun w hw => hw x (List.mem_of_getElem? hx)) fun b hb => ⟨x, List.mem_of_getElem? hx, hb⟩
abbrev recR (x : Rec) : Res := rArg (slV x.2.1) 1 strC (recL x)

/- logp: contracts by what is owned (printed by walk.py). -/
theorem act_add {B : Nat} (ad : Nat → Addr) (lb db : Nat) (d : PDisk) (Sd : Nat → Prop) (c hh zz : Nat) (pk : List (List Tx)) (rv : Value) (rs : List ByteArray) (hb : (packT (rs.map tx)).length ≤ 90000000) (hrl : rs.length < 1000000) (hv : Valid d.now.length d.now c hh zz pk) (hq : Quiet d) (hc : c + 1 < ten10)  : Spec Tryz.prog 16 #[.pointer (some ⟨lb, 0, none⟩), .agg #[.bool false, rv]] [rCell true lb [.pointer (some ⟨db, 0, none⟩), .int .i64 (c : Int), .int .i64 (hh : Int), .int .i64 (zz : Int), .bool false] 70, rDisk B db d Sd, rTab, rEnv B ad [2, 3, 9, 15], rArg rv 1 strC rs] (fun u L => (¬ zz + (packB (rs.map tx)).length ≤ halfOf d.now.length * 64 ∧ u = errV ad 9 ∧ L = [logCell lb db c hh zz false, rDisk B db d Sd, rTab, rEnv B ad [2, 3, 9, 15], rArg rv 1 strC rs]) ∨ (∃ (d' : PDisk) (S' : Nat → Prop) (c' h' z' : Nat) (pk' : List (List Tx)), Done d.now.length d d' c c' h' z' pk' (pk.flatten ++ rs.map tx) (pk.length + 1) ∧ u = .nilIface ∧ L = [logCell lb db c' h' z' false, rDisk B db d' S', rTab, rEnv B ad [2, 3, 9, 15], rArg rv 1 strC rs]) ∨ (∃ (d' : PDisk) (S' : Nat → Prop), Went d.now.length d d' c pk.flatten (pk.flatten ++ rs.map tx) ∧ u = errV ad 15 ∧ L = [logCell lb db c hh zz true, rDisk B db d' S', rTab, rEnv B ad [2, 3, 9, 15], rArg rv 1 strC rs])) := by
  refine spec_of (#[.pointer (some ⟨lb, 0, none⟩), .agg #[.bool false, rv], undef, undef, undef, undef, undef, undef, undef, undef, undef, undef, undef, undef, undef, undef, undef]) Tryz.func16 rfl (by kernel_rfl) fun E w0 w h => ?_
  refine c_seq ?_
  refine c_reg ?_
  refine sq_new rfl (fun b => .pointer (some ⟨b, 0, none⟩)) [.bool false, rv] 47 (fun _ => by kernel_rfl) h ?_; intro k1 w h
  refine sq_p (.nilIface) rfl (fun _ => by kernel_rfl) ?_
  refine lnil ?_
  refine thn_n ?_
  refine c_seq ?_
  refine c_seq ?_
  refine c_reg ?_
  refine sq_p (.pointer (some ⟨k1, 0, none⟩)) rfl (fun _ => by kernel_rfl) ?_
  refine sq_q rfl h (g_ld 0 [.bool false] (.bool false) (by kernel_rfl) 0 rfl) ?_
  refine lnil ?_
  refine thn_n ?_
  refine c_false (by kernel_rfl) ?_
  refine c_skip ?_
  refine thn_n ?_
  refine c_seq ?_
  refine c_reg ?_
  refine sq_p (.pointer (some ⟨lb, 0, none⟩)) rfl (fun _ => by kernel_rfl) ?_
  refine sq_p (.pointer (some ⟨k1, 1, none⟩)) rfl (fun _ => by kernel_rfl) ?_
  refine sq_q rfl h (g_ld 1 [rv] (rv) (by kernel_rfl) 0 rfl) ?_
  refine sq_call #[rv] [5] rfl (own_spec rv rs hrl) (fun _ => by kernel_rfl) h ?_; rintro ov2 L_ w ⟨_, rfl, rfl⟩ h
  refine sq_call #[.pointer (some ⟨lb, 0, none⟩), ov2] [3, 3, 3, 3, 1] rfl (addL_spec ad lb db d Sd c hh zz pk ov2 rs hb hv hq hc) (fun _ => by kernel_rfl) h ?_; rintro v_ L_ w (⟨hdn9, rfl, rfl⟩ | ⟨dd3, Sx4, cx5, hx_6, zx7, pkx8, hdn9, rfl, rfl⟩ | ⟨dd3, Sx4, hdn9, rfl, rfl⟩) h
  · skip
    refine sq_p (errV ad 9) rfl (fun _ => by kernel_rfl) ?_
    refine lnil ?_
    refine thn_n ?_
    refine c_ret ?_
    refine ret_end [errV ad 9] [0, 0, 0, 0, 1] h (by kernel_rfl) (res_t (by kernel_rfl) res_n) ?_
    exact .inl ⟨hdn9, rfl, rfl⟩
  · skip
    refine sq_p (.nilIface) rfl (fun _ => by kernel_rfl) ?_
    refine lnil ?_
    refine thn_n ?_
    refine c_ret ?_
    refine ret_end [.nilIface] [0, 0, 0, 0, 1] h (by kernel_rfl) (res_t (by kernel_rfl) res_n) ?_
    exact .inr (.inl ⟨_, _, _, _, _, _, hdn9, rfl, rfl⟩)
  · skip
    refine sq_p (errV ad 15) rfl (fun _ => by kernel_rfl) ?_
    refine lnil ?_
    refine thn_n ?_
    refine c_ret ?_
    refine ret_end [errV ad 15] [0, 0, 0, 0, 1] h (by kernel_rfl) (res_t (by kernel_rfl) res_n) ?_
    exact .inr (.inr ⟨_, _, hdn9, rfl, rfl⟩)
theorem act_add_lost {B : Nat} (ad : Nat → Addr) (lb db : Nat) (d : PDisk) (Sd : Nat → Prop) (c hh zz : Nat) (pk : List (List Tx)) (rv : Value) (rs : List ByteArray) (hb : (packT (rs.map tx)).length ≤ 90000000) (hrl : rs.length < 1000000)  : Spec Tryz.prog 16 #[.pointer (some ⟨lb, 0, none⟩), .agg #[.bool false, rv]] [rCell true lb [.pointer (some ⟨db, 0, none⟩), .int .i64 (c : Int), .int .i64 (hh : Int), .int .i64 (zz : Int), .bool true] 70, rDisk B db d Sd, rTab, rEnv B ad [2, 3, 9, 15], rArg rv 1 strC rs] (fun u L => u = errV ad 15 ∧ L = [logCell lb db c hh zz true, rDisk B db d Sd, rTab, rEnv B ad [2, 3, 9, 15], rArg rv 1 strC rs]) := by
  refine spec_of (#[.pointer (some ⟨lb, 0, none⟩), .agg #[.bool false, rv], undef, undef, undef, undef, undef, undef, undef, undef, undef, undef, undef, undef, undef, undef, undef]) Tryz.func16 rfl (by kernel_rfl) fun E w0 w h => ?_
  refine c_seq ?_
  refine c_reg ?_
  refine sq_new rfl (fun b => .pointer (some ⟨b, 0, none⟩)) [.bool false, rv] 47 (fun _ => by kernel_rfl) h ?_; intro k1 w h
  refine sq_p (.nilIface) rfl (fun _ => by kernel_rfl) ?_
  refine lnil ?_
  refine thn_n ?_
  refine c_seq ?_
  refine c_seq ?_
  refine c_reg ?_
  refine sq_p (.pointer (some ⟨k1, 0, none⟩)) rfl (fun _ => by kernel_rfl) ?_
  refine sq_q rfl h (g_ld 0 [.bool false] (.bool false) (by kernel_rfl) 0 rfl) ?_
  refine lnil ?_
  refine thn_n ?_
  refine c_false (by kernel_rfl) ?_
  refine c_skip ?_
  refine thn_n ?_
  refine c_seq ?_
  refine c_reg ?_
  refine sq_p (.pointer (some ⟨lb, 0, none⟩)) rfl (fun _ => by kernel_rfl) ?_
  refine sq_p (.pointer (some ⟨k1, 1, none⟩)) rfl (fun _ => by kernel_rfl) ?_
  refine sq_q rfl h (g_ld 1 [rv] (rv) (by kernel_rfl) 0 rfl) ?_
  refine sq_call #[rv] [5] rfl (own_spec rv rs hrl) (fun _ => by kernel_rfl) h ?_; rintro ov2 L_ w ⟨_, rfl, rfl⟩ h
  refine sq_call #[.pointer (some ⟨lb, 0, none⟩), ov2] [3, 3, 3, 3, 1] rfl (add_lost ad lb db d Sd c hh zz ov2 rs hb) (fun _ => by kernel_rfl) h ?_; rintro v_ L_ w ⟨rfl, rfl⟩ h
  refine sq_p (errV ad 15) rfl (fun _ => by kernel_rfl) ?_
  refine lnil ?_
  refine thn_n ?_
  refine c_ret ?_
  refine ret_end [errV ad 15] [0, 0, 0, 0, 1] h (by kernel_rfl) (res_t (by kernel_rfl) res_n) ?_
  exact ⟨rfl, rfl⟩
theorem act_clear {B : Nat} (ad : Nat → Addr) (lb db : Nat) (d : PDisk) (Sd : Nat → Prop) (c hh zz : Nat) (pk : List (List Tx)) (rv : Value) (rs : List ByteArray) (hb : (packT (rs.map tx)).length ≤ 90000000) (hrl : rs.length < 1000000) (hv : Valid d.now.length d.now c hh zz pk) (hq : Quiet d) (hc : c + 1 < ten10)  : Spec Tryz.prog 16 #[.pointer (some ⟨lb, 0, none⟩), .agg #[.bool true, rv]] [rCell true lb [.pointer (some ⟨db, 0, none⟩), .int .i64 (c : Int), .int .i64 (hh : Int), .int .i64 (zz : Int), .bool false] 70, rDisk B db d Sd, rTab, rEnv B ad [2, 3, 9, 15], rArg rv 1 strC rs] (fun u L => (¬ (packB (rs.map tx)).length ≤ halfOf d.now.length * 64 ∧ u = errV ad 9 ∧ L = [logCell lb db c hh zz false, rDisk B db d Sd, rTab, rEnv B ad [2, 3, 9, 15], rArg rv 1 strC rs]) ∨ (∃ (d' : PDisk) (S' : Nat → Prop) (c' h' z' : Nat) (pk' : List (List Tx)), Done d.now.length d d' c c' h' z' pk' (rs.map tx) 1 ∧ u = .nilIface ∧ L = [logCell lb db c' h' z' false, rDisk B db d' S', rTab, rEnv B ad [2, 3, 9, 15], rArg rv 1 strC rs]) ∨ (∃ (d' : PDisk) (S' : Nat → Prop), Went d.now.length d d' c pk.flatten (rs.map tx) ∧ u = errV ad 15 ∧ L = [logCell lb db c hh zz true, rDisk B db d' S', rTab, rEnv B ad [2, 3, 9, 15], rArg rv 1 strC rs])) := by
  refine spec_of (#[.pointer (some ⟨lb, 0, none⟩), .agg #[.bool true, rv], undef, undef, undef, undef, undef, undef, undef, undef, undef, undef, undef, undef, undef, undef, undef]) Tryz.func16 rfl (by kernel_rfl) fun E w0 w h => ?_
  refine c_seq ?_
  refine c_reg ?_
  refine sq_new rfl (fun b => .pointer (some ⟨b, 0, none⟩)) [.bool true, rv] 47 (fun _ => by kernel_rfl) h ?_; intro k1 w h
  refine sq_p (.nilIface) rfl (fun _ => by kernel_rfl) ?_
  refine lnil ?_
  refine thn_n ?_
  refine c_seq ?_
  refine c_seq ?_
  refine c_reg ?_
  refine sq_p (.pointer (some ⟨k1, 0, none⟩)) rfl (fun _ => by kernel_rfl) ?_
  refine sq_q rfl h (g_ld 0 [.bool true] (.bool true) (by kernel_rfl) 0 rfl) ?_
  refine lnil ?_
  refine thn_n ?_
  refine c_true (by kernel_rfl) ?_
  refine c_seq ?_
  refine c_reg ?_
  refine sq_p (.pointer (some ⟨lb, 0, none⟩)) rfl (fun _ => by kernel_rfl) ?_
  refine sq_p (.pointer (some ⟨k1, 1, none⟩)) rfl (fun _ => by kernel_rfl) ?_
  refine sq_q rfl h (g_ld 1 [rv] (rv) (by kernel_rfl) 0 rfl) ?_
  refine sq_call #[rv] [5] rfl (own_spec rv rs hrl) (fun _ => by kernel_rfl) h ?_; rintro ov2 L_ w ⟨_, rfl, rfl⟩ h
  refine sq_call #[.pointer (some ⟨lb, 0, none⟩), ov2] [3, 3, 3, 3, 1] rfl (clearL_spec ad lb db d Sd c hh zz pk ov2 rs hb hv hq hc) (fun _ => by kernel_rfl) h ?_; rintro v_ L_ w (⟨hdn9, rfl, rfl⟩ | ⟨dd3, Sx4, cx5, hx_6, zx7, pkx8, hdn9, rfl, rfl⟩ | ⟨dd3, Sx4, hdn9, rfl, rfl⟩) h
  · skip
    refine sq_p (errV ad 9) rfl (fun _ => by kernel_rfl) ?_
    refine lnil ?_
    refine thn_n ?_
    refine c_ret ?_
    refine thn_r ?_
    refine ret_end [errV ad 9] [0, 0, 0, 0, 1] h (by kernel_rfl) (res_t (by kernel_rfl) res_n) ?_
    exact .inl ⟨hdn9, rfl, rfl⟩
  · skip
    refine sq_p (.nilIface) rfl (fun _ => by kernel_rfl) ?_
    refine lnil ?_
    refine thn_n ?_
    refine c_ret ?_
    refine thn_r ?_
    refine ret_end [.nilIface] [0, 0, 0, 0, 1] h (by kernel_rfl) (res_t (by kernel_rfl) res_n) ?_
    exact .inr (.inl ⟨_, _, _, _, _, _, hdn9, rfl, rfl⟩)
  · skip
    refine sq_p (errV ad 15) rfl (fun _ => by kernel_rfl) ?_
    refine lnil ?_
    refine thn_n ?_
    refine c_ret ?_
    refine thn_r ?_
    refine ret_end [errV ad 15] [0, 0, 0, 0, 1] h (by kernel_rfl) (res_t (by kernel_rfl) res_n) ?_
    exact .inr (.inr ⟨_, _, hdn9, rfl, rfl⟩)
theorem act_clear_lost {B : Nat} (ad : Nat → Addr) (lb db : Nat) (d : PDisk) (Sd : Nat → Prop) (c hh zz : Nat) (pk : List (List Tx)) (rv : Value) (rs : List ByteArray) (hb : (packT (rs.map tx)).length ≤ 90000000) (hrl : rs.length < 1000000)  : Spec Tryz.prog 16 #[.pointer (some ⟨lb, 0, none⟩), .agg #[.bool true, rv]] [rCell true lb [.pointer (some ⟨db, 0, none⟩), .int .i64 (c : Int), .int .i64 (hh : Int), .int .i64 (zz : Int), .bool true] 70, rDisk B db d Sd, rTab, rEnv B ad [2, 3, 9, 15], rArg rv 1 strC rs] (fun u L => u = errV ad 15 ∧ L = [logCell lb db c hh zz true, rDisk B db d Sd, rTab, rEnv B ad [2, 3, 9, 15], rArg rv 1 strC rs]) := by
  refine spec_of (#[.pointer (some ⟨lb, 0, none⟩), .agg #[.bool true, rv], undef, undef, undef, undef, undef, undef, undef, undef, undef, undef, undef, undef, undef, undef, undef]) Tryz.func16 rfl (by kernel_rfl) fun E w0 w h => ?_
  refine c_seq ?_
  refine c_reg ?_
  refine sq_new rfl (fun b => .pointer (some ⟨b, 0, none⟩)) [.bool true, rv] 47 (fun _ => by kernel_rfl) h ?_; intro k1 w h
  refine sq_p (.nilIface) rfl (fun _ => by kernel_rfl) ?_
  refine lnil ?_
  refine thn_n ?_
  refine c_seq ?_
  refine c_seq ?_
  refine c_reg ?_
  refine sq_p (.pointer (some ⟨k1, 0, none⟩)) rfl (fun _ => by kernel_rfl) ?_
  refine sq_q rfl h (g_ld 0 [.bool true] (.bool true) (by kernel_rfl) 0 rfl) ?_
  refine lnil ?_
  refine thn_n ?_
  refine c_true (by kernel_rfl) ?_
  refine c_seq ?_
  refine c_reg ?_
  refine sq_p (.pointer (some ⟨lb, 0, none⟩)) rfl (fun _ => by kernel_rfl) ?_
  refine sq_p (.pointer (some ⟨k1, 1, none⟩)) rfl (fun _ => by kernel_rfl) ?_
  refine sq_q rfl h (g_ld 1 [rv] (rv) (by kernel_rfl) 0 rfl) ?_
  refine sq_call #[rv] [5] rfl (own_spec rv rs hrl) (fun _ => by kernel_rfl) h ?_; rintro ov2 L_ w ⟨_, rfl, rfl⟩ h
  refine sq_call #[.pointer (some ⟨lb, 0, none⟩), ov2] [3, 3, 3, 3, 1] rfl (clear_lost ad lb db d Sd c hh zz ov2 rs hb) (fun _ => by kernel_rfl) h ?_; rintro v_ L_ w ⟨rfl, rfl⟩ h
  refine sq_p (errV ad 15) rfl (fun _ => by kernel_rfl) ?_
  refine lnil ?_
  refine thn_n ?_
  refine c_ret ?_
  refine thn_r ?_
  refine ret_end [errV ad 15] [0, 0, 0, 0, 1] h (by kernel_rfl) (res_t (by kernel_rfl) res_n) ?_
  exact ⟨rfl, rfl⟩
theorem next_add (nv rv : Value) (ns rs : List ByteArray) (hnl : ns.length < 1000000) (hrl : rs.length < 1000000)  : Spec Tryz.prog 15 #[nv, .agg #[.bool false, rv]] [rArg nv 1 strC ns, rArg rv 1 strC rs] (fun u L => ∃ v' : Value, u = v' ∧ L = [rArg nv 1 strC ns, rArg rv 1 strC rs, rRows true v' 9 1 strC (ns ++ rs)]) := by
  refine spec_of (#[nv, .agg #[.bool false, rv], undef, undef, undef, undef, undef, undef, undef, undef, undef, undef, undef, undef, undef, undef]) Tryz.func15 rfl (by kernel_rfl) fun E w0 w h => ?_
  refine c_seq ?_
  refine c_reg ?_
  refine sq_new rfl (fun b => .pointer (some ⟨b, 0, none⟩)) [.bool false, rv] 47 (fun _ => by kernel_rfl) h ?_; intro k1 w h
  refine sq_p (.slice none 0 0) rfl (fun _ => by kernel_rfl) ?_
  refine lnil ?_
  refine thn_n ?_
  refine c_seq ?_
  refine c_reg ?_
  refine sq_p (.slice none 0 0) rfl (fun _ => by kernel_rfl) ?_
  refine lnil ?_
  refine thn_n ?_
  refine c_seq ?_
  refine c_seq ?_
  refine c_reg ?_
  refine sq_p (.pointer (some ⟨k1, 0, none⟩)) rfl (fun _ => by kernel_rfl) ?_
  refine sq_q rfl h (g_ld 0 [.bool false] (.bool false) (by kernel_rfl) 0 rfl) ?_
  refine sq_p (.bool true) rfl (fun _ => by kernel_rfl) ?_
  refine lnil ?_
  refine thn_n ?_
  refine c_true (by kernel_rfl) ?_
  refine c_reg ?_
  refine sq_p (.slice none 0 0) rfl (fun _ => by kernel_rfl) ?_
  refine sq_p (nv) rfl (fun _ => by kernel_rfl) ?_
  have h := h.nilRows 9 1 strC
  refine sq_appw rfl (by kernel_rfl) strC_len (fun _ => rfl) h 0 rfl 2 rfl (slRd_arg strC_len (by decide)) (by (try simp only [List.length_append, List.length_cons, List.length_nil, List.length_map]); omega) ?_; intro v2 w h
  refine sq_p (v2) rfl (fun _ => by kernel_rfl) ?_
  refine lnil ?_
  refine thn_n ?_
  refine c_seq ?_
  refine c_reg ?_
  refine sq_p (v2) rfl (fun _ => by kernel_rfl) ?_
  refine sq_p (.pointer (some ⟨k1, 1, none⟩)) rfl (fun _ => by kernel_rfl) ?_
  refine sq_q rfl h (g_ld 1 [rv] (rv) (by kernel_rfl) 1 rfl) ?_
  refine sq_appw rfl (by kernel_rfl) strC_len (fun _ => rfl) h 0 rfl 3 rfl (slRd_arg strC_len (by decide)) (by (try simp only [List.length_append, List.length_cons, List.length_nil, List.length_map]); omega) ?_; intro v3 w h
  refine sq_p (v3) rfl (fun _ => by kernel_rfl) ?_
  refine lnil ?_
  refine thn_n ?_
  refine c_ret ?_
  refine ret_end [v3] [2, 2, 0] h (by kernel_rfl) (res_t (by kernel_rfl) res_n) ?_
  exact ⟨_, rfl, rfl⟩
theorem next_clear (nv rv : Value) (ns rs : List ByteArray) (hnl : ns.length < 1000000) (hrl : rs.length < 1000000)  : Spec Tryz.prog 15 #[nv, .agg #[.bool true, rv]] [rArg nv 1 strC ns, rArg rv 1 strC rs] (fun u L => ∃ v' : Value, u = v' ∧ L = [rArg nv 1 strC ns, rArg rv 1 strC rs, rRows true v' 9 1 strC rs]) := by
  refine spec_of (#[nv, .agg #[.bool true, rv], undef, undef, undef, undef, undef, undef, undef, undef, undef, undef, undef, undef, undef, undef]) Tryz.func15 rfl (by kernel_rfl) fun E w0 w h => ?_
  refine c_seq ?_
  refine c_reg ?_
  refine sq_new rfl (fun b => .pointer (some ⟨b, 0, none⟩)) [.bool true, rv] 47 (fun _ => by kernel_rfl) h ?_; intro k1 w h
  refine sq_p (.slice none 0 0) rfl (fun _ => by kernel_rfl) ?_
  refine lnil ?_
  refine thn_n ?_
  refine c_seq ?_
  refine c_reg ?_
  refine sq_p (.slice none 0 0) rfl (fun _ => by kernel_rfl) ?_
  refine lnil ?_
  refine thn_n ?_
  refine c_seq ?_
  refine c_seq ?_
  refine c_reg ?_
  refine sq_p (.pointer (some ⟨k1, 0, none⟩)) rfl (fun _ => by kernel_rfl) ?_
  refine sq_q rfl h (g_ld 0 [.bool true] (.bool true) (by kernel_rfl) 0 rfl) ?_
  refine sq_p (.bool false) rfl (fun _ => by kernel_rfl) ?_
  refine lnil ?_
  refine thn_n ?_
  refine c_false (by kernel_rfl) ?_
  refine c_skip ?_
  refine thn_n ?_
  refine c_seq ?_
  refine c_reg ?_
  refine sq_p (.slice none 0 0) rfl (fun _ => by kernel_rfl) ?_
  refine sq_p (.pointer (some ⟨k1, 1, none⟩)) rfl (fun _ => by kernel_rfl) ?_
  refine sq_q rfl h (g_ld 1 [rv] (rv) (by kernel_rfl) 0 rfl) ?_
  have h := h.nilRows 9 1 strC
  refine sq_appw rfl (by kernel_rfl) strC_len (fun _ => rfl) h 0 rfl 3 rfl (slRd_arg strC_len (by decide)) (by (try simp only [List.length_append, List.length_cons, List.length_nil, List.length_map]); omega) ?_; intro v2 w h
  refine sq_p (v2) rfl (fun _ => by kernel_rfl) ?_
  refine lnil ?_
  refine thn_n ?_
  refine c_ret ?_
  refine ret_end [v2] [2, 2, 0] h (by kernel_rfl) (res_t (by kernel_rfl) res_n) ?_
  exact ⟨_, rfl, rfl⟩

/- wordy's sum. Over no program. -/
def wordR (rs : List ByteArray) : Nat := (rs.map fun r => 1 + r.size / 10).sum
def wordN (l : List Rec) : Nat := (l.map fun x => 5 + wordR (recL x)).sum
theorem wordR_take (rs : List ByteArray) (i : Nat) : wordR (rs.take i) ≤ wordR rs := by
  have h : wordR rs = wordR (rs.take i) + wordR (rs.drop i) := by
    unfold wordR; rw [← List.sum_append, ← List.map_append, List.take_append_drop]
  omega
theorem wordN_take (l : List Rec) (i : Nat) : wordN (l.take i) ≤ wordN l := by
  have h : wordN l = wordN (l.take i) + wordN (l.drop i) := by
    unfold wordN; rw [← List.sum_append, ← List.map_append, List.take_append_drop]
  omega
theorem wordR_next {rs : List ByteArray} {i : Nat} {x : ByteArray} (hx : rs[i]? = some x) : wordR (rs.take i) + (1 + x.size / 10) = wordR (rs.take (i + 1)) := by
  obtain ⟨h, rfl⟩ := List.getElem?_eq_some_iff.1 hx
  unfold wordR
  rw [List.take_succ_eq_append_getElem h, List.map_append, List.sum_append]
  simp
theorem wordN_next {l : List Rec} {i : Nat} {x : Rec} (hx : l[i]? = some x) : wordN (l.take i) + (5 + wordR (recL x)) = wordN (l.take (i + 1)) := by
  obtain ⟨h, rfl⟩ := List.getElem?_eq_some_iff.1 hx
  unfold wordN
  rw [List.take_succ_eq_append_getElem h, List.map_append, List.sum_append]
  simp
theorem wordR_cnt : ∀ rs : List ByteArray, rs.length ≤ wordR rs
  | [] => Nat.zero_le _
  | r :: rs => by
    have h := wordR_cnt rs
    unfold wordR at h ⊢
    rw [List.map_cons, List.sum_cons, List.length_cons]
    omega
theorem wordN_cnt : ∀ l : List Rec, l.length ≤ wordN l
  | [] => Nat.zero_le _
  | r :: l => by
    have h := wordN_cnt l
    unfold wordN at h ⊢
    rw [List.map_cons, List.sum_cons, List.length_cons]
    omega

end Go.Proofs.YtemnibnlgimpkaaGreatDoor
