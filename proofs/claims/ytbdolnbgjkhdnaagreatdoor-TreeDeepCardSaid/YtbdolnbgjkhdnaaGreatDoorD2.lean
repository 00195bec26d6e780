/- Lemmas: part 2. -/
import Derived.Test.YtbdolnbgjkhdnaaGreatDoorD1
import Derived.LaidEql
import Derived.Stop.Asserts
import Derived.RowKitTokens
import Derived.Deep.MidRow
import Derived.Maps.RangeRun
import Derived.Maps.RangeWalk
import Derived.Lib.SliceRun
import Derived.Laws.IdiomCopy
import Derived.Laws.Concat
import Derived.Deep.QuietTactic
import Derived.BigQuiet
import Derived.IntWalk
import Derived.WideKeyRuns
import Derived.Lib.ConvBytes
import Derived.Deep.RegionHeld3
set_option linter.all false
set_option maxRecDepth 100000
set_option maxHeartbeats 20000000
namespace Go.Proofs.YtbdolnbgjkhdnaaGreatDoor
open Go.RowKit
section
/- errors.As and errors.Is at the errors of package api, and at an api.Fault, by contracts; after the guide's worked Toyas and Sentry. -/
open Go.RowKit Go.Extern.Stop Go.Stop Go.Extern

/-- errors.As(nil, target). -/
theorem as_nil (t : Value) (w : World) :
    Calls Tryz.prog 38 #[.nilIface, t] w fun e w' => e = .returned (.bool false) ∧ w' = w := by
  go_enter Tryz.func38, Tryz.ntmps38
  go_wp2
  go_ret
  exact ⟨rfl, rfl⟩

/-! ### CLOSED FACTS ON THE MODEL's ENTRIES FOR internal/reflectlite, at this program's types: 25: *p.E · 27: **p.E · 23: error · 45: reflectlite's rtype · 1: how many package-level variables the dump has -/
theorem fa_valueOf27 (t : Addr) (w : World) : (ReflectliteValue.unpack (.iface 102 (.pointer (some t)))).run Tryz.prog w
    = .ok (.agg #[.pointer (some ⟨22, 102, none⟩), .pointer (some ⟨w.heap.size, 0, none⟩), .int .u64 150]) (w.alloc (.cells #[.pointer (some t)] 102)) := by kernel_rfl
theorem fa_type27 (a : Addr) (w : World) : (ReflectliteValue.methodAny (ReflectliteValue.valueError "reflectlite.Value.Type" 0) (fun t _ _ _ => ReflectliteType.toType t) #[.agg #[.pointer (some ⟨22, 102, none⟩), .pointer (some a), .int .u64 150]]).run Tryz.prog w
    = .ok (.iface 160 (.agg #[.pointer (some ⟨22, 102, none⟩)])) w := by kernel_rfl
theorem fa_methodKind (h : Value) (w : World) : (Go.method 367 160 (.agg #[h]) "Kind").run Tryz.prog w = .ok (162, h) w := by kernel_rfl
theorem fa_kind27 (w : World) : ((ReflectliteType.abiMethod fun t => (fun a : Nat => Value.int IntKind.u8 (a : Int)) <$> Rtype.kind t) #[.pointer (some ⟨22, 102, none⟩)]).run Tryz.prog w = .ok (.int .u8 22) w := by kernel_rfl
theorem fa_kind25 (w : World) : ((ReflectliteType.abiMethod fun t => (fun a : Nat => Value.int IntKind.u8 (a : Int)) <$> Rtype.kind t) #[.pointer (some ⟨22, 100, none⟩)]).run Tryz.prog w = .ok (.int .u8 22) w := by kernel_rfl

/-! ### THE ENTRIES THAT READ OR WRITE MEMORY: laws with a premise on the cell (after Derived/Lib/ReflectliteSlice.lean's manner: each unfolding a lemma of its own, by rfl) -/
theorem rlm (z : Sem Value) (f : TypeId → Addr → Nat → Nat → Sem Value) (v : Value) :
    ReflectliteValue.method z f #[v] = (do match ← ReflectliteValue.parts v with | none => z | some (t, a, fl) => f t a fl (fl % 32)) := rfl
theorem fa_parts27 (a : Addr) (w : World) : (ReflectliteValue.parts (.agg #[.pointer (some ⟨22, 102, none⟩), .pointer (some a), .int .u64 150])).run Tryz.prog w = .ok (some (102, a, 150)) w := by kernel_rfl
/-- (Value).IsNil at the Value of a **p.E that is not nil. -/
theorem fa_isNil27 (a p : Addr) (W : World) (ha : W.cell? a = some (.pointer (some p))) :
    (ReflectliteValue.method (ReflectliteValue.valueError "reflectlite.Value.IsNil" 0) ReflectliteValue.isNil #[.agg #[.pointer (some ⟨22, 102, none⟩), .pointer (some a), .int .u64 150]]).run Tryz.prog W = .ok (.bool false) W := by
  rw [rlm]
  simp only [Sem.run_bind, fa_parts27, Result.andThen]
  simp [ReflectliteValue.isNil, loadVar, isAgg, underlying, Tryz.underlying102, ha, Result.andThen]

theorem fa_methodElem (h : Value) (w : World) : (Go.method 367 160 (.agg #[h]) "Elem").run Tryz.prog w = .ok (174, .agg #[h]) w := by kernel_rfl
theorem fa_methodImplements (h : Value) (w : World) : (Go.method 367 160 (.agg #[h]) "Implements").run Tryz.prog w = .ok (175, .agg #[h]) w := by kernel_rfl
theorem fa_methodAssignableTo (h : Value) (w : World) : (Go.method 367 160 (.agg #[h]) "AssignableTo").run Tryz.prog w = .ok (172, .agg #[h]) w := by kernel_rfl
theorem fa_elem27 (w : World) : (ReflectliteType.method ReflectliteType.elem #[.agg #[.pointer (some ⟨22, 102, none⟩)]]).run Tryz.prog w = .ok (.iface 160 (.agg #[.pointer (some ⟨22, 100, none⟩)])) w := by kernel_rfl
theorem fa_implements25 (w : World) : (ReflectliteType.relation "Implements" ReflectliteType.implements_ #[.agg #[.pointer (some ⟨22, 100, none⟩)], .iface 160 (.agg #[.pointer (some ⟨22, 25, none⟩)])]).run Tryz.prog w = .ok (.bool true) w := by kernel_rfl
theorem fa_typeOf25 (v : Value) (w : World) : (ReflectliteType.typeOf #[.iface 100 v]).run Tryz.prog w = .ok (.iface 160 (.agg #[.pointer (some ⟨22, 100, none⟩)])) w := by kernel_rfl
theorem fa_assignable25 (w : World) : (ReflectliteType.relation "AssignableTo" ReflectliteType.assignableTo #[.agg #[.pointer (some ⟨22, 100, none⟩)], .iface 160 (.agg #[.pointer (some ⟨22, 100, none⟩)])]).run Tryz.prog w = .ok (.bool true) w := by kernel_rfl
theorem fa_valueOf25 (e : Addr) (w : World) : (ReflectliteValue.unpack (.iface 100 (.pointer (some e)))).run Tryz.prog w
    = .ok (.agg #[.pointer (some ⟨22, 100, none⟩), .pointer (some ⟨w.heap.size, 0, none⟩), .int .u64 150]) (w.alloc (.cells #[.pointer (some e)] 100)) := by kernel_rfl

theorem fa_elemOf27 (w : World) : (Rtype.elem? 102).run Tryz.prog w = .ok (some 100) w := by kernel_rfl
theorem fa_mk25 (p : Addr) (w : World) : (ReflectliteValue.mk 100 p ReflectliteValue.flagAddr).run Tryz.prog w = .ok (.agg #[.pointer (some ⟨22, 100, none⟩), .pointer (some p), .int .u64 406]) w := by kernel_rfl
/-- (Value).Elem at the Value of a **p.E that is not nil: the Value of the *p.E variable that it points to, addressable. -/
theorem fa_elemV27 (a p : Addr) (W : World) (ha : W.cell? a = some (.pointer (some p))) :
    (ReflectliteValue.method (ReflectliteValue.valueError "reflectlite.Value.Elem" 0) ReflectliteValue.elem #[.agg #[.pointer (some ⟨22, 102, none⟩), .pointer (some a), .int .u64 150]]).run Tryz.prog W
      = .ok (.agg #[.pointer (some ⟨22, 100, none⟩), .pointer (some p), .int .u64 406]) W := by
  rw [rlm]
  simp only [Sem.run_bind, fa_parts27, Result.andThen]
  simp [ReflectliteValue.elem, loadVar, isAgg, underlying, Tryz.underlying102, ha, Result.andThen, fa_elemOf27, fa_mk25]
theorem rls (v x : Value) : ReflectliteValue.set #[v, x] = (do
    let (some (dst, a, fl), some (src, b, _)) := (← ReflectliteValue.parts v, ← ReflectliteValue.parts x)
      | unsupported (.noEntry "extern/(internal/reflectlite.Value).Set.zeroValue")
    if fl / ReflectliteValue.flagAddr % 2 == 0 then unsupported (.noEntry "extern/(internal/reflectlite.Value).Set.unaddressable")
    let val ← loadVar src b
    if ← Rtype.directlyAssignable dst src then storeVar dst a val
    else if ← Rtype.implements dst src then
      if (← Rtype.kind src) == 20 then
        match val with
        | .nilIface => unsupported (.noEntry "extern/reflectlite: a nil value of one interface type handed on as a value of another")
        | _ => storeVar dst a val
      else storeVar dst a (.iface src val)
    else panicString ("reflectlite.Set: value of type " ++ (← Rtype.spelt src) ++ " is not assignable to type " ++ (← Rtype.spelt dst))
    pure (.tuple #[])) := rfl
theorem fa_parts25a (a : Addr) (w : World) : (ReflectliteValue.parts (.agg #[.pointer (some ⟨22, 100, none⟩), .pointer (some a), .int .u64 406])).run Tryz.prog w = .ok (some (100, a, 406)) w := by kernel_rfl
theorem fa_parts25 (a : Addr) (w : World) : (ReflectliteValue.parts (.agg #[.pointer (some ⟨22, 100, none⟩), .pointer (some a), .int .u64 150])).run Tryz.prog w = .ok (some (100, a, 150)) w := by kernel_rfl
theorem fa_direct25 (w : World) : (Rtype.directlyAssignable 100 100).run Tryz.prog w = .ok true w := by kernel_rfl
theorem fa_size25 (w : World) : (sizeOf 100).run Tryz.prog w = .ok 1 w := by kernel_rfl
/-- (Value).Set: the *p.E variable at 'ta' gets what the Value's own variable 'b' holds. -/
theorem fa_set25 (ta b e : Addr) (old : Value) (W : World) (hb : W.cell? b = some (.pointer (some e))) (ht : W.cell? ta = some old) (hf : W.frozen? ta = false) :
    (ReflectliteValue.set #[.agg #[.pointer (some ⟨22, 100, none⟩), .pointer (some ta), .int .u64 406], .agg #[.pointer (some ⟨22, 100, none⟩), .pointer (some b), .int .u64 150]]).run Tryz.prog W
      = .ok (.tuple #[]) (W.setCell ta (.pointer (some e))) := by
  rw [rls]
  simp only [Sem.run_bind, fa_parts25a, fa_parts25, Result.andThen]
  simp [ReflectliteValue.flagAddr, loadVar, isAgg, underlying, Tryz.underlying100, hb, Result.andThen, fa_direct25, storeVar, Value.cells, storeCells, Addr.add]
  rw [run_store Tryz.prog W ta _ _ (by rfl)]
  simp [ht, hf]

theorem fa_typeOfE (v : Value) (w : World) : (ReflectliteType.typeOf #[.iface 205 v]).run Tryz.prog w = .ok (.iface 160 (.agg #[.pointer (some ⟨22, 205, none⟩)])) w := by kernel_rfl
theorem fa_assignableE (w : World) : (ReflectliteType.relation "AssignableTo" ReflectliteType.assignableTo #[.agg #[.pointer (some ⟨22, 205, none⟩)], .iface 160 (.agg #[.pointer (some ⟨22, 100, none⟩)])]).run Tryz.prog w = .ok (.bool false) w := by kernel_rfl
theorem fa_noAsE (v : Value) (xT : TypeId) (w : World) : (Instr.typeAssert (.iface 205 v) xT 164 true).run Tryz.prog w = .ok (.tuple #[.nilIface, .bool false]) w := run_typeAssert_lacksB Tryz.underlying164 (by kernel_rfl) (by kernel_rfl) v xT w
theorem fa_noIsE (v : Value) (xT : TypeId) (w : World) : (Instr.typeAssert (.iface 205 v) xT 171 true).run Tryz.prog w = .ok (.tuple #[.nilIface, .bool false]) w := run_typeAssert_lacksB Tryz.underlying171 (by kernel_rfl) (by kernel_rfl) v xT w
theorem fa_noUnwrapE (v : Value) (xT : TypeId) (w : World) : (Instr.typeAssert (.iface 205 v) xT 167 true).run Tryz.prog w = .ok (.tuple #[.nilIface, .bool false]) w := run_typeAssert_lacksB Tryz.underlying167 (by kernel_rfl) (by kernel_rfl) v xT w
theorem fa_noUnwrapsE (v : Value) (xT : TypeId) (w : World) : (Instr.typeAssert (.iface 205 v) xT 169 true).run Tryz.prog w = .ok (.tuple #[.nilIface, .bool false]) w := run_typeAssert_lacksB Tryz.underlying169 (by kernel_rfl) (by kernel_rfl) v xT w
theorem fa_noIsF (v : Value) (xT : TypeId) (w : World) : (Instr.typeAssert (.iface 100 v) xT 171 true).run Tryz.prog w = .ok (.tuple #[.nilIface, .bool false]) w := run_typeAssert_lacksB Tryz.underlying171 (by kernel_rfl) (by kernel_rfl) v xT w
theorem fa_hasUnwrapF (v : Value) (xT : TypeId) (w : World) : (Instr.typeAssert (.iface 100 v) xT 167 true).run Tryz.prog w = .ok (.tuple #[.iface 100 v, .bool true]) w := run_typeAssert_hasB Tryz.underlying167 (by kernel_rfl) v xT w
theorem fa_methodUnwrap (v : Value) (w : World) : (Go.method 367 100 v "Unwrap").run Tryz.prog w = .ok (167, v) w := by kernel_rfl
theorem fa_callTypeOf (v : Value) (w : World) : (callFunc 61 #[.iface 205 v]).run Tryz.prog w = .ok (.value (.iface 160 (.agg #[.pointer (some ⟨22, 205, none⟩)]))) w := by kernel_rfl
theorem fa_callComparable (w : World) : (callFunc 173 #[.agg #[.pointer (some ⟨22, 205, none⟩)]]).run Tryz.prog w = .ok (.value (.bool true)) w := by kernel_rfl
theorem fa_isMethodComparable (v : Value) (w : World) : (Go.method 367 160 v "Comparable").run Tryz.prog w = .ok (173, v) w := by kernel_rfl
theorem fa_isComp : (Tryz.prog.info? 205).map (·.comparable) = some true := by kernel_rfl
theorem fa_isSize : (Tryz.prog.info? 207).map (·.size) = some 1 := by kernel_rfl

theorem as_hit (e t : Addr) (old : Value) (w : World) (hg : w.cell? ⟨15, 0, none⟩ = some (.iface 160 (.agg #[.pointer (some ⟨22, 25, none⟩)]))) (ht0 : w.cell? t = some old) (hf0 : w.frozen? t = false) :
    Calls Tryz.prog 38 #[.iface 100 (.pointer (some e)), .iface 102 (.pointer (some t))] w fun ev w' => ev = .returned (.bool true) ∧ w' = ((((w.alloc (.cells #[.pointer (some t)] 102)).alloc (.cells #[.pointer (some ⟨22, 102, none⟩), .pointer (some ⟨w.heap.size, 0, none⟩), .int .u64 150] 132)).alloc (.cells #[.pointer (some ⟨22, 102, none⟩), .pointer (some ⟨w.heap.size, 0, none⟩), .int .u64 150] 132)).alloc (.cells #[.pointer (some e)] 100)).setCell t (.pointer (some e)) := by
  have h6 := @run_callFunc_extern Tryz.prog 57 _ (fun args => ReflectliteValue.unpack (args.getD 0 (.tuple #[]))) Tryz.func57 (by kernel_rfl) (by kernel_rfl) (by kernel_rfl) (by kernel_rfl)
  have h7 := @run_callFunc_extern Tryz.prog 58 _ (ReflectliteValue.methodAny (ReflectliteValue.valueError "reflectlite.Value.Type" 0) (fun t _ _ _ => ReflectliteType.toType t)) Tryz.func58 (by kernel_rfl) (by kernel_rfl) (by kernel_rfl) (by kernel_rfl)
  have h8 := @run_callFunc_extern Tryz.prog 59 _ (ReflectliteValue.method (ReflectliteValue.valueError "reflectlite.Value.IsNil" 0) ReflectliteValue.isNil) Tryz.func59 (by kernel_rfl) (by kernel_rfl) (by kernel_rfl) (by kernel_rfl)
  have h27 := @run_callFunc_extern Tryz.prog 162 _ (ReflectliteType.abiMethod fun t => do pure (.int .u8 (← Rtype.kind t))) Tryz.func162 (by kernel_rfl) (by kernel_rfl) (by kernel_rfl) (by kernel_rfl)
  have h37 := @run_callFunc_extern Tryz.prog 174 _ (ReflectliteType.method ReflectliteType.elem) Tryz.func174 (by kernel_rfl) (by kernel_rfl) (by kernel_rfl) (by kernel_rfl)
  have h38 := @run_callFunc_extern Tryz.prog 175 _ (ReflectliteType.relation "Implements" ReflectliteType.implements_) Tryz.func175 (by kernel_rfl) (by kernel_rfl) (by kernel_rfl) (by kernel_rfl)
  have h10 := @run_callFunc_extern Tryz.prog 61 _ ReflectliteType.typeOf Tryz.func61 (by kernel_rfl) (by kernel_rfl) (by kernel_rfl) (by kernel_rfl)
  have h35 := @run_callFunc_extern Tryz.prog 172 _ (ReflectliteType.relation "AssignableTo" ReflectliteType.assignableTo) Tryz.func172 (by kernel_rfl) (by kernel_rfl) (by kernel_rfl) (by kernel_rfl)
  have h11 := @run_callFunc_extern Tryz.prog 77 _ (ReflectliteValue.method (ReflectliteValue.valueError "reflectlite.Value.Elem" 0) ReflectliteValue.elem) Tryz.func77 (by kernel_rfl) (by kernel_rfl) (by kernel_rfl) (by kernel_rfl)
  have h12 := @run_callFunc_extern Tryz.prog 78 _ ReflectliteValue.set Tryz.func78 (by kernel_rfl) (by kernel_rfl) (by kernel_rfl) (by kernel_rfl)
  have tO := fa_typeOf25
  have mA := fa_methodAssignableTo
  have a25 := fa_assignable25
  have v25 := fa_valueOf25
  have f6 := fa_valueOf27
  have f7 := fa_type27
  have mK := fa_methodKind
  have mE := fa_methodElem
  have mI := fa_methodImplements
  have k27 := fa_kind27
  have k25 := fa_kind25
  have e27 := fa_elem27
  have i25 := fa_implements25
  have n8 := fa_isNil27 ⟨w.heap.size, 0, none⟩ t ((w.alloc (.cells #[.pointer (some t)] 102)).alloc (.cells #[.pointer (some ⟨22, 102, none⟩), .pointer (some ⟨w.heap.size, 0, none⟩), .int .u64 150] 132)) (by simp)
  have hlt : 15 < w.heap.size := World.block_lt_of_cell? _ _ hg
  have hg2 : ((w.alloc (.cells #[.pointer (some t)] 102)).alloc (.cells #[.pointer (some ⟨22, 102, none⟩), .pointer (some ⟨w.heap.size, 0, none⟩), .int .u64 150] 132)).cell? ⟨15, 0, none⟩ = some (.iface 160 (.agg #[.pointer (some ⟨22, 25, none⟩)])) := by
    rw [World.cell?_alloc_lt _ _ ⟨15, 0, none⟩ (by simp; omega), World.cell?_alloc_lt _ _ ⟨15, 0, none⟩ hlt]; exact hg
  have htl : t.block < w.heap.size := by
    rcases Nat.lt_or_ge t.block w.heap.size with h | h
    · exact h
    · simp [World.cell?, Array.getElem?_eq_none h] at ht0
  have el := fa_elemV27 ⟨w.heap.size, 0, none⟩ t (((w.alloc (.cells #[.pointer (some t)] 102)).alloc (.cells #[.pointer (some ⟨22, 102, none⟩), .pointer (some ⟨w.heap.size, 0, none⟩), .int .u64 150] 132)).alloc (.cells #[.pointer (some ⟨22, 102, none⟩), .pointer (some ⟨w.heap.size, 0, none⟩), .int .u64 150] 132)) (by rw [World.cell?_alloc_lt _ _ ⟨w.heap.size, 0, none⟩ (by simp; omega)]; simp)
  have st := fa_set25 t ⟨w.heap.size + 1 + 1 + 1, 0, none⟩ e old ((((w.alloc (.cells #[.pointer (some t)] 102)).alloc (.cells #[.pointer (some ⟨22, 102, none⟩), .pointer (some ⟨w.heap.size, 0, none⟩), .int .u64 150] 132)).alloc (.cells #[.pointer (some ⟨22, 102, none⟩), .pointer (some ⟨w.heap.size, 0, none⟩), .int .u64 150] 132)).alloc (.cells #[.pointer (some e)] 100))
    (by rw [World.cell?_alloc_at _ _ _ _ (by simp)]; rfl)
    (by rw [World.cell?_alloc_lt _ _ t (by simp; omega), World.cell?_alloc_lt _ _ t (by simp; omega), World.cell?_alloc_lt _ _ t (by simp; omega), World.cell?_alloc_lt _ _ t htl]; exact ht0)
    (by rw [World.frozen?_alloc_old _ _ t (by simp; omega), World.frozen?_alloc_old _ _ t (by simp; omega), World.frozen?_alloc_old _ _ t (by simp; omega), World.frozen?_alloc_old _ _ t (Nat.ne_of_lt htl)]; exact hf0)
  go_enter Tryz.func38, Tryz.ntmps38
  go_wp2
  refine wp_loop_rounds 1 ?_
  rw [rounds_succ]
  go_wp2
  go_ret
  exact ⟨rfl, rfl⟩

theorem as_miss (x : Value) (t : Addr) (old : Value) (w : World) (hg : w.cell? ⟨15, 0, none⟩ = some (.iface 160 (.agg #[.pointer (some ⟨22, 25, none⟩)]))) (ht0 : w.cell? t = some old) (hf0 : w.frozen? t = false) :
    Calls Tryz.prog 38 #[.iface 205 x, .iface 102 (.pointer (some t))] w fun ev w' => ev = .returned (.bool false) ∧ w' = ((w.alloc (.cells #[.pointer (some t)] 102)).alloc (.cells #[.pointer (some ⟨22, 102, none⟩), .pointer (some ⟨w.heap.size, 0, none⟩), .int .u64 150] 132)).alloc (.cells #[.pointer (some ⟨22, 102, none⟩), .pointer (some ⟨w.heap.size, 0, none⟩), .int .u64 150] 132) := by
  have h6 := @run_callFunc_extern Tryz.prog 57 _ (fun args => ReflectliteValue.unpack (args.getD 0 (.tuple #[]))) Tryz.func57 (by kernel_rfl) (by kernel_rfl) (by kernel_rfl) (by kernel_rfl)
  have h7 := @run_callFunc_extern Tryz.prog 58 _ (ReflectliteValue.methodAny (ReflectliteValue.valueError "reflectlite.Value.Type" 0) (fun t _ _ _ => ReflectliteType.toType t)) Tryz.func58 (by kernel_rfl) (by kernel_rfl) (by kernel_rfl) (by kernel_rfl)
  have h8 := @run_callFunc_extern Tryz.prog 59 _ (ReflectliteValue.method (ReflectliteValue.valueError "reflectlite.Value.IsNil" 0) ReflectliteValue.isNil) Tryz.func59 (by kernel_rfl) (by kernel_rfl) (by kernel_rfl) (by kernel_rfl)
  have h27 := @run_callFunc_extern Tryz.prog 162 _ (ReflectliteType.abiMethod fun t => do pure (.int .u8 (← Rtype.kind t))) Tryz.func162 (by kernel_rfl) (by kernel_rfl) (by kernel_rfl) (by kernel_rfl)
  have h37 := @run_callFunc_extern Tryz.prog 174 _ (ReflectliteType.method ReflectliteType.elem) Tryz.func174 (by kernel_rfl) (by kernel_rfl) (by kernel_rfl) (by kernel_rfl)
  have h38 := @run_callFunc_extern Tryz.prog 175 _ (ReflectliteType.relation "Implements" ReflectliteType.implements_) Tryz.func175 (by kernel_rfl) (by kernel_rfl) (by kernel_rfl) (by kernel_rfl)
  have h10 := @run_callFunc_extern Tryz.prog 61 _ ReflectliteType.typeOf Tryz.func61 (by kernel_rfl) (by kernel_rfl) (by kernel_rfl) (by kernel_rfl)
  have h35 := @run_callFunc_extern Tryz.prog 172 _ (ReflectliteType.relation "AssignableTo" ReflectliteType.assignableTo) Tryz.func172 (by kernel_rfl) (by kernel_rfl) (by kernel_rfl) (by kernel_rfl)
  have h11 := @run_callFunc_extern Tryz.prog 77 _ (ReflectliteValue.method (ReflectliteValue.valueError "reflectlite.Value.Elem" 0) ReflectliteValue.elem) Tryz.func77 (by kernel_rfl) (by kernel_rfl) (by kernel_rfl) (by kernel_rfl)
  have h12 := @run_callFunc_extern Tryz.prog 78 _ ReflectliteValue.set Tryz.func78 (by kernel_rfl) (by kernel_rfl) (by kernel_rfl) (by kernel_rfl)
  have tO := fa_typeOfE
  have mA := fa_methodAssignableTo
  have a25 := fa_assignableE
  have f6 := fa_valueOf27
  have f7 := fa_type27
  have mK := fa_methodKind
  have mE := fa_methodElem
  have mI := fa_methodImplements
  have k27 := fa_kind27
  have k25 := fa_kind25
  have e27 := fa_elem27
  have i25 := fa_implements25
  have n8 := fa_isNil27 ⟨w.heap.size, 0, none⟩ t ((w.alloc (.cells #[.pointer (some t)] 102)).alloc (.cells #[.pointer (some ⟨22, 102, none⟩), .pointer (some ⟨w.heap.size, 0, none⟩), .int .u64 150] 132)) (by simp)
  have hlt : 15 < w.heap.size := World.block_lt_of_cell? _ _ hg
  have hg2 : ((w.alloc (.cells #[.pointer (some t)] 102)).alloc (.cells #[.pointer (some ⟨22, 102, none⟩), .pointer (some ⟨w.heap.size, 0, none⟩), .int .u64 150] 132)).cell? ⟨15, 0, none⟩ = some (.iface 160 (.agg #[.pointer (some ⟨22, 25, none⟩)])) := by
    rw [World.cell?_alloc_lt _ _ ⟨15, 0, none⟩ (by simp; omega), World.cell?_alloc_lt _ _ ⟨15, 0, none⟩ hlt]; exact hg
  have nA := fa_noAsE
  have nU := fa_noUnwrapE
  have nV := fa_noUnwrapsE
  go_enter Tryz.func38, Tryz.ntmps38
  go_wp2
  refine wp_loop_rounds 1 ?_
  rw [rounds_succ]
  go_wp2
  go_ret
  exact ⟨rfl, rfl⟩

/-- errors.Is(x, x), x a pointer to an errors.errorString. -/
theorem is_same (a : Addr) (w : World) :
    Calls Tryz.prog 39 #[.iface 205 (.pointer (some a)), .iface 205 (.pointer (some a))] w fun e w' => e = .returned (.bool true) ∧ w = w' := by
  obtain ⟨i, hi, hcmp⟩ := Option.map_eq_some_iff.1 fa_isComp
  obtain ⟨j, hj, hjs⟩ := Option.map_eq_some_iff.1 fa_isSize
  have tT := fa_callTypeOf
  have cT := fa_callComparable
  have mR := fa_isMethodComparable
  have heq := run_eql_iface_ptr_same (P := Tryz.prog) w a Tryz.underlying25 Tryz.underlying205 hi hcmp hj
  go_enter Tryz.func39, Tryz.ntmps39
  go_wp2
  refine wp_loop_rounds 1 ?_
  rw [rounds_succ]
  go_wp2
  go_ret
  exact ⟨rfl, rfl⟩

/-- errors.Is(x, y), two different pointers to errors.errorString. -/
theorem is_other (a b : Addr) (w : World) (hne : a ≠ b) (ha : ∃ x t, w.heap[a.block]? = some (.cells x t (0, 0))) (hb : ∃ x t, w.heap[b.block]? = some (.cells x t (0, 0))) :
    Calls Tryz.prog 39 #[.iface 205 (.pointer (some a)), .iface 205 (.pointer (some b))] w fun e w' => e = .returned (.bool false) ∧ w = w' := by
  obtain ⟨ca, ta, ha⟩ := ha
  obtain ⟨cb, tb, hb⟩ := hb
  obtain ⟨i, hi, hcmp⟩ := Option.map_eq_some_iff.1 fa_isComp
  obtain ⟨j, hj, hjs⟩ := Option.map_eq_some_iff.1 fa_isSize
  have tT := fa_callTypeOf
  have cT := fa_callComparable
  have mR := fa_isMethodComparable
  have nE := fa_noIsE
  have uE := fa_noUnwrapE
  have vE := fa_noUnwrapsE
  have heq := run_eql_iface_ptr_other (P := Tryz.prog) w Tryz.underlying25 Tryz.underlying205 hi hcmp hj (by rw [hjs]; decide) hne ha hb
  clear hb ha
  go_enter Tryz.func39, Tryz.ntmps39
  go_wp2
  refine wp_loop_rounds 1 ?_
  rw [rounds_succ]
  go_wp2
  go_ret
  exact ⟨rfl, rfl⟩

/-- errors.Is(e, x), e an api.Fault that wraps x itself. -/
theorem is_fault_same (pb po : Nat) (b : Addr) (w : World) (h1 : w.cell? ⟨pb, po + 1, none⟩ = some (.iface 205 (.pointer (some b)))) :
    Calls Tryz.prog 39 #[.iface 100 (.pointer (some ⟨pb, po, none⟩)), .iface 205 (.pointer (some b))] w fun e w' => e = .returned (.bool true) ∧ w = w' := by
  obtain ⟨i, hi, hcmp⟩ := Option.map_eq_some_iff.1 fa_isComp
  obtain ⟨j, hj, hjs⟩ := Option.map_eq_some_iff.1 fa_isSize
  have tT := fa_callTypeOf
  have cT := fa_callComparable
  have mR := fa_isMethodComparable
  have nE := fa_noIsE
  have uE := fa_noUnwrapE
  have vE := fa_noUnwrapsE
  have nW := fa_noIsF
  have uW := fa_hasUnwrapF
  have mU := fa_methodUnwrap
  have heq := run_eql_iface_ptr_same (P := Tryz.prog) w b Tryz.underlying25 Tryz.underlying205 hi hcmp hj
  have hty := run_eql_iface_types (P := Tryz.prog) 100 205 (.pointer (some ⟨pb, po, none⟩)) (.pointer (some b)) Tryz.underlying25 (by decide) w
  go_enter Tryz.func39, Tryz.ntmps39
  go_wp2
  refine wp_loop_rounds 2 ?_
  rw [rounds_succ]
  go_wp2
  rw [rounds_succ]
  go_wp2
  go_ret
  exact ⟨rfl, rfl⟩

/-- errors.Is(e, x), e an api.Fault that wraps another one. -/
theorem is_fault_other (pb po : Nat) (b a : Addr) (w : World) (h1 : w.cell? ⟨pb, po + 1, none⟩ = some (.iface 205 (.pointer (some a)))) (hne : a ≠ b) (ha : ∃ x t, w.heap[a.block]? = some (.cells x t (0, 0))) (hb : ∃ x t, w.heap[b.block]? = some (.cells x t (0, 0))) :
    Calls Tryz.prog 39 #[.iface 100 (.pointer (some ⟨pb, po, none⟩)), .iface 205 (.pointer (some b))] w fun e w' => e = .returned (.bool false) ∧ w = w' := by
  obtain ⟨ca, ta, ha⟩ := ha
  obtain ⟨cb, tb, hb⟩ := hb
  obtain ⟨i, hi, hcmp⟩ := Option.map_eq_some_iff.1 fa_isComp
  obtain ⟨j, hj, hjs⟩ := Option.map_eq_some_iff.1 fa_isSize
  have tT := fa_callTypeOf
  have cT := fa_callComparable
  have mR := fa_isMethodComparable
  have nE := fa_noIsE
  have uE := fa_noUnwrapE
  have vE := fa_noUnwrapsE
  have nW := fa_noIsF
  have uW := fa_hasUnwrapF
  have mU := fa_methodUnwrap
  have heq := run_eql_iface_ptr_other (P := Tryz.prog) w Tryz.underlying25 Tryz.underlying205 hi hcmp hj (by rw [hjs]; decide) hne ha hb
  have hty := run_eql_iface_types (P := Tryz.prog) 100 205 (.pointer (some ⟨pb, po, none⟩)) (.pointer (some b)) Tryz.underlying25 (by decide) w
  clear ha hb
  go_enter Tryz.func39, Tryz.ntmps39
  go_wp2
  refine wp_loop_rounds 2 ?_
  rw [rounds_succ]
  go_wp2
  rw [rounds_succ]
  go_wp2
  go_ret
  exact ⟨rfl, rfl⟩

end
/- plain.Code by contract: the number of an error and its place. -/

def allErrs : List Nat := [1, 2, 3, 4, 5, 6, 7, 8, 9, 10, 11, 12, 13, 14, 15]
/-- All errors, and errors' own handle. -/
structure EnvA (B : Nat) (ad : Nat → Addr) (w : World) : Prop where
  env : Env B ad allErrs w
  handle : w.cell? ⟨15, 0, none⟩ = some (.iface 160 (.agg #[.pointer (some ⟨22, 25, none⟩)])) ∧ 15 < B
theorem EnvA.keep {B : Nat} {ad : Nat → Addr} {S : Nat → Prop} {w w' : World} (h : EnvA B ad w) (c : Chg S w w') (hS : ∀ x, S x → B ≤ x) : EnvA B ad w' :=
  ⟨h.env.keep c hS, (c.cell (p := ⟨15, 0, none⟩) (Nat.lt_of_lt_of_le h.handle.2 h.env.size) (fun s => by have := hS _ s; have := h.handle.2; simp at *; omega)).trans h.handle.1, h.handle.2⟩
theorem EnvA.keepN {B : Nat} {ad : Nat → Addr} {w w' : World} (h : EnvA B ad w) (c : Chg Nil w w') : EnvA B ad w' := h.keep c (fun _ f => f.elim)
theorem EnvA.alloc {B : Nat} {ad : Nat → Addr} {w : World} (h : EnvA B ad w) (o : Obj) : EnvA B ad (w.alloc o) := h.keepN ((Chg.refl Nil w).alloc o)
theorem EnvA.sub {B : Nat} {ad : Nat → Addr} {ds : List Nat} {w : World} (h : EnvA B ad w) (hd : ∀ c ∈ ds, c ∈ allErrs) : Env B ad ds w := h.env.sub hd

theorem as_miss' (x : Value) (t : Addr) (old : Value) (w : World) (hg : w.cell? ⟨15, 0, none⟩ = some (.iface 160 (.agg #[.pointer (some ⟨22, 25, none⟩)])))
    (ht0 : w.cell? t = some old) (hf0 : w.frozen? t = false) :
    Calls Tryz.prog 38 #[.iface 205 x, .iface 102 (.pointer (some t))] w fun e w' => e = .returned (.bool false) ∧ Chg Nil w w' :=
  (as_miss x t old w hg ht0 hf0).mono fun e w' ⟨he, hw⟩ => ⟨he, by subst hw; exact ((((Chg.refl _ _).alloc _).alloc _).alloc _)⟩
theorem as_hit' (e t : Addr) (old : Value) (w : World) (hg : w.cell? ⟨15, 0, none⟩ = some (.iface 160 (.agg #[.pointer (some ⟨22, 25, none⟩)])))
    (ht0 : w.cell? t = some old) (hf0 : w.frozen? t = false) :
    Calls Tryz.prog 38 #[.iface 100 (.pointer (some e)), .iface 102 (.pointer (some t))] w fun ev w' => ev = .returned (.bool true) ∧ Chg (· = t.block) w w' ∧ w'.cell? t = some (.pointer (some e)) :=
  (as_hit e t old w hg ht0 hf0).mono fun ev w' ⟨he, hw⟩ => ⟨he, by subst hw; exact Chg.setCell (S := (· = t.block)) (p := t) ((((((Chg.refl _ _).alloc _).alloc _).alloc _).alloc _)) (.inr rfl) _, by
    subst hw
    have hl := World.block_lt_of_cell? _ _ ht0
    refine World.cell?_setCell_same _ _ _ (u := old) ?_
    rw [World.cell?_alloc_lt _ _ t (by simp; omega), World.cell?_alloc_lt _ _ t (by simp; omega), World.cell?_alloc_lt _ _ t (by simp; omega), World.cell?_alloc_lt _ _ t hl]
    exact ht0⟩

theorem code_nil (w : World) : Calls Tryz.prog 19 #[.nilIface] w fun e w' => e = .returned (.tuple #[.int .i64 0, .int .i64 (-1)]) ∧ w = w' := by
  go_enter Tryz.func19, Tryz.ntmps19
  go_wp2
  go_ret2
  exact ⟨rfl, rfl⟩

def Code1 (w : World) (sb : Nat) (ad : Nat → Addr) (c : Nat) (at_ : Int) (v i : Value) (wr : World) : Prop :=
  ∃ k : Nat, k < c ∧ v = .int .i64 at_ ∧ i = .int .i64 k ∧ Chg Nil w wr ∧ ∀ j, j < 15 → wr.cell? ⟨sb, j, none⟩ = some (.iface 205 (.pointer (some (ad (j + 1)))))

theorem code_err {B : Nat} (ad : Nat → Addr) (c : Nat) (w : World) (he : EnvA B ad w) (h0 : 0 < c) (h1 : c ≤ 15) :
    Calls Tryz.prog 19 #[.iface 205 (.pointer (some (ad c)))] w fun e w' => e = .returned (.tuple #[.int .i64 c, .int .i64 (-1)]) ∧ Chg Nil w w' := by
  have HE := Lib.hid he
  have hnn := fun W => run_eql_iface_nil_left (P := Tryz.prog) W 205 (.pointer (some (ad c))) Tryz.underlying25
  have hh := he.handle.1
  have hhl := Nat.lt_of_lt_of_le he.handle.2 he.env.size
  clear he
  go_enter Tryz.func19, Tryz.ntmps19
  go_wp2_with fail
  refine (as_miss' _ _ (.pointer none) _ ?_ ?_ ?_).mono ?_
  · rw [World.cell?_alloc_lt _ _ _ hhl]; exact hh
  · simp
  · simp
  rintro e w1 ⟨rfl, hc1⟩
  have hC1 : Chg Nil w w1 := ((Chg.refl _ _).alloc _).then hc1
  have hE1 := (HE.out.keepN hC1).env
  obtain ⟨q1, l1⟩ := hE1.get (c := 1) (by decide)
  obtain ⟨q2, l2⟩ := hE1.get (c := 2) (by decide)
  obtain ⟨q3, l3⟩ := hE1.get (c := 3) (by decide)
  obtain ⟨q4, l4⟩ := hE1.get (c := 4) (by decide)
  obtain ⟨q5, l5⟩ := hE1.get (c := 5) (by decide)
  obtain ⟨q6, l6⟩ := hE1.get (c := 6) (by decide)
  obtain ⟨q7, l7⟩ := hE1.get (c := 7) (by decide)
  obtain ⟨q8, l8⟩ := hE1.get (c := 8) (by decide)
  obtain ⟨q9, l9⟩ := hE1.get (c := 9) (by decide)
  obtain ⟨q10, l10⟩ := hE1.get (c := 10) (by decide)
  obtain ⟨q11, l11⟩ := hE1.get (c := 11) (by decide)
  obtain ⟨q12, l12⟩ := hE1.get (c := 12) (by decide)
  obtain ⟨q13, l13⟩ := hE1.get (c := 13) (by decide)
  obtain ⟨q14, l14⟩ := hE1.get (c := 14) (by decide)
  obtain ⟨q15, l15⟩ := hE1.get (c := 15) (by decide)
  simp only [gl] at q1 q2 q3 q4 q5 q6 q7 q8 q9 q10 q11 q12 q13 q14 q15
  clear l1 l2 l3 l4 l5 l6 l7 l8 l9 l10 l11 l12 l13 l14 l15 hE1 hh hhl
  go_wp2_with fail
  clear q1 q2 q3 q4 q5 q6 q7 q8 q9 q10 q11 q12 q13 q14 q15 hnn
  go_loopw [3, 33] (fun v i wr => Code1 w w1.heap.size ad c (-1) v i wr) (fun _ i _ => (15 - intOf i).toNat)
  case atStart =>
    refine ⟨0, h0, rfl, rfl, hC1.alloc _, fun j hj => ?_⟩
    rw [World.cell?_alloc_at _ _ _ _ rfl]
    rcases (show j = 0 ∨ j = 1 ∨ j = 2 ∨ j = 3 ∨ j = 4 ∨ j = 5 ∨ j = 6 ∨ j = 7 ∨ j = 8 ∨ j = 9 ∨ j = 10 ∨ j = 11 ∨ j = 12 ∨ j = 13 ∨ j = 14 by omega) with rfl | rfl | rfl | rfl | rfl | rfl | rfl | rfl | rfl | rfl | rfl | rfl | rfl | rfl | rfl <;> rfl
  case round =>
    rename_i wr _
    obtain ⟨k, hk, rfl, rfl, hC, hcell⟩ := hrel
    have hE := (HE.out.keepN hC).env
    have hc := hcell k (by omega)
    have hk15 : (k : Int) < 15 := by omega
    by_cases hkc : k + 1 = c
    · have hnum : ((k : Int) + 1) = (c : Int) := by omega
      have hI := is_same (ad c) wr
      rw [hkc] at hc
      have HN := Lib.hid hnum
      have HK := Lib.hid hkc
      have HC := Lib.hid hcell
      have HI := Lib.hid hI
      clear hnum hkc hcell hI
      go_wp2_with fail
      refine HI.out.mono ?_
      rintro e w2 ⟨rfl, rfl⟩
      go_wp2_with fail
      go_ret2
      exact ⟨by simp [HN.out], hC⟩
    · obtain ⟨_, r1, _⟩ := hE.row (k + 1) (by simp [allErrs]; omega)
      obtain ⟨_, r2, _⟩ := hE.row c (by simp [allErrs]; omega)
      have hI := is_other (ad c) (ad (k + 1)) wr (hE.dist c (by simp [allErrs]; omega) (k + 1) (by simp [allErrs]; omega) (fun e => hkc e.symm)) r2 r1
      have HC := Lib.hid hcell
      have HI := Lib.hid hI
      clear hcell hI r1 r2 hE
      go_wp2_with fail
      refine HI.out.mono ?_
      rintro e w2 ⟨rfl, rfl⟩
      go_wp2_with fail
      go_roundw
      case rel => exact ⟨k + 1, by omega, rfl, by go_num, hC, HC.out⟩
      case measure => simp [intOf]; omega

/- Resources: all errors and the errors' own handle (rEnvA); an error's number told (coded) by what is owned. No condition. -/

def rEnvA (B : Nat) (ad : Nat → Addr) : Res :=
  ⟨false, fun b => (∃ c ∈ allErrs, b = gl c ∨ b = (ad c).block) ∨ b = 15, fun w => EnvA B ad w, fun w w' h hs hb =>
    ⟨(rEnv B ad allErrs).stab w w' h.env hs (fun b hb' => hb b (.inl hb')), by
      rw [World.cell?_of_block (w := w) (hb 15 (.inr rfl))]; exact h.handle.1, h.handle.2⟩,
   fun w b h hb => by
    rcases hb with hb | rfl
    · exact (rEnv B ad allErrs).alive w b h.env hb
    · exact Nat.lt_of_lt_of_le h.handle.2 h.env.size⟩
theorem Own.addRO {w0 w : World} {E : Ent} {L : List Res} (h : Own w0 E L w) (i : Nat) {r r' : Res} (hi : L[i]? = some r) (hw : r.wr = false) (hw' : r'.wr = false) (hf : ∀ w, r.fact w → r'.fact w) (hs : ∀ b, r'.foot b → r.foot b) : Own w0 E (r' :: L) w := by
  have hm := List.mem_of_getElem? hi
  have h1 := h.perm (erase_perm hi).symm
  have ha := (List.pairwise_cons.1 h1.apart).1
  refine ⟨h.chg, h.mono, fun s hs' => ?_, List.pairwise_cons.2 ⟨fun s hs' hc b hb hsb => ?_, h.apart⟩, fun s hs' b hb => ?_⟩
  · rcases List.mem_cons.1 hs' with rfl | hs'
    · exact hf w (h.facts r hm)
    · exact h.facts s hs'
  · rcases hc with hc | hc
    · rw [hw'] at hc; cases hc
    · rcases List.mem_cons.1 ((erase_perm hi).symm.mem_iff.1 hs') with rfl | hs2
      · rw [hw] at hc; cases hc
      · exact ha s hs2 (.inr hc) b (hs b hb) hsb
  · rcases List.mem_cons.1 hs' with rfl | hs'
    · have := h.may r hm b (hs b hb)
      rw [hw] at this
      rw [hw']; exact this
    · exact h.may s hs' b hb
/-- Some of all errors. -/
theorem Own.envSub {w0 w : World} {E : Ent} {L : List Res} {B : Nat} {ad : Nat → Addr} (h : Own w0 E L w) (cs : List Nat) (i : Nat) (hi : L[i]? = some (rEnvA B ad)) (hc : ∀ c ∈ cs, c ∈ allErrs) : Own w0 E (rEnv B ad cs :: L) w :=
  h.addRO i hi rfl rfl (fun w hw => hw.env.sub hc) (fun b ⟨c, h1, h2⟩ => .inl ⟨c, hc c h1, h2⟩)
theorem Own.eS {w0 w : World} {E : Ent} {L : List Res} {B : Nat} {ad : Nat → Addr} (h : Own w0 E L w) (cs : List Nat) (i : Nat) (hi : L[i]? = some (rEnvA B ad)) (hc : ∀ c ∈ cs, c ∈ allErrs := by decide) : Own w0 E (rEnv B ad cs :: L) w := h.envSub cs i hi hc

/- coded of law package 2 by contract. -/


/- coded of law package 2, by what is owned. No condition. -/

/- A family of blocks, each told by what lies in it, as one resource (rFam): what pointers in a map or in a slice point to. Over any program, no condition. -/

/-- Blocks of one type, no two alike; each holds just what enc tells. -/
structure FamAt {α : Type} (T : TypeId) (enc : α → List Value) (l : List (Nat × α)) (w : World) : Prop where
  dist : (l.map (fun e => e.1)).Nodup
  at_ : ∀ e ∈ l, w.heap[e.1]? = some (.cells (enc e.2).toArray T (0, 0))
def rFam {α : Type} (wr : Bool) (T : TypeId) (enc : α → List Value) (l : List (Nat × α)) : Res :=
  ⟨wr, fun b => ∃ e ∈ l, e.1 = b, fun w => FamAt T enc l w,
   fun w w' h _ hb => ⟨h.1, fun e he => (hb e.1 ⟨e, he, rfl⟩).trans (h.2 e he)⟩, fun w b h ⟨e, he, hb⟩ => by rw [← hb]; exact lt_of_block (h.2 e he)⟩
section
variable {α : Type} {enc : α → List Value} {T : TypeId} {l : List (Nat × α)} {i b : Nat} {x : α}
theorem rdFam {wr : Bool} (hi : l[i]? = some (b, x)) (off : Nat) {vs : List Value} (h : ((enc x).drop off).take vs.length = vs) : RdAt (rFam wr T enc l) b off vs := fun w hf =>
  rdCell (wr := true) (b := b) (T := T) off h w (hf.2 _ (List.mem_of_getElem? hi))
theorem map_fst_set : ∀ (l : List (Nat × α)) (i : Nat) (b : Nat) (x x' : α), l[i]? = some (b, x) → (l.set i (b, x')).map (fun e => e.1) = l.map (fun e => e.1)
  | [], _, _, _, _, h => by simp at h
  | y :: l, 0, b, x, x', h => by simp at h; subst h; rfl
  | y :: l, i + 1, b, x, x', h => by simp [map_fst_set l i b x x' (by simpa using h)]
theorem fam_other {l : List (Nat × α)} (hn : (l.map (fun e => e.1)).Nodup) {i : Nat} {b : Nat} {x x' : α} (hi : l[i]? = some (b, x)) {e : Nat × α} (he : e ∈ l.set i (b, x')) : e = (b, x') ∨ (e ∈ l ∧ e.1 ≠ b) := by
  obtain ⟨j, hj, rfl⟩ := List.mem_iff_getElem.1 he
  rw [List.length_set] at hj
  by_cases hij : i = j
  · subst hij; left; simp
  · right
    rw [List.getElem_set_ne hij]
    refine ⟨List.getElem_mem hj, fun e => hij ?_⟩
    obtain ⟨hil, hx⟩ := List.getElem?_eq_some_iff.1 hi
    have hp := List.pairwise_iff_getElem.1 hn
    rcases Nat.lt_trichotomy i j with h | h | h
    · exact (hp i j (by simpa using hil) (by simpa using hj) h (by simp only [List.getElem_map, hx, e])).elim
    · exact h
    · exact (hp j i (by simpa using hj) (by simpa using hil) h (by simp only [List.getElem_map, hx, e])).elim
/-- Part of one of them is stored. -/
theorem wrFam (hi : l[i]? = some (b, x)) (off : Nat) (x' : α) {vs : List Value} (h : (enc x).take off ++ (vs ++ (enc x).drop (off + vs.length)) = enc x') (hl : Nat.ble (off + vs.length) (enc x).length = true) :
    WrAt (rFam true T enc l) b off vs (rFam true T enc (l.set i (b, x'))) := by
  have hl' := Nat.le_of_ble_eq_true hl
  have hm := List.mem_of_getElem? hi
  obtain ⟨_, hw⟩ := wrCell (b := b) (cs := enc x) (T := T) off vs hl' h
  refine ⟨rfl, fun w hf => ?_⟩
  obtain ⟨h1, h2, h3, _⟩ := hw w (hf.2 _ hm)
  refine ⟨h1, ⟨by rw [map_fst_set l i b x x' hi]; exact hf.1, fun e he => ?_⟩, ⟨_, hm, rfl⟩, fun y ⟨e, he, hy⟩ => ?_⟩
  · rcases fam_other hf.1 hi he with rfl | ⟨he, hne⟩
    · exact h2
    · have c := (chg_setCells (b := b) vs off w).block e.1 (lt_of_block (hf.2 e he)) hne
      exact c.trans (hf.2 e he)
  · rcases List.mem_or_eq_of_mem_set he with he | rfl
    · exact ⟨e, he, hy⟩
    · exact ⟨_, hm, hy⟩
end
theorem fam_set {α : Type} {l : List α} {j : Nat} {x x' : α} (h : l[j]? = some x) : (l.set j x')[j]? = some x' := by
  rw [List.getElem?_set_self (List.getElem?_eq_some_iff.1 h).1]
section
variable {α : Type} {enc : α → List Value} {T : TypeId} {l : List (Nat × α)} {w0 w : World} {E : Ent} {M : List Res}
/-- A new one. -/
theorem Own.famAdd {b : Nat} {cs : List Value} {x : α} (h : Own w0 E (rCell true b cs T :: rFam true T enc l :: M) w) (he : enc x = cs) : Own w0 E (rFam true T enc (l ++ [(b, x)]) :: M) w := by
  subst he
  have h0 := h.fact 0 rfl
  have h1 := h.fact 1 rfl
  have ap := h.apart
  simp only [List.pairwise_cons, List.mem_cons] at ap
  refine ⟨h.chg, h.mono, ?_, List.pairwise_cons.2 ⟨fun s hs hc x hx hsx => ?_, ap.2.2⟩, ?_⟩
  · intro r hr
    rcases List.mem_cons.1 hr with rfl | hr
    · refine ⟨?_, fun e he => ?_⟩
      · rw [List.map_append]
        refine List.nodup_append.2 ⟨h1.1, by simp, fun a ha c hc => ?_⟩
        obtain ⟨e, he, rfl⟩ := List.mem_map.1 ha
        simp at hc
        subst hc
        exact fun e' => ap.1 _ (.inl rfl) (.inl rfl) _ rfl ⟨e, he, e'⟩
      · rcases List.mem_append.1 he with he | he
        · exact h1.2 e he
        · rw [List.mem_singleton.1 he]; exact h0
    · exact h.facts r (by simp [hr])
  · obtain ⟨e, he, rfl⟩ := hx
    rcases List.mem_append.1 he with he | he
    · exact ap.2.1 s hs (.inl rfl) _ ⟨e, he, rfl⟩ hsx
    · rw [List.mem_singleton.1 he] at hsx
      exact ap.1 s (.inr hs) (.inl rfl) _ rfl hsx
  · intro r hr x hx
    rcases List.mem_cons.1 hr with rfl | hr
    · obtain ⟨e, he, rfl⟩ := hx
      rcases List.mem_append.1 he with he | he
      · exact h.may (rFam true T enc l) (by simp) _ ⟨e, he, rfl⟩
      · rw [List.mem_singleton.1 he]
        exact h.may (rCell true b (enc x) T) (by simp) _ rfl
    · exact h.may r (by simp [hr]) x hx
/-- Fewer of them. -/
theorem Own.famSub {l' : List (Nat × α)} (h : Own w0 E (rFam true T enc l :: M) w) (hs : l'.Sublist l) : Own w0 E (rFam true T enc l' :: M) w := by
  have h1 := h.fact 0 rfl
  have ap := h.apart
  simp only [List.pairwise_cons] at ap
  have hm : ∀ e ∈ l', e ∈ l := fun e he => hs.subset he
  refine ⟨h.chg, h.mono, ?_, List.pairwise_cons.2 ⟨fun s hs' hc x hx hsx => ?_, ap.2⟩, ?_⟩
  · intro r hr
    rcases List.mem_cons.1 hr with rfl | hr
    · exact ⟨h1.1.sublist (hs.map _), fun e he => h1.2 e (hm e he)⟩
    · exact h.facts r (by simp [hr])
  · obtain ⟨e, he, rfl⟩ := hx
    exact ap.1 s hs' (.inl rfl) _ ⟨e, hm e he, rfl⟩ hsx
  · intro r hr x hx
    rcases List.mem_cons.1 hr with rfl | hr
    · obtain ⟨e, he, rfl⟩ := hx
      exact h.may (rFam true T enc l) (by simp) _ ⟨e, hm e he, rfl⟩
    · exact h.may r (by simp [hr]) x hx
/-- None yet. -/
theorem Own.famNil (h : Own w0 E M w) (T : TypeId) (enc : α → List Value) : Own w0 E (rFam true T enc [] :: M) w :=
  ⟨h.chg, h.mono, fun r hr => by
    rcases List.mem_cons.1 hr with rfl | hr
    · exact ⟨by simp, by simp⟩
    · exact h.facts r hr, List.pairwise_cons.2 ⟨fun s _ _ x ⟨e, he, _⟩ => by simp at he, h.apart⟩, fun r hr x hx => by
    rcases List.mem_cons.1 hr with rfl | hr
    · obtain ⟨e, he, _⟩ := hx; simp at he
    · exact h.may r hr x hx⟩
end

section
/- Whole arrays stored into a block that is known whole, and loaded out of it; loops over a map told by its entries. Over any program. -/
open Go.RowKit Go.MapKept

theorem rangeAt_of {w : World} {b : Nat} {cs : List Value} {t : TypeId} {f : Nat × Nat} (h : w.heap[b]? = some (.cells cs.toArray t f)) : w.rangeAt b 0 cs := fun j v hv => by
  rw [cell_of h]; simpa using hv
theorem there_of {w : World} {b : Nat} {c : Array Value} {t : TypeId} (h : w.heap[b]? = some (.cells c t (0, 0))) : w.there b 0 c.size := fun j hj => by
  rw [cell_of h, free_of h]
  simp [hj]

theorem block_setAll {w : World} {b : Nat} {c0 : Array Value} {t : TypeId} {cs : List Value} (hb : w.heap[b]? = some (.cells c0 t (0, 0))) (hc0 : c0.size = cs.length) : (w.setCells b 0 cs).heap[b]? = some (.cells cs.toArray t (0, 0)) := by
  obtain ⟨cs', e1, e2, e3, _⟩ := block_setCells cs 0 w c0 hb
  have e : cs' = cs.toArray := by
    apply Array.ext_getElem?
    intro j
    rcases Nat.lt_or_ge j cs.length with hj | hj
    · have := e3 j hj (by omega)
      rw [Nat.zero_add] at this
      rw [this]; simp
    · rw [Array.getElem?_eq_none (by omega), Array.getElem?_eq_none (by simpa using hj)]
  rw [← e]; exact e1
/-- The tail of a row set anew. -/
theorem block_setTail {w : World} {b r : Nat} {cs vs : List Value} {t : TypeId} (hb : w.heap[b]? = some (.cells cs.toArray t (0, 0))) (hr : r + vs.length = cs.length) : (w.setCells b r vs).heap[b]? = some (.cells (cs.take r ++ vs).toArray t (0, 0)) := by
  obtain ⟨cs', e1, e2, e3, e4⟩ := block_setCells vs r w cs.toArray hb
  have e : cs' = (cs.take r ++ vs).toArray := by
    apply Array.ext_getElem?
    intro j
    simp only [List.size_toArray] at e2 e3
    rw [show ((cs.take r ++ vs).toArray)[j]? = (cs.take r ++ vs)[j]? by simp]
    rcases Nat.lt_or_ge j r with hj | hj
    · rw [e4 j (.inl hj), List.getElem?_append_left (by rw [List.length_take]; omega), List.getElem?_take, if_pos hj]; simp
    · obtain ⟨i, rfl⟩ : ∃ i, j = r + i := ⟨j - r, by omega⟩
      have hl : (cs.take r).length = r := by rw [List.length_take]; omega
      rw [List.getElem?_append_right (by omega), hl, Nat.add_sub_cancel_left]
      rcases Nat.lt_or_ge i vs.length with hi | hi
      · exact e3 i hi (by omega)
      · rw [Array.getElem?_eq_none (by omega), List.getElem?_eq_none (by omega)]
  rw [← e]; exact e1

section
variable {P : Program} {ops : Array Oper} {rest : List Oper} {op : Oper} {a : Act} {w : World} {Q : Exit → Act → World → Prop}
theorem wpList_storeB (hgd : op.guard = none) (ty : TypeId) (x y : Operand) (ho : op.op = .store ty x y) (b : Nat) (cs : List Value) (n : Nat) (hx : a.eval x = .pointer (some ⟨b, 0, none⟩)) (hy : a.eval y = .agg cs.toArray)
    {c0 : Array Value} {t : TypeId} (hb : w.heap[b]? = some (.cells c0 t (0, 0))) (hc0 : c0.size = n) (hi : (P.info? ty).map (·.size) = some n) (hn : cs.length = n) (h1 : ∀ v ∈ cs, v.oneCell' = true)
    (h : ∀ w', w'.heap[b]? = some (.cells cs.toArray t (0, 0)) → Chg (· = b) w w' → w'.heap.size = w.heap.size → wpList P ops Q rest (a.put op.dst undef) w') : wpList P ops Q (op :: rest) a w := by
  subst hn
  have ht := there_of hb
  rw [hc0] at ht
  obtain ⟨cs', e1, e2, e3, _⟩ := block_setCells cs 0 w c0 hb
  have e : cs' = cs.toArray := by
    apply Array.ext_getElem?
    intro j
    rcases Nat.lt_or_ge j cs.length with hj | hj
    · have := e3 j hj (by omega)
      rw [Nat.zero_add] at this
      rw [this]; simp
    · rw [Array.getElem?_eq_none (by omega), Array.getElem?_eq_none (by simpa using hj)]
  subst e
  exact wpList_store_mid hgd ty x y ho b 0 cs.toArray hx hy (by simpa using ht) (by simpa using hi) (all_oneCell_toArray h1) (h _ e1 (chg_setCells _ _ _) (size_setCells' _ _ _))
theorem wpList_loadB (hgd : op.guard = none) (ty : TypeId) (x : Operand) (ho : op.op = .load ty x) (b : Nat) (cs : List Value) (n : Nat) (d : TypeDesc) (hx : a.eval x = .pointer (some ⟨b, 0, none⟩))
    {t : TypeId} {f : Nat × Nat} (hb : w.heap[b]? = some (.cells cs.toArray t f)) (hu : P.underlying ty = some d) (hd : d.isRow = true) (hi : (P.info? ty).map (·.size) = some n) (hn : cs.length = n)
    (h : wpList P ops Q rest (a.put op.dst (.agg cs.toArray)) w) : wpList P ops Q (op :: rest) a w :=
  wpList_load_mid hgd ty x ho b 0 hx cs d (rangeAt_of hb) hu hd (by rw [hn]; exact hi) h
end

/-! ### A loop over a map -/
section
variable {α : Type} [DecidableEq α] {f : α → Value} {kv : List (α × Value)} {w : World}
/-- Block r is an iterator over the map at block b, whose entries are kv; vis: the keys that have come. -/
def IterA (w : World) (b r : Nat) (f : α → Value) (kv : List (α × Value)) (vis : α → Bool) : Prop :=
  ∃ es clock since seen c0, w.heap[b]? = some (.map es clock) ∧ es.toList.map (fun e => (e.key, e.val)) = kv.map (fun p => (f p.1, p.2)) ∧ Stamped es clock ∧
    w.heap[r]? = some (.mapIter (some b) since seen c0) ∧ (∀ x ∈ es.toList, x.born < since) ∧ since ≤ c0 ∧ since ≤ clock ∧ ∀ x ∈ es.toList, ∀ k, x.key = f k → vis k = seen.contains x.born
theorem IterA.map {b r : Nat} {vis : α → Bool} (h : IterA w b r f kv vis) : MapA w b f kv := by
  obtain ⟨es, clock, _, _, _, h1, h2, h3, _⟩ := h
  exact ⟨es, clock, h1, h2, h3⟩
theorem IterA.keep {S : Nat → Prop} {w' : World} {b r : Nat} {vis : α → Bool} (h : IterA w b r f kv vis) (c : Chg S w w') (hb : ¬ S b) (hr : ¬ S r) : IterA w' b r f kv vis := by
  obtain ⟨es, clock, since, seen, c0, h1, h2, h3, h4, rest⟩ := h
  exact ⟨es, clock, since, seen, c0, c.keep h1 hb, h2, h3, c.keep h4 hr, rest⟩
theorem IterA.lt {b r : Nat} {vis : α → Bool} (h : IterA w b r f kv vis) : b < w.heap.size ∧ r < w.heap.size ∧ b ≠ r := by
  obtain ⟨es, clock, since, seen, c0, h1, h2, h3, h4, _⟩ := h
  refine ⟨lt_of_block h1, lt_of_block h4, fun e => ?_⟩
  subst e; rw [h1] at h4; cases h4

variable {P : Program} {K E : TypeId}
theorem run_rangeA {b : Nat} {T : TypeId} (ht : P.underlying T = some (.map K E)) (h : MapA w b f kv) :
    ∃ w', (Instr.range T (.map (some b))).run P w = .ok (.pointer (some ⟨w.heap.size, 0, none⟩)) w' ∧ IterA w' b w.heap.size f kv (fun _ => false) ∧ Chg Nil w w' ∧ w'.heap.size = w.heap.size + 1 := by
  obtain ⟨es, clock, hb, he, hs⟩ := h
  refine ⟨_, run_range_map w T K E b es clock ht hb, ⟨es, clock, clock, #[], clock, block_alloc_old hb _, he, hs, block_alloc _ _, hs.1, Nat.le_refl _, Nat.le_refl _, fun x _ k _ => by simp⟩, (Chg.refl Nil w).alloc _, by simp⟩

theorem run_nextA {b r : Nat} {vis : α → Bool} (h : IterA w b r f kv vis) (inj : ∀ a b, f a = f b → a = b) (ty : TypeId) :
    ((∀ p ∈ kv, vis p.1 = true) ∧ (Instr.next (.pointer (some ⟨r, 0, none⟩)) false ty).run P w = .ok (.tuple #[.bool false]) w) ∨
    ∃ k v w', (k, v) ∈ kv ∧ vis k = false ∧ (Instr.next (.pointer (some ⟨r, 0, none⟩)) false ty).run P w = .ok (.tuple #[.bool true, f k, v]) w' ∧
      IterA w' b r f kv (fun x => vis x || decide (x = k)) ∧ Chg (· = r) w w' ∧ w'.heap.size = w.heap.size ∧ (Instr.entry (.pointer (some ⟨r, 0, none⟩))).run P w' = .ok (.tuple #[f k, v]) w' := by
  have hne := h.lt.2.2
  obtain ⟨es, clock, since, seen, c0, hb, he, hs, hr, hold, hsc, hsk, hvis⟩ := h
  have hst := (stamped_iff es clock).1 hs
  have memkv : ∀ x ∈ es.toList, ∃ k, (k, x.val) ∈ kv ∧ x.key = f k := fun x hx => by
    have : (x.key, x.val) ∈ kv.map (fun p => (f p.1, p.2)) := by rw [← he]; exact List.mem_map.2 ⟨x, hx, rfl⟩
    obtain ⟨p, hp, e⟩ := List.mem_map.1 this
    simp only [Prod.mk.injEq] at e
    exact ⟨p.1, by rw [← e.2]; exact hp, e.1.symm⟩
  rcases run_next_at (P := P) w ty r b since c0 seen es clock hr hb hold hsc with ⟨h0, hrun⟩ | ⟨e, hem', w1, hal, hrun⟩
  · left
    refine ⟨fun p hp => ?_, hrun⟩
    have : (f p.1, p.2) ∈ es.toList.map (fun e => (e.key, e.val)) := by rw [he]; exact List.mem_map.2 ⟨p, hp, rfl⟩
    obtain ⟨x, hx, ex⟩ := List.mem_map.1 this
    simp only [Prod.mk.injEq] at ex
    rw [hvis x hx p.1 ex.1]
    exact all_seen es seen h0 x hx
  · right
    obtain ⟨hem, hes⟩ := mem_left hem'
    obtain ⟨k, hk, hkey⟩ := memkv e hem
    have hr1 : w1.heap[r]? = some (.mapIter (some b) since seen c0) := by rcases hal with rfl | rfl <;> exact hr
    have hb1 : w1.heap[b]? = some (.map es clock) := by rcases hal with rfl | rfl <;> exact hb
    have hset := heap_set (o' := .mapIter (some b) since (seen.push e.born) clock) hr1
    have hb' : (ChangeMaps.setBlock w1 r (.mapIter (some b) since (seen.push e.born) clock)).heap[b]? = some (.map es clock) := (hset.2 b (fun e1 => hne e1)).trans hb1
    refine ⟨k, e.val, _, hk, by rw [hvis e hem k hkey]; exact hes, by rw [← hkey]; exact hrun,
      ⟨es, clock, since, seen.push e.born, clock, hb', he, hs, hset.1, hold, hsk, hsk, fun x hx j hj => ?_⟩, ?_, ?_, by rw [← hkey]; exact run_entry_at _ r b since seen es clock e hset.1 hb' hem hst.2.1⟩
    · show (vis j || decide (j = k)) = _
      rw [hvis x hx j hj, contains_push]
      congr 1
      by_cases hbe : x.born = e.born
      · have := born_inj hst.2.1 hx hem hbe
        subst this
        have : j = k := inj _ _ (hj.symm.trans hkey)
        simp [this]
      · have hjk : j ≠ k := fun ejk => by
          subst ejk
          have := entry_eq_of_key hst.2.2 hx hem (hj.trans hkey.symm)
          subst this
          exact hbe rfl
        simp [hbe, hjk]
    · rcases hal with rfl | rfl <;> exact ⟨rfl, rfl, rfl, by simp [ChangeMaps.setBlock], fun i _ hi => hset.2 i (fun e1 => hi e1)⟩
    · rcases hal with rfl | rfl <;> simp [ChangeMaps.setBlock]

theorem run_deleteIter {b r : Nat} {vis : α → Bool} {T Kt ty : TypeId} (F : KeyFn P K f) (ht : P.underlying T = some (.map K E)) (h : IterA w b r f kv vis) (a : α) :
    ∃ w', (Builtin.delete_ #[T, Kt] ty #[.map (some b), f a]).run P w = .ok (.tuple #[]) w' ∧ IterA w' b r f (adel kv a) vis ∧ Chg (· = b) w w' ∧ w'.heap.size = w.heap.size := by
  have hne := h.lt.2.2
  obtain ⟨es, clock, since, seen, c0, hb, he, hs, hr, hold, hsc, hsk, hvis⟩ := h
  have hch : ∀ o : Obj, Chg (· = b) w { w with heap := w.heap.setIfInBounds b o } := fun o =>
    ⟨rfl, rfl, rfl, by simp, fun k _ hk => (heap_set (o' := o) hb).2 k hk⟩
  have hfd := F.find a es.toList kv w he
  cases hf : findA kv a 0 with
  | none =>
    obtain ⟨_, _, h3, _⟩ := findA_none hf
    have hr' : (Builtin.delete_ #[T, Kt] ty #[.map (some b), f a]).run P w = .ok (.tuple #[]) { w with heap := w.heap.setIfInBounds b (.map es clock) } := by
      simp only [Builtin.delete_, List.getElem?_toArray, List.getElem?_cons_zero, List.getElem?_cons_succ, Sem.run_bind, run_underlying ht, Result.andThen_ok, MapKept.run_getObj_map hb, F.chk, Sem.run_pure]
      rw [hfd, hf]
      simp only [Result.andThen_ok, Sem.run_bind]
      rw [MapKept.run_setObj_map _ hb]
      rfl
    exact ⟨_, hr', ⟨es, clock, since, seen, c0, (heap_set hb).1, by rw [h3]; exact he, hs, ((heap_set hb).2 r (Ne.symm hne)).trans hr, hold, hsc, hsk, hvis⟩, hch _, by simp⟩
  | some p =>
    obtain ⟨j, u⟩ := p
    obtain ⟨n, e0, h1, h2, _, h3⟩ := findA_some hf
    have e0' : j = n := by omega
    subst e0'
    have hl : es.size = kv.length := by simpa using congrArg List.length he
    have hj : j < es.size := by rw [hl]; exact (List.getElem?_eq_some_iff.1 h1).1
    have hsub : (es.eraseIdxIfInBounds j).toList = es.toList.eraseIdx j := by
      simp only [Array.eraseIdxIfInBounds, hj, dite_true, Array.toList_eraseIdx]
    have hr' : (Builtin.delete_ #[T, Kt] ty #[.map (some b), f a]).run P w = .ok (.tuple #[]) { w with heap := w.heap.setIfInBounds b (.map (es.eraseIdxIfInBounds j) clock) } := by
      simp only [Builtin.delete_, List.getElem?_toArray, List.getElem?_cons_zero, List.getElem?_cons_succ, Sem.run_bind, run_underlying ht, Result.andThen_ok, MapKept.run_getObj_map hb, F.chk, Sem.run_pure]
      rw [hfd, hf]
      simp only [Result.andThen_ok, Sem.run_bind]
      rw [MapKept.run_setObj_map _ hb]
      rfl
    have hmem : ∀ x ∈ (es.eraseIdxIfInBounds j).toList, x ∈ es.toList := fun x hx => by rw [hsub] at hx; exact (List.eraseIdx_sublist _ _).subset hx
    refine ⟨_, hr', ⟨es.eraseIdxIfInBounds j, clock, since, seen, c0, (heap_set hb).1, ?_, stamped_erase hs j, ((heap_set hb).2 r (Ne.symm hne)).trans hr, fun x hx => hold x (hmem x hx), hsc, hsk, fun x hx => hvis x (hmem x hx)⟩, hch _, by simp⟩
    rw [h3, hsub, map_erase, map_erase, he]

/-! ### At the operations -/
variable {ops : Array Oper} {rest : List Oper} {o : Oper} {a : Act} {Q : Exit → Act → World → Prop}
theorem wpList_rangeA (hg : o.guard = none) (m : Operand) (T : TypeId) (hop : o.op = Op.range T m) (K E : TypeId) (ht : P.underlying T = some (.map K E)) (b : Nat) (hm : a.eval m = .map (some b)) (h : MapA w b f kv)
    (hK : ∀ w', IterA w' b w.heap.size f kv (fun _ => false) → Chg Nil w w' → w'.heap.size = w.heap.size + 1 → wpList P ops Q rest (a.put o.dst (.pointer (some ⟨w.heap.size, 0, none⟩))) w') : wpList P ops Q (o :: rest) a w := by
  refine wpList_plain hg fun K' hK' => ?_
  obtain ⟨w', hrun, r1, r2, r3⟩ := run_rangeA ht h
  unfold Oper.wp
  simp [execOp, hop, hm, hrun, Result.andThen]
  exact hK' _ _ (hK w' r1 r2 r3)
theorem wpList_nextA (hg : o.guard = none) (it : Operand) (hop : o.op = Op.next it false) (b r : Nat) (hit : a.eval it = .pointer (some ⟨r, 0, none⟩)) (vis : α → Bool) (h : IterA w b r f kv vis) (inj : ∀ a b, f a = f b → a = b)
    (hDone : (∀ p ∈ kv, vis p.1 = true) → wpList P ops Q rest (a.put o.dst (.tuple #[.bool false])) w)
    (hMore : ∀ k v w', (k, v) ∈ kv → vis k = false → IterA w' b r f kv (fun x => vis x || decide (x = k)) → Chg (· = r) w w' → w'.heap.size = w.heap.size →
      (Instr.entry (.pointer (some ⟨r, 0, none⟩))).run P w' = .ok (.tuple #[f k, v]) w' → wpList P ops Q rest (a.put o.dst (.tuple #[.bool true, f k, v])) w') : wpList P ops Q (o :: rest) a w := by
  refine wpList_plain hg fun K' hK' => ?_
  unfold Oper.wp
  rcases run_nextA (P := P) h inj o.type with ⟨h0, hrun⟩ | ⟨k, v, w', hk, hv, hrun, hi, hc, hz, hen⟩
  · simp [execOp, hop, hit, hrun, Result.andThen]
    exact hK' _ _ (hDone h0)
  · simp [execOp, hop, hit, hrun, Result.andThen]
    exact hK' _ _ (hMore k v w' hk hv hi hc hz hen)
theorem wpList_deleteIter (hg : o.guard = none) (m x : Operand) (T Kt : TypeId) (hop : o.op = Op.call { callee := .builtin .delete, args := #[m, x], argTypes := #[T, Kt] }) (K E : TypeId) (ht : P.underlying T = some (.map K E)) (F : KeyFn P K f)
    (b r : Nat) (hm : a.eval m = .map (some b)) (vis : α → Bool) (h : IterA w b r f kv vis) (k : α) (hx : a.eval x = f k)
    (hK : ∀ w', IterA w' b r f (adel kv k) vis → Chg (· = b) w w' → w'.heap.size = w.heap.size → wpList P ops Q rest (a.put o.dst (.tuple #[])) w') : wpList P ops Q (o :: rest) a w := by
  refine wpList_plain hg fun K' hK' => ?_
  obtain ⟨w', hr, h1, h2, h3⟩ := run_deleteIter (Kt := Kt) (ty := o.type) F ht h k
  unfold Oper.wp
  simp [execOp, hop, resolve, invoke, builtin, hm, hx, hr, Result.andThen]
  exact hK' _ _ (hK w' h1 h2 h3)
end

end
section
/- Loops over maps by what is owned: a map that is being gone through (rIter). Over any program, no condition. -/

open Go.MapKept
section
variable {α : Type} [DecidableEq α] {f : α → Value} {kv : List (α × Value)} {w : World} {P : Program}
/-- The entry that has come last. -/
def IterE (P : Program) (w : World) (b r : Nat) (u : Value) : Prop := ∀ w' : World, w'.heap[b]? = w.heap[b]? → w'.heap[r]? = w.heap[r]? → (Instr.entry (.pointer (some ⟨r, 0, none⟩))).run P w' = .ok u w'
theorem run_nextE {b r : Nat} {vis : α → Bool} (h : IterA w b r f kv vis) (inj : ∀ a b, f a = f b → a = b) (ty : TypeId) :
    ((∀ p ∈ kv, vis p.1 = true) ∧ (Instr.next (.pointer (some ⟨r, 0, none⟩)) false ty).run P w = .ok (.tuple #[.bool false]) w) ∨
    ∃ k v w', (k, v) ∈ kv ∧ vis k = false ∧ (Instr.next (.pointer (some ⟨r, 0, none⟩)) false ty).run P w = .ok (.tuple #[.bool true, f k, v]) w' ∧
      IterA w' b r f kv (fun x => vis x || decide (x = k)) ∧ Chg (· = r) w w' ∧ w'.heap.size = w.heap.size ∧ IterE P w' b r (.tuple #[f k, v]) := by
  have hne := h.lt.2.2
  obtain ⟨es, clock, since, seen, c0, hb, he, hs, hr, hold, hsc, hsk, hvis⟩ := h
  have hst := (stamped_iff es clock).1 hs
  have memkv : ∀ x ∈ es.toList, ∃ k, (k, x.val) ∈ kv ∧ x.key = f k := fun x hx => by
    have : (x.key, x.val) ∈ kv.map (fun p => (f p.1, p.2)) := by rw [← he]; exact List.mem_map.2 ⟨x, hx, rfl⟩
    obtain ⟨p, hp, e⟩ := List.mem_map.1 this
    simp only [Prod.mk.injEq] at e
    exact ⟨p.1, by rw [← e.2]; exact hp, e.1.symm⟩
  rcases run_next_at (P := P) w ty r b since c0 seen es clock hr hb hold hsc with ⟨h0, hrun⟩ | ⟨e, hem', w1, hal, hrun⟩
  · left
    refine ⟨fun p hp => ?_, hrun⟩
    have : (f p.1, p.2) ∈ es.toList.map (fun e => (e.key, e.val)) := by rw [he]; exact List.mem_map.2 ⟨p, hp, rfl⟩
    obtain ⟨x, hx, ex⟩ := List.mem_map.1 this
    simp only [Prod.mk.injEq] at ex
    rw [hvis x hx p.1 ex.1]
    exact all_seen es seen h0 x hx
  · right
    obtain ⟨hem, hes⟩ := mem_left hem'
    obtain ⟨k, hk, hkey⟩ := memkv e hem
    have hr1 : w1.heap[r]? = some (.mapIter (some b) since seen c0) := by rcases hal with rfl | rfl <;> exact hr
    have hb1 : w1.heap[b]? = some (.map es clock) := by rcases hal with rfl | rfl <;> exact hb
    have hset := heap_set (o' := .mapIter (some b) since (seen.push e.born) clock) hr1
    have hb' : (ChangeMaps.setBlock w1 r (.mapIter (some b) since (seen.push e.born) clock)).heap[b]? = some (.map es clock) := (hset.2 b (fun e1 => hne e1)).trans hb1
    refine ⟨k, e.val, _, hk, by rw [hvis e hem k hkey]; exact hes, by rw [← hkey]; exact hrun,
      ⟨es, clock, since, seen.push e.born, clock, hb', he, hs, hset.1, hold, hsk, hsk, fun x hx j hj => ?_⟩, ?_, ?_, fun w2 q1 q2 => by rw [← hkey]; exact run_entry_at _ r b since seen es clock e (q2.trans hset.1) (q1.trans hb') hem hst.2.1⟩
    · show (vis j || decide (j = k)) = _
      rw [hvis x hx j hj, contains_push]
      congr 1
      by_cases hbe : x.born = e.born
      · have := born_inj hst.2.1 hx hem hbe
        subst this
        have : j = k := inj _ _ (hj.symm.trans hkey)
        simp [this]
      · have hjk : j ≠ k := fun ejk => by
          subst ejk
          have := entry_eq_of_key hst.2.2 hx hem (hj.trans hkey.symm)
          subst this
          exact hbe rfl
        simp [hbe, hjk]
    · rcases hal with rfl | rfl <;> exact ⟨rfl, rfl, rfl, by simp [ChangeMaps.setBlock], fun i _ hi => hset.2 i (fun e1 => hi e1)⟩
    · rcases hal with rfl | rfl <;> simp [ChangeMaps.setBlock]
end
section
variable {α : Type} [DecidableEq α] {P : Program} {a : Act} {w w0 : World} {En : Ent} {L M : List Res} {Ka : Act → World → Prop} {Q : Exit → Act → World → Prop} {ops : Array Oper} {rest : List Oper} {K E : TypeId} {f : α → Value} {kv : List (α × Value)}
variable {dst : Option Tmp} {m x v : Operand} {T ty : TypeId} {pos : String} {after : Array Edge} {g : Option (Nat × Bool)} {b r : Nat} {vis : α → Bool}
/-- Block r goes through the map at block b; vis: the keys that have come. -/
def rIter (b r : Nat) (f : α → Value) (kv : List (α × Value)) (vis : α → Bool) : Res :=
  ⟨true, fun x => x = b ∨ x = r, fun w => IterA w b r f kv vis, fun w w' h _ hb => by
    obtain ⟨es, clock, since, seen, c0, h1, h2, h3, h4, rest⟩ := h
    exact ⟨es, clock, since, seen, c0, (hb b (.inl rfl)).trans h1, h2, h3, (hb r (.inr rfl)).trans h4, rest⟩, fun w x h hx => by
    obtain ⟨h1, h2, _⟩ := h.lt
    rcases hx with rfl | rfl
    · exact h1
    · exact h2⟩
/-- How many are still to come. -/
def lefts (vis : α → Bool) (kv : List (α × Value)) : Nat := (kv.filter fun p => !vis p.1).length
theorem lefts_lt {k : α} {l : Value} : ∀ {kv : List (α × Value)}, (k, l) ∈ kv → vis k = false → lefts (fun x => vis x || decide (x = k)) kv < lefts vis kv
  | [], h, _ => by cases h
  | p :: r, h, hk => by
    have mono : ∀ kv : List (α × Value), lefts (fun x => vis x || decide (x = k)) kv ≤ lefts vis kv := by
      intro kv
      unfold lefts
      rw [← List.countP_eq_length_filter, ← List.countP_eq_length_filter]
      exact List.countP_mono_left (fun p _ hp => by simp at hp ⊢; exact hp.1)
    rcases List.mem_cons.1 h with rfl | h
    · have := mono r
      simp only [lefts, List.filter_cons, hk, Bool.false_or, decide_true, Bool.not_true, Bool.not_false, if_true, Bool.false_eq_true, if_false, List.length_cons] at this ⊢
      omega
    · have := lefts_lt h hk
      unfold lefts at this ⊢
      simp only [List.filter_cons]
      cases hv : vis p.1 <;> by_cases e : p.1 = k <;> simp [e, hv] at this ⊢ <;> omega
/-- .. and u: the entry that has come last. -/
def rIterE (P : Program) (b r : Nat) (f : α → Value) (kv : List (α × Value)) (vis : α → Bool) (u : Value) : Res :=
  ⟨true, fun x => x = b ∨ x = r, fun w => IterA w b r f kv vis ∧ IterE P w b r u, fun w w' h hs hb =>
    ⟨(rIter b r f kv vis).stab w w' h.1 hs hb, fun w2 h1 h2 => h.2 w2 (h1.trans (hb b (.inl rfl))) (h2.trans (hb r (.inr rfl)))⟩, fun w x h hx => (rIter b r f kv vis).alive w x h.1 hx⟩
theorem g_entry {u : Value} (hx : a.eval m = .pointer (some ⟨r, 0, none⟩)) (i : Nat) (hi : L[i]? = some (rIterE P b r f kv vis u)) : Gives P w0 En L ⟨dst, .entry m, ty, pos, after, g⟩ a u := fun w ho => by
  have hm : IterA w b r f kv vis ∧ IterE P w b r u := ho.fact i hi
  simp [execOp, hx, hm.2 w rfl rfl, Result.andThen]
theorem Own.iterForget {u : Value} (h : Own w0 En L w) (i : Nat) (hi : L[i]? = some (rIterE P b r f kv vis u)) : Own w0 En (L.set i (rIter b r f kv vis)) w :=
  h.upd i hi rfl (Chg.refl _ _) (h.fact i hi : _ ∧ _).1 fun y hy => .inl hy
theorem op_range (hx : (a.eval m, P.underlying T) = (.map (some b), some (.map K E))) (h : Own w0 En L w) (i : Nat) (hi : L[i]? = some (rMap true b f kv))
    (hK : ∀ r w', Own w0 En (L.set i (rIter b r f kv (fun _ => false))) w' → Ka (a.put dst (.pointer (some ⟨r, 0, none⟩))) w') : Oper.wp P ⟨dst, .range T m, ty, pos, after, g⟩ a w Ka Q := by
  simp only [Prod.mk.injEq] at hx
  have hm : MapA w b f kv := h.fact i hi
  obtain ⟨w', hrun, r1, r2, r3⟩ := run_rangeA hx.2 hm
  unfold Oper.wp
  simp [execOp, hx.1, hrun, Result.andThen]
  exact hK _ _ (h.upd i hi rfl (r2.mono fun _ _ f => f.elim) r1 fun y hy => hy.imp (fun e => e) (fun e => Nat.le_of_eq e.symm))
theorem op_next (inj : ∀ a b, f a = f b → a = b) (hx : a.eval m = .pointer (some ⟨r, 0, none⟩)) (h : Own w0 En L w) (i : Nat) (hi : L[i]? = some (rIter b r f kv vis))
    (hDone : (∀ p ∈ kv, vis p.1 = true) → Own w0 En L w → Ka (a.put dst (.tuple #[.bool false])) w)
    (hMore : ∀ k v w', (k, v) ∈ kv → vis k = false → Own w0 En (L.set i (rIterE P b r f kv (fun x => vis x || decide (x = k)) (.tuple #[f k, v]))) w' → Ka (a.put dst (.tuple #[.bool true, f k, v])) w') : Oper.wp P ⟨dst, .next m false, ty, pos, after, g⟩ a w Ka Q := by
  have hm : IterA w b r f kv vis := h.fact i hi
  unfold Oper.wp
  rcases run_nextE (P := P) hm inj ty with ⟨h0, hrun⟩ | ⟨k, v, w', hk, hv, hrun, hit, hc, hz, hen⟩
  · simp [execOp, hx, hrun, Result.andThen]
    exact hDone h0 h
  · simp [execOp, hx, hrun, Result.andThen]
    exact hMore k v w' hk hv (h.upd i hi rfl (hc.mono fun _ _ e => .inr e) ⟨hit, hen⟩ fun y hy => .inl hy)
/-- The map again. -/
theorem Own.iterEnd (h : Own w0 En L w) (i : Nat) (hi : L[i]? = some (rIter b r f kv vis)) : Own w0 En (L.set i (rMap true b f kv)) w :=
  h.upd i hi rfl (Chg.refl _ _) (h.fact i hi : IterA w b r f kv vis).map fun y hy => .inl (.inl hy)
theorem sq_range (hg : Region.wanted ⟨dst, .range T m, ty, pos, after, g⟩ (yielded ops a.tmps) = true) (hx : (a.eval m, P.underlying T) = (.map (some b), some (.map K E))) (h : Own w0 En L w) (i : Nat) (hi : L[i]? = some (rMap true b f kv))
    (hK : ∀ r w', Own w0 En (L.set i (rIter b r f kv (fun _ => false))) w' → LW P ops Q rest (a.put dst (.pointer (some ⟨r, 0, none⟩))) w') : LW P ops Q (⟨dst, .range T m, ty, pos, after, g⟩ :: rest) a w := ⟨sqg hg (op_range hx h i hi fun r w' h => (hK r w' h).out)⟩
theorem sq_next (hg : Region.wanted ⟨dst, .next m false, ty, pos, after, g⟩ (yielded ops a.tmps) = true) (inj : ∀ a b, f a = f b → a = b) (hx : a.eval m = .pointer (some ⟨r, 0, none⟩)) (h : Own w0 En L w) (i : Nat) (hi : L[i]? = some (rIter b r f kv vis))
    (hDone : (∀ p ∈ kv, vis p.1 = true) → Own w0 En L w → LW P ops Q rest (a.put dst (.tuple #[.bool false])) w)
    (hMore : ∀ k v w', (k, v) ∈ kv → vis k = false → Own w0 En (L.set i (rIterE P b r f kv (fun x => vis x || decide (x = k)) (.tuple #[f k, v]))) w' → LW P ops Q rest (a.put dst (.tuple #[.bool true, f k, v])) w') : LW P ops Q (⟨dst, .next m false, ty, pos, after, g⟩ :: rest) a w :=
  ⟨sqg hg (op_next inj hx h i hi (fun h0 h => (hDone h0 h).out) fun k v w' h1 h2 h => (hMore k v w' h1 h2 h).out)⟩
end

end
section
/- The built-in clear and the built-in copy at structs; a slice cut behind; over any program, no condition. -/
open Go.RowKit Go.Lib

section
variable {α : Type} {enc : α → List Value} {k : Nat} {P : Program}
theorem zeroCells_len (z : Array Value) (n : Nat) : (Builtin.zeroCells z n).toList.length = n * z.size := by simp [Builtin.zeroCells]
theorem zeroCells_one {z : Array Value} (h1 : ∀ u ∈ z.toList, u.oneCell' = true) (n : Nat) : ∀ u ∈ (Builtin.zeroCells z n).toList, u.oneCell' = true := by
  intro u hu
  simp only [Builtin.zeroCells, Array.toList_map, List.mem_map, Array.mem_toList_iff, Array.mem_range] at hu
  obtain ⟨i, hi, rfl⟩ := hu
  have hz : 0 < z.size := by
    rcases Nat.eq_zero_or_pos z.size with h | h
    · rw [h] at hi; simp at hi
    · exact h
  have hm : i % z.size < z.size := Nat.mod_lt _ hz
  refine h1 _ ?_
  rw [getElem!_pos z _ hm]
  simp
/-- clear(s), s a slice of structs. -/
theorem run_clearK (w : World) (t e ty : TypeId) (z : Value) (ht : P.underlying t = some (.slice e)) (hv : ∀ w, (zeroValue e).run P w = .ok z w) (h1 : ∀ u ∈ z.cells.toList, u.oneCell' = true) {T : TypeId} {b o n c : Nat} {cs : Array Value} (hb : w.heap[b]? = some (.cells cs T (0, 0))) (hn : 0 < n) (hc : o + n * z.cells.size ≤ cs.size) :
    (Builtin.clear_ #[t] ty #[.slice (some ⟨b, o, none⟩) n c]).run P w = .ok (.tuple #[]) (w.setCells b o (Builtin.zeroCells z.cells n).toList) := by
  have hst := run_storeCells_cells (P := P) b o (Builtin.zeroCells z.cells n).toList 0 w (fun j hj => by
      rw [zeroCells_len] at hj
      rw [cell_of hb]
      simp; omega) (fun j _ => free_of hb _) (zeroCells_one h1 n)
  simp only [Nat.add_zero] at hst
  obtain ⟨m, rfl⟩ : ∃ m, n = m + 1 := ⟨n - 1, by omega⟩
  simp [Builtin.clear_, run_underlying ht, hv, hst]
/-- The slice cut behind its first i elements, what lay behind them written over. -/
theorem SliceAt.cutOver (he : ∀ a, (enc a).length = k) {w : World} {g off n cap E i : Nat} {l : List α} {S : Nat → Prop} (h : SliceAt w (.slice (some ⟨g, off, none⟩) n cap) E k n (l.flatMap enc) S) (hi : i ≤ n) (hl : n = l.length) {vs : List Value} (hv : vs.length = (n - i) * k) :
    SliceAt (w.setCells g (off + i * k) vs) (.slice (some ⟨g, off, none⟩) i cap) E k i ((l.take i).flatMap enc) S := by
  subst hl
  obtain ⟨h1, ⟨e, _⟩ | ⟨g', off', cap', cs, e, hb, h2, h3, h4, h5, h6⟩⟩ := h
  · cases e
  cases e
  obtain ⟨cs', e1, e2, e3, e4⟩ := block_setCells vs (off + i * k) w cs hb
  have hle : i * k ≤ l.length * k := Nat.mul_le_mul_right _ hi
  refine ⟨by rw [flat_len enc he, List.length_take, Nat.min_eq_left hi], .inr ⟨g, off, cap, cs', rfl, e1, by omega, h3, by rw [e2]; exact h4, fun j u hj => ?_, h6⟩⟩
  have hjl := (List.getElem?_eq_some_iff.1 hj).1
  rw [flat_len enc he, List.length_take, Nat.min_eq_left hi] at hjl
  rw [e4 _ (by omega)]
  refine h5 j u ?_
  have e5 : l.flatMap enc = (l.take i).flatMap enc ++ (l.drop i).flatMap enc := by rw [← List.flatMap_append, List.take_append_drop]
  rw [e5, List.getElem?_append_left (by rw [flat_len enc he, List.length_take, Nat.min_eq_left hi]; exact hjl)]
  exact hj
/-- copy(d, s), both of structs. -/
theorem run_copyK (w : World) (dT sT ty elem : TypeId) (b o dLen dCap : Nat) (a : Addr) (sLen sCap : Nat) (cs : List Value) {size : Nat}
    (hu : P.underlying dT = some (.slice elem)) (hs : (P.info? elem).map (·.size) = some size) (hn : cs.length = Nat.min sLen dLen * size)
    (hsrc : ∀ j v, cs[j]? = some v → w.cell? (a.add j) = some v) (hc : ∀ j, j < cs.length → (w.cell? ⟨b, o + j, none⟩).isSome = true) (hf : ∀ j, j < cs.length → w.frozen? ⟨b, o + j, none⟩ = false) (h1 : ∀ v ∈ cs, v.oneCell' = true) :
    (Builtin.copy_ #[dT, sT] ty #[.slice (some ⟨b, o, none⟩) dLen dCap, .slice (some a) sLen sCap]).run P w = .ok (goInt (Nat.min sLen dLen)) (w.setCells b o cs) := by
  have hl := run_loadCells_list (P := P) w a cs hsrc
  have hst := run_storeCells_cells (P := P) b o cs 0 w (by simpa using hc) (by simpa using hf) h1
  cases hq : P.info? elem with
  | none => simp [hq] at hs
  | some i =>
    have hi : i.size = size := by simpa [hq] using hs
    simp [Builtin.copy_, run_underlying hu, Builtin.lenOf, Builtin.firstCells, sizeOf, typeInfo, hq, hi, ← hn, hl, hst]
end

end
/- The operations' laws by what is owned: parts of one slice: a part of a part, a part cleared, a part appended to another part of the same slice, a slice cut to its beginning. Over any program, no condition. -/
/-- Elements are stored over elements. -/
theorem SliceAt.setRows {α : Type} {enc : α → List Value} {k : Nat} (he : ∀ a, (enc a).length = k) {w : World} {g off cap E n : Nat} {l : List α} {S : Nat → Prop} (h : SliceAt w (.slice (some ⟨g, off, none⟩) n cap) E k n (l.flatMap enc) S) (hl : n = l.length) (lo : Nat) (news : List α) (hn : lo + news.length ≤ l.length) :
    SliceAt (w.setCells g (off + lo * k) (news.flatMap enc)) (.slice (some ⟨g, off, none⟩) n cap) E k n ((l.take lo ++ (news ++ l.drop (lo + news.length))).flatMap enc) S := by
  subst hl
  obtain ⟨h1, ⟨e, _⟩ | ⟨g', off', cap', cs, e, hb, h2, h3, h4, h5, h6⟩⟩ := h
  · cases e
  cases e
  obtain ⟨cs', e1, e2, e3, e4⟩ := block_setCells (news.flatMap enc) (off + lo * k) w cs hb
  have hnl : (news.flatMap enc).length = news.length * k := flat_len enc he news
  have htl : ((l.take lo).flatMap enc).length = lo * k := by rw [flat_len enc he, List.length_take, Nat.min_eq_left (by omega)]
  have hck : l.length * k ≤ cap * k := Nat.mul_le_mul_right _ h2
  have hlk : (lo + news.length) * k ≤ l.length * k := Nat.mul_le_mul_right _ hn
  rw [Nat.add_mul] at hlk
  have hlen : (l.take lo ++ (news ++ l.drop (lo + news.length))).length = l.length := by simp; omega
  refine ⟨by rw [flat_len enc he, hlen], .inr ⟨g, off, cap, cs', rfl, e1, h2, h3, by rw [e2]; exact h4, fun j u hj => ?_, h6⟩⟩
  have hjl := (List.getElem?_eq_some_iff.1 hj).1
  rw [flat_len enc he, hlen] at hjl
  have split3 : l.flatMap enc = (l.take lo).flatMap enc ++ (((l.drop lo).take news.length).flatMap enc ++ (l.drop (lo + news.length)).flatMap enc) := by
    rw [← List.flatMap_append, ← List.flatMap_append, ← List.drop_drop, List.take_append_drop, List.take_append_drop]
  have hml : (((l.drop lo).take news.length).flatMap enc).length = news.length * k := by rw [flat_len enc he, List.length_take, List.length_drop, Nat.min_eq_left (by omega)]
  rw [List.flatMap_append, List.flatMap_append, List.getElem?_append, htl] at hj
  by_cases c1 : j < lo * k
  · rw [if_pos c1] at hj
    rw [e4 _ (.inl (by omega))]
    refine h5 j u ?_
    rw [split3, List.getElem?_append, htl, if_pos c1]; exact hj
  · rw [if_neg c1, List.getElem?_append, hnl] at hj
    by_cases c2 : j - lo * k < news.length * k
    · rw [if_pos c2] at hj
      rw [show off + j = off + lo * k + (j - lo * k) by omega, e3 _ (by rw [hnl]; exact c2) (by omega)]
      exact hj
    · rw [if_neg c2] at hj
      rw [e4 _ (.inr (by rw [hnl]; omega))]
      refine h5 j u ?_
      rw [split3, List.getElem?_append, htl, if_neg c1, List.getElem?_append, hml, if_neg c2]; exact hj
theorem zeros_flat {α : Type} {enc : α → List Value} {z : Array Value} {zr : α} (hz : z.toList = enc zr) (h0 : 0 < z.size) (m : Nat) : (Builtin.zeroCells z m).toList = (List.replicate m zr).flatMap enc := by
  have hlen : (enc zr).length = z.size := by rw [← hz]; simp
  apply List.ext_getElem?
  intro j
  have hl1 : (Builtin.zeroCells z m).toList.length = m * z.size := zeroCells_len z m
  have hl2 : ((List.replicate m zr).flatMap enc).length = m * z.size := by
    clear hl1
    induction m with
    | zero => simp
    | succ m ih => rw [List.replicate_succ, List.flatMap_cons, List.length_append, ih, hlen, Nat.add_mul, Nat.one_mul, Nat.add_comm]
  by_cases hj : j < m * z.size
  · have hq : j / z.size < m := Nat.div_lt_of_lt_mul (by rw [Nat.mul_comm]; exact hj)
    have hr : j % z.size < z.size := Nat.mod_lt _ h0
    have e1 : (Builtin.zeroCells z m).toList[j]? = z.toList[j % z.size]? := by
      simp only [Builtin.zeroCells, Array.toList_map, List.getElem?_map, Array.toList_range, List.getElem?_range hj, Option.map_some]
      rw [getElem!_pos z _ hr, Array.getElem?_toList, Array.getElem?_eq_getElem hr]
    have e2 : ∀ (m q r : Nat), q < m → r < z.size → ((List.replicate m zr).flatMap enc)[q * z.size + r]? = (enc zr)[r]? := by
      intro m
      induction m with
      | zero => intro q r h; omega
      | succ m ih =>
        intro q r hq hr
        rw [List.replicate_succ, List.flatMap_cons]
        cases q with
        | zero => rw [Nat.zero_mul, Nat.zero_add, List.getElem?_append_left (by rw [hlen]; exact hr)]
        | succ q =>
          rw [List.getElem?_append_right (by rw [hlen, Nat.add_mul]; omega), hlen, show (q + 1) * z.size + r - z.size = q * z.size + r by rw [Nat.add_mul]; omega]
          exact ih q r (by omega) hr
    have e3 := e2 m (j / z.size) (j % z.size) hq hr
    rw [show j / z.size * z.size + j % z.size = j by rw [Nat.mul_comm]; exact Nat.div_add_mod j z.size] at e3
    rw [e1, e3, hz]
  · rw [List.getElem?_eq_none (by omega), List.getElem?_eq_none (by omega)]
section
variable {P : Program} {a : Act} {w w0 : World} {E : Ent} {L M : List Res} {K : Act → World → Prop} {Q : Exit → Act → World → Prop} {ops : Array Oper} {rest : List Oper}
variable {dst : Option Tmp} {x y : Operand} {T T2 ty : TypeId} {pos : String} {after : Array Edge} {g : Option (Nat × Bool)} {v : Value} {d k n : Nat} {xs : List Value}
variable {α : Type} {enc : α → List Value} {l : List α}
theorem sliceBounds_run2 {LV HV : Option Value} {l h n cap : Nat} (hlo : boundOf 0 LV = some (l : Int)) (hhi : boundOf (n : Int) HV = some (h : Int)) (hlh : l ≤ h) (hc : h ≤ cap) : (Instr.sliceBounds true n cap LV HV none).run P w = .ok (l, h, cap) w := by
  have e1 : (0 : Int) ≤ (l : Int) ∧ (l : Int) ≤ (h : Int) := by omega
  have e2 : (0 : Int) ≤ (h : Int) ∧ (h : Int) ≤ (cap : Int) := by omega
  have e3 : (l : Int).toNat = l := Int.toNat_natCast l
  have e4 : (h : Int).toNat = h := Int.toNat_natCast h
  rcases bound_some hlo with ⟨rfl, hl⟩ | ⟨kl, rfl⟩ <;> rcases bound_some hhi with ⟨rfl, hh⟩ | ⟨kh, rfl⟩
  · obtain rfl : l = 0 := by omega
    obtain rfl : h = n := by omega
    simp [Instr.sliceBounds, hc]
  · obtain rfl : l = 0 := by omega
    simp only [Instr.sliceBounds, Instr.sliceBound, asIntOf, Sem.run_bind, Sem.run_pure, Result.andThen_ok]
    simp [e2, hc, hlh]
  · obtain rfl : h = n := by omega
    simp [Instr.sliceBounds, Instr.sliceBound, asIntOf, e1, hlh, hc]
  · simp [Instr.sliceBounds, Instr.sliceBound, asIntOf, e1, e2, hlh, hc]
/-- A part of the beginning of a slice, perhaps beyond that beginning. -/
theorem g_sub0 {r : Res} {lo hi : Option Operand} {LV HV : Option Value} (m l h : Nat)
    (hx : (a.eval x, P.underlying T, (P.info? d).map (·.size), lo.map a.eval, hi.map a.eval) = (subV k v 0 m, some (.slice d), some k, LV, HV)) (hlo : boundOf 0 LV = some (l : Int)) (hhi : boundOf (m : Int) HV = some (h : Int)) (hlh : l ≤ h) (hn : h ≤ n) (i : Nat) (hi' : L[i]? = some r) (hr : SlRd r v n xs) :
    Gives P w0 E L ⟨dst, .slice T x lo hi none, ty, pos, after, g⟩ a (subV k v l h) := fun w ho => by
  simp only [Prod.mk.injEq] at hx
  obtain ⟨h1, h3, h4, e4, e5⟩ := hx
  obtain ⟨⟨ad, cap, e, hc1, hc2, _⟩, _⟩ := hr w (ho.fact i hi')
  have hz := sizeOf_run (w := w) h4
  have hb := sliceBounds_run2 (P := P) (w := w) (cap := cap) hlo hhi hlh (by omega)
  rw [e, subV_zero] at h1
  simp only [execOp, Instr.sliceAt, h1, e4, e5, Option.map_none, Sem.run_bind, run_underlying h3, Result.andThen_ok, Instr.slice, hb, hz, Sem.run_pure]
  rw [e]
  rfl
/-- v[l:h:m]. -/
def sub3V (k : Nat) (v : Value) (lo hi mx : Nat) : Value := match v with
  | .slice a _ _ => .slice (if mx = lo then a else a.map (·.add (lo * k))) (hi - lo) (mx - lo)
  | v => v
theorem g_sub3 {r : Res} {lo hi mx : Option Operand} {zl zh zm : Int} (l h m : Nat)
    (hx : (a.eval x, P.underlying T, (P.info? d).map (·.size), lo.map a.eval, hi.map a.eval, mx.map a.eval) = (v, some (.slice d), some k, some (.int .i64 zl), some (.int .i64 zh), some (.int .i64 zm))) (hl : zl = (l : Int)) (hh : zh = (h : Int)) (hm : zm = (m : Int)) (hlh : l ≤ h) (hhm : h ≤ m) (hn : m ≤ n) (i : Nat) (hi' : L[i]? = some r) (hr : SlRd r v n xs) :
    Gives P w0 E L ⟨dst, .slice T x lo hi mx, ty, pos, after, g⟩ a (sub3V k v l h m) := fun w ho => by
  subst hl hh hm
  simp only [Prod.mk.injEq] at hx
  obtain ⟨h1, h3, h4, e4, e5, e6⟩ := hx
  obtain ⟨⟨ad, cap, e, hc1, hc2, _⟩, _⟩ := hr w (ho.fact i hi')
  have hz := sizeOf_run (w := w) h4
  have q1 : (0 : Int) ≤ (l : Int) ∧ (l : Int) ≤ (h : Int) := by omega
  have q2 : (0 : Int) ≤ (h : Int) ∧ (h : Int) ≤ (m : Int) := by omega
  have q3 : (0 : Int) ≤ (m : Int) ∧ (m : Int) ≤ (cap : Int) := by omega
  have hb : (Instr.sliceBounds true n cap (some (.int .i64 l)) (some (.int .i64 h)) (some (.int .i64 m))).run P w = .ok (l, h, m) w := by
    have q2' : h ≤ m := hhm
    have q3' : m ≤ cap := by omega
    simp [Instr.sliceBounds, Instr.sliceBound, asIntOf, q1, q2, q3, hlh, q2', q3']
  rw [e] at h1
  simp only [execOp, Instr.sliceAt, h1, e4, e5, e6, Sem.run_bind, run_underlying h3, Result.andThen_ok, Instr.slice, hb, hz, Sem.run_pure]
  rw [e]
  rfl
/-- len of the beginning of a slice. -/
theorem g_len0 {r : Res} {m : Nat} (hx : (a.eval x, P.underlying T) = (subV k v 0 m, some (.slice d))) (i : Nat) (hi : L[i]? = some r) (hr : SlRd r v n xs) :
    Gives P w0 E L ⟨dst, .call { callee := .builtin .len, args := #[x], argTypes := #[T] }, ty, pos, after, g⟩ a (.int .i64 m) := fun w h => by
  simp only [Prod.mk.injEq] at hx
  obtain ⟨h1, h2⟩ := hx
  obtain ⟨⟨ad, cap, e, _⟩, _⟩ := hr w (h.fact i hi)
  rw [e, subV_zero] at h1
  simp [execOp, resolve, invoke, builtin, Builtin.len_, h1, Sem.run_bind, run_underlying h2, goInt]
theorem rows_place {w : World} (h : (rRows true v d k enc l).fact w) (hn : 0 < l.length) : ∃ g off cap cs, v = .slice (some ⟨g, off, none⟩) l.length cap ∧ w.heap[g]? = some (.cells cs d (0, 0)) ∧ l.length ≤ cap ∧ off + cap * k ≤ cs.size ∧ ∀ j u, (l.flatMap enc)[j]? = some u → cs[off + j]? = some u := by
  obtain ⟨_, ⟨_, h2⟩ | ⟨g, off, cap, cs, rfl, hb, h2, h3, h4, h5, _⟩⟩ := (h : SliceAt _ _ _ _ _ _ _)
  · have h2' : l.length = 0 := h2
    omega
  · exact ⟨g, off, cap, cs, rfl, hb, h2, h4, h5⟩
/-- A part is cleared. -/
theorem op_clear {size lo hi : Nat} {z : Value} (zr : α) (hx : (a.eval x, P.underlying T) = (subV size v lo hi, some (.slice d))) (hv : ∀ w, (zeroValue d).run P w = .ok z w) (hz : z.cells.toList = enc zr) (he : ∀ x, (enc x).length = size) (hs : 0 < size) (h1 : (enc zr).all (·.oneCell') = true) (hlt : lo < hi) (hhi : hi ≤ l.length)
    (h : Own w0 E L w) (i : Nat) (hi' : L[i]? = some (rRows true v d size enc l)) (hK : ∀ w', Own w0 E (L.set i (rRows true v d size enc (l.take lo ++ (List.replicate (hi - lo) zr ++ l.drop hi)))) w' → K (a.put dst (.tuple #[])) w') :
    Oper.wp P ⟨dst, .call { callee := .builtin .clear, args := #[x], argTypes := #[T] }, ty, pos, after, g⟩ a w K Q := by
  simp only [Prod.mk.injEq] at hx
  have hf : SliceAt w v d size l.length (l.flatMap enc) (blkOf v) := h.fact i hi'
  obtain ⟨b, off, cap, cs, rfl, hb, hcap, hoff, _⟩ := rows_place (h.fact i hi') (by omega)
  have hzs : z.cells.size = size := by rw [← he zr, ← hz]; simp
  have hlc : (lo + (hi - lo)) * size ≤ cap * size := Nat.mul_le_mul_right _ (by omega)
  rw [Nat.add_mul] at hlc
  have hrun := run_clearK (P := P) w T d ty z hx.2 hv (fun u hu => by rw [hz] at hu; exact List.all_eq_true.1 h1 u hu) (b := b) (o := off + lo * size) (n := hi - lo) (c := cap - lo) hb (by omega) (by rw [hzs]; omega)
  rw [zeros_flat hz (by omega)] at hrun
  have hval : a.eval x = .slice (some ⟨b, off + lo * size, none⟩) (hi - lo) (cap - lo) := by
    rw [hx.1]; simp [subV, show cap ≠ lo by omega, Addr.add_lit]
  unfold Oper.wp
  simp [execOp, resolve, invoke, builtin, hval, hrun, Result.andThen, Oper.upon]
  refine hK _ (h.upd i hi' rfl (chg_setCells _ _ _) ?_ (fun y hy => .inl hy))
  have hS := hf.setRows he rfl lo (List.replicate (hi - lo) zr) (by simp; omega)
  rw [List.length_replicate, show lo + (hi - lo) = hi by omega] at hS
  show SliceAt _ _ d size (l.take lo ++ (List.replicate (hi - lo) zr ++ l.drop hi)).length _ _
  rw [show (l.take lo ++ (List.replicate (hi - lo) zr ++ l.drop hi)).length = l.length by simp; omega]
  exact hS
/-- append(s[:i], s[j:]...). -/
theorem op_self {size lo hi : Nat} {s : Operand} (hx : (a.eval s, a.eval x, P.underlying T, okInfo P d size) = (subV size v 0 lo, subV size v hi l.length, some (.slice d), true)) (he : ∀ x, (enc x).length = size) (h1 : ∀ x, (enc x).all (·.oneCell') = true) (hlt : lo ≤ hi) (hhi : hi ≤ l.length) (hn : 0 < l.length)
    (h : Own w0 E L w) (i : Nat) (hi' : L[i]? = some (rRows true v d size enc l)) (hK : ∀ w', Own w0 E (L.set i (rRows true v d size enc (l.take lo ++ (l.drop hi ++ l.drop (lo + (l.length - hi)))))) w' → K (a.put dst (subV size v 0 (lo + (l.length - hi)))) w') :
    Oper.wp P ⟨dst, .call { callee := .builtin .append, args := #[s, x], argTypes := #[T, T] }, ty, pos, after, g⟩ a w K Q := by
  simp only [Prod.mk.injEq] at hx
  obtain ⟨hs, hx, h3, h4'⟩ := hx
  obtain ⟨z, bytes, h4, h5, hby, h8⟩ := okInfo_spec h4'
  obtain ⟨ii, hii, _, hsz, _⟩ := info_parts h4
  have hf : SliceAt w v d size l.length (l.flatMap enc) (blkOf v) := h.fact i hi'
  obtain ⟨b, off, cap, cs, rfl, hb, hcap, hoff, hcell⟩ := rows_place (h.fact i hi') hn
  rw [subV_zero] at hs
  have hdl : (l.drop hi).length = l.length - hi := List.length_drop
  have hnl : ((l.drop hi).flatMap enc).length = (l.length - hi) * size := by rw [flat_len enc he, hdl]
  obtain ⟨A, hA, hsrc⟩ : ∃ A : Addr, (if cap = hi then some (⟨b, off, none⟩ : Addr) else some (⟨b, off + hi * size, none⟩ : Addr)) = some A ∧ ∀ t u, ((l.drop hi).flatMap enc)[t]? = some u → w.cell? (A.add t) = some u := by
    by_cases hc : cap = hi
    · refine ⟨⟨b, off, none⟩, by simp [hc], fun t u hu => ?_⟩
      have := (List.getElem?_eq_some_iff.1 hu).1
      rw [hnl, show l.length - hi = 0 by omega, Nat.zero_mul] at this
      omega
    · refine ⟨⟨b, off + hi * size, none⟩, by simp [hc], fun t u hu => ?_⟩
      rw [Addr.add_lit, cell_of hb, Nat.add_assoc]
      refine hcell _ u ?_
      have e : l.flatMap enc = (l.take hi).flatMap enc ++ (l.drop hi).flatMap enc := by rw [← List.flatMap_append, List.take_append_drop]
      have tl : ((l.take hi).flatMap enc).length = hi * size := by rw [flat_len enc he, List.length_take, Nat.min_eq_left hhi]
      rw [e, List.getElem?_append_right (by omega), tl, Nat.add_sub_cancel_left]; exact hu
  have hval : a.eval x = .slice (some A) (l.length - hi) (cap - hi) := by
    rw [hx, ← hA]
    show Value.slice (if cap = hi then some (⟨b, off, none⟩ : Addr) else (some (⟨b, off, none⟩ : Addr)).map (·.add (hi * size))) (l.length - hi) (cap - hi) = _
    simp only [Option.map_some, Addr.add_lit]
  have hlc : (lo + (l.length - hi)) * size ≤ cap * size := Nat.mul_le_mul_right _ (by omega)
  rw [Nat.add_mul] at hlc
  have hrun := run_append_room_cells (P := P) w T ty d ii h3 hii b off lo cap A (l.length - hi) (cap - hi) ((l.drop hi).flatMap enc) (by rw [hsz]; exact hnl) hsrc (fun u hu => by
      obtain ⟨y, _, hy⟩ := List.mem_flatMap.1 hu
      exact List.all_eq_true.1 (h1 y) u hy) (by omega) (fun j hj => by rw [hsz, cell_of hb]; rw [hnl] at hj; simp; omega) (fun j hj => free_of hb _)
  rw [hsz] at hrun
  unfold Oper.wp
  simp [execOp, resolve, invoke, builtin, hs, hval, hrun, Result.andThen, Oper.upon]
  have hS := hf.setRows he rfl lo (l.drop hi) (by rw [hdl]; omega)
  rw [hdl] at hS
  have hF : (rRows true (.slice (some ⟨b, off, none⟩) l.length cap) d size enc (l.take lo ++ (l.drop hi ++ l.drop (lo + (l.length - hi))))).fact (w.setCells b (off + lo * size) ((l.drop hi).flatMap enc)) := by
    show SliceAt _ _ d size (l.take lo ++ (l.drop hi ++ l.drop (lo + (l.length - hi)))).length _ _
    rw [show (l.take lo ++ (l.drop hi ++ l.drop (lo + (l.length - hi)))).length = l.length by simp; omega]
    exact hS
  have := hK _ (h.upd i hi' rfl (chg_setCells _ _ _) hF (fun y hy => .inl hy))
  rw [subV_zero] at this
  exact this
/-- A slice cut to its beginning. -/
theorem Own.cut {m : Nat} (he : ∀ x, (enc x).length = k) (h : Own w0 E L w) (i : Nat) (hi' : L[i]? = some (rRows true v d k enc l)) (hm : m ≤ l.length) : Own w0 E (L.set i (rRows true (subV k v 0 m) d k enc (l.take m))) w := by
  have hf : SliceAt w v d k l.length (l.flatMap enc) (blkOf v) := h.fact i hi'
  have hb : blkOf (subV k v 0 m) = blkOf v := by
    obtain ⟨ad, cap, rfl⟩ := hf.shape
    rw [subV_zero]
    cases ad <;> rfl
  refine h.upd i hi' rfl (Chg.refl _ _) ?_ (fun y hy => .inl (show blkOf v y from hb ▸ hy))
  show SliceAt w (subV k v 0 m) d k (l.take m).length ((l.take m).flatMap enc) (blkOf (subV k v 0 m))
  rw [hb]
  have hl : (l.take m).length = m := by rw [List.length_take, Nat.min_eq_left hm]
  obtain ⟨e, ⟨rfl, h2⟩ | ⟨g, off, cap, cs, rfl, hbk, h2, h3, h4, h5, h6⟩⟩ := hf
  · have h2' : l.length = 0 := h2
    obtain rfl : m = 0 := by omega
    rw [subV_zero]
    exact ⟨by simp, .inl ⟨rfl, by simp⟩⟩
  · rw [subV_zero, hl]
    refine ⟨by rw [flat_len enc he, hl], .inr ⟨g, off, cap, cs, rfl, hbk, by omega, h3, h4, fun j u hj => h5 j u ?_, h6⟩⟩
    have e5 : l.flatMap enc = (l.take m).flatMap enc ++ (l.drop m).flatMap enc := by rw [← List.flatMap_append, List.take_append_drop]
    rw [e5, List.getElem?_append_left (List.getElem?_eq_some_iff.1 hj).1]; exact hj
theorem sq_clear {size lo hi : Nat} {z : Value} (zr : α) (hg : Region.wanted ⟨dst, .call { callee := .builtin .clear, args := #[x], argTypes := #[T] }, ty, pos, after, g⟩ (yielded ops a.tmps) = true) (hx : (a.eval x, P.underlying T) = (subV size v lo hi, some (.slice d))) (hv : ∀ w, (zeroValue d).run P w = .ok z w) (hz : z.cells.toList = enc zr) (he : ∀ x, (enc x).length = size) (hs : Nat.ble 1 size = true) (h1 : (enc zr).all (·.oneCell') = true) (hlt : lo < hi) (hhi : hi ≤ l.length)
    (h : Own w0 E L w) (i : Nat) (hi' : L[i]? = some (rRows true v d size enc l)) (hK : ∀ w', Own w0 E (L.set i (rRows true v d size enc (l.take lo ++ (List.replicate (hi - lo) zr ++ l.drop hi)))) w' → LW P ops Q rest (a.put dst (.tuple #[])) w') :
    LW P ops Q (⟨dst, .call { callee := .builtin .clear, args := #[x], argTypes := #[T] }, ty, pos, after, g⟩ :: rest) a w := ⟨sqg hg (op_clear zr hx hv hz he (Nat.le_of_ble_eq_true hs) h1 hlt hhi h i hi' fun w' h => (hK w' h).out)⟩
theorem sq_self {size lo hi : Nat} {s : Operand} (hg : Region.wanted ⟨dst, .call { callee := .builtin .append, args := #[s, x], argTypes := #[T, T] }, ty, pos, after, g⟩ (yielded ops a.tmps) = true) (hx : (a.eval s, a.eval x, P.underlying T, okInfo P d size) = (subV size v 0 lo, subV size v hi l.length, some (.slice d), true)) (he : ∀ x, (enc x).length = size) (h1 : ∀ x, (enc x).all (·.oneCell') = true) (hlt : lo ≤ hi) (hhi : hi ≤ l.length) (hn : 0 < l.length)
    (h : Own w0 E L w) (i : Nat) (hi' : L[i]? = some (rRows true v d size enc l)) (hK : ∀ w', Own w0 E (L.set i (rRows true v d size enc (l.take lo ++ (l.drop hi ++ l.drop (lo + (l.length - hi)))))) w' → LW P ops Q rest (a.put dst (subV size v 0 (lo + (l.length - hi)))) w') :
    LW P ops Q (⟨dst, .call { callee := .builtin .append, args := #[s, x], argTypes := #[T, T] }, ty, pos, after, g⟩ :: rest) a w := ⟨sqg hg (op_self hx he h1 hlt hhi hn h i hi' fun w' h => (hK w' h).out)⟩
variable {br : Nat → Bool} {fuel i0 : Nat} {listed : Array Bool} {is : List Nat}
theorem ad_self {size lo hi : Nat} {s : Operand} (js : List Nat) (hi0 : ops[i0]? = some ⟨dst, .call { callee := .builtin .append, args := #[s, x], argTypes := #[T, T] }, ty, pos, after, g⟩) (hb : (br i0, Region.wanted ⟨dst, .call { callee := .builtin .append, args := #[s, x], argTypes := #[T, T] }, ty, pos, after, g⟩ (yielded ops a.tmps)) = (false, true))
    (hx : (a.eval s, a.eval x, P.underlying T, okInfo P d size) = (subV size v 0 lo, subV size v hi l.length, some (.slice d), true)) (he : ∀ x, (enc x).length = size) (h1 : ∀ x, (enc x).all (·.oneCell') = true) (hlt : lo ≤ hi) (hhi : hi ≤ l.length) (hn : 0 < l.length)
    (h : Own w0 E M w) (i : Nat) (hi' : M[i]? = some (rRows true v d size enc l))
    (hK : ∀ w', Own w0 E (M.set i (rRows true v d size enc (l.take lo ++ (l.drop hi ++ l.drop (lo + (l.length - hi)))))) w' → pk js (M.set i (rRows true v d size enc (l.take lo ++ (l.drop hi ++ l.drop (lo + (l.length - hi)))))) = L ∧ DW P ops Q w0 E br fuel (listed.setIfInBounds i0 true) L (a.put dst (subV size v 0 (lo + (l.length - hi)))) w')
    (hs : AllD P ops Q w0 E br fuel listed L a w is) : AllD P ops Q w0 E br fuel listed L a w (i0 :: is) := by
  simp only [Prod.mk.injEq] at hb
  exact ⟨AllO.cons hi0 hb.1 hb.2 (op_self hx he h1 hlt hhi hn h i hi' fun w' h' => ⟨h'.sub js (hK w' h').1, (hK w' h').2.out⟩) hs.out⟩
end

/- The operations' laws by what is owned: max and min of ints; what is owned, in another order. Over any program, no condition. -/
section
variable {P : Program} {a : Act} {w w0 : World} {E : Ent} {L : List Res} {dst : Option Tmp} {x y : Operand} {T ty : TypeId} {pos : String} {after : Array Edge} {g : Option (Nat × Bool)} {u v : Int}
theorem g_maxI (hx : (a.eval x, a.eval y) = (.int .i64 u, .int .i64 v)) : Gives P w0 E L ⟨dst, .call { callee := .builtin .max, args := #[x, y], argTypes := #[T, T] }, ty, pos, after, g⟩ a (.int .i64 (max u v)) := fun w _ => by
  simp only [Prod.mk.injEq] at hx
  have e : (if v > u then v else u) = max u v := by split <;> omega
  simp [execOp, resolve, invoke, builtin, hx.1, hx.2, Builtin.max_, Builtin.max2, Result.andThen, -gt_iff_lt]
  rw [e]
theorem g_minI (hx : (a.eval x, a.eval y) = (.int .i64 u, .int .i64 v)) : Gives P w0 E L ⟨dst, .call { callee := .builtin .min, args := #[x, y], argTypes := #[T, T] }, ty, pos, after, g⟩ a (.int .i64 (min u v)) := fun w _ => by
  simp only [Prod.mk.injEq] at hx
  have e : (if v < u then v else u) = min u v := by split <;> omega
  simp [execOp, resolve, invoke, builtin, hx.1, hx.2, Builtin.min_, Builtin.min2, Result.andThen]
  rw [e]
theorem Own.pickE {L M : List Res} (h : Own w0 E L w) (is : List Nat) (e : pk is L = M) : Own w0 E M w := e ▸ h.pick is
end

/- Two texts joined, by what is owned. Over any program, no condition. -/
theorem g_cat {P : Program} {a : Act} {w0 : World} {E : Ent} {L : List Res} {dst : Option Tmp} {x y : Operand} {T T2 ty : TypeId} {pos : String} {after : Array Edge} {g : Option (Nat × Bool)} {s t : ByteArray} (hx : (a.eval x, a.eval y) = (.string s, .string t)) (hl : s.size + t.size ≤ 9223372036854775807) :
    Gives P w0 E L ⟨dst, .binOp .add T x y T2, ty, pos, after, g⟩ a (.string (s ++ t)) := fun w _ => by
  simp only [Prod.mk.injEq] at hx
  simp [execOp, hx.1, hx.2, binOp_string_add, run_string_add_sum w s t hl, Result.andThen, eqGuard]

section
/- Parts of a text. No condition. -/
variable {P : Program} {w0 : World} {E : Ent} {L : List Res} {w : World} {a : Act}
theorem boundsT_run {LV HV : Option Value} {l h n : Nat} (hlo : boundOf 0 LV = some (l : Int)) (hhi : boundOf (n : Int) HV = some (h : Int)) (hlh : l ≤ h) (hn : h ≤ n) : (Instr.sliceBounds false n n LV HV none).run P w = .ok (l, h, n) w := by
  have e1 : (0 : Int) ≤ (l : Int) ∧ (l : Int) ≤ (h : Int) := by omega
  have e2 : (0 : Int) ≤ (h : Int) ∧ (h : Int) ≤ (n : Int) := by omega
  have e3 : (l : Int).toNat = l := Int.toNat_natCast l
  have e4 : (h : Int).toNat = h := Int.toNat_natCast h
  rcases bound_some hlo with ⟨rfl, hl⟩ | ⟨kl, rfl⟩ <;> rcases bound_some hhi with ⟨rfl, hh⟩ | ⟨kh, rfl⟩
  · obtain rfl : l = 0 := by omega
    obtain rfl : h = n := by omega
    rfl
  · obtain rfl : l = 0 := by omega
    simp only [Instr.sliceBounds, Instr.sliceBound, asIntOf, Sem.run_bind, Sem.run_pure, Result.andThen_ok]
    simp [e2, hn, hlh]
  · obtain rfl : h = n := by omega
    simp [Instr.sliceBounds, Instr.sliceBound, asIntOf, e1, hlh, hn]
  · simp [Instr.sliceBounds, Instr.sliceBound, asIntOf, e1, e2, hlh, hn]
/-- s[lo:hi]. -/
theorem g_subT {dst : Option Tmp} {T : TypeId} {x : Operand} {lo hi : Option Operand} {ty : TypeId} {pos : String} {after : Array Edge} {g : Option (Nat × Bool)} (s : ByteArray) {LV HV : Option Value} (l h : Nat)
    (hx : (a.eval x, P.underlying T, lo.map a.eval, hi.map a.eval) = (.string s, some .string, LV, HV)) (hlo : boundOf 0 LV = some (l : Int)) (hhi : boundOf (s.size : Int) HV = some (h : Int)) (hlh : l ≤ h) (hn : h ≤ s.size) :
    Gives P w0 E L ⟨dst, .slice T x lo hi none, ty, pos, after, g⟩ a (.string (s.extract l h)) := fun w ho => by
  simp only [Prod.mk.injEq] at hx
  obtain ⟨h1, h3, e4, e5⟩ := hx
  have hb := boundsT_run (P := P) (w := w) hlo hhi hlh hn
  simp only [execOp, Instr.sliceAt, h1, e4, e5, Option.map_none, Sem.run_bind, run_underlying h3, Result.andThen_ok, Instr.slice, hb, Sem.run_pure, Option.isSome_none, Bool.false_eq_true, if_false]
/-- A number parted by a constant. -/
theorem quo_run {T : TypeId} {n k : Nat} (hT : P.underlying T = some (.int .i64)) (hk : 0 < k) (hn : n ≤ 9223372036854775807) : (binOp .quo T (.int .i64 (n : Int)) (.int .i64 (k : Int))).run P w = .ok (.int .i64 ((n / k : Nat) : Int)) w := by
  have h1 : ¬ (k : Int) = 0 := by omega
  have h2 : ((n : Int)).tdiv (k : Int) = ((n / k : Nat) : Int) := by rw [Int.tdiv_eq_ediv_of_nonneg (by omega)]; rfl
  have h3 : n / k ≤ n := Nat.div_le_self n k
  have h4 : IntKind.i64.wrap ((n : Int) / (k : Int)) = ((n / k : Nat) : Int) := by
    have e : (n : Int) / (k : Int) = ((n / k : Nat) : Int) := rfl
    rw [e]; generalize n / k = q at h3 ⊢; exact IntWalk.i64_in _ ⟨by omega, by omega⟩
  have h5 : ¬ k = 0 := by omega
  simp [binOp, run_underlying hT, Op.intDiv, h1, h2, h4, h5]
theorem g_quo {dst : Option Tmp} {T ty' : TypeId} {x y : Operand} {ty : TypeId} {pos : String} {after : Array Edge} {g : Option (Nat × Bool)} (n k : Nat)
    (hx : (a.eval x, a.eval y, P.underlying T) = (.int .i64 (n : Int), .int .i64 (k : Int), some (.int .i64))) (hk : 0 < k) (hn : n ≤ 9223372036854775807) :
    Gives P w0 E L ⟨dst, .binOp .quo T x y ty', ty, pos, after, g⟩ a (.int .i64 ((n / k : Nat) : Int)) := fun w ho => by
  simp only [Prod.mk.injEq] at hx
  obtain ⟨h1, h2, h3⟩ := hx
  simp only [execOp, h1, h2, Sem.run_bind, quo_run h3 hk hn, Result.andThen_ok, Sem.run_pure, eqGuard]
  rfl
/-- A slice's value, as it is built. -/
theorem Own.shape {r : Res} {v : Value} {n : Nat} {xs : List Value} (h : Own w0 E L w) (i : Nat) (hi : L[i]? = some r) (hr : SlRd r v n xs) : ∃ ad cap, v = .slice ad n cap := by
  obtain ⟨⟨ad, cap, e, _⟩, _⟩ := hr w (h.fact i hi)
  exact ⟨ad, cap, e⟩

end
/- deep: contracts by what is owned (printed by walk.py). -/
theorem bwrite_spec (b : Nat) (p v : Value) (hp : p = .pointer none ∨ p = .pointer (some ⟨b, 0, none⟩)) (t : Tx) (s : ByteArray) (hts : t.length + s.size ≤ 100000000)  : Spec Tryz.prog 68 #[.pointer (some ⟨b, 0, none⟩), .string s] [rCell true b [p, v] 75, rTxt v 5 t] (fun u L => ∃ v', u = .tuple #[.int .i64 (s.size : Int), .nilIface] ∧ L = [rCell true b [.pointer (some ⟨b, 0, none⟩), v'] 75, rTxt v' 5 (t ++ s.data.toList)]) := by
  refine spec_of (#[.pointer (some ⟨b, 0, none⟩), .string s, undef, undef, undef, undef, undef, undef, undef, undef, undef, undef, undef, undef, undef, undef, undef, undef, undef]) Tryz.func68 rfl (by kernel_rfl) fun E w0 w h => ?_
  refine c_seq ?_
  refine c_reg ?_
  refine sq_p (.int .i64 0) rfl (fun _ => by kernel_rfl) ?_
  refine sq_p (.nilIface) rfl (fun _ => by kernel_rfl) ?_
  refine lnil ?_
  refine thn_n ?_
  refine c_seq ?_
  refine c_reg ?_
  refine sq_p (.pointer (some ⟨b, 0, none⟩)) rfl (fun _ => by kernel_rfl) ?_
  refine sq_call #[.pointer (some ⟨b, 0, none⟩)] [0] rfl (ccheck_spec b p v hp) (fun _ => by kernel_rfl) h ?_; rintro v_ L_ w ⟨rfl, rfl⟩ h
  refine lnil ?_
  refine thn_n ?_
  refine c_seq ?_
  refine c_reg ?_
  refine sq_p (.pointer (some ⟨b, 0, none⟩)) rfl (fun _ => by kernel_rfl) ?_
  refine sq_p (.pointer (some ⟨b, 0, none⟩)) rfl (fun _ => by kernel_rfl) ?_
  refine sq_p (.pointer (some ⟨b, 0, none⟩)) rfl (fun _ => by kernel_rfl) ?_
  refine sq_p (.pointer (some ⟨b, 1, none⟩)) rfl (fun _ => by kernel_rfl) ?_
  refine sq_q rfl h (g_ld 1 [v] (v) (by kernel_rfl) 0 rfl) ?_
  refine sq_p (.string s) rfl (fun _ => by kernel_rfl) ?_
  refine sq_apptxt s rfl (by kernel_rfl) h 1 rfl (by omega) ?_; intro v1 w h
  refine sq_p (.pointer (some ⟨b, 0, none⟩)) rfl (fun _ => by kernel_rfl) ?_
  refine sq_p (.pointer (some ⟨b, 1, none⟩)) rfl (fun _ => by kernel_rfl) ?_
  refine sq_sto rfl (h.slvT 1 rfl) 1 [.pointer (some ⟨b, 0, none⟩), v1] h 0 rfl (by kernel_rfl) ?_; intro w h
  refine lnil ?_
  refine thn_n ?_
  refine c_seq ?_
  refine c_reg ?_
  refine sq_p (.string s) rfl (fun _ => by kernel_rfl) ?_
  refine sq_p (.int .i64 (s.size : Int)) rfl (fun _ => by kernel_rfl) ?_
  refine sq_p (.int .i64 (s.size : Int)) rfl (fun _ => by kernel_rfl) ?_
  refine sq_p (.nilIface) rfl (fun _ => by kernel_rfl) ?_
  refine lnil ?_
  refine thn_n ?_
  refine c_ret ?_
  refine ret_end [.int .i64 (s.size : Int), .nilIface] [0, 0] h (by kernel_rfl) (res_t (by kernel_rfl) (res_t (by kernel_rfl) res_n)) ?_
  exact ⟨_, rfl, rfl⟩
theorem text_spec (b : Nat) (p v : Value) (hp : p = .pointer none ∨ p = .pointer (some ⟨b, 0, none⟩)) (t : Tx) (s : ByteArray) (hts : t.length + s.size ≤ 90000000)  : Spec Tryz.prog 44 #[.pointer (some ⟨b, 0, none⟩), .string s] [rCell true b [p, v] 75, rTxt v 5 t, rPow] (fun u L => ∃ v', u = .tuple #[] ∧ L = [rCell true b [.pointer (some ⟨b, 0, none⟩), v'] 75, rTxt v' 5 (t ++ itK (tx s) []), rPow]) := by
  have hdl : (Lib.decDigits s.size).length ≤ 10 := dec_len (by unfold ten10; omega)
  have hs0 : ((⟨#[58]⟩ : ByteArray)).size = 1 := rfl
  refine spec_of (#[.pointer (some ⟨b, 0, none⟩), .string s, undef, undef, undef, undef, undef, undef, undef, undef, undef, undef, undef, undef]) Tryz.func44 rfl (by kernel_rfl) fun E w0 w h => ?_
  refine d_start 10 [] (by kernel_rfl) h fun w h => ?_
  refine d_take 0 504 [] rfl (v := .pointer (some ⟨b, 0, none⟩)) (by kernel_rfl) qp_body (yq (by kernel_rfl) (g_pure (v := .pointer (some ⟨b, 0, none⟩)) fun _ => by kernel_rfl)) h (by kernel_rfl) ?_
  refine d_take 1 505 [] rfl (v := .pointer (some ⟨b, 0, none⟩)) (by kernel_rfl) qp_body (yq (by kernel_rfl) (g_pure (v := .pointer (some ⟨b, 0, none⟩)) fun _ => by kernel_rfl)) h (by kernel_rfl) ?_
  refine d_take 2 507 [] rfl (v := .pointer (some ⟨b, 0, none⟩)) (by kernel_rfl) qp_body (yq (by kernel_rfl) (g_pure (v := .pointer (some ⟨b, 0, none⟩)) fun _ => by kernel_rfl)) h (by kernel_rfl) ?_
  refine d_take 3 135 [] rfl (v := .string s) (by kernel_rfl) qp_body (yq (by kernel_rfl) (g_pure (v := .string s) fun _ => by kernel_rfl)) h (by kernel_rfl) ?_
  refine d_take 4 143 [] rfl (v := .int .i64 (s.size : Int)) (by kernel_rfl) qp_body (yq (by kernel_rfl) (g_pure (v := .int .i64 (s.size : Int)) fun _ => by kernel_rfl)) h (by kernel_rfl) ?_
  refine d_take 7 127 [] rfl (v := .string s) (by kernel_rfl) qp_body (yq (by kernel_rfl) (g_pure (v := .string s) fun _ => by kernel_rfl)) h (by kernel_rfl) ?_
  refine d_ready [5] (by kernel_rfl) rfl ?_
  refine ad_call #[.int .i64 (s.size : Int)] [2] [] rfl (by kernel_rfl) (itoaD_spec s.size (by omega)) (fun _ => by kernel_rfl) h ?_ ?_
  · skip
    rintro v_ L_ w ⟨rfl, rfl⟩ h
    refine ⟨by kernel_rfl, ?_⟩
    refine d_take 6 191 [] rfl (v := .string ((ofT (Lib.decDigits s.size)) ++ (⟨#[58]⟩ : ByteArray))) (by kernel_rfl) qp_body (yq (by kernel_rfl) (g_cat (s := (ofT (Lib.decDigits s.size))) (t := (⟨#[58]⟩ : ByteArray)) (by kernel_rfl) (by (try simp only [ByteArray.size_append, size_of]); omega))) h (by kernel_rfl) ?_
    refine d_take 8 255 [] rfl (v := .string (((ofT (Lib.decDigits s.size)) ++ (⟨#[58]⟩ : ByteArray)) ++ s)) (by kernel_rfl) qp_body (yq (by kernel_rfl) (g_cat (s := ((ofT (Lib.decDigits s.size)) ++ (⟨#[58]⟩ : ByteArray))) (t := s) (by kernel_rfl) (by (try simp only [ByteArray.size_append, size_of]); omega))) h (by kernel_rfl) ?_
    refine d_ready [9] (by kernel_rfl) rfl ?_
    refine ad_call #[.pointer (some ⟨b, 0, none⟩), .string (((ofT (Lib.decDigits s.size)) ++ (⟨#[58]⟩ : ByteArray)) ++ s)] [1, 1] [] rfl (by kernel_rfl) (bwrite_spec b p v hp t (((ofT (Lib.decDigits s.size)) ++ (⟨#[58]⟩ : ByteArray)) ++ s) (by (try simp only [ByteArray.size_append, size_of]); omega)) (fun _ => by kernel_rfl) h ?_ ?_
    · skip
      rintro v_ L_ w ⟨vw1, rfl, rfl⟩ h
      refine ⟨by kernel_rfl, ?_⟩
      refine d_done (by kernel_rfl) ?_
      refine ret_end [] [0, 0, 0] h (by kernel_rfl) (res_n) ?_
      rw [cat1, cat2, show (ofT (itK (tx s) [])).data.toList = itK (tx s) [] from tx_of _]
      exact ⟨_, rfl, rfl⟩
    exact ad_nil
  exact ad_nil

theorem itS_len (s : ByteArray) (hs : s.size < ten10) : (itK (tx s) []).length ≤ 11 + s.size := by
  have h := dec_len hs
  rw [itK_len, tx_len]; simp; omega
theorem dec_size {n : Nat} (h : n < 1000) : (ofT (Lib.decDigits n)).size ≤ 3 := by rw [size_of]; exact num_small h
theorem num4 (t : Tx) (a b c d : Nat) : (((t ++ itK (tx (ofT (Lib.decDigits a))) []) ++ itK (tx (ofT (Lib.decDigits b))) []) ++ itK (tx (ofT (Lib.decDigits c))) []) ++ itK (tx (ofT (Lib.decDigits d))) [] = t ++ numK a (numK b (numK c (numK d []))) := by
  simp only [tx_of, List.append_assoc, itK_nil, itK_app]; rfl

theorem numbers_spec (b : Nat) (p v : Value) (hp : p = .pointer none ∨ p = .pointer (some ⟨b, 0, none⟩)) (t : Tx) (cb x0 x1 x2 x3 : Nat) (hx : x0 < 1000 ∧ x1 < 1000 ∧ x2 < 1000 ∧ x3 < 1000) (hts : t.length ≤ 80000000)  : Spec Tryz.prog 29 #[.pointer (some ⟨b, 0, none⟩), .slice (some ⟨cb, 0, none⟩) 4 4] [rCell true b [p, v] 75, rTxt v 5 t, rPow, rCell true cb [.int .i64 (x0 : Int), .int .i64 (x1 : Int), .int .i64 (x2 : Int), .int .i64 (x3 : Int)] 3] (fun u L => ∃ v', u = .tuple #[] ∧ L = [rCell true b [.pointer (some ⟨b, 0, none⟩), v'] 75, rTxt v' 5 (t ++ numK x0 (numK x1 (numK x2 (numK x3 [])))), rPow]) := by
  have hz0 : (ofT (Lib.decDigits x0)).size ≤ 3 := dec_size (by omega)
  have hz1 : (ofT (Lib.decDigits x1)).size ≤ 3 := dec_size (by omega)
  have hz2 : (ofT (Lib.decDigits x2)).size ≤ 3 := dec_size (by omega)
  have hz3 : (ofT (Lib.decDigits x3)).size ≤ 3 := dec_size (by omega)
  have hi0 := itS_len (ofT (Lib.decDigits x0)) (by unfold ten10; omega)
  have hi1 := itS_len (ofT (Lib.decDigits x1)) (by unfold ten10; omega)
  have hi2 := itS_len (ofT (Lib.decDigits x2)) (by unfold ten10; omega)
  have hi3 := itS_len (ofT (Lib.decDigits x3)) (by unfold ten10; omega)
  refine spec_of (#[.pointer (some ⟨b, 0, none⟩), .slice (some ⟨cb, 0, none⟩) 4 4, undef, undef, undef, undef, undef, undef, undef, undef, undef, undef, undef, undef, undef, undef, undef]) Tryz.func29 rfl (by kernel_rfl) fun E w0 w h => ?_
  refine c_seq ?_
  refine c_reg ?_
  refine sq_p (.slice (some ⟨cb, 0, none⟩) 4 4) rfl (fun _ => by kernel_rfl) ?_
  refine sq_p (.int .i64 4) rfl (fun _ => by kernel_rfl) ?_
  refine sq_p (.int .i64 0) rfl (fun _ => by kernel_rfl) ?_
  refine lnil ?_
  refine thn_n ?_
  refine c_block ?_
  refine c_unroll 4 ?_
  refine c_seq ?_
  refine c_reg ?_
  refine sq_p (.bool true) rfl (fun _ => by kernel_rfl) ?_
  refine lnil ?_
  refine thn_n ?_
  refine c_seq ?_
  refine c_true (by kernel_rfl) ?_
  refine c_skip ?_
  refine thn_n ?_
  refine c_seq ?_
  refine c_block ?_
  refine c_seq ?_
  refine c_reg ?_
  refine sq_p (.pointer (some ⟨cb, 0, none⟩)) rfl (fun _ => by kernel_rfl) ?_
  refine sq_q rfl h (g_ld 0 [.int .i64 (x0 : Int)] (.int .i64 (x0 : Int)) (by kernel_rfl) 3 rfl) ?_
  refine sq_p (.int .i64 (x0 : Int)) rfl (fun _ => by kernel_rfl) ?_
  refine lnil ?_
  refine thn_n ?_
  refine c_reg ?_
  refine sq_p (.pointer (some ⟨b, 0, none⟩)) rfl (fun _ => by kernel_rfl) ?_
  refine sq_p (.int .i64 (x0 : Int)) rfl (fun _ => by kernel_rfl) ?_
  refine sq_call #[.int .i64 (x0 : Int)] [2] rfl (itoaD_spec x0 (by omega)) (fun _ => by kernel_rfl) h ?_; rintro v_ L_ w ⟨rfl, rfl⟩ h
  refine sq_call #[.pointer (some ⟨b, 0, none⟩), .string (ofT (Lib.decDigits x0))] [1, 1, 0] rfl (text_spec b p v hp t (ofT (Lib.decDigits x0)) (by (try simp only [List.length_append]); omega)) (fun _ => by kernel_rfl) h ?_; rintro v_ L_ w ⟨vw1, rfl, rfl⟩ h
  refine lnil ?_
  refine blk_n (thn_n ?_)
  refine c_reg ?_
  refine sq_p (.int .i64 1) rfl (fun _ => by kernel_rfl) ?_
  refine sq_p (.int .i64 1) rfl (fun _ => by kernel_rfl) ?_
  refine lnil ?_
  refine unr_n ?_
  refine c_seq ?_
  refine c_reg ?_
  refine sq_p (.bool true) rfl (fun _ => by kernel_rfl) ?_
  refine lnil ?_
  refine thn_n ?_
  refine c_seq ?_
  refine c_true (by kernel_rfl) ?_
  refine c_skip ?_
  refine thn_n ?_
  refine c_seq ?_
  refine c_block ?_
  refine c_seq ?_
  refine c_reg ?_
  refine sq_p (.pointer (some ⟨cb, 1, none⟩)) rfl (fun _ => by kernel_rfl) ?_
  refine sq_q rfl h (g_ld 1 [.int .i64 (x1 : Int)] (.int .i64 (x1 : Int)) (by kernel_rfl) 3 rfl) ?_
  refine sq_p (.int .i64 (x1 : Int)) rfl (fun _ => by kernel_rfl) ?_
  refine lnil ?_
  refine thn_n ?_
  refine c_reg ?_
  refine sq_p (.pointer (some ⟨b, 0, none⟩)) rfl (fun _ => by kernel_rfl) ?_
  refine sq_p (.int .i64 (x1 : Int)) rfl (fun _ => by kernel_rfl) ?_
  refine sq_call #[.int .i64 (x1 : Int)] [2] rfl (itoaD_spec x1 (by omega)) (fun _ => by kernel_rfl) h ?_; rintro v_ L_ w ⟨rfl, rfl⟩ h
  refine sq_call #[.pointer (some ⟨b, 0, none⟩), .string (ofT (Lib.decDigits x1))] [1, 1, 0] rfl (text_spec b (.pointer (some ⟨b, 0, none⟩)) vw1 (.inr rfl) (t ++ itK (tx (ofT (Lib.decDigits x0))) []) (ofT (Lib.decDigits x1)) (by (try simp only [List.length_append]); omega)) (fun _ => by kernel_rfl) h ?_; rintro v_ L_ w ⟨vw2, rfl, rfl⟩ h
  refine lnil ?_
  refine blk_n (thn_n ?_)
  refine c_reg ?_
  refine sq_p (.int .i64 2) rfl (fun _ => by kernel_rfl) ?_
  refine sq_p (.int .i64 2) rfl (fun _ => by kernel_rfl) ?_
  refine lnil ?_
  refine unr_n ?_
  refine c_seq ?_
  refine c_reg ?_
  refine sq_p (.bool true) rfl (fun _ => by kernel_rfl) ?_
  refine lnil ?_
  refine thn_n ?_
  refine c_seq ?_
  refine c_true (by kernel_rfl) ?_
  refine c_skip ?_
  refine thn_n ?_
  refine c_seq ?_
  refine c_block ?_
  refine c_seq ?_
  refine c_reg ?_
  refine sq_p (.pointer (some ⟨cb, 2, none⟩)) rfl (fun _ => by kernel_rfl) ?_
  refine sq_q rfl h (g_ld 2 [.int .i64 (x2 : Int)] (.int .i64 (x2 : Int)) (by kernel_rfl) 3 rfl) ?_
  refine sq_p (.int .i64 (x2 : Int)) rfl (fun _ => by kernel_rfl) ?_
  refine lnil ?_
  refine thn_n ?_
  refine c_reg ?_
  refine sq_p (.pointer (some ⟨b, 0, none⟩)) rfl (fun _ => by kernel_rfl) ?_
  refine sq_p (.int .i64 (x2 : Int)) rfl (fun _ => by kernel_rfl) ?_
  refine sq_call #[.int .i64 (x2 : Int)] [2] rfl (itoaD_spec x2 (by omega)) (fun _ => by kernel_rfl) h ?_; rintro v_ L_ w ⟨rfl, rfl⟩ h
  refine sq_call #[.pointer (some ⟨b, 0, none⟩), .string (ofT (Lib.decDigits x2))] [1, 1, 0] rfl (text_spec b (.pointer (some ⟨b, 0, none⟩)) vw2 (.inr rfl) ((t ++ itK (tx (ofT (Lib.decDigits x0))) []) ++ itK (tx (ofT (Lib.decDigits x1))) []) (ofT (Lib.decDigits x2)) (by (try simp only [List.length_append]); omega)) (fun _ => by kernel_rfl) h ?_; rintro v_ L_ w ⟨vw3, rfl, rfl⟩ h
  refine lnil ?_
  refine blk_n (thn_n ?_)
  refine c_reg ?_
  refine sq_p (.int .i64 3) rfl (fun _ => by kernel_rfl) ?_
  refine sq_p (.int .i64 3) rfl (fun _ => by kernel_rfl) ?_
  refine lnil ?_
  refine unr_n ?_
  refine c_seq ?_
  refine c_reg ?_
  refine sq_p (.bool true) rfl (fun _ => by kernel_rfl) ?_
  refine lnil ?_
  refine thn_n ?_
  refine c_seq ?_
  refine c_true (by kernel_rfl) ?_
  refine c_skip ?_
  refine thn_n ?_
  refine c_seq ?_
  refine c_block ?_
  refine c_seq ?_
  refine c_reg ?_
  refine sq_p (.pointer (some ⟨cb, 3, none⟩)) rfl (fun _ => by kernel_rfl) ?_
  refine sq_q rfl h (g_ld 3 [.int .i64 (x3 : Int)] (.int .i64 (x3 : Int)) (by kernel_rfl) 3 rfl) ?_
  refine sq_p (.int .i64 (x3 : Int)) rfl (fun _ => by kernel_rfl) ?_
  refine lnil ?_
  refine thn_n ?_
  refine c_reg ?_
  refine sq_p (.pointer (some ⟨b, 0, none⟩)) rfl (fun _ => by kernel_rfl) ?_
  refine sq_p (.int .i64 (x3 : Int)) rfl (fun _ => by kernel_rfl) ?_
  refine sq_call #[.int .i64 (x3 : Int)] [2] rfl (itoaD_spec x3 (by omega)) (fun _ => by kernel_rfl) h ?_; rintro v_ L_ w ⟨rfl, rfl⟩ h
  refine sq_call #[.pointer (some ⟨b, 0, none⟩), .string (ofT (Lib.decDigits x3))] [1, 1, 0] rfl (text_spec b (.pointer (some ⟨b, 0, none⟩)) vw3 (.inr rfl) (((t ++ itK (tx (ofT (Lib.decDigits x0))) []) ++ itK (tx (ofT (Lib.decDigits x1))) []) ++ itK (tx (ofT (Lib.decDigits x2))) []) (ofT (Lib.decDigits x3)) (by (try simp only [List.length_append]); omega)) (fun _ => by kernel_rfl) h ?_; rintro v_ L_ w ⟨vw4, rfl, rfl⟩ h
  refine lnil ?_
  refine blk_n (thn_n ?_)
  refine c_reg ?_
  refine sq_p (.int .i64 4) rfl (fun _ => by kernel_rfl) ?_
  refine sq_p (.int .i64 4) rfl (fun _ => by kernel_rfl) ?_
  refine lnil ?_
  refine unr_n ?_
  refine c_seq ?_
  refine c_reg ?_
  refine sq_p (.bool false) rfl (fun _ => by kernel_rfl) ?_
  refine lnil ?_
  refine thn_n ?_
  refine c_seq ?_
  refine c_false (by kernel_rfl) ?_
  refine c_exit ?_
  refine thn_e (unr_e (blk_e ?_))
  refine ret_end [] [0, 0, 0] h (by kernel_rfl) (res_n) ?_
  rw [num4]
  exact ⟨_, rfl, rfl⟩
theorem must_spec  : Spec Tryz.prog 22 #[.bool true] [] (fun u L => u = .tuple #[] ∧ L = []) := by
  refine spec_of (#[.bool true, undef, undef, undef, undef, undef]) Tryz.func22 rfl (by kernel_rfl) fun E w0 w h => ?_
  refine c_seq ?_
  refine c_reg ?_
  refine sq_p (.bool true) rfl (fun _ => by kernel_rfl) ?_
  refine sq_p (.bool false) rfl (fun _ => by kernel_rfl) ?_
  refine lnil ?_
  refine thn_n ?_
  refine c_false (by kernel_rfl) ?_
  refine c_skip ?_
  refine ret_end [] [] h (by kernel_rfl) (res_n) ?_
  exact ⟨rfl, rfl⟩

theorem mustB_spec (b : Bool) (hb : b = true) : Spec Tryz.prog 22 #[.bool b] [] fun u L => u = .tuple #[] ∧ L = [] := hb ▸ must_spec
theorem atoiH_spec (x t : Tx) (hx : x.length < ten10) : Spec Tryz.prog 41 #[.string ((ofT (itK x t)).extract 0 (Lib.decDigits x.length).length)] [] fun u L => u = .tuple #[.int .i64 (x.length : Int), .nilIface] ∧ L = [] := by
  rw [ext_head]; exact atoiD_spec x.length hx

theorem ltext_spec (lb b fm : Nat) (x t : Tx) (hx : x.length < 1000) (hz : (itK x t).length ≤ 90000000)  : Spec Tryz.prog 23 #[.pointer (some ⟨lb, 0, none⟩)] [rCell true lb [.string (ofT (itK x t)), .pointer (some ⟨b, 0, none⟩), .map (some fm)] 62] (fun u L => u = .string (ofT x) ∧ L = [rCell true lb [.string (ofT t), .pointer (some ⟨b, 0, none⟩), .map (some fm)] 62]) := by
  have hd0 := dec_pos x.length
  have hd3 := num_small hx
  have hl := itK_len x t
  have hs : (ofT (itK x t)).size = (itK x t).length := size_of _
  refine spec_of (#[.pointer (some ⟨lb, 0, none⟩), undef, undef, undef, undef, undef, undef, undef, undef, undef, undef, undef, undef, undef, undef, undef, undef, undef, undef, undef, undef, undef, undef, undef, undef, undef, undef, undef, undef, undef, undef, undef, undef, undef, undef, undef, undef, undef, undef, undef, undef, undef, undef, undef, undef, undef, undef, undef, undef, undef, undef, undef, undef, undef, undef, undef, undef, undef, undef, undef, undef, undef, undef, undef, undef, undef, undef, undef, undef, undef, undef, undef]) Tryz.func23 rfl (by kernel_rfl) fun E w0 w h => ?_
  refine c_seq ?_
  refine c_reg ?_
  refine sq_p (.string (⟨#[]⟩ : ByteArray)) rfl (fun _ => by kernel_rfl) ?_
  refine lnil ?_
  refine thn_n ?_
  refine c_seq ?_
  refine c_reg ?_
  refine sq_p (.pointer (some ⟨lb, 0, none⟩)) rfl (fun _ => by kernel_rfl) ?_
  refine sq_p (.pointer (some ⟨lb, 0, none⟩)) rfl (fun _ => by kernel_rfl) ?_
  refine sq_p (.pointer (some ⟨lb, 0, none⟩)) rfl (fun _ => by kernel_rfl) ?_
  refine sq_q rfl h (g_ld 0 [.string (ofT (itK x t))] (.string (ofT (itK x t))) (by kernel_rfl) 0 rfl) ?_
  refine sq_call #[.string (ofT (itK x t)), .int .u8 58] [] rfl (indexD_spec x t) (fun _ => by kernel_rfl) h ?_; rintro v_ L_ w ⟨rfl, rfl⟩ h
  refine sq_p (.int .i64 (((Lib.decDigits x.length).length : Nat) : Int)) rfl (fun _ => by kernel_rfl) ?_
  refine lnil ?_
  refine thn_n ?_
  refine c_seq ?_
  refine c_reg ?_
  refine sq_p (.int .i64 (((Lib.decDigits x.length).length : Nat) : Int)) rfl (fun _ => by kernel_rfl) ?_
  obtain ⟨b1, hb1⟩ : ∃ b_ : Bool, b_ = (decide ((((Lib.decDigits x.length).length : Nat) : Int) > 0)) := ⟨_, rfl⟩
  refine sq_q (v := .bool b1) rfl h (by subst hb1; exact g_pure (v := .bool (decide ((((Lib.decDigits x.length).length : Nat) : Int) > 0))) fun _ => by kernel_rfl) ?_
  refine sq_p (.bool b1) rfl (fun _ => by kernel_rfl) ?_
  refine sq_m1 (v := .int .i64 (((Lib.decDigits x.length).length : Nat) : Int)) b1 (by cases b1 <;> kernel_rfl) h (fun hB => by subst hB; exact g_pure (v := .int .i64 (((Lib.decDigits x.length).length : Nat) : Int)) fun _ => by kernel_rfl) ?_
  obtain ⟨b2, hb2⟩ : ∃ b_ : Bool, b_ = (decide ((((Lib.decDigits x.length).length : Nat) : Int) < 7)) := ⟨_, rfl⟩
  refine sq_m1 (v := .bool b2) b1 (by cases b1 <;> kernel_rfl) h (fun hB => by subst hB; exact by subst hb2; exact g_pure (v := .bool (decide ((((Lib.decDigits x.length).length : Nat) : Int) < 7))) fun _ => by kernel_rfl) ?_
  obtain ⟨b3, hb3⟩ : ∃ b_ : Bool, b_ = (b1 && b2) := ⟨_, rfl⟩
  refine sq_q (v := .bool b3) rfl h (by subst hb3; exact g_pure (v := .bool (b1 && b2)) fun _ => by cases b1 <;> kernel_rfl) ?_
  have hm4 : b3 = true := by subst hb3; subst hb2; subst hb1; first | (simp; done) | (simp; omega)
  refine sq_call #[.bool b3] [] rfl (mustB_spec b3 hm4) (fun _ => by kernel_rfl) h ?_; rintro v_ L_ w ⟨rfl, rfl⟩ h
  refine lnil ?_
  refine thn_n ?_
  refine c_seq ?_
  refine c_reg ?_
  refine sq_p (.pointer (some ⟨lb, 0, none⟩)) rfl (fun _ => by kernel_rfl) ?_
  refine sq_p (.pointer (some ⟨lb, 0, none⟩)) rfl (fun _ => by kernel_rfl) ?_
  refine sq_p (.pointer (some ⟨lb, 0, none⟩)) rfl (fun _ => by kernel_rfl) ?_
  refine sq_q rfl h (g_ld 0 [.string (ofT (itK x t))] (.string (ofT (itK x t))) (by kernel_rfl) 0 rfl) ?_
  refine sq_p (.int .i64 (((Lib.decDigits x.length).length : Nat) : Int)) rfl (fun _ => by kernel_rfl) ?_
  refine sq_q rfl h (g_subT (ofT (itK x t)) (LV := none) (HV := (some (.int .i64 (((Lib.decDigits x.length).length : Nat) : Int)))) 0 ((Lib.decDigits x.length).length) (by kernel_rfl) rfl (bnd rfl) (by first | omega | (simp; omega)) (by first | omega | (simp; omega))) ?_
  refine sq_call #[.string ((ofT (itK x t)).extract 0 ((Lib.decDigits x.length).length))] [] rfl (atoiH_spec x t (by unfold ten10; omega)) (fun _ => by kernel_rfl) h ?_; rintro v_ L_ w ⟨rfl, rfl⟩ h
  refine sq_p (.tuple #[.int .i64 (x.length : Int), .nilIface]) rfl (fun _ => by kernel_rfl) ?_
  refine sq_p (.int .i64 (x.length : Int)) rfl (fun _ => by kernel_rfl) ?_
  refine sq_p (.nilIface) rfl (fun _ => by kernel_rfl) ?_
  refine sq_p (.int .i64 (x.length : Int)) rfl (fun _ => by kernel_rfl) ?_
  refine sq_p (.nilIface) rfl (fun _ => by kernel_rfl) ?_
  refine lnil ?_
  refine thn_n ?_
  refine c_seq ?_
  refine c_reg ?_
  refine sq_p (.nilIface) rfl (fun _ => by kernel_rfl) ?_
  refine sq_p (.bool true) rfl (fun _ => by kernel_rfl) ?_
  refine sq_p (.bool true) rfl (fun _ => by kernel_rfl) ?_
  refine sq_p (.int .i64 (x.length : Int)) (by kernel_rfl) (fun _ => by kernel_rfl) ?_
  obtain ⟨b5, hb5⟩ : ∃ b_ : Bool, b_ = (decide ((x.length : Int) ≥ 0)) := ⟨_, rfl⟩
  refine sq_q (v := .bool b5) (by kernel_rfl) h (by subst hb5; exact g_pure (v := .bool (decide ((x.length : Int) ≥ 0))) fun _ => by kernel_rfl) ?_
  refine sq_p (.bool b5) rfl (fun _ => by kernel_rfl) ?_
  refine sq_p (.bool b5) rfl (fun _ => by kernel_rfl) ?_
  refine sq_m1 (v := .int .i64 (x.length : Int)) b5 (by cases b5 <;> kernel_rfl) h (fun hB => by subst hB; exact g_pure (v := .int .i64 (x.length : Int)) fun _ => by kernel_rfl) ?_
  refine sq_m1 (v := .pointer (some ⟨lb, 0, none⟩)) b5 (by cases b5 <;> kernel_rfl) h (fun hB => by subst hB; exact g_pure (v := .pointer (some ⟨lb, 0, none⟩)) fun _ => by kernel_rfl) ?_
  refine sq_m1 (v := .pointer (some ⟨lb, 0, none⟩)) b5 (by cases b5 <;> kernel_rfl) h (fun hB => by subst hB; exact g_pure (v := .pointer (some ⟨lb, 0, none⟩)) fun _ => by kernel_rfl) ?_
  refine sq_m1 (v := .pointer (some ⟨lb, 0, none⟩)) b5 (by cases b5 <;> kernel_rfl) h (fun hB => by subst hB; exact g_pure (v := .pointer (some ⟨lb, 0, none⟩)) fun _ => by kernel_rfl) ?_
  refine sq_m1 (v := .string (ofT (itK x t))) b5 (by cases b5 <;> kernel_rfl) h (fun hB => by subst hB; exact g_ld 0 [.string (ofT (itK x t))] (.string (ofT (itK x t))) (by kernel_rfl) 0 rfl) ?_
  refine sq_m1 (v := .int .i64 ((ofT (itK x t)).size : Int)) b5 (by cases b5 <;> kernel_rfl) h (fun hB => by subst hB; exact g_pure (v := .int .i64 ((ofT (itK x t)).size : Int)) fun _ => by kernel_rfl) ?_
  refine sq_m1 (v := .int .i64 (((Lib.decDigits x.length).length : Nat) : Int)) b5 (by cases b5 <;> kernel_rfl) h (fun hB => by subst hB; exact g_pure (v := .int .i64 (((Lib.decDigits x.length).length : Nat) : Int)) fun _ => by kernel_rfl) ?_
  refine sq_m1 (v := .int .i64 (((ofT (itK x t)).size : Int) - (((Lib.decDigits x.length).length : Nat) : Int))) b5 (by cases b5 <;> kernel_rfl) h (fun hB => by subst hB; exact g_eq (v := .int .i64 (IntKind.i64.wrap (((ofT (itK x t)).size : Int) - (((Lib.decDigits x.length).length : Nat) : Int)))) (v' := .int .i64 (((ofT (itK x t)).size : Int) - (((Lib.decDigits x.length).length : Nat) : Int))) (g_pure fun _ => by kernel_rfl) (wr (by omega))) ?_
  refine sq_m1 (v := .int .i64 ((((ofT (itK x t)).size : Int) - (((Lib.decDigits x.length).length : Nat) : Int)) - 1)) b5 (by cases b5 <;> kernel_rfl) h (fun hB => by subst hB; exact g_eq (v := .int .i64 (IntKind.i64.wrap ((((ofT (itK x t)).size : Int) - (((Lib.decDigits x.length).length : Nat) : Int)) - 1))) (v' := .int .i64 ((((ofT (itK x t)).size : Int) - (((Lib.decDigits x.length).length : Nat) : Int)) - 1)) (g_pure fun _ => by kernel_rfl) (wr (by omega))) ?_
  obtain ⟨b6, hb6⟩ : ∃ b_ : Bool, b_ = (decide ((x.length : Int) ≤ (((ofT (itK x t)).size : Int) - (((Lib.decDigits x.length).length : Nat) : Int)) - 1)) := ⟨_, rfl⟩
  refine sq_m1 (v := .bool b6) b5 (by cases b5 <;> kernel_rfl) h (fun hB => by subst hB; exact by subst hb6; exact g_pure (v := .bool (decide ((x.length : Int) ≤ (((ofT (itK x t)).size : Int) - (((Lib.decDigits x.length).length : Nat) : Int)) - 1))) fun _ => by kernel_rfl) ?_
  obtain ⟨b7, hb7⟩ : ∃ b_ : Bool, b_ = (b5 && b6) := ⟨_, rfl⟩
  refine sq_q (v := .bool b7) rfl h (by subst hb7; exact g_pure (v := .bool (b5 && b6)) fun _ => by cases b5 <;> kernel_rfl) ?_
  have hm8 : b7 = true := by subst hb7; subst hb6; subst hb5; first | (simp; done) | (simp; omega)
  refine sq_call #[.bool b7] [] rfl (mustB_spec b7 hm8) (fun _ => by kernel_rfl) h ?_; rintro v_ L_ w ⟨rfl, rfl⟩ h
  refine lnil ?_
  refine thn_n ?_
  refine c_seq ?_
  refine c_reg ?_
  refine sq_p (.pointer (some ⟨lb, 0, none⟩)) rfl (fun _ => by kernel_rfl) ?_
  refine sq_p (.pointer (some ⟨lb, 0, none⟩)) rfl (fun _ => by kernel_rfl) ?_
  refine sq_p (.pointer (some ⟨lb, 0, none⟩)) rfl (fun _ => by kernel_rfl) ?_
  refine sq_q rfl h (g_ld 0 [.string (ofT (itK x t))] (.string (ofT (itK x t))) (by kernel_rfl) 0 rfl) ?_
  refine sq_p (.int .i64 (((Lib.decDigits x.length).length : Nat) : Int)) rfl (fun _ => by kernel_rfl) ?_
  refine sq_q rfl h (g_eq (v := .int .i64 (IntKind.i64.wrap ((((Lib.decDigits x.length).length : Nat) : Int) + 1))) (v' := .int .i64 ((((Lib.decDigits x.length).length) + 1 : Nat) : Int)) (g_pure fun _ => by kernel_rfl) (wr (by omega))) ?_
  refine sq_p (.int .i64 (((Lib.decDigits x.length).length : Nat) : Int)) rfl (fun _ => by kernel_rfl) ?_
  refine sq_q rfl h (g_eq (v := .int .i64 (IntKind.i64.wrap ((((Lib.decDigits x.length).length : Nat) : Int) + 1))) (v' := .int .i64 ((((Lib.decDigits x.length).length) + 1 : Nat) : Int)) (g_pure fun _ => by kernel_rfl) (wr (by omega))) ?_
  refine sq_p (.int .i64 (x.length : Int)) rfl (fun _ => by kernel_rfl) ?_
  refine sq_q rfl h (g_eq (v := .int .i64 (IntKind.i64.wrap (((((Lib.decDigits x.length).length) + 1 : Nat) : Int) + (x.length : Int)))) (v' := .int .i64 (((((Lib.decDigits x.length).length) + 1) + x.length : Nat) : Int)) (g_pure fun _ => by kernel_rfl) (wr (by omega))) ?_
  refine sq_q rfl h (g_subT (ofT (itK x t)) (LV := (some (.int .i64 ((((Lib.decDigits x.length).length) + 1 : Nat) : Int)))) (HV := (some (.int .i64 (((((Lib.decDigits x.length).length) + 1) + x.length : Nat) : Int)))) (((Lib.decDigits x.length).length) + 1) ((((Lib.decDigits x.length).length) + 1) + x.length) (by kernel_rfl) (bnd rfl) (bnd rfl) (by first | omega | (simp; omega)) (by first | omega | (simp; omega))) ?_
  refine sq_p (.string ((ofT (itK x t)).extract (((Lib.decDigits x.length).length) + 1) ((((Lib.decDigits x.length).length) + 1) + x.length))) rfl (fun _ => by kernel_rfl) ?_
  refine lnil ?_
  refine thn_n ?_
  refine c_seq ?_
  refine c_reg ?_
  refine sq_p (.pointer (some ⟨lb, 0, none⟩)) rfl (fun _ => by kernel_rfl) ?_
  refine sq_p (.pointer (some ⟨lb, 0, none⟩)) rfl (fun _ => by kernel_rfl) ?_
  refine sq_p (.pointer (some ⟨lb, 0, none⟩)) rfl (fun _ => by kernel_rfl) ?_
  refine sq_p (.pointer (some ⟨lb, 0, none⟩)) rfl (fun _ => by kernel_rfl) ?_
  refine sq_q rfl h (g_ld 0 [.string (ofT (itK x t))] (.string (ofT (itK x t))) (by kernel_rfl) 0 rfl) ?_
  refine sq_p (.int .i64 (((Lib.decDigits x.length).length : Nat) : Int)) rfl (fun _ => by kernel_rfl) ?_
  refine sq_q rfl h (g_eq (v := .int .i64 (IntKind.i64.wrap ((((Lib.decDigits x.length).length : Nat) : Int) + 1))) (v' := .int .i64 ((((Lib.decDigits x.length).length) + 1 : Nat) : Int)) (g_pure fun _ => by kernel_rfl) (wr (by omega))) ?_
  refine sq_p (.int .i64 (x.length : Int)) rfl (fun _ => by kernel_rfl) ?_
  refine sq_q rfl h (g_eq (v := .int .i64 (IntKind.i64.wrap (((((Lib.decDigits x.length).length) + 1 : Nat) : Int) + (x.length : Int)))) (v' := .int .i64 (((((Lib.decDigits x.length).length) + 1) + x.length : Nat) : Int)) (g_pure fun _ => by kernel_rfl) (wr (by omega))) ?_
  refine sq_q rfl h (g_subT (ofT (itK x t)) (LV := (some (.int .i64 (((((Lib.decDigits x.length).length) + 1) + x.length : Nat) : Int)))) (HV := none) ((((Lib.decDigits x.length).length) + 1) + x.length) ((ofT (itK x t)).size) (by kernel_rfl) (bnd rfl) rfl (by first | omega | (simp; omega)) (by first | omega | (simp; omega))) ?_
  refine sq_p (.pointer (some ⟨lb, 0, none⟩)) rfl (fun _ => by kernel_rfl) ?_
  refine sq_p (.pointer (some ⟨lb, 0, none⟩)) rfl (fun _ => by kernel_rfl) ?_
  refine sq_st rfl 0 [.string ((ofT (itK x t)).extract ((((Lib.decDigits x.length).length) + 1) + x.length) ((ofT (itK x t)).size))] [.string ((ofT (itK x t)).extract ((((Lib.decDigits x.length).length) + 1) + x.length) ((ofT (itK x t)).size)), .pointer (some ⟨b, 0, none⟩), .map (some fm)] h 0 rfl (by kernel_rfl) ?_; intro w h
  refine lnil ?_
  refine thn_n ?_
  refine c_seq ?_
  refine c_reg ?_
  refine sq_p (.string ((ofT (itK x t)).extract (((Lib.decDigits x.length).length) + 1) ((((Lib.decDigits x.length).length) + 1) + x.length))) rfl (fun _ => by kernel_rfl) ?_
  refine sq_p (.string ((ofT (itK x t)).extract (((Lib.decDigits x.length).length) + 1) ((((Lib.decDigits x.length).length) + 1) + x.length))) rfl (fun _ => by kernel_rfl) ?_
  refine lnil ?_
  refine thn_n ?_
  refine c_ret ?_
  refine ret_end [.string ((ofT (itK x t)).extract (((Lib.decDigits x.length).length) + 1) ((((Lib.decDigits x.length).length) + 1) + x.length))] [0] h (by kernel_rfl) (res_t (by kernel_rfl) res_n) ?_
  rw [ext_body, ext_rest]
  exact ⟨rfl, rfl⟩
theorem lnum_spec (lb b fm : Nat) (n : Nat) (t : Tx) (hn : n < 1000) (hz : (numK n t).length ≤ 90000000)  : Spec Tryz.prog 25 #[.pointer (some ⟨lb, 0, none⟩)] [rCell true lb [.string (ofT (numK n t)), .pointer (some ⟨b, 0, none⟩), .map (some fm)] 62] (fun u L => u = .int .i64 (n : Int) ∧ L = [rCell true lb [.string (ofT t), .pointer (some ⟨b, 0, none⟩), .map (some fm)] 62]) := by
  have hd3 := num_small hn
  have hz2 : (itK (Lib.decDigits n) t).length ≤ 90000000 := hz
  refine spec_of (#[.pointer (some ⟨lb, 0, none⟩), undef, undef, undef, undef, undef, undef, undef, undef, undef, undef, undef, undef, undef, undef, undef, undef, undef, undef]) Tryz.func25 rfl (by kernel_rfl) fun E w0 w h => ?_
  refine c_seq ?_
  refine c_reg ?_
  refine sq_p (.int .i64 0) rfl (fun _ => by kernel_rfl) ?_
  refine lnil ?_
  refine thn_n ?_
  refine c_seq ?_
  refine c_reg ?_
  refine sq_p (.pointer (some ⟨lb, 0, none⟩)) rfl (fun _ => by kernel_rfl) ?_
  refine sq_call #[.pointer (some ⟨lb, 0, none⟩)] [0] rfl (ltext_spec lb b fm (Lib.decDigits n) t (by omega) (by omega)) (fun _ => by kernel_rfl) h ?_; rintro v_ L_ w ⟨rfl, rfl⟩ h
  refine sq_call #[.string (ofT (Lib.decDigits n))] [] rfl (atoiD_spec n (by unfold ten10; omega)) (fun _ => by kernel_rfl) h ?_; rintro v_ L_ w ⟨rfl, rfl⟩ h
  refine sq_p (.tuple #[.int .i64 (n : Int), .nilIface]) rfl (fun _ => by kernel_rfl) ?_
  refine sq_p (.int .i64 (n : Int)) rfl (fun _ => by kernel_rfl) ?_
  refine sq_p (.nilIface) rfl (fun _ => by kernel_rfl) ?_
  refine sq_p (.int .i64 (n : Int)) rfl (fun _ => by kernel_rfl) ?_
  refine sq_p (.nilIface) rfl (fun _ => by kernel_rfl) ?_
  refine lnil ?_
  refine thn_n ?_
  refine c_seq ?_
  refine c_reg ?_
  refine sq_p (.nilIface) rfl (fun _ => by kernel_rfl) ?_
  refine sq_p (.bool true) rfl (fun _ => by kernel_rfl) ?_
  refine sq_p (.bool true) rfl (fun _ => by kernel_rfl) ?_
  refine sq_p (.int .i64 (n : Int)) (by kernel_rfl) (fun _ => by kernel_rfl) ?_
  obtain ⟨b1, hb1⟩ : ∃ b_ : Bool, b_ = (decide ((n : Int) ≥ 0)) := ⟨_, rfl⟩
  refine sq_q (v := .bool b1) (by kernel_rfl) h (by subst hb1; exact g_pure (v := .bool (decide ((n : Int) ≥ 0))) fun _ => by kernel_rfl) ?_
  refine sq_p (.bool b1) rfl (fun _ => by kernel_rfl) ?_
  have hm2 : b1 = true := by subst hb1; first | (simp; done) | (simp; omega)
  refine sq_call #[.bool b1] [] rfl (mustB_spec b1 hm2) (fun _ => by kernel_rfl) h ?_; rintro v_ L_ w ⟨rfl, rfl⟩ h
  refine lnil ?_
  refine thn_n ?_
  refine c_seq ?_
  refine c_reg ?_
  refine sq_p (.int .i64 (n : Int)) rfl (fun _ => by kernel_rfl) ?_
  refine sq_p (.int .i64 (n : Int)) rfl (fun _ => by kernel_rfl) ?_
  refine lnil ?_
  refine thn_n ?_
  refine c_ret ?_
  refine ret_end [.int .i64 (n : Int)] [0] h (by kernel_rfl) (res_t (by kernel_rfl) res_n) ?_
  exact ⟨rfl, rfl⟩

/- Package nodes: the table's two slices: which numbers are used (a node's block), how often each was given. -/

def ptrV (p : Option Nat) : Value := .pointer (p.map fun b => ⟨b, 0, none⟩)
def ptrC (p : Option Nat) : List Value := [ptrV p]
def intC (n : Int) : List Value := [.int .i64 n]
theorem ptrC_len (p : Option Nat) : (ptrC p).length = 1 := rfl
theorem intC_len (p : Int) : (intC p).length = 1 := rfl
/-- The table at block b, its two slices named. -/
structure TabAt (w : World) (b : Nat) (ps : List (Option Nat)) (gs : List Int) (vl vg : Value) (T : TypeId) (Sl Sg : Nat → Prop) : Prop where
  blk : w.heap[b]? = some (.cells #[vl, vg] T (0, 0))
  l : SliceAt w vl 87 1 ps.length (ps.flatMap ptrC) Sl
  g : SliceAt w vg 3 1 gs.length (gs.flatMap intC) Sg
  bl : ¬ Sl b
  bg : ¬ Sg b
  lg : ∀ x, Sl x → ¬ Sg x
  lt1 : ∀ x, Sl x → x < w.heap.size
  lt2 : ∀ x, Sg x → x < w.heap.size
section
variable {w w' : World} {b : Nat} {ps : List (Option Nat)} {gs : List Int} {vl vg : Value} {T : TypeId} {Sl Sg S : Nat → Prop}
theorem TabAt.keep {U : Nat → Prop} (h : TabAt w b ps gs vl vg T Sl Sg) (c : Chg U w w') (hb : ¬ U b) (hl : ∀ x, Sl x → ¬ U x) (hg : ∀ x, Sg x → ¬ U x) : TabAt w' b ps gs vl vg T Sl Sg :=
  ⟨c.keep h.blk hb, h.l.keep c hl, h.g.keep c hg, h.bl, h.bg, h.lg, fun x hx => Nat.lt_of_lt_of_le (h.lt1 x hx) c.size, fun x hx => Nat.lt_of_lt_of_le (h.lt2 x hx) c.size⟩
theorem TabAt.same (h : TabAt w b ps gs vl vg T Sl Sg) (c : Chg Nil w w') : TabAt w' b ps gs vl vg T Sl Sg := h.keep c (fun f => f) (fun _ _ f => f) (fun _ _ f => f)
theorem TabAt.setL {g off n cap k : Nat} {p : Option Nat} (h : TabAt w b ps gs (.slice (some ⟨g, off, none⟩) n cap) vg T Sl Sg) (hk : k < ps.length) : TabAt (w.setCell ⟨g, off + k, none⟩ (ptrV p)) b (ps.set k p) gs (.slice (some ⟨g, off, none⟩) n cap) vg T Sl Sg := by
  have hnn : n = ps.length := slice_len' h.l
  obtain ⟨g', off', cap', cs, e, hb9, _, _, _, _, hg, hgl⟩ := h.l.place (by omega)
  cases e
  have hset := SliceAt.setElem ptrC_len h.l (k := k) hk p
  have hse : w.setCells g (off + k * 1) (ptrC p) = w.setCell ⟨g, off + k, none⟩ (ptrV p) := by rw [Nat.mul_one]; rfl
  rw [hse] at hset
  have c := chg_at w g (off + k) (ptrV p)
  exact ⟨c.keep h.blk (fun e => h.bl (e ▸ hg)), by simpa using hset, h.g.keep c (fun x hx e => h.lg g hg (e ▸ hx)), h.bl, h.bg, h.lg, fun x hx => Nat.lt_of_lt_of_le (h.lt1 x hx) c.size, fun x hx => Nat.lt_of_lt_of_le (h.lt2 x hx) c.size⟩
theorem TabAt.setG {g off n cap k : Nat} {p : Int} (h : TabAt w b ps gs vl (.slice (some ⟨g, off, none⟩) n cap) T Sl Sg) (hk : k < gs.length) : TabAt (w.setCell ⟨g, off + k, none⟩ (.int .i64 p)) b ps (gs.set k p) vl (.slice (some ⟨g, off, none⟩) n cap) T Sl Sg := by
  have hnn : n = gs.length := slice_len' h.g
  obtain ⟨g', off', cap', cs, e, hb9, _, _, _, _, hg, hgl⟩ := h.g.place (by omega)
  cases e
  have hset := SliceAt.setElem intC_len h.g (k := k) hk p
  have hse : w.setCells g (off + k * 1) (intC p) = w.setCell ⟨g, off + k, none⟩ (.int .i64 p) := by rw [Nat.mul_one]; rfl
  rw [hse] at hset
  have c := chg_at w g (off + k) (.int .i64 p)
  exact ⟨c.keep h.blk (fun e => h.bg (e ▸ hg)), h.l.keep c (fun x hx e => h.lg x hx (e ▸ hg)), by simpa using hset, h.bl, h.bg, h.lg, fun x hx => Nat.lt_of_lt_of_le (h.lt1 x hx) c.size, fun x hx => Nat.lt_of_lt_of_le (h.lt2 x hx) c.size⟩
end

/- Package nodes: the table's calls by contract, as far as numbers go: Index, at, Free, Count. -/

/-- The first free number. -/
def free0 : List (Option Nat) → Option Nat
  | [] => none
  | none :: _ => some 0
  | some _ :: r => (free0 r).map (· + 1)
theorem free0_at : ∀ (ps : List (Option Nat)) (k : Nat), (∀ j, j < k → ∃ b, ps[j]? = some (some b)) → ps[k]? = some none → free0 ps = some k
  | [], k, _, h => by simp at h
  | none :: r, k, h, _ => by
    rcases k with _ | k
    · rfl
    · obtain ⟨b, hb⟩ := h 0 (by omega); simp at hb
  | some a :: r, k, h, hk => by
    rcases k with _ | k
    · simp at hk
    · have := free0_at r k (fun j hj => by simpa using h (j + 1) (by omega)) (by simpa using hk)
      simp [free0, this]
theorem free0_none : ∀ (ps : List (Option Nat)), (∀ j, j < ps.length → ∃ b, ps[j]? = some (some b)) → free0 ps = none
  | [], _ => rfl
  | none :: r, h => by obtain ⟨b, hb⟩ := h 0 (by simp); simp at hb
  | some a :: r, h => by
    have := free0_none r (fun j hj => by simpa using h (j + 1) (by simp; omega))
    simp [free0, this]
theorem free0_lt : ∀ (ps : List (Option Nat)) (k : Nat), free0 ps = some k → ps[k]? = some none
  | [], k, h => by cases h
  | none :: r, k, h => by simp [free0] at h; subst h; rfl
  | some a :: r, k, h => by
    simp only [free0, Option.map_eq_some_iff] at h
    obtain ⟨j, hj, rfl⟩ := h
    simpa using free0_lt r j hj
def free0I (ps : List (Option Nat)) : Int := match free0 ps with | some k => k | none => -1
/-- What lies at a handle. -/
def atOf (ps : List (Option Nat)) (gs : List Int) (n g : Int) : Option Nat :=
  if n < 0 ∨ (ps.length : Int) ≤ n then none else match ps[n.toNat]?, gs[n.toNat]? with
    | some (some b), some x => if x - 1 = g then some b else none
    | _, _ => none
def usedN : List (Option Nat) → Nat
  | [] => 0
  | none :: r => usedN r
  | some _ :: r => usedN r + 1
theorem usedN_le : ∀ l : List (Option Nat), usedN l ≤ l.length
  | [] => Nat.le_refl _
  | none :: r => by have := usedN_le r; simp [usedN]; omega
  | some _ :: r => by have := usedN_le r; simp [usedN]; omega
theorem usedN_take (l : List (Option Nat)) (k : Nat) (p : Option Nat) (h : l[k]? = some p) : usedN (l.take (k + 1)) = usedN (l.take k) + (if p.isSome then 1 else 0) := by
  have : ∀ (a b : List (Option Nat)), usedN (a ++ b) = usedN a + usedN b := by
    intro a b
    induction a with
    | nil => simp [usedN]
    | cons x a ih => cases x <;> simp [usedN, ih]; omega
  rw [List.take_add_one, h, this]
  cases p <;> simp [usedN]

theorem run_eql_ptr_nil {P : Program} (w : World) {tp te : TypeId} (a : Addr) (hp : P.underlying tp = some (.pointer te)) : (binOp .eql tp (.pointer none) (.pointer (some a))).run P w = .ok (.bool false) w := by
  have h : ∀ d : Nat, (Op.equalIn (d + 1) tp (.pointer none) (.pointer (some a))).run P w = .ok false w := fun d => by
    simp [Op.equalIn, run_underlying hp]
  simp only [binOp]
  simp [Op.equal, Op.maxDepth, h 9999]
def RelIxO (ps : List (Option Nat)) (w : World) (i : Value) (wr : World) : Prop := ∃ k : Nat, k ≤ ps.length ∧ i = .int .i64 k ∧ Chg Nil w wr ∧ ∀ j, j < k → ∃ b, ps[j]? = some (some b)
theorem nindex_any (v : Value) (ps : List (Option Nat)) (S : Nat → Prop) (w : World) (hs : SliceAt w v 87 1 ps.length (ps.flatMap ptrC) S) (hl : ps.length ≤ 300) :
    Calls Tryz.prog 33 #[v, .pointer none] w fun e w' => e = .returned (.int .i64 (free0I ps)) ∧ Chg Nil w w' := by
  obtain ⟨a, cap, rfl⟩ := hs.shape
  have HS := Lib.hid hs
  clear hs
  go_enter Tryz.func33, Tryz.ntmps33
  go_wp2_with fail
  go_loopw [8] (fun i wr => RelIxO ps w i wr) (fun i _ => (ps.length - intOf i).toNat)
  case atStart => exact ⟨0, Nat.zero_le _, rfl, Chg.refl _ _, fun j hj => absurd hj (Nat.not_lt_zero _)⟩
  case round =>
    obtain ⟨k, hk, rfl, hC, hall⟩ := hrel
    have HALL := Lib.hid hall
    clear hall
    by_cases hlt : k < ps.length
    · have j1 : (k : Int) < (ps.length : Int) := by omega
      have j0 : (0 : Int) ≤ (k : Int) := by omega
      obtain ⟨g, off, cap', cs, e, _, hn, _, _, _, _, _⟩ := HS.out.place (by omega)
      cases e
      obtain ⟨p, hp⟩ : ∃ p, ps[k]? = some p := ⟨ps[k], List.getElem?_eq_getElem _⟩
      have y0 := ((HS.out.keep hC (fun _ _ f => f)).elem ptrC_len hp 0 _ rfl).1
      simp only [Nat.mul_one, Nat.add_zero] at y0
      have hkc : k < cap := by omega
      have HP := Lib.hid hp
      clear hp
      cases p with
      | none =>
        simp only [ptrV, Option.map_none] at y0
        have hr : free0I ps = k := by unfold free0I; rw [free0_at ps k HALL.out HP.out]
        have HR := Lib.hid hr
        clear hr
        go_wp2_with fail
        go_ret
        exact ⟨by rw [HR.out]; rfl, hC⟩
      | some b =>
        simp only [ptrV, Option.map_some] at y0
        have HN : Hid (∀ j, j < k + 1 → ∃ b, ps[j]? = some (some b)) := Lib.hid (fun j hj => by
          rcases Nat.lt_or_ge j k with h | h
          · exact HALL.out j h
          · obtain rfl : j = k := by omega
            exact ⟨b, HP.out⟩)
        have hq := fun W => run_eql_ptr_nil (P := Tryz.prog) W (⟨b, 0, none⟩ : Addr) Tryz.underlying87
        go_wp2_with fail
        go_roundw
        case rel => exact ⟨k + 1, by omega, by go_num, hC, HN.out⟩
        case measure => simp [intOf]; omega
    · obtain rfl : k = ps.length := by omega
      have hr : free0I ps = -1 := by unfold free0I; rw [free0_none ps HALL.out]
      have HR := Lib.hid hr
      clear hr
      go_wp2_with fail
      go_ret
      exact ⟨by rw [HR.out]; rfl, hC⟩

def hdlV (n g : Int) : Value := .agg #[.int .i64 n, .int .i64 g]
theorem atOf_out {ps : List (Option Nat)} {gs : List Int} {n g : Int} (h : n < 0 ∨ (ps.length : Int) ≤ n) : atOf ps gs n g = none := if_pos h
theorem atOf_in {ps : List (Option Nat)} {gs : List Int} {k : Nat} {g x : Int} {p : Option Nat} (h1 : ps[k]? = some p) (h2 : gs[k]? = some x) : atOf ps gs k g = p.bind (fun b => if x - 1 = g then some b else none) := by
  obtain ⟨hl, _⟩ := List.getElem?_eq_some_iff.1 h1
  unfold atOf
  rw [if_neg (by omega)]
  simp only [Int.toNat_natCast, h1, h2]
  cases p <;> rfl
theorem nat_any {B : Nat} (ad : Nat → Addr) (b : Nat) (n g : Int) (ps : List (Option Nat)) (gs : List Int) (vl vg : Value) (T : TypeId) (Sl Sg : Nat → Prop) (w : World) (he : Env B ad [10] w) (ht : TabAt w b ps gs vl vg T Sl Sg) (hl : ps.length = gs.length) (hr : ∀ x ∈ gs, 0 ≤ x ∧ x ≤ 1000000) :
    Calls Tryz.prog 34 #[.pointer (some ⟨b, 0, none⟩), hdlV n g] w fun e w' => e = .returned (.tuple #[ptrV (atOf ps gs n g), errV ad (if (atOf ps gs n g).isSome then 0 else 10)]) ∧ Chg Nil w w' := by
  obtain ⟨q1, q1l⟩ := he.get (c := 10) (by simp)
  simp only [gl] at q1 q1l
  have e0 := cell_of ht.blk 0
  have e1 := cell_of ht.blk 1
  have gb := lt_of_block ht.blk
  simp at e0 e1
  have HT := Lib.hid ht
  obtain ⟨al, cl, rfl⟩ := ht.l.shape
  obtain ⟨ag, cg, rfl⟩ := ht.g.shape
  have HL := Lib.hid hl
  have HRG := Lib.hid hr
  clear he ht hl hr
  unfold hdlV
  by_cases hbad : n < 0 ∨ (ps.length : Int) ≤ n
  · rw [atOf_out hbad]
    have hgo : n < 0 ∨ (¬ n < 0 ∧ (ps.length : Int) ≤ n) := by omega
    clear hbad
    rcases hgo with h | ⟨h, h'⟩
    case' inl => have hd : decide (n < 0) = true := by simpa using h
    case' inr => have hd : decide (n < 0) = false := by simp; omega
    all_goals
      go_enter Tryz.func34, Tryz.ntmps34
      go_wp2_with fail
      go_quiet (fail)
      go_wp2_with fail
      go_quiet (fail)
      go_wp2_with fail
      go_ret2
      exact ⟨rfl, by repeat (first | exact Chg.refl _ _ | exact Chg.drewN _ _ | refine Chg.drew ?_ | refine Chg.drewsN ?_ _ | refine Chg.alloc ?_ _)⟩
  obtain ⟨k, rfl⟩ : ∃ k : Nat, n = k := ⟨n.toNat, by omega⟩
  have hk : k < ps.length := by omega
  have hkg : k < gs.length := by have := HL.out; omega
  obtain ⟨p, hp⟩ : ∃ p, ps[k]? = some p := ⟨ps[k], List.getElem?_eq_getElem hk⟩
  obtain ⟨x, hx⟩ : ∃ x, gs[k]? = some x := ⟨gs[k], List.getElem?_eq_getElem hkg⟩
  rw [atOf_in hp hx]
  have hxr := HRG.out x (List.mem_of_getElem? hx)
  obtain ⟨g1, o1, c1, cs1, e, _, n1, _, _, _, _, gl1⟩ := HT.out.l.place (by omega)
  cases e
  obtain ⟨g2, o2, c2, cs2, e, _, n2, _, _, _, _, gl2⟩ := HT.out.g.place (by omega)
  cases e
  have y1 := (HT.out.l.elem ptrC_len hp 0 _ rfl).1
  have y2 := (HT.out.g.elem intC_len hx 0 _ rfl).1
  simp only [Nat.mul_one, Nat.add_zero] at y1 y2
  have d1 : decide ((k : Int) < 0) = false := decide_eq_false (by omega)
  have d2 : decide (ps.length ≤ k) = false := decide_eq_false (by omega)
  have j0 : (0 : Int) ≤ (k : Int) := by omega
  have j1 : (k : Int) < (ps.length : Int) := by omega
  have j2 : (k : Int) < (gs.length : Int) := by omega
  have kc1 : k < cl := by omega
  have kc2 : k < cg := by omega
  clear hp hx hbad
  cases p with
  | none =>
    simp only [ptrV, Option.map_none] at y1
    simp only [Option.bind_none, Option.isSome_none, Bool.false_eq_true, if_false]
    go_enter Tryz.func34, Tryz.ntmps34
    go_wp2_with fail
    go_quiet (fail)
    go_wp2_with fail
    go_quiet (fail)
    go_wp2_with fail
    go_ret2
    exact ⟨rfl, by repeat (first | exact Chg.refl _ _ | exact Chg.drewN _ _ | refine Chg.drew ?_ | refine Chg.drewsN ?_ _ | refine Chg.alloc ?_ _)⟩
  | some nb =>
    simp only [ptrV, Option.map_some] at y1
    have hw : IntKind.i64.wrap (x - 1) = x - 1 := IntWalk.i64_in _ (by omega)
    by_cases hg : x - 1 = g
    · have d3 : decide (x - 1 = g) = true := by simpa using hg
      simp only [Option.bind_some, if_pos hg, Option.isSome_some, if_true, errV_zero]
      go_enter Tryz.func34, Tryz.ntmps34
      go_wp2_with fail
      go_quiet (fail)
      go_wp2_with fail
      go_quiet (fail)
      go_wp2_with fail
      go_ret2
      exact ⟨rfl, by repeat (first | exact Chg.refl _ _ | exact Chg.drewN _ _ | refine Chg.drew ?_ | refine Chg.drewsN ?_ _ | refine Chg.alloc ?_ _)⟩
    · have d3 : decide (x - 1 = g) = false := by simpa using hg
      simp only [Option.bind_some, if_neg hg, Option.isSome_none, Bool.false_eq_true, if_false]
      go_enter Tryz.func34, Tryz.ntmps34
      go_wp2_with fail
      go_quiet (fail)
      go_wp2_with fail
      go_quiet (fail)
      go_wp2_with fail
      go_ret2
      exact ⟨rfl, by repeat (first | exact Chg.refl _ _ | exact Chg.drewN _ _ | refine Chg.drew ?_ | refine Chg.drewsN ?_ _ | refine Chg.alloc ?_ _)⟩

/- Package nodes: Free, Count, New by contract. -/

theorem info_ptr : (Tryz.prog.info? 87).map (fun i => (i.zero, i.size, i.bytes)) = some (some (.pointer none), 1, 8) := by kernel_rfl
theorem info_i64 : (Tryz.prog.info? 3).map (fun i => (i.zero, i.size, i.bytes)) = some (some (.int .i64 0), 1, 8) := by kernel_rfl

theorem nfree_stale {B : Nat} (ad : Nat → Addr) (b : Nat) (n g : Int) (ps : List (Option Nat)) (gs : List Int) (vl vg : Value) (T : TypeId) (Sl Sg : Nat → Prop) (w : World) (he : Env B ad [10] w) (ht : TabAt w b ps gs vl vg T Sl Sg) (hl : ps.length = gs.length) (hr : ∀ x ∈ gs, 0 ≤ x ∧ x ≤ 1000000) (hs : atOf ps gs n g = none) :
    Calls Tryz.prog 52 #[.pointer (some ⟨b, 0, none⟩), hdlV n g] w fun e w' => e = .returned (errV ad 10) ∧ Chg Nil w w' := by
  have ha := (Chg.refl Nil w).alloc (.cells #[.int .i64 n, .int .i64 g] 29)
  have HAT := Lib.hid (nat_any (B := B) ad b n g ps gs vl vg T Sl Sg _ (he.keepN ha) (ht.same ha) hl hr)
  rw [hs] at HAT
  have HA := Lib.hid ha
  clear he ht hl hr hs ha
  unfold hdlV at *
  go_enter Tryz.func52, Tryz.ntmps52
  go_wp2_with fail
  refine HAT.out.mono ?_
  rintro e w2 ⟨rfl, hc2⟩
  simp only [Option.isSome_none, Bool.false_eq_true, if_false, ptrV, Option.map_none, errV_pos (ad := ad) (c := 10) (by decide)]
  go_wp2_with fail
  go_ret
  exact ⟨rfl, HA.out.then hc2⟩

theorem nfree_ok {B : Nat} (ad : Nat → Addr) (b k nb : Nat) (g : Int) (ps : List (Option Nat)) (gs : List Int) (vl vg : Value) (T : TypeId) (Sl Sg : Nat → Prop) (w : World) (he : Env B ad [10] w) (ht : TabAt w b ps gs vl vg T Sl Sg) (hl : ps.length = gs.length) (hr : ∀ x ∈ gs, 0 ≤ x ∧ x ≤ 1000000) (hk : k < ps.length) (hs : atOf ps gs k g = some nb) :
    Calls Tryz.prog 52 #[.pointer (some ⟨b, 0, none⟩), hdlV k g] w fun e w' => e = .returned .nilIface ∧ Chg Sl w w' ∧ TabAt w' b (ps.set k none) gs vl vg T Sl Sg := by
  have ha := (Chg.refl Nil w).alloc (.cells #[.int .i64 k, .int .i64 g] 29)
  have hbx := block_alloc w (.cells #[.int .i64 (k : Int), .int .i64 g] 29)
  have HAT := Lib.hid (nat_any (B := B) ad b k g ps gs vl vg T Sl Sg _ (he.keepN ha) (ht.same ha) hl hr)
  rw [hs] at HAT
  have HA := Lib.hid ha
  have HBX := Lib.hid hbx
  have HT := Lib.hid (ht.same ha)
  obtain ⟨g1, o1, c1, cs1, rfl, _, n1, _, _, _, hS1, gl1⟩ := HT.out.l.place (by omega)
  clear he ht hl hr hs ha hbx
  unfold hdlV at *
  go_enter Tryz.func52, Tryz.ntmps52
  go_wp2_with fail
  refine HAT.out.mono ?_
  rintro e w2 ⟨rfl, hc2⟩
  simp only [Option.isSome_some, if_true, ptrV, Option.map_some, errV_zero]
  have HR := Lib.hid (HT.out.same hc2)
  have e0 := cell_of HR.out.blk 0
  have gb := lt_of_block HR.out.blk
  have hb2 := hc2.keep HBX.out (fun f => f)
  have b0 := cell_of hb2 0
  have gx := lt_of_block hb2
  simp at e0 b0
  have y := HR.out.l.elem ptrC_len (List.getElem?_eq_getElem hk) 0 _ rfl
  have y0 := y.1
  have y1 := y.2.1
  have y2 := y.2.2
  simp only [Nat.mul_one, Nat.add_zero] at y0 y1
  have j0 : (0 : Int) ≤ (k : Int) := by omega
  have j1 : (k : Int) < (ps.length : Int) := by omega
  have kc : k < c1 := by omega
  have HC2 := Lib.hid hc2
  clear y hb2 hc2
  go_wp2_with fail
  go_region
  go_wp2_with fail
  go_ret
  refine ⟨rfl, ?_, ?_⟩
  · exact (((HA.out.nil (S := Sl)).trans HC2.out (fun _ _ f => f.elim)).setCell (p := ⟨g1, o1 + k, none⟩) (.inr hS1) _).drew
  · exact ((HR.out.setL (p := none) hk).same ((Chg.refl Nil _).drew))

def RelCt (ps : List (Option Nat)) (w : World) (c i : Value) (wr : World) : Prop := ∃ k : Nat, k ≤ ps.length ∧ c = .int .i64 (usedN (ps.take k)) ∧ i = .int .i64 k ∧ Chg Nil w wr
theorem ncount_any (b : Nat) (ps : List (Option Nat)) (gs : List Int) (vl vg : Value) (T : TypeId) (Sl Sg : Nat → Prop) (w : World) (ht : TabAt w b ps gs vl vg T Sl Sg) (hl : ps.length ≤ 300) :
    Calls Tryz.prog 20 #[.pointer (some ⟨b, 0, none⟩)] w fun e w' => e = .returned (.int .i64 (usedN ps)) ∧ Chg Nil w w' := by
  have e0 := cell_of ht.blk 0
  simp at e0
  obtain ⟨al, cl, rfl⟩ := ht.l.shape
  have HT := Lib.hid ht
  clear ht
  go_enter Tryz.func20, Tryz.ntmps20
  go_wp2_with fail
  go_loopw [3, 11] (fun c i wr => RelCt ps w c i wr) (fun _ i _ => (ps.length - intOf i).toNat)
  case atStart => exact ⟨0, Nat.zero_le _, rfl, rfl, Chg.refl _ _⟩
  case round =>
    obtain ⟨k, hk, rfl, rfl, hC⟩ := hrel
    by_cases hlt : k < ps.length
    · obtain ⟨p, hp⟩ : ∃ p, ps[k]? = some p := ⟨ps[k], List.getElem?_eq_getElem hlt⟩
      obtain ⟨g1, o1, c1, cs1, e, _, n1, _, _, _, _, gl1⟩ := HT.out.l.place (by omega)
      cases e
      have y1 := ((HT.out.l.keep hC (fun _ _ f => f)).elem ptrC_len hp 0 _ rfl).1
      simp only [Nat.mul_one, Nat.add_zero] at y1
      have j0 : (0 : Int) ≤ (k : Int) := by omega
      have j1 : (k : Int) < (ps.length : Int) := by omega
      have kc : k < cl := by omega
      have hu := usedN_take ps k p hp
      have hu1 := usedN_le (ps.take k)
      have hu2 : (ps.take k).length = k := by simp; omega
      obtain ⟨u, hu3⟩ : ∃ u, u = usedN (ps.take k) := ⟨_, rfl⟩
      rw [← hu3] at hu hu1 ⊢
      have hub : u ≤ k := by omega
      have HU := Lib.hid hu
      clear hu hu1 hu2 hu3 hp
      cases p with
      | none =>
        simp only [ptrV, Option.map_none] at y1
        go_wp2_with fail
        go_roundw
        case rel => exact ⟨k + 1, by omega, by rw [HU.out]; simp, by go_num, hC⟩
        case measure => simp [intOf]; omega
      | some nb =>
        simp only [ptrV, Option.map_some] at y1
        go_wp2_with fail
        go_roundw
        case rel => exact ⟨k + 1, by omega, by rw [HU.out]; simp, by go_num, hC⟩
        case measure => simp [intOf]; omega
    · obtain rfl : k = ps.length := by omega
      have hu : ps.take ps.length = ps := List.take_of_length_le (Nat.le_refl _)
      rw [hu]
      clear hu
      go_wp2_with fail
      go_ret
      exact ⟨rfl, hC⟩

theorem three_blocks (w : World) (c1 c2 c3 : Array Value) (T1 T2 T3 : TypeId) : (((w.alloc (.cells c1 T1)).alloc (.cells c2 T2)).alloc (.cells c3 T3)).heap[w.heap.size]? = some (.cells c1 T1 (0, 0)) ∧
    (((w.alloc (.cells c1 T1)).alloc (.cells c2 T2)).alloc (.cells c3 T3)).heap[w.heap.size + 1]? = some (.cells c2 T2 (0, 0)) ∧ (((w.alloc (.cells c1 T1)).alloc (.cells c2 T2)).alloc (.cells c3 T3)).heap[w.heap.size + 1 + 1]? = some (.cells c3 T3 (0, 0)) := by
  have q1 := block_alloc w (.cells c1 T1)
  have q2 := block_alloc (w.alloc (.cells c1 T1)) (.cells c2 T2)
  have q3 := block_alloc ((w.alloc (.cells c1 T1)).alloc (.cells c2 T2)) (.cells c3 T3)
  refine ⟨(((Chg.refl Nil _).alloc _).alloc _).keep q1 (fun f => f), ?_, ?_⟩
  · have := ((Chg.refl Nil _).alloc (.cells c3 T3)).keep q2 (fun f => f); simpa using this
  · simpa using q3
theorem tab_new {W : World} {b g1 g2 n : Nat} {T : TypeId} (hn : n ≤ 300) (hb : W.heap[b]? = some (.cells #[.slice (some ⟨g1, 0, none⟩) n n, .slice (some ⟨g2, 0, none⟩) n n] T (0, 0)))
    (h1 : W.heap[g1]? = some (.cells (Array.replicate n (.pointer none)) 87 (0, 0))) (h2 : W.heap[g2]? = some (.cells (Array.replicate n (.int .i64 0)) 3 (0, 0))) (d1 : ¬ b = g1) (d2 : ¬ b = g2) (d3 : ¬ g1 = g2) :
    TabAt W b (List.replicate n none) (List.replicate n 0) (.slice (some ⟨g1, 0, none⟩) n n) (.slice (some ⟨g2, 0, none⟩) n n) T (· = g1) (· = g2) := by
  have hx1 : (List.replicate n (none : Option Nat)).flatMap ptrC = List.replicate n (.pointer none) := rep_flat ptrV n none
  have hx2 : (List.replicate n (0 : Int)).flatMap intC = List.replicate n (.int .i64 0) := rep_flat (fun x => .int .i64 x) n 0
  refine ⟨hb, ?_, ?_, d1, d2, fun x e1 e2 => d3 (e1 ▸ e2), fun x e => (by subst e; exact lt_of_block h1), fun x e => (by subst e; exact lt_of_block h2)⟩
  · rw [hx1, List.length_replicate]; exact sliceAt_made' (by omega) (by simpa using h1)
  · rw [hx2, List.length_replicate]; exact sliceAt_made' (by omega) (by simpa using h2)
def NewTab (w : World) (n : Nat) (e : Ending) (w' : World) : Prop := ∃ b vl vg T Sl Sg, e = .returned (.tuple #[.pointer (some ⟨b, 0, none⟩), .nilIface]) ∧ Chg Nil w w' ∧ TabAt w' b (List.replicate n none) (List.replicate n 0) vl vg T Sl Sg ∧ w.heap.size ≤ b ∧ (∀ x, Sl x → w.heap.size ≤ x) ∧ (∀ x, Sg x → w.heap.size ≤ x)
theorem nnew_any (n : Nat) (w : World) (h1 : 1 ≤ n) (h2 : n ≤ 300) : Calls Tryz.prog 13 #[.int .i64 n] w (NewTab w n) := by
  have g1 : ¬ (n : Int) < 1 := by omega
  have g2 : ¬ 300 < (n : Int) := by omega
  have hm1 := fun W => mk_one (P := Tryz.prog) (T := 83) Tryz.underlying83 info_ptr rfl W n (by omega) (by omega)
  have hm2 := fun W => mk_one (P := Tryz.prog) (T := 78) Tryz.underlying78 info_i64 rfl W n (by omega) (by omega)
  go_enter Tryz.func13, Tryz.ntmps13
  go_wp2_with fail
  go_region
  all_goals
    go_wp2_with fail
    go_ret2
  · obtain ⟨q1, q2, q3⟩ := three_blocks w (Array.replicate n (.pointer none)) (Array.replicate n (.int .i64 0)) #[.slice (some ⟨w.heap.size, 0, none⟩) n n, .slice (some ⟨w.heap.size + 1, 0, none⟩) n n] 87 3 85
    exact ⟨w.heap.size + 1 + 1, _, _, _, _, _, rfl, (((((Chg.refl Nil w).alloc _).alloc _).alloc _).drew), (tab_new h2 q3 q1 q2 (by omega) (by omega) (by omega)).same ((Chg.refl Nil _).drew), by omega, fun x e => (by have : x = _ := e; omega), fun x e => (by have : x = _ := e; omega)⟩
  · obtain ⟨q1, q2, q3⟩ := three_blocks w (Array.replicate n (.int .i64 0)) (Array.replicate n (.pointer none)) #[.slice (some ⟨w.heap.size + 1, 0, none⟩) n n, .slice (some ⟨w.heap.size, 0, none⟩) n n] 3 87 85
    exact ⟨w.heap.size + 1 + 1, _, _, _, _, _, rfl, (((((Chg.refl Nil w).alloc _).alloc _).alloc _).drew), (tab_new h2 q3 q2 q1 (by omega) (by omega) (by omega)).same ((Chg.refl Nil _).drew), by omega, fun x e => (by have : x = _ := e; omega), fun x e => (by have : x = _ := e; omega)⟩

/- Package nodes: Add by contract. -/

theorem nadd_bad {B : Nat} (ad : Nat → Addr) (b : Nat) (kind : Int) (w : World) (he : Env B ad [3] w) (hk : ¬ kind = 1) (hk2 : ¬ kind = 2) :
    Calls Tryz.prog 14 #[.pointer (some ⟨b, 0, none⟩), .int .i64 kind] w fun e w' => e = .returned (.tuple #[hdlV 0 0, errV ad 3]) ∧ Chg Nil w w' := by
  obtain ⟨q1, q1l⟩ := he.get (c := 3) (by simp)
  simp only [gl] at q1 q1l
  clear he
  unfold hdlV
  have d1 : (kind != 1) = true := by simpa using hk
  have d2 : (kind != 2) = true := by simpa using hk2
  clear hk hk2
  go_enter Tryz.func14, Tryz.ntmps14
  go_wp2_with fail
  go_region
  go_wp2_with fail
  have k0 : (w.alloc (.cells #[.int .i64 0, .int .i64 0] 29)).drew.cell? ⟨w.heap.size, 0, none⟩ = some (.int .i64 0) := by simp
  have k1 : (w.alloc (.cells #[.int .i64 0, .int .i64 0] 29)).drew.cell? ⟨w.heap.size, 1, none⟩ = some (.int .i64 0) := by simp
  have hC := ((Chg.refl Nil w).alloc (.cells #[.int .i64 0, .int .i64 0] 29)).drew
  revert k0 k1 hC
  generalize (w.alloc (.cells #[.int .i64 0, .int .i64 0] 29)).drew = w3
  intro k0 k1 hC
  (try simp only [Exit.inBlock, Exit.then])
  refine bodyPost_ret (by simp [results, Tryz.results14, go_sem, k0, k1]; try rfl) rfl ?_
  exact ⟨rfl, hC⟩

theorem nadd_full {B : Nat} (ad : Nat → Addr) (b : Nat) (kind : Int) (ps : List (Option Nat)) (gs : List Int) (vl vg : Value) (T : TypeId) (Sl Sg : Nat → Prop) (w : World) (he : Env B ad [9] w) (ht : TabAt w b ps gs vl vg T Sl Sg) (hk : kind = 1 ∨ kind = 2) (hl : ps.length ≤ 300) (hf : free0 ps = none) :
    Calls Tryz.prog 14 #[.pointer (some ⟨b, 0, none⟩), .int .i64 kind] w fun e w' => e = .returned (.tuple #[hdlV 0 0, errV ad 9]) ∧ Chg Nil w w' := by
  have ha := (Chg.refl Nil w).alloc (.cells #[.int .i64 0, .int .i64 0] 29)
  have hix : free0I ps = -1 := by unfold free0I; rw [hf]
  have HIX := Lib.hid (nindex_any vl ps Sl _ (ht.same ha).l hl)
  rw [hix] at HIX
  have HE := Lib.hid (he.keepN ha)
  obtain ⟨_, q9⟩ := he.get (c := 9) (by simp)
  simp only [gl] at q9
  have hne : ¬ (2 = w.heap.size) := Nat.ne_of_lt q9
  have HA := Lib.hid ha
  have HBX := Lib.hid (block_alloc w (.cells #[.int .i64 (0 : Int), .int .i64 0] 29))
  have e0 := cell_of (ht).blk 0
  have gb := lt_of_block ht.blk
  simp at e0
  clear he ht hl hf hix ha
  unfold hdlV
  rcases hk with rfl | rfl
  all_goals
    go_enter Tryz.func14, Tryz.ntmps14
    go_wp2_with fail
    refine HIX.out.mono ?_
    rintro e w2 ⟨rfl, hc2⟩
    obtain ⟨q1, q1l⟩ := (HE.out.keepN hc2).get (c := 9) (by simp)
    simp only [gl] at q1 q1l
    have hb2 := hc2.keep HBX.out (fun f => f)
    have x0 := cell_of hb2 0
    have x1 := cell_of hb2 1
    have f0 := free_of hb2 0
    have f1 := free_of hb2 1
    have gx := lt_of_block hb2
    simp at x0 x1
    clear hb2
    go_wp2_with fail
    go_region
    go_wp2_with fail
    have k0 : ((w2.setCell ⟨w.heap.size, 0, none⟩ (.int .i64 0)).setCell ⟨w.heap.size, 1, none⟩ (.int .i64 0)).drew.cell? ⟨w.heap.size, 0, none⟩ = some (.int .i64 0) := by have := cell_of (block_setCell (block_setCell (hc2.keep HBX.out (fun f => f)) 0 (.int .i64 0)) 1 (.int .i64 0)) 0; simpa using this
    have k1 : ((w2.setCell ⟨w.heap.size, 0, none⟩ (.int .i64 0)).setCell ⟨w.heap.size, 1, none⟩ (.int .i64 0)).drew.cell? ⟨w.heap.size, 1, none⟩ = some (.int .i64 0) := by have := cell_of (block_setCell (block_setCell (hc2.keep HBX.out (fun f => f)) 0 (.int .i64 0)) 1 (.int .i64 0)) 1; simpa using this
    have hC := ((((HA.out.then hc2).setCell (p := ⟨w.heap.size, 0, none⟩) (.inl (by simp)) (.int .i64 0)).setCell (p := ⟨w.heap.size, 1, none⟩) (.inl (by simp)) (.int .i64 0)).drew)
    revert k0 k1 hC
    generalize ((w2.setCell ⟨w.heap.size, 0, none⟩ (.int .i64 0)).setCell ⟨w.heap.size, 1, none⟩ (.int .i64 0)).drew = w3
    intro k0 k1 hC
    (try simp only [Exit.inBlock, Exit.then])
    refine bodyPost_ret (by simp [results, Tryz.results14, go_sem, k0, k1]; try rfl) rfl ?_
    exact ⟨rfl, hC⟩

def AddPost (w : World) (b k nb : Nat) (kind : Int) (ps : List (Option Nat)) (gs : List Int) (x : Int) (vl vg : Value) (T : TypeId) (Sl Sg : Nat → Prop) (e : Ending) (w' : World) : Prop :=
  e = .returned (.tuple #[hdlV k x, .nilIface]) ∧ Chg (fun y => Sl y ∨ Sg y) w w' ∧ TabAt w' b (ps.set k (some nb)) (gs.set k (x + 1)) vl vg T Sl Sg ∧
    ∃ dp, w'.heap[nb]? = some (.cells #[.int .i64 kind, .int .i64 0, .int .i64 0, .int .i64 0, .int .i64 0, .int .i64 0, dp] 90 (0, 0)) ∧
      ((kind = 2 ∧ dp = .pointer none) ∨ (kind = 1 ∧ dp = .pointer (some ⟨nb + 1, 0, none⟩) ∧ w'.heap[nb + 1]? = some (.cells #[.int .i64 0, .map none] 93 (0, 0))))
theorem add_done {w w2 : World} {b k g1 o1 n1 c1 g2 o2 n2 c2 bx nb : Nat} {y0 y1 : Value} {ps : List (Option Nat)} {gs : List Int} {z : Int} {T : TypeId} {Sl Sg : Nat → Prop} {TH : TypeId}
    (h : TabAt w2 b ps gs (.slice (some ⟨g1, o1, none⟩) n1 c1) (.slice (some ⟨g2, o2, none⟩) n2 c2) T Sl Sg) (hc : Chg Nil w w2) (hx : w2.heap[bx]? = some (.cells #[y0, y1] TH (0, 0))) (hbx : w.heap.size ≤ bx) (hs1 : Sl g1) (hs2 : Sg g2) (hb : b < w.heap.size) (hl1 : ∀ y, Sl y → y < w.heap.size) (hl2 : ∀ y, Sg y → y < w.heap.size) (hk : k < ps.length) (hkg : k < gs.length) (vk vx : Value) :
    ∃ W, W = ((((w2.setCell ⟨g1, o1 + k, none⟩ (ptrV (some nb))).setCell ⟨g2, o2 + k, none⟩ (.int .i64 z)).setCell ⟨bx, 0, none⟩ vk).setCell ⟨bx, 1, none⟩ vx) ∧
      TabAt W b (ps.set k (some nb)) (gs.set k z) (.slice (some ⟨g1, o1, none⟩) n1 c1) (.slice (some ⟨g2, o2, none⟩) n2 c2) T Sl Sg ∧ W.heap[bx]? = some (.cells #[vk, vx] TH (0, 0)) ∧ Chg (fun y => Sl y ∨ Sg y) w W ∧ W.heap.size = w2.heap.size := by
  refine ⟨_, rfl, ?_, ?_, ?_, by simp⟩
  · have h1 := (h.setL (p := some nb) hk).setG (p := z) hkg
    have c3 := (chg_at ((w2.setCell ⟨g1, o1 + k, none⟩ (ptrV (some nb))).setCell ⟨g2, o2 + k, none⟩ (.int .i64 z)) bx 0 vk).then (chg_at _ bx 1 vx)
    exact h1.keep c3 (fun e => by have : b = bx := e; omega) (fun y hy e => by have : y = bx := e; have := hl1 y hy; omega) (fun y hy e => by have : y = bx := e; have := hl2 y hy; omega)
  · have c1 := (chg_at w2 g1 (o1 + k) (ptrV (some nb))).keep hx (fun e => by have : bx = g1 := e; have := hl1 g1 hs1; omega)
    have c2 := (chg_at _ g2 (o2 + k) (.int .i64 z)).keep c1 (fun e => by have : bx = g2 := e; have := hl2 g2 hs2; omega)
    have := block_setCell (block_setCell c2 0 vk) 1 vx
    simpa using this
  · exact (((hc.nil (S := fun y => Sl y ∨ Sg y)).setCell (p := ⟨g1, o1 + k, none⟩) (.inr (.inl hs1)) _).setCell (p := ⟨g2, o2 + k, none⟩) (.inr (.inr hs2)) _ |>.setCell (p := ⟨bx, 0, none⟩) (.inl hbx) _).setCell (p := ⟨bx, 1, none⟩) (.inl hbx) _
theorem nadd_ok (b k : Nat) (kind x : Int) (ps : List (Option Nat)) (gs : List Int) (vl vg : Value) (T : TypeId) (Sl Sg : Nat → Prop) (w : World) (ht : TabAt w b ps gs vl vg T Sl Sg) (hk : kind = 1 ∨ kind = 2) (hl : ps.length ≤ 300) (hlg : ps.length = gs.length) (hf : free0 ps = some k) (hx : gs[k]? = some x) (hxr : 0 ≤ x ∧ x ≤ 1000000) :
    Calls Tryz.prog 14 #[.pointer (some ⟨b, 0, none⟩), .int .i64 kind] w fun e w' => ∃ nb, w.heap.size ≤ nb ∧ AddPost w b k nb kind ps gs x vl vg T Sl Sg e w' := by
  have ha := (Chg.refl Nil w).alloc (.cells #[.int .i64 0, .int .i64 0] 29)
  have hix : free0I ps = k := by unfold free0I; rw [hf]
  have HIX := Lib.hid (nindex_any vl ps Sl _ (ht.same ha).l hl)
  rw [hix] at HIX
  have HA := Lib.hid ha
  have HBX := Lib.hid (block_alloc w (.cells #[.int .i64 (0 : Int), .int .i64 0] 29))
  have HT := Lib.hid ht
  have e0 := cell_of ht.blk 0
  have gb := lt_of_block ht.blk
  simp at e0
  have hpk := free0_lt ps k hf
  have hkl : k < ps.length := (List.getElem?_eq_some_iff.1 hpk).1
  have hkg : k < gs.length := (List.getElem?_eq_some_iff.1 hx).1
  obtain ⟨g1, o1, c1, cs1, rfl, _, n1, _, _, _, hS1, gl1⟩ := ht.l.place (by omega)
  obtain ⟨g2, o2, c2, cs2, rfl, _, n2, _, _, _, hS2, gl2⟩ := ht.g.place (by omega)
  have hg12 : ¬ g1 = g2 := fun e => ht.lg g1 hS1 (e ▸ hS2)
  have hbg1 : ¬ b = g1 := fun e => ht.bl (e ▸ hS1)
  have hbg2 : ¬ b = g2 := fun e => ht.bg (e ▸ hS2)
  have j0 : (0 : Int) ≤ (k : Int) := by omega
  have j1 : (k : Int) < (ps.length : Int) := by omega
  have j2 : (k : Int) < (gs.length : Int) := by omega
  have kc1 : k < c1 := by omega
  have kc2 : k < c2 := by omega
  have hw1 : IntKind.i64.wrap (x + 1) = x + 1 := IntWalk.i64_in _ (by omega)
  have hw2 : IntKind.i64.wrap (x + 1 - 1) = x := by rw [IntWalk.i64_in _ (by omega)]; omega
  have HX := Lib.hid hx
  have HLG := Lib.hid hlg
  have HL1 := Lib.hid ht.lt1
  have HL2 := Lib.hid ht.lt2
  clear ht hl hf hix ha hpk hx hlg
  rcases hk with rfl | rfl
  case inl =>
    go_enter Tryz.func14, Tryz.ntmps14
    go_wp2_with fail
    refine HIX.out.mono ?_
    rintro e w2 ⟨rfl, hc2⟩
    have hT2 := (HT.out.same HA.out).same hc2
    have b0 := cell_of hT2.blk 0
    have b1 := cell_of hT2.blk 1
    have gb2 := lt_of_block hT2.blk
    simp at b0 b1
    have y1 := hT2.l.elem ptrC_len (List.getElem?_eq_getElem hkl) 0 _ rfl
    have y2 := hT2.g.elem intC_len HX.out 0 _ rfl
    have y10 := y1.1
    have y11 := y1.2.1
    have y12 := y1.2.2
    have y20 := y2.1
    have y21 := y2.2.1
    have y22 := y2.2.2
    simp only [Nat.mul_one, Nat.add_zero] at y10 y11 y20 y21
    have hb2 := hc2.keep HBX.out (fun f => f)
    have x0 := cell_of hb2 0
    have x1 := cell_of hb2 1
    have f0 := free_of hb2 0
    have f1 := free_of hb2 1
    have gx := lt_of_block hb2
    simp at x0 x1
    have nx1 : ¬ w.heap.size = g1 := by omega
    have nx2 : ¬ w.heap.size = g2 := by omega
    have nxb : ¬ w.heap.size = b := by omega
    have HT2 := Lib.hid hT2
    have HC2 := Lib.hid hc2
    have HB2 := Lib.hid hb2
    clear hT2 hb2 hc2 y1 y2
    go_wp2_with fail
    obtain ⟨W, hW, q1, q2, q3, q4⟩ := add_done (nb := w2.heap.size) (z := x + 1) HT2.out (HA.out.then HC2.out) HB2.out (Nat.le_refl _) hS1 hS2 gb HL1.out HL2.out hkl hkg (.int .i64 k) (.int .i64 x)
    simp only [ptrV, Option.map_some] at hW
    rw [← hW]
    clear hW
    have zz := (HA.out.then HC2.out).size
    have n1' := block_alloc W (.cells #[.int .i64 1, .int .i64 0, .int .i64 0, .int .i64 0, .int .i64 0, .int .i64 0, .pointer (some ⟨w2.heap.size + 1, 0, none⟩)] 90)
    rw [q4] at n1'
    have n2' := ((Chg.refl Nil _).alloc (.cells #[.int .i64 0, .map none] 93)).keep n1' (fun f => f)
    have n3' := block_alloc (W.alloc (.cells #[.int .i64 1, .int .i64 0, .int .i64 0, .int .i64 0, .int .i64 0, .int .i64 0, .pointer (some ⟨w2.heap.size + 1, 0, none⟩)] 90)) (.cells #[.int .i64 0, .map none] 93)
    simp only [World.size_alloc, q4] at n3'
    have cA := ((Chg.refl Nil W).alloc (.cells #[.int .i64 1, .int .i64 0, .int .i64 0, .int .i64 0, .int .i64 0, .int .i64 0, .pointer (some ⟨w2.heap.size + 1, 0, none⟩)] 90)).alloc (.cells #[.int .i64 0, .map none] 93)
    have q5 := cA.keep q2 (fun f => f)
    have k0 := cell_of q5 0
    have k1 := cell_of q5 1
    simp only [List.getElem?_toArray, List.getElem?_cons_zero, List.getElem?_cons_succ] at k0 k1
    revert n2' n3' cA k0 k1
    generalize (W.alloc (.cells #[.int .i64 1, .int .i64 0, .int .i64 0, .int .i64 0, .int .i64 0, .int .i64 0, .pointer (some ⟨w2.heap.size + 1, 0, none⟩)] 90)).alloc (.cells #[.int .i64 0, .map none] 93) = w5
    intro n2' n3' cA k0 k1
    (try simp only [Exit.inBlock, Exit.then])
    refine bodyPost_ret (by simp [results, Tryz.results14, go_sem, k0, k1]; try rfl) rfl ?_
    exact ⟨w2.heap.size, zz, rfl, q3.trans cA (fun _ _ f => f.elim), q1.same cA, _, n2', .inr ⟨rfl, rfl, n3'⟩⟩
  case inr =>
    go_enter Tryz.func14, Tryz.ntmps14
    go_wp2_with fail
    refine HIX.out.mono ?_
    rintro e w2 ⟨rfl, hc2⟩
    have hT2 := (HT.out.same HA.out).same hc2
    have b0 := cell_of hT2.blk 0
    have b1 := cell_of hT2.blk 1
    have gb2 := lt_of_block hT2.blk
    simp at b0 b1
    have y1 := hT2.l.elem ptrC_len (List.getElem?_eq_getElem hkl) 0 _ rfl
    have y2 := hT2.g.elem intC_len HX.out 0 _ rfl
    have y10 := y1.1
    have y11 := y1.2.1
    have y12 := y1.2.2
    have y20 := y2.1
    have y21 := y2.2.1
    have y22 := y2.2.2
    simp only [Nat.mul_one, Nat.add_zero] at y10 y11 y20 y21
    have hb2 := hc2.keep HBX.out (fun f => f)
    have x0 := cell_of hb2 0
    have x1 := cell_of hb2 1
    have f0 := free_of hb2 0
    have f1 := free_of hb2 1
    have gx := lt_of_block hb2
    simp at x0 x1
    have nx1 : ¬ w.heap.size = g1 := by omega
    have nx2 : ¬ w.heap.size = g2 := by omega
    have nxb : ¬ w.heap.size = b := by omega
    have HT2 := Lib.hid hT2
    have HC2 := Lib.hid hc2
    have HB2 := Lib.hid hb2
    clear hT2 hb2 hc2 y1 y2
    go_wp2_with fail
    obtain ⟨W, hW, q1, q2, q3, q4⟩ := add_done (nb := w2.heap.size) (z := x + 1) HT2.out (HA.out.then HC2.out) HB2.out (Nat.le_refl _) hS1 hS2 gb HL1.out HL2.out hkl hkg (.int .i64 k) (.int .i64 x)
    simp only [ptrV, Option.map_some] at hW
    rw [← hW]
    clear hW
    have zz := (HA.out.then HC2.out).size
    have n1' := block_alloc W (.cells #[.int .i64 2, .int .i64 0, .int .i64 0, .int .i64 0, .int .i64 0, .int .i64 0, .pointer none] 90)
    rw [q4] at n1'
    have cA := ((Chg.refl Nil W).alloc (.cells #[.int .i64 2, .int .i64 0, .int .i64 0, .int .i64 0, .int .i64 0, .int .i64 0, .pointer none] 90))
    have q5 := cA.keep q2 (fun f => f)
    have k0 := cell_of q5 0
    have k1 := cell_of q5 1
    simp only [List.getElem?_toArray, List.getElem?_cons_zero, List.getElem?_cons_succ] at k0 k1
    revert n1' cA k0 k1
    generalize (W.alloc (.cells #[.int .i64 2, .int .i64 0, .int .i64 0, .int .i64 0, .int .i64 0, .int .i64 0, .pointer none] 90)) = w5
    intro n1' cA k0 k1
    (try simp only [Exit.inBlock, Exit.then])
    refine bodyPost_ret (by simp [results, Tryz.results14, go_sem, k0, k1]; try rfl) rfl ?_
    exact ⟨w2.heap.size, zz, rfl, q3.trans cA (fun _ _ f => f.elim), q1.same cA, _, n1', .inl ⟨rfl, rfl⟩⟩

/- Package nodes' table, by what is owned: New and Add. -/
/-- A table of nodes: its block and its two slices' blocks. -/
def rTab (b : Nat) (ps : List (Option Nat)) (gs : List Int) (vl vg : Value) (T : TypeId) (Sl Sg : Nat → Prop) : Res :=
  ⟨true, fun x => x = b ∨ Sl x ∨ Sg x, fun w => TabAt w b ps gs vl vg T Sl Sg, fun w w' h hs hb => by
    have hsl : ∀ (E k n : Nat) (v : Value) (xs : List Value) (S : Nat → Prop), (∀ x, S x → w'.heap[x]? = w.heap[x]?) → SliceAt w v E k n xs S → SliceAt w' v E k n xs S := fun E k n v xs S hS h => by
      obtain ⟨h1, h2 | ⟨g, off, cap, cs, e, hbk, a, b, c, d, s⟩⟩ := h
      · exact ⟨h1, .inl h2⟩
      · exact ⟨h1, .inr ⟨g, off, cap, cs, e, (hS g s).trans hbk, a, b, c, d, s⟩⟩
    exact ⟨(hb b (.inl rfl)).trans h.blk, hsl _ _ _ _ _ _ (fun x hx => hb x (.inr (.inl hx))) h.l, hsl _ _ _ _ _ _ (fun x hx => hb x (.inr (.inr hx))) h.g, h.bl, h.bg, h.lg, fun x hx => Nat.lt_of_lt_of_le (h.lt1 x hx) hs, fun x hx => Nat.lt_of_lt_of_le (h.lt2 x hx) hs⟩,
   fun w x h hx => by
    rcases hx with rfl | hx | hx
    · exact lt_of_block h.blk
    · exact h.lt1 x hx
    · exact h.lt2 x hx⟩
theorem nodesNew_spec (n : Nat) (h1 : 1 ≤ n) (h2 : n ≤ 300) : Spec Tryz.prog 13 #[.int .i64 n] [] fun u L => ∃ b vl vg T Sl Sg, u = .tuple #[.pointer (some ⟨b, 0, none⟩), .nilIface] ∧ L = [rTab b (List.replicate n none) (List.replicate n 0) vl vg T Sl Sg] := fun E w0 w ho =>
  (nnew_any n w h1 h2).mono fun e w' ⟨b, vl, vg, T, Sl, Sg, he, hc, ht, hb, hl, hg⟩ => ⟨_, _, ⟨b, vl, vg, T, Sl, Sg, rfl, rfl⟩, he, ho.push hc (r := rTab b _ _ vl vg T Sl Sg) ht fun x hx => by
    rcases hx with rfl | hx | hx
    · exact hb
    · exact hl x hx
    · exact hg x hx⟩
theorem nodesAdd_spec (b k : Nat) (x : Int) (ps : List (Option Nat)) (gs : List Int) (vl vg : Value) (T : TypeId) (Sl Sg : Nat → Prop) (hl : ps.length ≤ 300) (hlg : ps.length = gs.length) (hf : free0 ps = some k) (hx : gs[k]? = some x) (hxr : 0 ≤ x ∧ x ≤ 1000000) :
    Spec Tryz.prog 14 #[.pointer (some ⟨b, 0, none⟩), .int .i64 2] [rTab b ps gs vl vg T Sl Sg] fun u L => ∃ nb, u = .tuple #[hdlV k x, .nilIface] ∧ L = [rCell true nb [.int .i64 2, .int .i64 0, .int .i64 0, .int .i64 0, .int .i64 0, .int .i64 0, .pointer none] 90, rTab b (ps.set k (some nb)) (gs.set k (x + 1)) vl vg T Sl Sg] := fun E w0 w ho => by
  have ht : TabAt w b ps gs vl vg T Sl Sg := ho.fact 0 rfl
  refine (nadd_ok b k 2 x ps gs vl vg T Sl Sg w ht (.inr rfl) hl hlg hf hx hxr).mono ?_
  rintro e w' ⟨nb, hnb, he, hc, ht', dp, hb', ⟨_, rfl⟩ | ⟨h2, _⟩⟩
  · have hfo : ∀ y, (rTab b ps gs vl vg T Sl Sg).foot y → y < w.heap.size := fun y hy => (rTab b ps gs vl vg T Sl Sg).alive w y ht hy
    refine ⟨_, _, ⟨nb, rfl, rfl⟩, he, Own.unfocus (L := [rTab b ps gs vl vg T Sl Sg]) (L' := [rCell true nb [.int .i64 2, .int .i64 0, .int .i64 0, .int .i64 0, .int .i64 0, .int .i64 0, .pointer none] 90, rTab b (ps.set k (some nb)) (gs.set k (x + 1)) vl vg T Sl Sg]) (M := []) ho ⟨hc.mono fun y _ hy => ⟨_, List.mem_singleton.2 rfl, .inr hy, fun e => e⟩, fun y ⟨q, h1, h2, _⟩ => ⟨q, h1, h2, fun e => by cases e⟩, ?_, ?_, ?_⟩⟩
    · intro q hq
      simp only [List.mem_cons, List.mem_nil_iff, or_false] at hq
      rcases hq with rfl | rfl
      · exact hb'
      · exact ht'
    · refine List.pairwise_cons.2 ⟨fun q hq _ y hy hz => ?_, List.pairwise_singleton _ _⟩
      rw [List.mem_singleton.1 hq] at hz
      have h3 : y = nb := hy
      have := hfo y hz
      omega
    · intro q hq y hy
      simp only [List.mem_cons, List.mem_nil_iff, or_false] at hq
      rcases hq with rfl | rfl
      · have h3 : y = nb := hy
        exact .inr (by omega)
      · exact .inl ⟨_, List.mem_singleton.2 rfl, hy, fun e => e⟩
  · cases h2
theorem nodesAt_spec {B : Nat} (ad : Nat → Addr) (b nb : Nat) (n g : Int) (ps : List (Option Nat)) (gs : List Int) (vl vg : Value) (T : TypeId) (Sl Sg : Nat → Prop) (hl : ps.length = gs.length) (hr : ∀ x ∈ gs, 0 ≤ x ∧ x ≤ 1000000) (ha : atOf ps gs n g = some nb) :
    Spec Tryz.prog 34 #[.pointer (some ⟨b, 0, none⟩), .agg #[.int .i64 n, .int .i64 g]] [rTab b ps gs vl vg T Sl Sg, rEnv B ad [10]] fun u L => u = .tuple #[.pointer (some ⟨nb, 0, none⟩), .nilIface] ∧ L = [rTab b ps gs vl vg T Sl Sg, rEnv B ad [10]] := fun E w0 w ho =>
  (nat_any ad b n g ps gs vl vg T Sl Sg w (ho.fact 1 rfl) (ho.fact 0 rfl) hl hr).mono fun e w' ⟨he, hc⟩ => ⟨_, _, ⟨rfl, rfl⟩, by rw [he, ha]; rfl, ho.quiet hc⟩

/- A list of resources as one (rAll): a member is taken out, turned, and put back. Over any program, no condition. -/

/-- Nothing. -/
def rNone : Res := ⟨true, fun _ => False, fun _ => True, fun _ _ _ _ _ => trivial, fun _ _ _ h => h.elim⟩
def Apart (r s : Res) : Prop := ∀ b, r.foot b → ¬ s.foot b
/-- All of these. -/
def rAll (l : List Res) : Res :=
  ⟨true, fun b => ∃ r ∈ l, r.foot b, fun w => (∀ r ∈ l, r.wr = true ∧ r.fact w) ∧ l.Pairwise Apart,
   fun w w' h hs hb => ⟨fun r hr => ⟨(h.1 r hr).1, r.stab w w' (h.1 r hr).2 hs fun b hf => hb b ⟨r, hr, hf⟩⟩, h.2⟩, fun w b h ⟨r, hr, hb⟩ => r.alive w b (h.1 r hr).2 hb⟩
section
variable {w0 w : World} {E : Ent} {M : List Res} {l : List Res}
/-- What a list of resources is taken for, may be told by another one that lies in no more and says no more. -/
theorem Own.less {r r' : Res} (h : Own w0 E (r :: M) w) (hw : r.wr = true) (hw' : r'.wr = true) (hf : r'.fact w) (hb : ∀ b, r'.foot b → r.foot b) : Own w0 E (r' :: M) w :=
  ⟨h.chg, h.mono, fun s hs => by
    rcases List.mem_cons.1 hs with rfl | hs
    · exact hf
    · exact h.facts s (List.mem_cons_of_mem _ hs), List.pairwise_cons.2 ⟨fun s hs _ b hb' => (List.pairwise_cons.1 h.apart).1 s hs (.inl hw) b (hb b hb'), (List.pairwise_cons.1 h.apart).2⟩, fun s hs b hb' => by
    rcases List.mem_cons.1 hs with rfl | hs
    · have := h.may r (by simp) b (hb b hb'); rw [hw] at this; rw [hw']; exact this
    · exact h.may s (List.mem_cons_of_mem _ hs) b hb'⟩
/-- All of them by one. -/
theorem Own.allSplit (h : Own w0 E (rAll l :: M) w) : Own w0 E (l ++ M) w := by
  have hf := h.fact 0 rfl
  have ha := List.pairwise_cons.1 h.apart
  refine ⟨h.chg, h.mono, fun s hs => ?_, List.pairwise_append.2 ⟨hf.2.imp (S := fun (r s : Res) => r.wr = true ∨ s.wr = true → ∀ b, r.foot b → ¬ s.foot b) (fun hp _ => hp), ha.2, fun r hr s hs _ b hb => ha.1 s hs (.inl rfl) b ⟨r, hr, hb⟩⟩, fun s hs b hb => ?_⟩
  · rcases List.mem_append.1 hs with hs | hs
    · exact (hf.1 s hs).2
    · exact h.facts s (List.mem_cons_of_mem _ hs)
  · rcases List.mem_append.1 hs with hs | hs
    · rw [(hf.1 s hs).1]; exact h.may (rAll l) (by simp) b ⟨s, hs, hb⟩
    · exact h.may s (List.mem_cons_of_mem _ hs) b hb
theorem Own.allJoin (l : List Res) (hw : ∀ r ∈ l, r.wr = true) (h : Own w0 E (l ++ M) w) : Own w0 E (rAll l :: M) w := by
  obtain ⟨a1, a2, a3⟩ := List.pairwise_append.1 h.apart
  refine ⟨h.chg, h.mono, fun s hs => ?_, List.pairwise_cons.2 ⟨fun s hs _ b ⟨r, hr, hb⟩ => a3 r hr s hs (.inl (hw r hr)) b hb, a2⟩, fun s hs b hb => ?_⟩
  · rcases List.mem_cons.1 hs with rfl | hs
    · refine ⟨fun r hr => ⟨hw r hr, h.facts r (List.mem_append_left _ hr)⟩, ?_⟩
      exact List.Pairwise.imp_of_mem (fun {r s} hr hs hp b hb => hp (.inl (hw r hr)) b hb) a1
    · exact h.facts s (List.mem_append_right _ hs)
  · rcases List.mem_cons.1 hs with rfl | hs
    · obtain ⟨r, hr, hb⟩ := hb
      have := h.may r (List.mem_append_left _ hr) b hb
      rw [hw r hr] at this; exact this
    · exact h.may s (List.mem_append_right _ hs) b hb
theorem pairwise_set {α : Type} {R : α → α → Prop} (hs : ∀ a b, R a b → R b a) : ∀ (l : List α) (i : Nat) (y : α), l.Pairwise R → (∀ j z, l[j]? = some z → j ≠ i → R y z) → (l.set i y).Pairwise R
  | [], _, _, _, _ => by simp
  | x :: l, 0, y, h, hy => by
    obtain ⟨_, h2⟩ := List.pairwise_cons.1 h
    refine List.pairwise_cons.2 ⟨fun z hz => ?_, h2⟩
    obtain ⟨j, hj⟩ := List.getElem?_of_mem hz
    exact hy (j + 1) z (by simpa using hj) (by omega)
  | x :: l, i + 1, y, h, hy => by
    obtain ⟨h1, h2⟩ := List.pairwise_cons.1 h
    rw [List.set_cons_succ]
    refine List.pairwise_cons.2 ⟨fun z hz => ?_, pairwise_set hs l i y h2 fun j z hj hn => hy (j + 1) z (by simpa using hj) (by omega)⟩
    rcases List.mem_or_eq_of_mem_set hz with hz | rfl
    · exact h1 z hz
    · exact hs _ _ (hy 0 x rfl (by omega))
theorem apart_symm (r s : Res) (h : Apart r s) : Apart s r := fun b hs hr => h b hr hs
theorem apart_at {l : List Res} (h : l.Pairwise Apart) {i j : Nat} {r s : Res} (hi : l[i]? = some r) (hj : l[j]? = some s) (hn : j ≠ i) : Apart r s := by
  obtain ⟨hi1, hi2⟩ := List.getElem?_eq_some_iff.1 hi
  obtain ⟨hj1, hj2⟩ := List.getElem?_eq_some_iff.1 hj
  have hp := List.pairwise_iff_getElem.1 h
  rcases Nat.lt_or_ge i j with hl | hl
  · have := hp i j hi1 hj1 hl; rw [hi2, hj2] at this; exact this
  · have := hp j i hj1 hi1 (by omega); rw [hi2, hj2] at this; exact apart_symm _ _ this
/-- One of them is taken out. -/
theorem Own.allOpen (h : Own w0 E (rAll l :: M) w) {k : Nat} {r : Res} (hk : l[k]? = some r) : Own w0 E (r :: rAll (l.set k rNone) :: M) w := by
  have hf := h.fact 0 rfl
  have hr := hf.1 r (List.mem_of_getElem? hk)
  have h1 : Own w0 E (rAll [r, rAll (l.set k rNone)] :: M) w := by
    refine h.less rfl rfl ⟨fun s hs => ?_, List.pairwise_cons.2 ⟨fun s hs b hb => ?_, List.pairwise_singleton _ _⟩⟩ ?_
    · simp only [List.mem_cons, List.mem_nil_iff, or_false] at hs
      rcases hs with rfl | rfl
      · exact hr
      · refine ⟨rfl, fun s hs => ?_, pairwise_set apart_symm l k rNone hf.2 fun j z _ _ b hb => hb.elim⟩
        rcases List.mem_or_eq_of_mem_set hs with hs | rfl
        · exact hf.1 s hs
        · exact ⟨rfl, trivial⟩
    · rw [List.mem_singleton.1 hs]
      rintro ⟨s, hs, hsb⟩
      obtain ⟨j, hj⟩ := List.getElem?_of_mem hs
      by_cases e : k = j
      · subst e
        rw [List.getElem?_set_self (List.getElem?_eq_some_iff.1 hk).1] at hj
        cases hj; exact hsb
      · rw [List.getElem?_set_ne e] at hj
        exact apart_at hf.2 hk hj (fun e' => e e'.symm) b hb hsb
    · rintro b ⟨s, hs, hb⟩
      simp only [List.mem_cons, List.mem_nil_iff, or_false] at hs
      rcases hs with rfl | rfl
      · exact ⟨_, List.mem_of_getElem? hk, hb⟩
      · obtain ⟨s, hs, hb⟩ := hb
        rcases List.mem_or_eq_of_mem_set hs with hs | rfl
        · exact ⟨s, hs, hb⟩
        · exact hb.elim
  exact h1.allSplit
/-- A member is laid: in the place of the one that lay there. -/
theorem Own.allSet {r : Res} (h : Own w0 E (r :: rAll l :: M) w) (k : Nat) (hr : r.wr = true) : Own w0 E (rAll (l.set k r) :: M) w := by
  have h1 : Own w0 E (rAll [r, rAll l] :: M) w := h.allJoin [r, rAll l] (by simp [hr, rAll])
  have hf := h1.fact 0 rfl
  have hl := (hf.1 (rAll l) (by simp)).2
  have hr2 := (hf.1 r (by simp)).2
  have hp := (List.pairwise_cons.1 hf.2).1 (rAll l) (by simp)
  refine h1.less rfl rfl ⟨fun s hs => ?_, pairwise_set apart_symm l k r hl.2 fun j z hj _ b hb hz => hp b hb ⟨z, List.mem_of_getElem? hj, hz⟩⟩ ?_
  · rcases List.mem_or_eq_of_mem_set hs with hs | rfl
    · exact hl.1 s hs
    · exact ⟨hr, hr2⟩
  · rintro b ⟨s, hs, hb⟩
    rcases List.mem_or_eq_of_mem_set hs with hs | rfl
    · exact ⟨rAll l, by simp, s, hs, hb⟩
    · exact ⟨s, by simp, hb⟩
/-- One more, at the end. -/
theorem Own.allAdd {r : Res} (h : Own w0 E (r :: rAll l :: M) w) (hr : r.wr = true) : Own w0 E (rAll (l ++ [r]) :: M) w := by
  have h1 : Own w0 E (rAll [r, rAll l] :: M) w := h.allJoin [r, rAll l] (by simp [hr, rAll])
  have hf := h1.fact 0 rfl
  have hl := (hf.1 (rAll l) (by simp)).2
  have hr2 := (hf.1 r (by simp)).2
  have hp := (List.pairwise_cons.1 hf.2).1 (rAll l) (by simp)
  refine h1.less rfl rfl ⟨fun s hs => ?_, List.pairwise_append.2 ⟨hl.2, List.pairwise_singleton _ _, fun s hs t ht b hb hb' => ?_⟩⟩ ?_
  · rcases List.mem_append.1 hs with hs | hs
    · exact hl.1 s hs
    · rw [List.mem_singleton.1 hs]; exact ⟨hr, hr2⟩
  · rw [List.mem_singleton.1 ht] at hb'
    exact hp b hb' ⟨s, hs, hb⟩
  · rintro b ⟨s, hs, hb⟩
    rcases List.mem_append.1 hs with hs | hs
    · exact ⟨rAll l, by simp, s, hs, hb⟩
    · rw [List.mem_singleton.1 hs] at hb; exact ⟨r, by simp, hb⟩
/-- Fewer of them. -/
theorem Own.allSub {l' : List Res} (h : Own w0 E (rAll l :: M) w) (hs : l'.Sublist l) : Own w0 E (rAll l' :: M) w := by
  have hf := h.fact 0 rfl
  exact h.less rfl rfl ⟨fun s hs' => hf.1 s (hs.subset hs'), hf.2.sublist hs⟩ fun b ⟨s, hs', hb⟩ => ⟨s, hs.subset hs', hb⟩
/-- None yet. -/
theorem Own.addNone (h : Own w0 E M w) {r : Res} (hr : ∀ w, r.fact w) (hb : ∀ b, ¬ r.foot b) : Own w0 E (r :: M) w :=
  ⟨h.chg, h.mono, fun s hs => by
    rcases List.mem_cons.1 hs with rfl | hs
    · exact hr w
    · exact h.facts s hs, List.pairwise_cons.2 ⟨fun s _ _ b hb' => (hb b hb').elim, h.apart⟩, fun s hs b hb' => by
    rcases List.mem_cons.1 hs with rfl | hs
    · exact (hb b hb').elim
    · exact h.may s hs b hb'⟩
theorem Own.allNil (h : Own w0 E M w) : Own w0 E (rAll [] :: M) w := h.addNone (fun w => ⟨fun r hr => (by cases hr), List.Pairwise.nil⟩) fun b ⟨r, hr, _⟩ => by cases hr
end
section
variable {w0 w : World} {E : Ent} {M : List Res} {α : Type} {f : α → Res} {l : List α} {k : Nat} {x : α}
theorem Own.mapOpen (h : Own w0 E (rAll (l.map f) :: M) w) (hk : l[k]? = some x) : Own w0 E (f x :: rAll ((l.map f).set k rNone) :: M) w := h.allOpen (by rw [List.getElem?_map, hk]; rfl)
theorem Own.mapSet (x : α) (h : Own w0 E (f x :: rAll ((l.map f).set k rNone) :: M) w) (hr : (f x).wr = true) : Own w0 E (rAll ((l.set k x).map f) :: M) w := by
  have h1 := h.allSet k hr
  rw [List.set_set, ← List.map_set] at h1
  exact h1
/-- A new member in the place of one that lay there, or of none. -/
theorem Own.mapPut (x : α) (k : Nat) (h : Own w0 E (f x :: rAll (l.map f) :: M) w) (hr : (f x).wr = true) : Own w0 E (rAll ((l.set k x).map f) :: M) w := by
  have h1 := h.allSet k hr
  rw [← List.map_set] at h1
  exact h1
theorem Own.mapAdd (x : α) (h : Own w0 E (f x :: rAll (l.map f) :: M) w) (hr : (f x).wr = true) : Own w0 E (rAll ((l ++ [x]).map f) :: M) w := by
  have h1 := h.allAdd hr
  rw [List.map_append]
  exact h1
end

/- Package nodes' table with its nodes and what files hold, as resources: New, Add, at, Count. No condition but that the table is one. -/
/-- What a file holds: its block, its size, the value of its map, and the map. -/
structure DQ where
  db : Nat
  size : Int
  mv : Value
  mp : Res
structure ND where
  nb : Nat
  kind : Int
  size : Int
  links : Int
  change : Int
  upn : Int
  upg : Int
  dq : Option DQ
def ndPtr (d : Option DQ) : Value := .pointer (d.map fun q => ⟨q.db, 0, none⟩)
def datRes : Option DQ → Res
  | none => rNone
  | some q => rAll [rCell true q.db [.int .i64 q.size, q.mv] 93, q.mp]
def ndCell (N : ND) : Res := rCell true N.nb [.int .i64 N.kind, .int .i64 N.size, .int .i64 N.links, .int .i64 N.change, .int .i64 N.upn, .int .i64 N.upg, ndPtr N.dq] 90
def ndRes : Option ND → Res
  | none => rNone
  | some N => rAll [ndCell N, datRes N.dq]
theorem datRes_wr (d : Option DQ) : (datRes d).wr = true := by cases d <;> rfl
theorem ndPtr_one (d : Option DQ) : (ndPtr d).oneCell' = true := by cases d <;> rfl
/-- The nodes of a table. -/
def rNds (l : List (Option ND)) : Res := rAll (l.map ndRes)
def rNdsO (l : List (Option ND)) (k : Nat) : Res := rAll ((l.map ndRes).set k rNone)
section
variable {w0 w : World} {E : Ent} {M : List Res} {l : List (Option ND)} {k : Nat} {N : ND}
theorem Own.ndOpen (h : Own w0 E (rNds l :: M) w) (hk : l[k]? = some (some N)) : Own w0 E (ndCell N :: datRes N.dq :: rNdsO l k :: M) w :=
  Own.allSplit (l := [ndCell N, datRes N.dq]) (h.mapOpen hk)
theorem Own.ndClose (N' : ND) (h : Own w0 E (ndCell N' :: datRes N'.dq :: rNdsO l k :: M) w) : Own w0 E (rNds (l.set k (some N')) :: M) w :=
  Own.mapSet (f := ndRes) (some N') (Own.allJoin [ndCell N', datRes N'.dq] (by
    intro r hr
    simp only [List.mem_cons, List.mem_nil_iff, or_false] at hr
    rcases hr with rfl | rfl
    · rfl
    · exact datRes_wr _) h) rfl
theorem set_same {α : Type} : ∀ (l : List α) (k : Nat) (x : α), l[k]? = some x → l.set k x = l
  | [], _, _, _ => rfl
  | y :: l, 0, x, h => by simp at h; subst h; rfl
  | y :: l, k + 1, x, h => by rw [List.set_cons_succ, set_same l k x (by simpa using h)]
/-- A node taken out and not turned. -/
theorem Own.ndBack (hk : l[k]? = some (some N)) (h : Own w0 E (ndCell N :: datRes N.dq :: rNdsO l k :: M) w) : Own w0 E (rNds l :: M) w := by
  have h1 := h.ndClose N
  rw [set_same l k _ hk] at h1
  exact h1
theorem Own.ndPut (N' : ND) (k : Nat) (h : Own w0 E (ndCell N' :: datRes N'.dq :: rNds l :: M) w) : Own w0 E (rNds (l.set k (some N')) :: M) w :=
  Own.mapPut (f := ndRes) (some N') k (Own.allJoin [ndCell N', datRes N'.dq] (by
    intro r hr
    simp only [List.mem_cons, List.mem_nil_iff, or_false] at hr
    rcases hr with rfl | rfl
    · rfl
    · exact datRes_wr _) h) rfl
theorem Own.ndFree (k : Nat) (h : Own w0 E (rNds l :: M) w) : Own w0 E (rNds (l.set k none) :: M) w :=
  Own.mapPut (f := ndRes) none k (h.addNone (r := rNone) (fun _ => trivial) (fun _ h => h)) rfl
theorem none_apart : ∀ n : Nat, ((List.replicate n (none : Option ND)).map ndRes).Pairwise Apart
  | 0 => List.Pairwise.nil
  | n + 1 => List.pairwise_cons.2 ⟨fun s _ b hb => hb.elim, none_apart n⟩
theorem Own.ndNew (n : Nat) (h : Own w0 E M w) : Own w0 E (rNds (List.replicate n none) :: M) w := by
  have hm : ∀ r ∈ (List.replicate n (none : Option ND)).map ndRes, r = rNone := by
    intro r hr
    simp only [List.map_replicate] at hr
    exact List.eq_of_mem_replicate hr
  exact h.addNone (r := rNds (List.replicate n none)) (fun w => ⟨fun r hr => by rw [hm r hr]; exact ⟨rfl, trivial⟩, none_apart n⟩) fun b ⟨r, hr, hb⟩ => by rw [hm r hr] at hb; exact hb
/-- The data of a file taken out too. -/
theorem Own.dqOpen {q : DQ} (i : Nat) (h : Own w0 E (datRes (some q) :: M) w) : Own w0 E (rCell true q.db [.int .i64 q.size, q.mv] 93 :: q.mp :: M) w :=
  Own.allSplit (l := [rCell true q.db [.int .i64 q.size, q.mv] 93, q.mp]) h
end
/-- A contract's end told otherwise. -/
theorem Spec.after {P : Program} {f : FuncId} {args : Array Value} {L : List Res} {Φ Ψ : Value → List Res → Prop} (h : Spec P f args L Φ) (hm : ∀ E w0 w u L1, Φ u L1 → Own w0 E L1 w → ∃ L2, Ψ u L2 ∧ Own w0 E L2 w) : Spec P f args L Ψ :=
  fun E w0 w ho => (h E w0 w ho).mono fun e w' ⟨v, L', h1, h2, h3⟩ => by
    obtain ⟨L2, h4, h5⟩ := hm E w0 w' v L' h1 h3
    exact ⟨v, L2, h4, h2, h5⟩
/-- More is owned. -/
theorem Spec.frame {P : Program} {f : FuncId} {args : Array Value} {L : List Res} {Φ : Value → List Res → Prop} (h : Spec P f args L Φ) (M : List Res) : Spec P f args (L ++ M) fun u L' => ∃ L1, Φ u L1 ∧ L' = L1 ++ M :=
  fun E w0 w ho => (h (entOf L) w w ho.focus).mono fun e w' ⟨v, L', h1, h2, h3⟩ => ⟨v, L' ++ M, ⟨L', h1, rfl⟩, h2, ho.unfocus h3⟩
theorem nodesAdd1_spec (b k : Nat) (x : Int) (ps : List (Option Nat)) (gs : List Int) (vl vg : Value) (T : TypeId) (Sl Sg : Nat → Prop) (hl : ps.length ≤ 300) (hlg : ps.length = gs.length) (hf : free0 ps = some k) (hx : gs[k]? = some x) (hxr : 0 ≤ x ∧ x ≤ 1000000) :
    Spec Tryz.prog 14 #[.pointer (some ⟨b, 0, none⟩), .int .i64 1] [rTab b ps gs vl vg T Sl Sg] fun u L => ∃ nb db, u = .tuple #[hdlV k x, .nilIface] ∧ L = [rCell true nb [.int .i64 1, .int .i64 0, .int .i64 0, .int .i64 0, .int .i64 0, .int .i64 0, .pointer (some ⟨db, 0, none⟩)] 90, rCell true db [.int .i64 0, .map none] 93, rTab b (ps.set k (some nb)) (gs.set k (x + 1)) vl vg T Sl Sg] := fun E w0 w ho => by
  have ht : TabAt w b ps gs vl vg T Sl Sg := ho.fact 0 rfl
  refine (nadd_ok b k 1 x ps gs vl vg T Sl Sg w ht (.inl rfl) hl hlg hf hx hxr).mono ?_
  rintro e w' ⟨nb, hnb, he, hc, ht', dp, hb', ⟨h2, _⟩ | ⟨_, rfl, hd⟩⟩
  · cases h2
  · have hfo : ∀ y, (rTab b ps gs vl vg T Sl Sg).foot y → y < w.heap.size := fun y hy => (rTab b ps gs vl vg T Sl Sg).alive w y ht hy
    refine ⟨_, _, ⟨nb, nb + 1, rfl, rfl⟩, he, Own.unfocus (L := [rTab b ps gs vl vg T Sl Sg]) (L' := [rCell true nb [.int .i64 1, .int .i64 0, .int .i64 0, .int .i64 0, .int .i64 0, .int .i64 0, .pointer (some ⟨nb + 1, 0, none⟩)] 90, rCell true (nb + 1) [.int .i64 0, .map none] 93, rTab b (ps.set k (some nb)) (gs.set k (x + 1)) vl vg T Sl Sg]) (M := []) ho ⟨hc.mono fun y _ hy => ⟨_, List.mem_singleton.2 rfl, .inr hy, fun e => e⟩, fun y ⟨q, h1, h2, _⟩ => ⟨q, h1, h2, fun e => by cases e⟩, ?_, ?_, ?_⟩⟩
    · intro q hq
      simp only [List.mem_cons, List.mem_nil_iff, or_false] at hq
      rcases hq with rfl | rfl | rfl
      · exact hb'
      · exact hd
      · exact ht'
    · refine List.pairwise_cons.2 ⟨fun q hq _ y hy hz => ?_, List.pairwise_cons.2 ⟨fun q hq _ y hy hz => ?_, List.pairwise_singleton _ _⟩⟩
      · have h3 : y = nb := hy
        simp only [List.mem_cons, List.mem_nil_iff, or_false] at hq
        rcases hq with rfl | rfl
        · have h4 : y = nb + 1 := hz
          omega
        · have := hfo y hz
          omega
      · rw [List.mem_singleton.1 hq] at hz
        have h3 : y = nb + 1 := hy
        have := hfo y hz
        omega
    · intro q hq y hy
      simp only [List.mem_cons, List.mem_nil_iff, or_false] at hq
      rcases hq with rfl | rfl | rfl
      · have h3 : y = nb := hy
        exact .inr (by omega)
      · have h3 : y = nb + 1 := hy
        exact .inr (by omega)
      · exact .inl ⟨_, List.mem_singleton.2 rfl, hy, fun e => e⟩
/-- A new node. -/
def newND (nb : Nat) (kind : Int) (dq : Option DQ) : ND := ⟨nb, kind, 0, 0, 0, 0, 0, dq⟩
def newDQ (db : Nat) : DQ := ⟨db, 0, .map none, rNone⟩
theorem tabAdd2_spec (b k : Nat) (x : Int) (ps : List (Option Nat)) (gs : List Int) (vl vg : Value) (T : TypeId) (Sl Sg : Nat → Prop) (l : List (Option ND)) (hl : ps.length ≤ 300) (hlg : ps.length = gs.length) (hf : free0 ps = some k) (hx : gs[k]? = some x) (hxr : 0 ≤ x ∧ x ≤ 1000000) :
    Spec Tryz.prog 14 #[.pointer (some ⟨b, 0, none⟩), .int .i64 2] [rTab b ps gs vl vg T Sl Sg, rNds l] fun u L => ∃ nb, u = .tuple #[hdlV k x, .nilIface] ∧ L = [rTab b (ps.set k (some nb)) (gs.set k (x + 1)) vl vg T Sl Sg, rNds (l.set k (some (newND nb 2 none)))] :=
  ((nodesAdd_spec b k x ps gs vl vg T Sl Sg hl hlg hf hx hxr).frame [rNds l]).after fun E w0 w u L1 h1 ho => by
    obtain ⟨L2, ⟨nb, rfl, rfl⟩, rfl⟩ := h1
    refine ⟨_, ⟨nb, rfl, rfl⟩, ?_⟩
    have h2 := Own.addNone (r := rNone) ho (fun _ => trivial) (fun _ h => h)
    have h3 : Own w0 E (ndCell (newND nb 2 none) :: datRes none :: rNds l :: [rTab b (ps.set k (some nb)) (gs.set k (x + 1)) vl vg T Sl Sg]) w := h2.pick [1, 0, 1, 0]
    exact (h3.ndPut (newND nb 2 none) k).pick [1, 0]
theorem tabAdd1_spec (b k : Nat) (x : Int) (ps : List (Option Nat)) (gs : List Int) (vl vg : Value) (T : TypeId) (Sl Sg : Nat → Prop) (l : List (Option ND)) (hl : ps.length ≤ 300) (hlg : ps.length = gs.length) (hf : free0 ps = some k) (hx : gs[k]? = some x) (hxr : 0 ≤ x ∧ x ≤ 1000000) :
    Spec Tryz.prog 14 #[.pointer (some ⟨b, 0, none⟩), .int .i64 1] [rTab b ps gs vl vg T Sl Sg, rNds l] fun u L => ∃ nb db, u = .tuple #[hdlV k x, .nilIface] ∧ L = [rTab b (ps.set k (some nb)) (gs.set k (x + 1)) vl vg T Sl Sg, rNds (l.set k (some (newND nb 1 (some (newDQ db)))))] :=
  ((nodesAdd1_spec b k x ps gs vl vg T Sl Sg hl hlg hf hx hxr).frame [rNds l]).after fun E w0 w u L1 h1 ho => by
    obtain ⟨L2, ⟨nb, db, rfl, rfl⟩, rfl⟩ := h1
    refine ⟨_, ⟨nb, db, rfl, rfl⟩, ?_⟩
    have h2 := Own.addNone (r := rNone) ho (fun _ => trivial) (fun _ h => h)
    have h3 : Own w0 E ([rCell true db [.int .i64 0, .map none] 93, rNone] ++ [ndCell (newND nb 1 (some (newDQ db))), rTab b (ps.set k (some nb)) (gs.set k (x + 1)) vl vg T Sl Sg, rNds l]) w := h2.pick [2, 0, 0, 0, 0]
    have h4 := Own.allJoin _ (by
      intro r hr
      simp only [List.mem_cons, List.mem_nil_iff, or_false] at hr
      rcases hr with rfl | rfl <;> rfl) h3
    have h5 : Own w0 E (ndCell (newND nb 1 (some (newDQ db))) :: datRes (some (newDQ db)) :: rNds l :: [rTab b (ps.set k (some nb)) (gs.set k (x + 1)) vl vg T Sl Sg]) w := h4.pick [1, 0, 1, 0]
    exact (h5.ndPut (newND nb 1 (some (newDQ db))) k).pick [1, 0]
theorem tabNew_spec (n : Nat) (h1 : 1 ≤ n) (h2 : n ≤ 300) : Spec Tryz.prog 13 #[.int .i64 n] [] fun u L => ∃ b vl vg T Sl Sg, u = .tuple #[.pointer (some ⟨b, 0, none⟩), .nilIface] ∧ L = [rTab b (List.replicate n none) (List.replicate n 0) vl vg T Sl Sg, rNds (List.replicate n none)] :=
  (nodesNew_spec n h1 h2).after fun E w0 w u L1 h1 ho => by
    obtain ⟨b, vl, vg, T, Sl, Sg, rfl, rfl⟩ := h1
    exact ⟨_, ⟨b, vl, vg, T, Sl, Sg, rfl, rfl⟩, (ho.ndNew n).pick [1, 0]⟩
theorem tabAt_spec {B : Nat} (ad : Nat → Addr) (b : Nat) (n g : Int) (ps : List (Option Nat)) (gs : List Int) (vl vg : Value) (T : TypeId) (Sl Sg : Nat → Prop) (hl : ps.length = gs.length) (hr : ∀ x ∈ gs, 0 ≤ x ∧ x ≤ 1000000) :
    Spec Tryz.prog 34 #[.pointer (some ⟨b, 0, none⟩), .agg #[.int .i64 n, .int .i64 g]] [rTab b ps gs vl vg T Sl Sg, rEnv B ad [10]] fun u L => (∃ nb, atOf ps gs n g = some nb ∧ u = .tuple #[.pointer (some ⟨nb, 0, none⟩), .nilIface] ∧ L = [rTab b ps gs vl vg T Sl Sg, rEnv B ad [10]]) ∨ (atOf ps gs n g = none ∧ u = .tuple #[.pointer none, errV ad 10] ∧ L = [rTab b ps gs vl vg T Sl Sg, rEnv B ad [10]]) := fun E w0 w ho =>
  (nat_any ad b n g ps gs vl vg T Sl Sg w (ho.fact 1 rfl) (ho.fact 0 rfl) hl hr).mono fun e w' ⟨he, hc⟩ => by
    cases ha : atOf ps gs n g with
    | none => rw [ha] at he; exact ⟨_, _, .inr ⟨rfl, rfl, rfl⟩, he, ho.quiet hc⟩
    | some nb => rw [ha] at he; exact ⟨_, _, .inl ⟨nb, rfl, rfl, rfl⟩, he, ho.quiet hc⟩
theorem tabCount_spec (b : Nat) (ps : List (Option Nat)) (gs : List Int) (vl vg : Value) (T : TypeId) (Sl Sg : Nat → Prop) (hl : ps.length ≤ 300) : Spec Tryz.prog 20 #[.pointer (some ⟨b, 0, none⟩)] [rTab b ps gs vl vg T Sl Sg] fun u L => u = .int .i64 (usedN ps : Nat) ∧ L = [rTab b ps gs vl vg T Sl Sg] := fun E w0 w ho =>
  (ncount_any b ps gs vl vg T Sl Sg w (ho.fact 0 rfl) hl).mono fun e w' ⟨he, hc⟩ => ⟨_, _, ⟨rfl, rfl⟩, he, ho.quiet hc⟩


/- Handles as a map's keys. -/
/-- A handle as a map's key. -/
def hk (h : Int × Int) : Value := .agg #[.int .i64 h.1, .int .i64 h.2]
theorem hk_eq (a b : Int × Int) (w : World) : (Op.equal 29 (hk a) (hk b)).run Tryz.prog w = .ok (decide (a = b)) w := by
  obtain ⟨a1, a2⟩ := a
  obtain ⟨b1, b2⟩ := b
  refine (eqH a1 a2 b1 b2 w).trans (congrArg (fun x => Result.ok x w) ?_)
  by_cases c1 : a1 = b1 <;> by_cases c2 : a2 = b2 <;> simp [c1, c2]
theorem hk_keep (a : Int × Int) (w : World) : (Instr.keyThatStays (hk a) (hk a)).run Tryz.prog w = .ok (hk a) w := by
  have : Instr.sameBits 10000 (hk a) (hk a) = true := by simp [Instr.sameBits, hk]
  simp [Instr.keyThatStays, this]
theorem hk_find (a : Int × Int) (w : World) : ∀ (l : List MapEntry) (kv : List ((Int × Int) × Value)) (i : Nat), l.map (fun e => (e.key, e.val)) = kv.map (fun p => (hk p.1, p.2)) →
    (Instr.findAsking 29 (hk a) l i).run Tryz.prog w = .ok (findA kv a i) w
  | [], [], _, _ => rfl
  | [], _ :: _, _, h => by cases h
  | _ :: _, [], _, h => by cases h
  | e :: l, p :: kv, i, h => by
    simp only [List.map_cons, List.cons.injEq, Prod.mk.injEq] at h
    obtain ⟨⟨h1, h2⟩, h3⟩ := h
    unfold Instr.findAsking findA
    simp only [Sem.run_bind, h1, hk_eq, Result.andThen_ok]
    by_cases c : a = p.1
    · simp [c, h2]
    · simp [c, hk_find a w l kv (i + 1) h3]
theorem keyHk : KeyFn Tryz.prog 29 hk where
  chk := fun em a w => by kernel_rfl
  find := fun a l kv w h => (run_findKey_eq (P := Tryz.prog) w (k := 29) (by decide +kernel) (hk a) l).trans (hk_find a w l kv 0 h)
  keep := hk_keep
  inj := fun a b h => by
    obtain ⟨a1, a2⟩ := a
    obtain ⟨b1, b2⟩ := b
    simp [hk] at h
    simp [h]

/- Package tree's directories: a map of maps, told by a list (which directory, where its entries lie, the entries in the order of their laying). No condition. -/
structure DN where
  h : Int × Int
  mb : Nat
  es : List (ByteArray × (Int × Int))
def dnKV (d : DN) : (Int × Int) × Value := (d.h, .map (some d.mb))
def enKV (e : ByteArray × (Int × Int)) : ByteArray × Value := (e.1, hk e.2)
def pnKV (p : (Int × Int) × Int) : (Int × Int) × Value := (p.1, .int .i64 p.2)
def dnRes (d : DN) : Res := rMap true d.mb sk (d.es.map enKV)
def rDirs (ds : List DN) : Res := rAll (ds.map dnRes)
def rDirsO (ds : List DN) (j : Nat) : Res := rAll ((ds.map dnRes).set j rNone)
section
variable {w0 w : World} {E : Ent} {M : List Res} {ds : List DN} {j : Nat} {d : DN}
theorem Own.dirOpen (h : Own w0 E (rDirs ds :: M) w) (hj : ds[j]? = some d) : Own w0 E (dnRes d :: rDirsO ds j :: M) w := h.mapOpen hj
theorem Own.dirClose (d' : DN) (h : Own w0 E (dnRes d' :: rDirsO ds j :: M) w) : Own w0 E (rDirs (ds.set j d') :: M) w := h.mapSet d' rfl
theorem Own.dirBack (hj : ds[j]? = some d) (h : Own w0 E (dnRes d :: rDirsO ds j :: M) w) : Own w0 E (rDirs ds :: M) w := by
  have h1 := h.dirClose d
  rw [set_same ds j d hj] at h1
  exact h1
theorem Own.dirAdd (d : DN) (h : Own w0 E (dnRes d :: rDirs ds :: M) w) : Own w0 E (rDirs (ds ++ [d]) :: M) w := h.mapAdd d rfl
end
theorem dnKV_set : ∀ {ds : List DN} {j : Nat} {d d' : DN}, ds[j]? = some d → d'.h = d.h → d'.mb = d.mb → (ds.set j d').map dnKV = ds.map dnKV
  | [], _, _, _, h, _, _ => by simp at h
  | x :: ds, 0, d, d', h, h1, h2 => by
    simp at h
    subst h
    simp [dnKV, h1, h2]
  | x :: ds, j + 1, d, d', h, h1, h2 => by simp [dnKV_set (ds := ds) (j := j) (d := d) (by simpa using h) h1 h2]
theorem en_put (s : ByteArray) (x : Int × Int) : ∀ es : List (ByteArray × (Int × Int)), aput (es.map enKV) s (hk x) = (aput es s x).map enKV
  | [] => rfl
  | p :: r => by
    simp only [List.map_cons, aput]
    by_cases c : s = p.1
    · rw [if_pos (show s = (enKV p).1 from c), if_pos c]; rfl
    · rw [if_neg (show ¬ s = (enKV p).1 from c), if_neg c, List.map_cons, en_put s x r]
theorem en_get (s : ByteArray) : ∀ es : List (ByteArray × (Int × Int)), aget (es.map enKV) s = (aget es s).map hk
  | [] => rfl
  | p :: r => by
    simp only [List.map_cons, aget]
    by_cases c : s = p.1
    · rw [if_pos (show s = (enKV p).1 from c), if_pos c]; rfl
    · rw [if_neg (show ¬ s = (enKV p).1 from c), if_neg c, en_get s r]
theorem en_some {s : ByteArray} {x : Int × Int} {es : List (ByteArray × (Int × Int))} (h : aget es s = some x) : aget (es.map enKV) s = some (hk x) := by rw [en_get, h]; rfl
theorem en_none {s : ByteArray} {es : List (ByteArray × (Int × Int))} (h : aget es s = none) : aget (es.map enKV) s = none := by rw [en_get, h]; rfl
theorem dir_none {x : Int × Int} : ∀ {ds : List DN}, (∀ d ∈ ds, d.h ≠ x) → aget (ds.map dnKV) x = none
  | [], _ => rfl
  | p :: r, h => by
    simp only [List.map_cons, aget]
    rw [if_neg (fun e : x = (dnKV p).1 => h p (by simp) e.symm)]
    exact dir_none fun d hd => h d (List.mem_cons_of_mem _ hd)
theorem dir_get : ∀ {ds : List DN} {j : Nat} {d : DN}, (ds.map (·.h)).Nodup → ds[j]? = some d → aget (ds.map dnKV) d.h = some (.map (some d.mb))
  | [], _, _, _, h => by simp at h
  | x :: ds, 0, d, _, h => by
    simp at h
    subst h
    simp [aget, dnKV]
  | x :: ds, j + 1, d, hn, h => by
    obtain ⟨h1, h2⟩ := List.nodup_cons.1 (show (x.h :: ds.map (·.h)).Nodup from hn)
    have h3 : ds[j]? = some d := by simpa using h
    simp only [List.map_cons, aget]
    rw [if_neg (fun e : d.h = (dnKV x).1 => h1 (List.mem_map.2 ⟨d, List.mem_of_getElem? h3, e⟩))]
    exact dir_get h2 h3
/-- A new directory's place in the map of all. -/
theorem dir_new {h : Int × Int} {mb : Nat} {es : List (ByteArray × (Int × Int))} : ∀ {ds : List DN}, (∀ d ∈ ds, d.h ≠ h) → aput (ds.map dnKV) h (.map (some mb)) = (ds ++ [(⟨h, mb, es⟩ : DN)]).map dnKV
  | [], _ => rfl
  | p :: r, hn => by
    simp only [List.map_cons, aput, List.cons_append]
    rw [if_neg (fun e : h = (dnKV p).1 => hn p (by simp) e.symm), dir_new (es := es) fun d hd => hn d (List.mem_cons_of_mem _ hd)]
/-- What is told of a node. -/
def ndSize (N : ND) : Int := match N.dq with | none => N.size | some q => q.size

section
/- package names: sign, and what slices.ContainsFunc does with it, by contract. -/
open Go.RowKit Go.Lib

/-- Is a byte a name's? -/
def signN (n : Nat) : Bool := decide (97 ≤ n ∧ n ≤ 122) || decide (65 ≤ n ∧ n ≤ 90) || decide (48 ≤ n ∧ n ≤ 57) || n == 46 || n == 45 || n == 95
def lowN (n : Nat) : Int := bits .or .u8 (n : Int) 32
theorem low_letter : ∀ n : Fin 256, (decide (97 ≤ lowN n.val) && decide (lowN n.val ≤ 122)) = (decide (97 ≤ n.val ∧ n.val ≤ 122) || decide (65 ≤ n.val ∧ n.val ≤ 90)) := by decide +kernel
theorem sign_any (n : Nat) (hn : n < 256) (w : World) : Calls Tryz.prog 56 #[.int .u8 n] w fun e w' => e = .returned (.bool (signN n)) ∧ w = w' := by
  have hl := low_letter ⟨n, hn⟩
  simp only at hl
  obtain ⟨q, hq⟩ : ∃ q, q = bits .or .u8 (n : Int) 32 := ⟨_, rfl⟩
  have hq2 : lowN n = q := hq.symm
  rw [hq2] at hl
  have hS : signN n = ((decide (97 ≤ q) && decide (q ≤ 122)) || decide (48 ≤ n ∧ n ≤ 57) || n == 46 || n == 45 || n == 95) := by unfold signN; rw [hl]
  have HS := Lib.hid hS
  have hbo : bits .or .u8 (n : Int) 32 = q := hq.symm
  clear hl hq hq2 hS
  by_cases h1 : 97 ≤ q
  · by_cases h2 : q ≤ 122
    · have HX := Lib.hid (show signN n = true by rw [HS.out]; simp [h1, h2])
      go_enter Tryz.func56, Tryz.ntmps56
      go_wp2_with fail
      go_ret
      exact ⟨by rw [HX.out]; rfl, rfl⟩
    · have hB : decide (q ≤ 122) = false := by simpa using h2
      have HQ := Lib.hid (show (decide (97 ≤ q) && decide (q ≤ 122)) = false by rw [hB, Bool.and_false])
      clear h2
      by_cases d1 : 48 ≤ n
      · by_cases d2 : n ≤ 57
        · have HX := Lib.hid (show signN n = true by rw [HS.out]; simp [d1, d2])
          have e1 : (48 : Int) ≤ (n : Int) := by omega
          have e2 : (n : Int) ≤ 57 := by omega
          clear d1 d2
          go_enter Tryz.func56, Tryz.ntmps56
          go_wp2_with fail
          go_ret
          exact ⟨by rw [HX.out]; rfl, rfl⟩
        · have e1 : (48 : Int) ≤ (n : Int) := by omega
          have e2 : decide ((n : Int) ≤ 57) = false := by simp; omega
          have HD := Lib.hid (show decide (48 ≤ n ∧ n ≤ 57) = false by simp; omega)
          clear d1
          by_cases n46 : n = 46
          · have HX := Lib.hid (show signN n = true by rw [HS.out]; simp [n46])
            have s46 : ((n : Int) == 46) = true := by simp; omega
            clear n46 
            go_enter Tryz.func56, Tryz.ntmps56
            go_wp2_with fail
            go_ret
            exact ⟨by rw [HX.out]; rfl, rfl⟩
          by_cases n45 : n = 45
          · have HX := Lib.hid (show signN n = true by rw [HS.out]; simp [n45])
            have s45 : ((n : Int) == 45) = true := by simp; omega
            have s46 : ((n : Int) == 46) = false := by simp; omega
            clear n45 n46
            go_enter Tryz.func56, Tryz.ntmps56
            go_wp2_with fail
            go_ret
            exact ⟨by rw [HX.out]; rfl, rfl⟩
          by_cases n95 : n = 95
          · have HX := Lib.hid (show signN n = true by rw [HS.out]; simp [n95])
            have s95 : ((n : Int) == 95) = true := by simp; omega
            have s46 : ((n : Int) == 46) = false := by simp; omega
            have s45 : ((n : Int) == 45) = false := by simp; omega
            clear n95 n46 n45
            go_enter Tryz.func56, Tryz.ntmps56
            go_wp2_with fail
            go_ret
            exact ⟨by rw [HX.out]; rfl, rfl⟩
          have HX := Lib.hid (show signN n = false by rw [HS.out, HD.out, HQ.out]; simp [n46, n45, n95])
          have s46 : ((n : Int) == 46) = false := by simp; omega
          have s45 : ((n : Int) == 45) = false := by simp; omega
          have s95 : ((n : Int) == 95) = false := by simp; omega
          clear n46 n45 n95
          go_enter Tryz.func56, Tryz.ntmps56
          go_wp2_with fail
          go_ret
          exact ⟨by rw [HX.out]; rfl, rfl⟩
      · have e1 : decide ((48 : Int) ≤ (n : Int)) = false := by simp; omega
        have HD := Lib.hid (show decide (48 ≤ n ∧ n ≤ 57) = false by simp; omega)
        clear d1
        by_cases n46 : n = 46
        · have HX := Lib.hid (show signN n = true by rw [HS.out]; simp [n46])
          have s46 : ((n : Int) == 46) = true := by simp; omega
          clear n46 
          go_enter Tryz.func56, Tryz.ntmps56
          go_wp2_with fail
          go_ret
          exact ⟨by rw [HX.out]; rfl, rfl⟩
        by_cases n45 : n = 45
        · have HX := Lib.hid (show signN n = true by rw [HS.out]; simp [n45])
          have s45 : ((n : Int) == 45) = true := by simp; omega
          have s46 : ((n : Int) == 46) = false := by simp; omega
          clear n45 n46
          go_enter Tryz.func56, Tryz.ntmps56
          go_wp2_with fail
          go_ret
          exact ⟨by rw [HX.out]; rfl, rfl⟩
        by_cases n95 : n = 95
        · have HX := Lib.hid (show signN n = true by rw [HS.out]; simp [n95])
          have s95 : ((n : Int) == 95) = true := by simp; omega
          have s46 : ((n : Int) == 46) = false := by simp; omega
          have s45 : ((n : Int) == 45) = false := by simp; omega
          clear n95 n46 n45
          go_enter Tryz.func56, Tryz.ntmps56
          go_wp2_with fail
          go_ret
          exact ⟨by rw [HX.out]; rfl, rfl⟩
        have HX := Lib.hid (show signN n = false by rw [HS.out, HD.out, HQ.out]; simp [n46, n45, n95])
        have s46 : ((n : Int) == 46) = false := by simp; omega
        have s45 : ((n : Int) == 45) = false := by simp; omega
        have s95 : ((n : Int) == 95) = false := by simp; omega
        clear n46 n45 n95
        go_enter Tryz.func56, Tryz.ntmps56
        go_wp2_with fail
        go_ret
        exact ⟨by rw [HX.out]; rfl, rfl⟩
  · have hA : decide (97 ≤ q) = false := by simpa using h1
    have HQ := Lib.hid (show (decide (97 ≤ q) && decide (q ≤ 122)) = false by rw [hA, Bool.false_and])
    clear h1
    by_cases d1 : 48 ≤ n
    · by_cases d2 : n ≤ 57
      · have HX := Lib.hid (show signN n = true by rw [HS.out]; simp [d1, d2])
        have e1 : (48 : Int) ≤ (n : Int) := by omega
        have e2 : (n : Int) ≤ 57 := by omega
        clear d1 d2
        go_enter Tryz.func56, Tryz.ntmps56
        go_wp2_with fail
        go_ret
        exact ⟨by rw [HX.out]; rfl, rfl⟩
      · have e1 : (48 : Int) ≤ (n : Int) := by omega
        have e2 : decide ((n : Int) ≤ 57) = false := by simp; omega
        have HD := Lib.hid (show decide (48 ≤ n ∧ n ≤ 57) = false by simp; omega)
        clear d1
        by_cases n46 : n = 46
        · have HX := Lib.hid (show signN n = true by rw [HS.out]; simp [n46])
          have s46 : ((n : Int) == 46) = true := by simp; omega
          clear n46 
          go_enter Tryz.func56, Tryz.ntmps56
          go_wp2_with fail
          go_ret
          exact ⟨by rw [HX.out]; rfl, rfl⟩
        by_cases n45 : n = 45
        · have HX := Lib.hid (show signN n = true by rw [HS.out]; simp [n45])
          have s45 : ((n : Int) == 45) = true := by simp; omega
          have s46 : ((n : Int) == 46) = false := by simp; omega
          clear n45 n46
          go_enter Tryz.func56, Tryz.ntmps56
          go_wp2_with fail
          go_ret
          exact ⟨by rw [HX.out]; rfl, rfl⟩
        by_cases n95 : n = 95
        · have HX := Lib.hid (show signN n = true by rw [HS.out]; simp [n95])
          have s95 : ((n : Int) == 95) = true := by simp; omega
          have s46 : ((n : Int) == 46) = false := by simp; omega
          have s45 : ((n : Int) == 45) = false := by simp; omega
          clear n95 n46 n45
          go_enter Tryz.func56, Tryz.ntmps56
          go_wp2_with fail
          go_ret
          exact ⟨by rw [HX.out]; rfl, rfl⟩
        have HX := Lib.hid (show signN n = false by rw [HS.out, HD.out, HQ.out]; simp [n46, n45, n95])
        have s46 : ((n : Int) == 46) = false := by simp; omega
        have s45 : ((n : Int) == 45) = false := by simp; omega
        have s95 : ((n : Int) == 95) = false := by simp; omega
        clear n46 n45 n95
        go_enter Tryz.func56, Tryz.ntmps56
        go_wp2_with fail
        go_ret
        exact ⟨by rw [HX.out]; rfl, rfl⟩
    · have e1 : decide ((48 : Int) ≤ (n : Int)) = false := by simp; omega
      have HD := Lib.hid (show decide (48 ≤ n ∧ n ≤ 57) = false by simp; omega)
      clear d1
      by_cases n46 : n = 46
      · have HX := Lib.hid (show signN n = true by rw [HS.out]; simp [n46])
        have s46 : ((n : Int) == 46) = true := by simp; omega
        clear n46 
        go_enter Tryz.func56, Tryz.ntmps56
        go_wp2_with fail
        go_ret
        exact ⟨by rw [HX.out]; rfl, rfl⟩
      by_cases n45 : n = 45
      · have HX := Lib.hid (show signN n = true by rw [HS.out]; simp [n45])
        have s45 : ((n : Int) == 45) = true := by simp; omega
        have s46 : ((n : Int) == 46) = false := by simp; omega
        clear n45 n46
        go_enter Tryz.func56, Tryz.ntmps56
        go_wp2_with fail
        go_ret
        exact ⟨by rw [HX.out]; rfl, rfl⟩
      by_cases n95 : n = 95
      · have HX := Lib.hid (show signN n = true by rw [HS.out]; simp [n95])
        have s95 : ((n : Int) == 95) = true := by simp; omega
        have s46 : ((n : Int) == 46) = false := by simp; omega
        have s45 : ((n : Int) == 45) = false := by simp; omega
        clear n95 n46 n45
        go_enter Tryz.func56, Tryz.ntmps56
        go_wp2_with fail
        go_ret
        exact ⟨by rw [HX.out]; rfl, rfl⟩
      have HX := Lib.hid (show signN n = false by rw [HS.out, HD.out, HQ.out]; simp [n46, n45, n95])
      have s46 : ((n : Int) == 46) = false := by simp; omega
      have s45 : ((n : Int) == 45) = false := by simp; omega
      have s95 : ((n : Int) == 95) = false := by simp; omega
      clear n46 n45 n95
      go_enter Tryz.func56, Tryz.ntmps56
      go_wp2_with fail
      go_ret
      exact ⟨by rw [HX.out]; rfl, rfl⟩

theorem notSign_any (n : Nat) (hn : n < 256) (w : World) : Calls Tryz.prog 55 #[.int .u8 n] w fun e w' => e = .returned (.bool (!(signN n))) ∧ w = w' := by
  go_enter Tryz.func55, Tryz.ntmps55
  go_wp2_with fail
  refine (sign_any n hn w).mono ?_
  rintro e w1 ⟨rfl, rfl⟩
  go_wp2_with fail
  go_ret
  exact ⟨rfl, rfl⟩
/-- Where the first byte lies that is no name's. -/
def badAt (l : List UInt8) : Option Nat := l.findIdx? fun b => !(signN b.toNat)
def ixI : Option Nat → Int
  | some k => (k : Int)
  | none => -1
theorem take_snoc1 {l : List UInt8} {k : Nat} {f : UInt8} (h : l[k]? = some f) : l.take (k + 1) = l.take k ++ [f] := by rw [List.take_add_one, h]; rfl
def RelIx (l : List UInt8) (w : World) (i : Value) (wr : World) : Prop := ∃ k : Nat, k ≤ l.length ∧ i = .int .i64 k ∧ w = wr ∧ ∀ b ∈ l.take k, signN b.toNat = true
theorem indexFunc_any (g n c : Nat) (l : List UInt8) (hl : n = l.length) (hc : n ≤ c) (h63 : n ≤ 9223372036854775807) (w : World) (hcell : ∀ k b, l[k]? = some b → w.cell? ⟨g, k, none⟩ = some (.int .u8 b.toNat)) :
    Calls Tryz.prog 76 #[.slice (some ⟨g, 0, none⟩) n c, .func (.func 55) #[] #[]] w fun e w' => e = .returned (.int .i64 (ixI (badAt l))) ∧ w = w' := by
  have HL := Lib.hid hl
  have HCE := Lib.hid hcell
  clear hl hcell
  go_enter Tryz.func76, Tryz.ntmps76
  go_wp2_with fail
  go_loopw [8] (fun i wr => RelIx l w i wr) (fun i _ => (n - RowKit.intOf i).toNat)
  case atStart => exact ⟨0, Nat.zero_le _, rfl, rfl, by simp⟩
  case round =>
    obtain ⟨k, hk, rfl, rfl, hall⟩ := hrel
    have HA := Lib.hid hall
    clear hall
    have hkn : k ≤ n := by rw [HL.out]; exact hk
    by_cases hlt : k < n
    · obtain ⟨b, hb⟩ : ∃ b, l[k]? = some b := ⟨l[k]'(by rw [← HL.out]; exact hlt), List.getElem?_eq_getElem _⟩
      have c0 := HCE.out k b hb
      have j0 : (0 : Int) ≤ (k : Int) := by omega
      have j1 : (k : Int) < (n : Int) := by omega
      have HB := Lib.hid hb
      clear hb
      have hb256 := b.toNat_lt
      by_cases hs : signN b.toNat = true
      · have HS := Lib.hid hs
        clear hs
        go_wp2_with fail
        refine (notSign_any b.toNat hb256 _).mono ?_
        rintro e w1 ⟨rfl, rfl⟩
        rw [HS.out]
        go_wp2_with fail
        go_roundw
        case rel => exact ⟨k + 1, by rw [← HL.out]; omega, by go_num, rfl, fun x hx => by
          rw [take_snoc1 HB.out] at hx
          rcases List.mem_append.1 hx with hx | hx
          · exact HA.out x hx
          · rw [List.mem_singleton.1 hx]; exact HS.out⟩
        case measure => simp [RowKit.intOf]; omega
      · have hs2 : signN b.toNat = false := by simpa using hs
        have HS := Lib.hid hs2
        have HX := Lib.hid (show badAt l = some k by
          unfold badAt
          rw [List.findIdx?_eq_some_iff_getElem]
          obtain ⟨hkl, e⟩ := List.getElem?_eq_some_iff.1 HB.out
          refine ⟨hkl, by rw [e, hs2]; rfl, fun j hj => ?_⟩
          have := HA.out (l[j]'(by omega)) (by rw [List.mem_iff_getElem?]; exact ⟨j, by rw [List.getElem?_take, if_pos hj]; exact List.getElem?_eq_getElem _⟩)
          simp [this])
        clear hs hs2
        go_wp2_with fail
        refine (notSign_any b.toNat hb256 _).mono ?_
        rintro e w1 ⟨rfl, rfl⟩
        rw [HS.out]
        go_wp2_with fail
        go_ret
        exact ⟨by rw [HX.out]; rfl, rfl⟩
    · obtain rfl : k = n := by omega
      have HX := Lib.hid (show badAt l = none by
        unfold badAt
        rw [List.findIdx?_eq_none_iff]
        intro x hx
        have := HA.out x (by rw [HL.out, List.take_of_length_le (Nat.le_refl _)]; exact hx)
        simp [this])
      go_wp2_with fail
      go_ret
      exact ⟨by rw [HX.out]; rfl, rfl⟩
theorem contains_any (g n c : Nat) (l : List UInt8) (hl : n = l.length) (hc : n ≤ c) (h63 : n ≤ 9223372036854775807) (w : World) (hcell : ∀ k b, l[k]? = some b → w.cell? ⟨g, k, none⟩ = some (.int .u8 b.toNat)) :
    Calls Tryz.prog 54 #[.slice (some ⟨g, 0, none⟩) n c, .func (.func 55) #[] #[]] w fun e w' => e = .returned (.bool (badAt l).isSome) ∧ w = w' := by
  have HI := Lib.hid (indexFunc_any g n c l hl hc h63 w hcell)
  clear hl hcell
  cases hb : badAt l with
  | none =>
    rw [hb] at HI
    simp only [ixI] at HI
    clear hb
    go_enter Tryz.func54, Tryz.ntmps54
    go_wp2_with fail
    refine HI.out.mono ?_
    rintro e w1 ⟨rfl, rfl⟩
    go_wp2_with fail
    go_ret
    exact ⟨rfl, rfl⟩
  | some k =>
    rw [hb] at HI
    simp only [ixI] at HI
    clear hb
    have hk0 : (0 : Int) ≤ (k : Int) := by omega
    go_enter Tryz.func54, Tryz.ntmps54
    go_wp2_with fail
    refine HI.out.mono ?_
    rintro e w1 ⟨rfl, rfl⟩
    go_wp2_with fail
    go_ret
    exact ⟨rfl, rfl⟩

end
section
/- The acts of the laws on texts as arguments: their shape, their words. -/
open Go.RowKit Go.Lib

def shPut : Sh := .and .str (.and .int (.and .str .unit))
abbrev XPut := ByteArray × Int × ByteArray × Unit
def kwInt : ByteArray := ⟨#[105, 110, 116]⟩
def kwLong : ByteArray := ⟨#[108, 111, 110, 103]⟩
def kwBool : ByteArray := ⟨#[98, 111, 111, 108]⟩
theorem txt_ne {k : ByteArray} {l : List UInt8} (h : ¬ k = ⟨l.toArray⟩) : (k.toList == l) = false := by
  rw [beq_eq_false_iff_ne]
  intro e
  apply h
  have e2 : k.data.toList = l := by rw [← e]; exact (ByteArray.toList_eq k).symm
  obtain ⟨d⟩ := k
  simp only at e2
  subst e2
  rfl
def kwBytes : ByteArray := ⟨#[98, 121, 116, 101, 115]⟩

end
section
/- package names: Check by contract. -/
open Go.RowKit Go.Lib

def dot1 : ByteArray := ⟨#[46]⟩
def dot2 : ByteArray := ⟨#[46, 46]⟩
/-- Is a text a name? -/
def nameOk (s : ByteArray) : Prop := 1 ≤ s.size ∧ s.size ≤ 24 ∧ s ≠ dot1 ∧ s ≠ dot2 ∧ badAt s.data.toList = none
instance (s : ByteArray) : Decidable (nameOk s) := by unfold nameOk; infer_instance
def nameC (s : ByteArray) : Nat := if nameOk s then 0 else 4
theorem nameC_no {s : ByteArray} (h : ¬ nameOk s) : nameC s = 4 := if_neg h
theorem nameC_yes {s : ByteArray} (h : nameOk s) : nameC s = 0 := if_pos h
/-- A text as bytes: a new row. -/
theorem to_bytes (w : World) (s : ByteArray) : ∃ cap W, (convert 9 71 (.string s)).run Tryz.prog w = .ok (.slice (some ⟨w.heap.size, 0, none⟩) s.size cap) W ∧ Chg Nil w W ∧ s.size ≤ cap ∧ ∀ k b, s.data.toList[k]? = some b → W.cell? ⟨w.heap.size, k, none⟩ = some (.int .u8 b.toNat) := by
  refine ⟨_, _, Lib.run_convert_string_bytes (P := Tryz.prog) w 9 71 5 s Tryz.underlying9 Tryz.underlying71 Tryz.underlying5, ⟨rfl, rfl, rfl, by rw [Lib.bytesWorld_size]; omega, fun k hk _ => Lib.bytesWorld_at_old w _ s k hk⟩, grownCap_ge _ _ _ _, fun k b hb => ?_⟩
  have hk : k < s.size := by have := (List.getElem?_eq_some_iff.1 hb).1; rwa [Array.length_toList] at this
  rw [Lib.bytesWorld_cell w _ s k hk]
  simp [List.getD, hb]
theorem check_any {B : Nat} (ad : Nat → Addr) (s : ByteArray) (w : World) (he : Env B ad [4] w) (hs : s.size ≤ 9223372036854775807) :
    Calls Tryz.prog 36 #[.string s] w fun e w' => e = .returned (errV ad (nameC s)) ∧ Chg Nil w w' := by
  obtain ⟨q1, q1l⟩ := he.get (c := 4) (by simp)
  simp only [gl] at q1 q1l
  have HE := Lib.hid he
  clear he
  by_cases h0 : s = ⟨#[]⟩
  · have HX := Lib.hid (nameC_no (s := s) (fun h => by have := h.1; rw [h0] at this; simp [ByteArray.size] at this))
    rw [HX.out]
    subst h0
    go_enter Tryz.func36, Tryz.ntmps36
    go_wp2_with fail
    go_ret
    exact ⟨rfl, Chg.refl _ _⟩
  have hne := txt_ne (l := []) h0
  by_cases h1 : 24 < s.size
  · have HX := Lib.hid (nameC_no (s := s) (fun h => by have := h.2.1; omega))
    rw [HX.out]
    have h1d : decide ((s.size : Int) ≤ 24) = false := by simp; omega
    clear h0
    go_enter Tryz.func36, Tryz.ntmps36
    go_wp2_with fail
    go_ret
    exact ⟨rfl, Chg.refl _ _⟩
  have h1I : (s.size : Int) ≤ 24 := by omega
  by_cases h2 : s = dot1
  · have HX := Lib.hid (nameC_no (s := s) (fun h => h.2.2.1 h2))
    rw [HX.out]
    subst h2
    unfold dot1 at *
    go_enter Tryz.func36, Tryz.ntmps36
    go_wp2_with fail
    go_ret
    exact ⟨rfl, Chg.refl _ _⟩
  have h2n := txt_ne (l := [46]) h2
  by_cases h3 : s = dot2
  · have HX := Lib.hid (nameC_no (s := s) (fun h => h.2.2.2.1 h3))
    rw [HX.out]
    subst h3
    unfold dot2 at *
    go_enter Tryz.func36, Tryz.ntmps36
    go_wp2_with fail
    go_ret
    exact ⟨rfl, Chg.refl _ _⟩
  have h3n := txt_ne (l := [46, 46]) h3
  have hp : 1 ≤ s.size := by
    rcases Nat.eq_zero_or_pos s.size with h | h
    · exfalso; apply h0; apply ByteArray.ext; exact Array.eq_empty_of_size_eq_zero h
    · exact h
  have HOK := Lib.hid (show nameOk s ↔ badAt s.data.toList = none from ⟨fun h => h.2.2.2.2, fun h => ⟨hp, by omega, h2, h3, h⟩⟩)
  clear h0 h2 h3
  go_enter Tryz.func36, Tryz.ntmps36
  obtain ⟨cap, W, hcv, hcw, hcap, hcell⟩ := to_bytes w s
  have HCW := Lib.hid hcw
  have HCC := Lib.hid (contains_any w.heap.size s.size cap s.data.toList Array.length_toList.symm hcap hs W hcell)
  obtain ⟨q2, q2l⟩ := (HE.out.keepN hcw).get (c := 4) (by simp)
  simp only [gl] at q2 q2l
  clear hcw hcap hcell
  cases hb : badAt s.data.toList with
  | none =>
    have HX := Lib.hid (nameC_yes (HOK.out.2 hb))
    rw [hb] at HCC
    clear hb
    go_wp2_with fail
    refine HCC.out.mono ?_
    rintro e w2 ⟨rfl, rfl⟩
    go_wp2_with fail
    go_ret
    exact ⟨by rw [HX.out]; rfl, HCW.out⟩
  | some k =>
    have HX := Lib.hid (nameC_no (s := s) (fun h => by have := HOK.out.1 h; rw [hb] at this; cases this))
    rw [hb] at HCC
    clear hb
    go_wp2_with fail
    refine HCC.out.mono ?_
    rintro e w2 ⟨rfl, rfl⟩
    go_wp2_with fail
    go_ret
    exact ⟨by rw [HX.out]; rfl, HCW.out⟩

end
/- plain.Code at an api.Fault, by contract. -/

def Code2 (w : World) (sb : Nat) (ad : Nat → Addr) (n : Nat) (at_ : Int) (v i : Value) (wr : World) : Prop :=
  ∃ k : Nat, k ≤ n ∧ v = .int .i64 at_ ∧ i = .int .i64 k ∧ Chg Nil w wr ∧ ∀ j, j < 15 → wr.cell? ⟨sb, j, none⟩ = some (.iface 205 (.pointer (some (ad (j + 1)))))

/-- The fifteen errors' variables. -/
theorem fifteen {B : Nat} {ad : Nat → Addr} {w : World} (h : Env B ad allErrs w) : ∀ c, 1 ≤ c → c ≤ 15 → w.cell? ⟨gl c, 0, none⟩ = some (.iface 205 (.pointer (some (ad c)))) ∧ gl c < w.heap.size :=
  fun c h1 h2 => h.get (by simp [allErrs]; omega)

theorem code_fault {B : Nat} (ad : Nat → Addr) (c pb : Nat) (n : Int) (w : World) (he : EnvA B ad w) (h0 : 0 < c) (h1 : c ≤ 15)
    (hb : w.heap[pb]? = some (.cells #[.int .i64 n, .iface 205 (.pointer (some (ad c)))] 104 (0, 0))) :
    Calls Tryz.prog 19 #[.iface 100 (.pointer (some ⟨pb, 0, none⟩))] w fun e w' => e = .returned (.tuple #[.int .i64 c, .int .i64 n]) ∧ Chg Nil w w' := by
  have HE := Lib.hid he
  have hnn := fun W => run_eql_iface_nil_left (P := Tryz.prog) W 100 (.pointer (some ⟨pb, 0, none⟩)) Tryz.underlying25
  have hh := he.handle.1
  have hhl := Nat.lt_of_lt_of_le he.handle.2 he.env.size
  have hpl := lt_of_block hb
  have HB := Lib.hid hb
  clear he hb
  go_enter Tryz.func19, Tryz.ntmps19
  go_wp2_with fail
  refine (as_hit' _ _ (.pointer none) _ ?_ ?_ ?_).mono ?_
  · rw [World.cell?_alloc_lt _ _ _ hhl]; exact hh
  · simp
  · simp
  rintro e w1 ⟨rfl, hc1, ht1⟩
  have hC1 : Chg Nil w w1 := ((Chg.refl _ _).alloc _).trans hc1 (fun x hx e => by have : x = w.heap.size := e; omega)
  have hb1 := hC1.keep HB.out (fun f => f)
  have p0 := cell_of hb1 0
  have hpl1 := lt_of_block hb1
  simp only [List.getElem?_toArray, List.getElem?_cons_zero] at p0
  have hE1 := (HE.out.keepN hC1).env
  obtain ⟨q1, l1⟩ := hE1.get (c := 1) (by decide)
  obtain ⟨q2, l2⟩ := hE1.get (c := 2) (by decide)
  obtain ⟨q3, l3⟩ := hE1.get (c := 3) (by decide)
  obtain ⟨q4, l4⟩ := hE1.get (c := 4) (by decide)
  obtain ⟨q5, l5⟩ := hE1.get (c := 5) (by decide)
  obtain ⟨q6, l6⟩ := hE1.get (c := 6) (by decide)
  obtain ⟨q7, l7⟩ := hE1.get (c := 7) (by decide)
  obtain ⟨q8, l8⟩ := hE1.get (c := 8) (by decide)
  obtain ⟨q9, l9⟩ := hE1.get (c := 9) (by decide)
  obtain ⟨q10, l10⟩ := hE1.get (c := 10) (by decide)
  obtain ⟨q11, l11⟩ := hE1.get (c := 11) (by decide)
  obtain ⟨q12, l12⟩ := hE1.get (c := 12) (by decide)
  obtain ⟨q13, l13⟩ := hE1.get (c := 13) (by decide)
  obtain ⟨q14, l14⟩ := hE1.get (c := 14) (by decide)
  obtain ⟨q15, l15⟩ := hE1.get (c := 15) (by decide)
  simp only [gl] at q1 q2 q3 q4 q5 q6 q7 q8 q9 q10 q11 q12 q13 q14 q15
  clear l1 l2 l3 l4 l5 l6 l7 l8 l9 l10 l11 l12 l13 l14 l15 hE1 hh hhl hb1
  go_wp2_with fail
  clear q1 q2 q3 q4 q5 q6 q7 q8 q9 q10 q11 q12 q13 q14 q15 hnn p0 ht1
  go_loopw [3, 33] (fun v i wr => Code1 w w1.heap.size ad c n v i wr) (fun _ i _ => (15 - intOf i).toNat)
  case atStart =>
    refine ⟨0, h0, rfl, rfl, hC1.alloc _, fun j hj => ?_⟩
    rw [World.cell?_alloc_at _ _ _ _ rfl]
    rcases (show j = 0 ∨ j = 1 ∨ j = 2 ∨ j = 3 ∨ j = 4 ∨ j = 5 ∨ j = 6 ∨ j = 7 ∨ j = 8 ∨ j = 9 ∨ j = 10 ∨ j = 11 ∨ j = 12 ∨ j = 13 ∨ j = 14 by omega) with rfl | rfl | rfl | rfl | rfl | rfl | rfl | rfl | rfl | rfl | rfl | rfl | rfl | rfl | rfl <;> rfl
  case round =>
    obtain ⟨k, hk, rfl, rfl, hC, hcell⟩ := hrel
    have hE := (HE.out.keepN hC).env
    have hc := hcell k (by omega)
    have hk15 : (k : Int) < 15 := by omega
    have hbw := hC.keep HB.out (fun f => f)
    have hx1 := cell_of hbw 1
    simp only [List.getElem?_toArray, List.getElem?_cons_zero, List.getElem?_cons_succ] at hx1
    by_cases hkc : k + 1 = c
    · have hnum : ((k : Int) + 1) = (c : Int) := by omega
      have hI := is_fault_same pb 0 (ad c) wr (by simpa using hx1)
      rw [hkc] at hc
      have HN := Lib.hid hnum
      have HK := Lib.hid hkc
      have HC := Lib.hid hcell
      have HI := Lib.hid hI
      clear hnum hkc hcell hI hbw hx1
      go_wp2_with fail
      refine HI.out.mono ?_
      rintro e w2 ⟨rfl, rfl⟩
      go_wp2_with fail
      go_ret2
      exact ⟨by simp [HN.out], hC⟩
    · obtain ⟨_, r1, _⟩ := hE.row (k + 1) (by simp [allErrs]; omega)
      obtain ⟨_, r2, _⟩ := hE.row c (by simp [allErrs]; omega)
      have hI := is_fault_other pb 0 (ad (k + 1)) (ad c) wr (by simpa using hx1) (hE.dist c (by simp [allErrs]; omega) (k + 1) (by simp [allErrs]; omega) (fun e => hkc e.symm)) r2 r1
      have HC := Lib.hid hcell
      have HI := Lib.hid hI
      clear hcell hI r1 r2 hE hbw hx1
      go_wp2_with fail
      refine HI.out.mono ?_
      rintro e w2 ⟨rfl, rfl⟩
      go_wp2_with fail
      go_roundw
      case rel => exact ⟨k + 1, by omega, rfl, by go_num, hC, HC.out⟩
      case measure => simp [intOf]; omega


section
/- package names: all names of a list; law1's faulted; by contract. -/
open Go.RowKit Go.Lib

/-- The value v is the error of number c at a place (0: nil). -/
def NmErr (ad : Nat → Addr) (w : World) (v : Value) (c : Nat) (at_ : Int) : Prop :=
  (c = 0 ∧ at_ = -1 ∧ v = .nilIface) ∨ (0 < c ∧ c ≤ 15 ∧ at_ = -1 ∧ v = .iface 205 (.pointer (some (ad c)))) ∨
  (0 < c ∧ c ≤ 15 ∧ ∃ pb, v = .iface 100 (.pointer (some ⟨pb, 0, none⟩)) ∧ w.heap[pb]? = some (.cells #[.int .i64 at_, .iface 205 (.pointer (some (ad c)))] 104 (0, 0)))
theorem NmErr.keep {ad : Nat → Addr} {w w' : World} {v : Value} {c : Nat} {at_ : Int} (h : NmErr ad w v c at_) (hc : Chg Nil w w') : NmErr ad w' v c at_ := by
  rcases h with h | h | ⟨h1, h2, pb, h3, h4⟩
  · exact .inl h
  · exact .inr (.inl h)
  · exact .inr (.inr ⟨h1, h2, pb, h3, hc.keep h4 (fun f => f)⟩)
theorem nmErr_of {ad : Nat → Addr} {w : World} {c : Nat} (h : c ≤ 15) : NmErr ad w (errV ad c) c (-1) := by
  by_cases h0 : c = 0
  · subst h0; exact .inl ⟨rfl, rfl, rfl⟩
  · exact .inr (.inl ⟨by omega, h, rfl, errV_pos h0⟩)
theorem NmErr.le {ad : Nat → Addr} {w : World} {v : Value} {c : Nat} {at_ : Int} (h : NmErr ad w v c at_) : c ≤ 15 := by
  rcases h with h | h | h
  · omega
  · exact h.2.1
  · exact h.2.1
/-- The first text of a list that is no name. -/
def firstBad (l : List ByteArray) : Option Nat := l.findIdx? fun s => decide (¬ nameOk s)
def pathC (l : List ByteArray) : Nat × Int := match firstBad l with
  | some i => (4, i)
  | none => if 12 < l.length then (2, -1) else (0, -1)
/-- A slice of texts, as its elements are read. -/
def TextsAt (w : World) (B : Nat) (a : Option Addr) (l : List ByteArray) : Prop := ∀ (k : Nat) x, l[k]? = some x → x.size ≤ 9223372036854775807 ∧ ∃ g off, a = some ⟨g, off, none⟩ ∧ g < B ∧ w.cell? ⟨g, off + k, none⟩ = some (.string x)
theorem TextsAt.keep {w w' : World} {B : Nat} {a : Option Addr} {l : List ByteArray} {S : Nat → Prop} (h : TextsAt w B a l) (hB : B ≤ w.heap.size) (c : Chg S w w') (hS : ∀ x, S x → B ≤ x) : TextsAt w' B a l := fun k x hx => by
  obtain ⟨h0, g, off, e, hg, hc⟩ := h k x hx
  exact ⟨h0, g, off, e, hg, (c.cell (p := ⟨g, off + k, none⟩) (by simp; omega) (fun s => by have := hS _ s; simp at this; omega)).trans hc⟩
def RelAll (l : List ByteArray) (w : World) (i : Value) (wr : World) : Prop := ∃ k : Nat, k ≤ l.length ∧ i = .int .i64 k ∧ Chg Nil w wr ∧ ∀ s ∈ l.take k, nameOk s
def AllPost (ad : Nat → Addr) (l : List ByteArray) (w : World) (e : Ending) (w' : World) : Prop := ∃ v, e = .returned v ∧ NmErr ad w' v (pathC l).1 (pathC l).2 ∧ Chg Nil w w'

end
section
/- The reference's NameError and PathError by contract. -/
open Go.RowKit Go.Lib

def RelNE (s : ByteArray) (w : World) (i : Value) (wr : World) : Prop := ∃ k : Nat, k ≤ s.size ∧ i = .int .i64 k ∧ w = wr ∧ ∀ b ∈ s.data.toList.take k, signN b.toNat = true
theorem bad_of {l : List UInt8} {k : Nat} {b : UInt8} (h : l[k]? = some b) (hb : signN b.toNat = false) : badAt l ≠ none := by
  unfold badAt
  intro e
  rw [List.findIdx?_eq_none_iff] at e
  have := e b (List.mem_of_getElem? h)
  rw [hb] at this
  cases this
theorem bad_none {l : List UInt8} (h : ∀ b ∈ l, signN b.toNat = true) : badAt l = none := by
  unfold badAt
  rw [List.findIdx?_eq_none_iff]
  intro x hx
  rw [h x hx]; rfl
theorem byte_list {s : ByteArray} {k : Nat} (h : k < s.size) : s.data.toList[k]? = some s[k] := by
  have hkl : k < s.data.toList.length := by rw [Array.length_toList]; exact h
  rw [List.getElem?_eq_getElem hkl]; rfl

end
/- names.Check and the reference's NameError, by what is owned. -/
theorem check_spec {B : Nat} (ad : Nat → Addr) (s : ByteArray) (hs : s.size ≤ 9223372036854775807) : Spec Tryz.prog 36 #[.string s] [rEnv B ad [4]] fun u L => u = errV ad (nameC s) ∧ L = [rEnv B ad [4]] := fun E w0 w ho =>
  (check_any ad s w (ho.fact 0 rfl) hs).mono fun e w' ⟨he, hc⟩ => ⟨_, _, ⟨rfl, rfl⟩, he, ho.quiet hc⟩
theorem check_two {B : Nat} (ad : Nat → Addr) (s : ByteArray) (hs : s.size ≤ 9223372036854775807) : Spec Tryz.prog 36 #[.string s] [rEnv B ad [4]] fun u L => (nameOk s ∧ u = .nilIface ∧ L = [rEnv B ad [4]]) ∨ (¬ nameOk s ∧ u = errV ad 4 ∧ L = [rEnv B ad [4]]) :=
  (check_spec ad s hs).mono fun u L ⟨h1, h2⟩ => by
    by_cases h : nameOk s
    · exact .inl ⟨h, by rw [h1, nameC_yes h]; rfl, h2⟩
    · exact .inr ⟨h, by rw [h1, nameC_no h], h2⟩

/- tree: contracts by what is owned (printed by walk.py). -/

theorem tabAtN_spec {B : Nat} (ad : Nat → Addr) (b : Nat) (n g : Int) (ps : List (Option Nat)) (gs : List Int) (vl vg : Value) (T : TypeId) (Sl Sg : Nat → Prop) (hl : ps.length = gs.length) (hr : ∀ x ∈ gs, 0 ≤ x ∧ x ≤ 1000000) (ha : atOf ps gs n g = none) :
    Spec Tryz.prog 34 #[.pointer (some ⟨b, 0, none⟩), .agg #[.int .i64 n, .int .i64 g]] [rTab b ps gs vl vg T Sl Sg, rEnv B ad [10]] fun u L => u = .tuple #[.pointer none, errV ad 10] ∧ L = [rTab b ps gs vl vg T Sl Sg, rEnv B ad [10]] :=
  (tabAt_spec ad b n g ps gs vl vg T Sl Sg hl hr).mono fun u L h => by
    rcases h with ⟨nb, h1, _⟩ | ⟨_, h2, h3⟩
    · rw [ha] at h1; cases h1
    · exact ⟨h2, h3⟩

theorem touch_spec {B : Nat} (ad : Nat → Addr) (tb : Nat) (ps : List (Option Nat)) (gs : List Int) (vl vg : Value) (T : TypeId) (Sl Sg : Nat → Prop) (l : List (Option ND)) (hl : ps.length = gs.length) (hr : ∀ x ∈ gs, 0 ≤ x ∧ x ≤ 1000000) (n g : Int) (k : Nat) (N : ND) (hk : l[k]? = some (some N)) (ha : atOf ps gs n g = some N.nb) (hc : 0 ≤ N.change ∧ N.change ≤ 1000000)  : Spec Tryz.prog 18 #[.pointer (some ⟨tb, 0, none⟩), .agg #[.int .i64 n, .int .i64 g]] [rTab tb ps gs vl vg T Sl Sg, rNds l, rEnv B ad [10]] (fun u L => u = .nilIface ∧ L = [rTab tb ps gs vl vg T Sl Sg, rNds (l.set k (some { N with change := N.change + 1 })), rEnv B ad [10]]) := by
  refine spec_of (#[.pointer (some ⟨tb, 0, none⟩), .agg #[.int .i64 n, .int .i64 g], undef, undef, undef, undef, undef, undef, undef, undef, undef, undef, undef, undef, undef, undef, undef, undef, undef, undef, undef, undef, undef, undef, undef]) Tryz.func18 rfl (by kernel_rfl) fun E w0 w h => ?_
  refine c_seq ?_
  refine c_reg ?_
  refine sq_new rfl (fun b => .pointer (some ⟨b, 0, none⟩)) [.int .i64 n, .int .i64 g] 29 (fun _ => by kernel_rfl) h ?_; intro k1 w h
  refine sq_p (.nilIface) rfl (fun _ => by kernel_rfl) ?_
  refine lnil ?_
  refine thn_n ?_
  refine c_seq ?_
  refine c_reg ?_
  refine sq_p (.pointer (some ⟨tb, 0, none⟩)) rfl (fun _ => by kernel_rfl) ?_
  refine sq_q rfl h (g_ld 0 [.int .i64 n, .int .i64 g] (.agg #[.int .i64 n, .int .i64 g]) (by kernel_rfl) 0 rfl) ?_
  refine sq_call #[.pointer (some ⟨tb, 0, none⟩), .agg #[.int .i64 n, .int .i64 g]] [1, 2] rfl (nodesAt_spec ad tb _ n g ps gs vl vg T Sl Sg hl hr ha) (fun _ => by kernel_rfl) h ?_; rintro v_ L_ w ⟨rfl, rfl⟩ h
  have h := h.pickE (M := [rNds l, rTab tb ps gs vl vg T Sl Sg, rEnv B ad [10], rCell true k1 [.int .i64 n, .int .i64 g] 29]) [3, 0, 0, 0] (by kernel_rfl)
  have h := h.ndOpen hk
  have h : Own w0 E [rCell true N.nb [.int .i64 N.kind, .int .i64 N.size, .int .i64 N.links, .int .i64 N.change, .int .i64 N.upn, .int .i64 N.upg, (ndPtr N.dq)] 90, datRes N.dq, rNdsO l k, rTab tb ps gs vl vg T Sl Sg, rEnv B ad [10], rCell true k1 [.int .i64 n, .int .i64 g] 29] w := h
  refine sq_p (.tuple #[.pointer (some ⟨N.nb, 0, none⟩), .nilIface]) rfl (fun _ => by kernel_rfl) ?_
  refine sq_p (.pointer (some ⟨N.nb, 0, none⟩)) rfl (fun _ => by kernel_rfl) ?_
  refine sq_p (.nilIface) rfl (fun _ => by kernel_rfl) ?_
  refine sq_p (.pointer (some ⟨N.nb, 0, none⟩)) rfl (fun _ => by kernel_rfl) ?_
  refine sq_p (.nilIface) rfl (fun _ => by kernel_rfl) ?_
  refine lnil ?_
  refine thn_n ?_
  refine c_seq ?_
  refine c_seq ?_
  refine c_reg ?_
  refine sq_p (.nilIface) rfl (fun _ => by kernel_rfl) ?_
  refine sq_p (.bool false) rfl (fun _ => by kernel_rfl) ?_
  refine lnil ?_
  refine thn_n ?_
  refine c_false (by kernel_rfl) ?_
  refine c_skip ?_
  refine thn_n ?_
  refine c_seq ?_
  refine c_reg ?_
  refine sq_p (.pointer (some ⟨N.nb, 0, none⟩)) rfl (fun _ => by kernel_rfl) ?_
  refine sq_p (.pointer (some ⟨N.nb, 0, none⟩)) rfl (fun _ => by kernel_rfl) ?_
  refine sq_p (.pointer (some ⟨N.nb, 0, none⟩)) rfl (fun _ => by kernel_rfl) ?_
  refine sq_p (.pointer (some ⟨N.nb, 3, none⟩)) rfl (fun _ => by kernel_rfl) ?_
  refine sq_q rfl h (g_ld 3 [.int .i64 N.change] (.int .i64 N.change) (by kernel_rfl) 0 rfl) ?_
  refine sq_q rfl h (g_eq (v := .int .i64 (IntKind.i64.wrap (N.change + 1))) (v' := .int .i64 (N.change + 1)) (g_pure fun _ => by kernel_rfl) (wr (by omega))) ?_
  refine sq_p (.pointer (some ⟨N.nb, 0, none⟩)) rfl (fun _ => by kernel_rfl) ?_
  refine sq_p (.pointer (some ⟨N.nb, 0, none⟩)) rfl (fun _ => by kernel_rfl) ?_
  refine sq_p (.pointer (some ⟨N.nb, 3, none⟩)) rfl (fun _ => by kernel_rfl) ?_
  refine sq_st rfl 3 [.int .i64 (N.change + 1)] [.int .i64 N.kind, .int .i64 N.size, .int .i64 N.links, .int .i64 (N.change + 1), .int .i64 N.upn, .int .i64 N.upg, (ndPtr N.dq)] h 0 rfl (by kernel_rfl) ?_; intro w h
  refine lnil ?_
  refine thn_n ?_
  refine c_seq ?_
  refine c_reg ?_
  refine sq_p (.nilIface) rfl (fun _ => by kernel_rfl) ?_
  refine lnil ?_
  refine thn_n ?_
  refine c_ret ?_
  have h := h.pickE (M := [rCell true N.nb [.int .i64 N.kind, .int .i64 N.size, .int .i64 N.links, .int .i64 (N.change + 1), .int .i64 N.upn, .int .i64 N.upg, (ndPtr N.dq)] 90, datRes N.dq, rNdsO l k, rTab tb ps gs vl vg T Sl Sg, rEnv B ad [10], rCell true k1 [.int .i64 n, .int .i64 g] 29]) [0, 0, 0, 0, 0, 0] (by kernel_rfl)
  have h := h.ndClose { N with change := N.change + 1 }
  refine ret_end [.nilIface] [1, 0, 0] h (by kernel_rfl) (res_t (by kernel_rfl) res_n) ?_
  exact ⟨rfl, rfl⟩
theorem keep_spec {B : Nat} (ad : Nat → Addr) (tb : Nat) (ps : List (Option Nat)) (gs : List Int) (vl vg : Value) (T : TypeId) (Sl Sg : Nat → Prop) (l : List (Option ND)) (hl : ps.length = gs.length) (hr : ∀ x ∈ gs, 0 ≤ x ∧ x ≤ 1000000) (n g : Int) (k : Nat) (N : ND) (hk : l[k]? = some (some N)) (ha : atOf ps gs n g = some N.nb) (a0 a1 a2 a3 a4 a5 : Int)  : Spec Tryz.prog 15 #[.pointer (some ⟨tb, 0, none⟩), .agg #[.int .i64 n, .int .i64 g], .agg #[.int .i64 a0, .int .i64 a1, .int .i64 a2, .int .i64 a3, .int .i64 a4, .int .i64 a5]] [rTab tb ps gs vl vg T Sl Sg, rNds l, rEnv B ad [10]] (fun u L => L = [rTab tb ps gs vl vg T Sl Sg, rNds (l.set k (some { N with kind := a0, size := a1, links := a2, upn := a4, upg := a5 })), rEnv B ad [10]]) := by
  refine spec_of (#[.pointer (some ⟨tb, 0, none⟩), .agg #[.int .i64 n, .int .i64 g], .agg #[.int .i64 a0, .int .i64 a1, .int .i64 a2, .int .i64 a3, .int .i64 a4, .int .i64 a5], undef, undef, undef, undef, undef, undef, undef, undef, undef, undef, undef, undef, undef, undef, undef, undef, undef, undef, undef, undef, undef, undef, undef]) Tryz.func15 rfl (by kernel_rfl) fun E w0 w h => ?_
  refine c_seq ?_
  refine c_reg ?_
  refine sq_new rfl (fun b => .pointer (some ⟨b, 0, none⟩)) [.int .i64 n, .int .i64 g] 29 (fun _ => by kernel_rfl) h ?_; intro k1 w h
  refine sq_new rfl (fun b => .pointer (some ⟨b, 0, none⟩)) [.int .i64 a0, .int .i64 a1, .int .i64 a2, .int .i64 a3, .int .i64 a4, .int .i64 a5] 51 (fun _ => by kernel_rfl) h ?_; intro k2 w h
  refine lnil ?_
  refine thn_n ?_
  refine c_seq ?_
  refine c_reg ?_
  refine sq_p (.pointer (some ⟨tb, 0, none⟩)) rfl (fun _ => by kernel_rfl) ?_
  refine sq_q rfl h (g_ld 0 [.int .i64 n, .int .i64 g] (.agg #[.int .i64 n, .int .i64 g]) (by kernel_rfl) 1 rfl) ?_
  refine sq_call #[.pointer (some ⟨tb, 0, none⟩), .agg #[.int .i64 n, .int .i64 g]] [2, 3] rfl (nodesAt_spec ad tb _ n g ps gs vl vg T Sl Sg hl hr ha) (fun _ => by kernel_rfl) h ?_; rintro v_ L_ w ⟨rfl, rfl⟩ h
  have h := h.pickE (M := [rNds l, rTab tb ps gs vl vg T Sl Sg, rEnv B ad [10], rCell true k2 [.int .i64 a0, .int .i64 a1, .int .i64 a2, .int .i64 a3, .int .i64 a4, .int .i64 a5] 51, rCell true k1 [.int .i64 n, .int .i64 g] 29]) [4, 0, 0, 0, 0] (by kernel_rfl)
  have h := h.ndOpen hk
  have h : Own w0 E [rCell true N.nb [.int .i64 N.kind, .int .i64 N.size, .int .i64 N.links, .int .i64 N.change, .int .i64 N.upn, .int .i64 N.upg, (ndPtr N.dq)] 90, datRes N.dq, rNdsO l k, rTab tb ps gs vl vg T Sl Sg, rEnv B ad [10], rCell true k2 [.int .i64 a0, .int .i64 a1, .int .i64 a2, .int .i64 a3, .int .i64 a4, .int .i64 a5] 51, rCell true k1 [.int .i64 n, .int .i64 g] 29] w := h
  refine sq_p (.tuple #[.pointer (some ⟨N.nb, 0, none⟩), .nilIface]) rfl (fun _ => by kernel_rfl) ?_
  refine sq_p (.pointer (some ⟨N.nb, 0, none⟩)) rfl (fun _ => by kernel_rfl) ?_
  refine sq_p (.nilIface) rfl (fun _ => by kernel_rfl) ?_
  refine sq_p (.pointer (some ⟨N.nb, 0, none⟩)) rfl (fun _ => by kernel_rfl) ?_
  refine sq_p (.nilIface) rfl (fun _ => by kernel_rfl) ?_
  refine lnil ?_
  refine thn_n ?_
  refine c_seq ?_
  refine c_reg ?_
  refine sq_p (.nilIface) rfl (fun _ => by kernel_rfl) ?_
  refine sq_p (.bool true) rfl (fun _ => by kernel_rfl) ?_
  refine lnil ?_
  refine thn_n ?_
  refine c_true (by kernel_rfl) ?_
  refine c_seq ?_
  refine c_reg ?_
  refine sq_p (.pointer (some ⟨N.nb, 0, none⟩)) rfl (fun _ => by kernel_rfl) ?_
  refine sq_p (.pointer (some ⟨N.nb, 0, none⟩)) rfl (fun _ => by kernel_rfl) ?_
  refine sq_p (.pointer (some ⟨N.nb, 0, none⟩)) rfl (fun _ => by kernel_rfl) ?_
  refine sq_p (.pointer (some ⟨N.nb, 3, none⟩)) rfl (fun _ => by kernel_rfl) ?_
  refine sq_q rfl h (g_ld 3 [.int .i64 N.change] (.int .i64 N.change) (by kernel_rfl) 0 rfl) ?_
  refine sq_p (.pointer (some ⟨k2, 3, none⟩)) rfl (fun _ => by kernel_rfl) ?_
  refine sq_st rfl 3 [.int .i64 N.change] [.int .i64 a0, .int .i64 a1, .int .i64 a2, .int .i64 N.change, .int .i64 a4, .int .i64 a5] h 5 rfl (by kernel_rfl) ?_; intro w h
  refine lnil ?_
  refine thn_n ?_
  refine c_reg ?_
  refine sq_p (.pointer (some ⟨N.nb, 0, none⟩)) rfl (fun _ => by kernel_rfl) ?_
  refine sq_q rfl h (g_ld 0 [.int .i64 a0, .int .i64 a1, .int .i64 a2, .int .i64 N.change, .int .i64 a4, .int .i64 a5] (.agg #[.int .i64 a0, .int .i64 a1, .int .i64 a2, .int .i64 N.change, .int .i64 a4, .int .i64 a5]) (by kernel_rfl) 5 rfl) ?_
  refine sq_p (.pointer (some ⟨N.nb, 0, none⟩)) rfl (fun _ => by kernel_rfl) ?_
  refine sq_p (.pointer (some ⟨N.nb, 0, none⟩)) rfl (fun _ => by kernel_rfl) ?_
  refine sq_st rfl 0 [.int .i64 a0, .int .i64 a1, .int .i64 a2, .int .i64 N.change, .int .i64 a4, .int .i64 a5] [.int .i64 a0, .int .i64 a1, .int .i64 a2, .int .i64 N.change, .int .i64 a4, .int .i64 a5, (ndPtr N.dq)] h 0 rfl (by kernel_rfl) ?_; intro w h
  refine lnil ?_
  have h := h.pickE (M := [rCell true N.nb [.int .i64 a0, .int .i64 a1, .int .i64 a2, .int .i64 N.change, .int .i64 a4, .int .i64 a5, (ndPtr N.dq)] 90, datRes N.dq, rNdsO l k, rTab tb ps gs vl vg T Sl Sg, rEnv B ad [10], rCell true k2 [.int .i64 a0, .int .i64 a1, .int .i64 a2, .int .i64 N.change, .int .i64 a4, .int .i64 a5] 51, rCell true k1 [.int .i64 n, .int .i64 g] 29]) [0, 0, 0, 0, 0, 0, 0] (by kernel_rfl)
  have h := h.ndClose { N with kind := a0, size := a1, links := a2, upn := a4, upg := a5 }
  refine ret_end [] [1, 0, 0] h (by kernel_rfl) (res_n) ?_
  exact rfl
theorem attrN_spec {B : Nat} (ad : Nat → Addr) (tb : Nat) (ps : List (Option Nat)) (gs : List Int) (vl vg : Value) (T : TypeId) (Sl Sg : Nat → Prop) (l : List (Option ND)) (hl : ps.length = gs.length) (hr : ∀ x ∈ gs, 0 ≤ x ∧ x ≤ 1000000) (n g : Int) (ha : atOf ps gs n g = none)  : Spec Tryz.prog 37 #[.pointer (some ⟨tb, 0, none⟩), .agg #[.int .i64 n, .int .i64 g]] [rTab tb ps gs vl vg T Sl Sg, rNds l, rEnv B ad [10]] (fun u L => u = .tuple #[.agg #[.int .i64 0, .int .i64 0, .int .i64 0, .int .i64 0, .int .i64 0, .int .i64 0], errV ad 10] ∧ L = [rTab tb ps gs vl vg T Sl Sg, rNds l, rEnv B ad [10]]) := by
  refine spec_of (#[.pointer (some ⟨tb, 0, none⟩), .agg #[.int .i64 n, .int .i64 g], undef, undef, undef, undef, undef, undef, undef, undef, undef, undef, undef, undef, undef, undef, undef, undef, undef, undef, undef, undef, undef, undef, undef, undef, undef, undef, undef, undef, undef, undef, undef, undef, undef]) Tryz.func37 rfl (by kernel_rfl) fun E w0 w h => ?_
  refine c_seq ?_
  refine c_reg ?_
  refine sq_new rfl (fun b => .pointer (some ⟨b, 0, none⟩)) [.int .i64 n, .int .i64 g] 29 (fun _ => by kernel_rfl) h ?_; intro k1 w h
  refine sq_new rfl (fun b => .pointer (some ⟨b, 0, none⟩)) [.int .i64 0, .int .i64 0, .int .i64 0, .int .i64 0, .int .i64 0, .int .i64 0] 51 (fun _ => by kernel_rfl) h ?_; intro k2 w h
  refine sq_p (.nilIface) rfl (fun _ => by kernel_rfl) ?_
  refine lnil ?_
  refine thn_n ?_
  refine c_seq ?_
  refine c_reg ?_
  refine sq_p (.pointer (some ⟨tb, 0, none⟩)) rfl (fun _ => by kernel_rfl) ?_
  refine sq_q rfl h (g_ld 0 [.int .i64 n, .int .i64 g] (.agg #[.int .i64 n, .int .i64 g]) (by kernel_rfl) 1 rfl) ?_
  refine sq_call #[.pointer (some ⟨tb, 0, none⟩), .agg #[.int .i64 n, .int .i64 g]] [2, 3] rfl (tabAtN_spec ad tb n g ps gs vl vg T Sl Sg hl hr ha) (fun _ => by kernel_rfl) h ?_; rintro v_ L_ w ⟨rfl, rfl⟩ h
  refine sq_p (.tuple #[.pointer none, errV ad 10]) rfl (fun _ => by kernel_rfl) ?_
  refine sq_p (.pointer none) rfl (fun _ => by kernel_rfl) ?_
  refine sq_p (errV ad 10) rfl (fun _ => by kernel_rfl) ?_
  refine sq_p (.pointer none) rfl (fun _ => by kernel_rfl) ?_
  refine sq_p (errV ad 10) rfl (fun _ => by kernel_rfl) ?_
  refine lnil ?_
  refine thn_n ?_
  refine c_seq ?_
  refine c_seq ?_
  refine c_reg ?_
  refine sq_p (errV ad 10) rfl (fun _ => by kernel_rfl) ?_
  refine sq_p (.bool true) rfl (fun _ => by kernel_rfl) ?_
  refine lnil ?_
  refine thn_n ?_
  refine c_true (by kernel_rfl) ?_
  refine c_seq ?_
  refine c_reg ?_
  refine sq_p (.agg #[.int .i64 0, .int .i64 0, .int .i64 0, .int .i64 0, .int .i64 0, .int .i64 0]) rfl (fun _ => by kernel_rfl) ?_
  refine sq_p (errV ad 10) rfl (fun _ => by kernel_rfl) ?_
  refine sq_st rfl 0 [.int .i64 0, .int .i64 0, .int .i64 0, .int .i64 0, .int .i64 0, .int .i64 0] [.int .i64 0, .int .i64 0, .int .i64 0, .int .i64 0, .int .i64 0, .int .i64 0] h 2 rfl (by kernel_rfl) ?_; intro w h
  refine sq_p (errV ad 10) rfl (fun _ => by kernel_rfl) ?_
  refine lnil ?_
  refine thn_n ?_
  refine c_ret ?_
  refine thn_r ?_
  refine ret_end [.agg #[.int .i64 0, .int .i64 0, .int .i64 0, .int .i64 0, .int .i64 0, .int .i64 0], errV ad 10] [0, 3, 0] h (by kernel_rfl) (res_c 0 [.int .i64 0, .int .i64 0, .int .i64 0, .int .i64 0, .int .i64 0, .int .i64 0] (.agg #[.int .i64 0, .int .i64 0, .int .i64 0, .int .i64 0, .int .i64 0, .int .i64 0]) 2 rfl (by kernel_rfl) (res_t (by kernel_rfl) res_n)) ?_
  exact ⟨rfl, rfl⟩
theorem size_spec (db : Nat) (z : Int) (mv : Value)  : Spec Tryz.prog 47 #[.pointer (some ⟨db, 0, none⟩)] [rCell false db [.int .i64 z, mv] 93] (fun u L => u = .int .i64 z ∧ L = [rCell false db [.int .i64 z, mv] 93]) := by
  refine spec_of (#[.pointer (some ⟨db, 0, none⟩), undef, undef, undef, undef, undef, undef]) Tryz.func47 rfl (by kernel_rfl) fun E w0 w h => ?_
  refine c_seq ?_
  refine c_reg ?_
  refine sq_p (.int .i64 0) rfl (fun _ => by kernel_rfl) ?_
  refine lnil ?_
  refine thn_n ?_
  refine c_seq ?_
  refine c_reg ?_
  refine sq_p (.pointer (some ⟨db, 0, none⟩)) rfl (fun _ => by kernel_rfl) ?_
  refine sq_p (.pointer (some ⟨db, 0, none⟩)) rfl (fun _ => by kernel_rfl) ?_
  refine sq_p (.pointer (some ⟨db, 0, none⟩)) rfl (fun _ => by kernel_rfl) ?_
  refine sq_q rfl h (g_ld 0 [.int .i64 z] (.int .i64 z) (by kernel_rfl) 0 rfl) ?_
  refine sq_p (.int .i64 z) rfl (fun _ => by kernel_rfl) ?_
  refine lnil ?_
  refine thn_n ?_
  refine c_ret ?_
  refine ret_end [.int .i64 z] [0] h (by kernel_rfl) (res_t (by kernel_rfl) res_n) ?_
  exact ⟨rfl, rfl⟩

theorem sizeD_spec (q : DQ) : Spec Tryz.prog 47 #[.pointer (some ⟨q.db, 0, none⟩)] [datRes (some q)] fun u L => u = .int .i64 q.size ∧ L = [datRes (some q)] := fun E w0 w ho => by
  have hf := ho.fact 0 rfl
  refine ((size_spec q.db q.size q.mv).reads (w := w) rfl ?_).mono ?_
  · intro r hr
    rw [List.mem_singleton.1 hr]
    exact (hf.1 _ (List.mem_cons_self ..)).2
  · rintro e w' ⟨u, L', ⟨rfl, _⟩, he, hc'⟩
    exact ⟨_, _, ⟨rfl, rfl⟩, he, ho.quiet hc'⟩

theorem attrD_spec {B : Nat} (ad : Nat → Addr) (tb : Nat) (ps : List (Option Nat)) (gs : List Int) (vl vg : Value) (T : TypeId) (Sl Sg : Nat → Prop) (l : List (Option ND)) (hl : ps.length = gs.length) (hr : ∀ x ∈ gs, 0 ≤ x ∧ x ≤ 1000000) (n g : Int) (k nb : Nat) (ki si li ch un ug : Int) (hk : l[k]? = some (some (⟨nb, ki, si, li, ch, un, ug, none⟩ : ND))) (ha : atOf ps gs n g = some nb)  : Spec Tryz.prog 37 #[.pointer (some ⟨tb, 0, none⟩), .agg #[.int .i64 n, .int .i64 g]] [rTab tb ps gs vl vg T Sl Sg, rNds l, rEnv B ad [10]] (fun u L => u = .tuple #[.agg #[.int .i64 ki, .int .i64 si, .int .i64 li, .int .i64 ch, .int .i64 un, .int .i64 ug], .nilIface] ∧ L = [rTab tb ps gs vl vg T Sl Sg, rNds l, rEnv B ad [10]]) := by
  refine spec_of (#[.pointer (some ⟨tb, 0, none⟩), .agg #[.int .i64 n, .int .i64 g], undef, undef, undef, undef, undef, undef, undef, undef, undef, undef, undef, undef, undef, undef, undef, undef, undef, undef, undef, undef, undef, undef, undef, undef, undef, undef, undef, undef, undef, undef, undef, undef, undef]) Tryz.func37 rfl (by kernel_rfl) fun E w0 w h => ?_
  refine c_seq ?_
  refine c_reg ?_
  refine sq_new rfl (fun b => .pointer (some ⟨b, 0, none⟩)) [.int .i64 n, .int .i64 g] 29 (fun _ => by kernel_rfl) h ?_; intro k1 w h
  refine sq_new rfl (fun b => .pointer (some ⟨b, 0, none⟩)) [.int .i64 0, .int .i64 0, .int .i64 0, .int .i64 0, .int .i64 0, .int .i64 0] 51 (fun _ => by kernel_rfl) h ?_; intro k2 w h
  refine sq_p (.nilIface) rfl (fun _ => by kernel_rfl) ?_
  refine lnil ?_
  refine thn_n ?_
  refine c_seq ?_
  refine c_reg ?_
  refine sq_p (.pointer (some ⟨tb, 0, none⟩)) rfl (fun _ => by kernel_rfl) ?_
  refine sq_q rfl h (g_ld 0 [.int .i64 n, .int .i64 g] (.agg #[.int .i64 n, .int .i64 g]) (by kernel_rfl) 1 rfl) ?_
  refine sq_call #[.pointer (some ⟨tb, 0, none⟩), .agg #[.int .i64 n, .int .i64 g]] [2, 3] rfl (nodesAt_spec ad tb nb n g ps gs vl vg T Sl Sg hl hr ha) (fun _ => by kernel_rfl) h ?_; rintro v_ L_ w ⟨rfl, rfl⟩ h
  have h := h.pickE (M := [rNds l, rTab tb ps gs vl vg T Sl Sg, rEnv B ad [10], rCell true k2 [.int .i64 0, .int .i64 0, .int .i64 0, .int .i64 0, .int .i64 0, .int .i64 0] 51, rCell true k1 [.int .i64 n, .int .i64 g] 29]) [4, 0, 0, 0, 0] (by kernel_rfl)
  have h := h.ndOpen hk
  have h : Own w0 E [rCell true nb [.int .i64 ki, .int .i64 si, .int .i64 li, .int .i64 ch, .int .i64 un, .int .i64 ug, .pointer none] 90, datRes none, rNdsO l k, rTab tb ps gs vl vg T Sl Sg, rEnv B ad [10], rCell true k2 [.int .i64 0, .int .i64 0, .int .i64 0, .int .i64 0, .int .i64 0, .int .i64 0] 51, rCell true k1 [.int .i64 n, .int .i64 g] 29] w := h
  refine sq_p (.tuple #[.pointer (some ⟨nb, 0, none⟩), .nilIface]) rfl (fun _ => by kernel_rfl) ?_
  refine sq_p (.pointer (some ⟨nb, 0, none⟩)) rfl (fun _ => by kernel_rfl) ?_
  refine sq_p (.nilIface) rfl (fun _ => by kernel_rfl) ?_
  refine sq_p (.pointer (some ⟨nb, 0, none⟩)) rfl (fun _ => by kernel_rfl) ?_
  refine sq_p (.nilIface) rfl (fun _ => by kernel_rfl) ?_
  refine lnil ?_
  refine thn_n ?_
  refine c_seq ?_
  refine c_seq ?_
  refine c_reg ?_
  refine sq_p (.nilIface) rfl (fun _ => by kernel_rfl) ?_
  refine sq_p (.bool false) rfl (fun _ => by kernel_rfl) ?_
  refine lnil ?_
  refine thn_n ?_
  refine c_false (by kernel_rfl) ?_
  refine c_skip ?_
  refine thn_n ?_
  refine c_seq ?_
  refine c_reg ?_
  refine sq_p (.pointer (some ⟨nb, 0, none⟩)) rfl (fun _ => by kernel_rfl) ?_
  refine sq_p (.pointer (some ⟨nb, 0, none⟩)) rfl (fun _ => by kernel_rfl) ?_
  refine sq_p (.pointer (some ⟨nb, 0, none⟩)) rfl (fun _ => by kernel_rfl) ?_
  refine sq_q rfl h (g_ld 0 [.int .i64 ki, .int .i64 si, .int .i64 li, .int .i64 ch, .int .i64 un, .int .i64 ug] (.agg #[.int .i64 ki, .int .i64 si, .int .i64 li, .int .i64 ch, .int .i64 un, .int .i64 ug]) (by kernel_rfl) 0 rfl) ?_
  refine sq_new rfl (fun b => .pointer (some ⟨b, 0, none⟩)) [.int .i64 0, .int .i64 0, .int .i64 0, .int .i64 0, .int .i64 0, .int .i64 0] 51 (fun _ => by kernel_rfl) h ?_; intro k3 w h
  refine sq_st rfl 0 [.int .i64 ki, .int .i64 si, .int .i64 li, .int .i64 ch, .int .i64 un, .int .i64 ug] [.int .i64 ki, .int .i64 si, .int .i64 li, .int .i64 ch, .int .i64 un, .int .i64 ug] h 0 rfl (by kernel_rfl) ?_; intro w h
  refine lnil ?_
  refine thn_n ?_
  refine c_seq ?_
  refine c_seq ?_
  refine c_reg ?_
  refine sq_p (.pointer (some ⟨nb, 0, none⟩)) rfl (fun _ => by kernel_rfl) ?_
  refine sq_p (.pointer (some ⟨nb, 0, none⟩)) rfl (fun _ => by kernel_rfl) ?_
  refine sq_p (.pointer (some ⟨nb, 6, none⟩)) rfl (fun _ => by kernel_rfl) ?_
  refine sq_q rfl h (g_ld 6 [.pointer none] (.pointer none) (by kernel_rfl) 1 rfl) ?_
  refine sq_p (.bool false) rfl (fun _ => by kernel_rfl) ?_
  refine lnil ?_
  refine thn_n ?_
  refine c_false (by kernel_rfl) ?_
  refine c_skip ?_
  refine thn_n ?_
  refine c_seq ?_
  refine c_reg ?_
  refine sq_q rfl h (g_ld 0 [.int .i64 ki, .int .i64 si, .int .i64 li, .int .i64 ch, .int .i64 un, .int .i64 ug] (.agg #[.int .i64 ki, .int .i64 si, .int .i64 li, .int .i64 ch, .int .i64 un, .int .i64 ug]) (by kernel_rfl) 0 rfl) ?_
  refine sq_st rfl 0 [.int .i64 ki, .int .i64 si, .int .i64 li, .int .i64 ch, .int .i64 un, .int .i64 ug] [.int .i64 ki, .int .i64 si, .int .i64 li, .int .i64 ch, .int .i64 un, .int .i64 ug] h 6 rfl (by kernel_rfl) ?_; intro w h
  refine sq_p (.nilIface) rfl (fun _ => by kernel_rfl) ?_
  refine lnil ?_
  refine thn_n ?_
  refine c_ret ?_
  have h := h.pickE (M := [rCell true nb [.int .i64 ki, .int .i64 si, .int .i64 li, .int .i64 ch, .int .i64 un, .int .i64 ug, .pointer none] 90, datRes none, rNdsO l k, rCell true k3 [.int .i64 ki, .int .i64 si, .int .i64 li, .int .i64 ch, .int .i64 un, .int .i64 ug] 51, rTab tb ps gs vl vg T Sl Sg, rEnv B ad [10], rCell true k2 [.int .i64 ki, .int .i64 si, .int .i64 li, .int .i64 ch, .int .i64 un, .int .i64 ug] 51, rCell true k1 [.int .i64 n, .int .i64 g] 29]) [1, 1, 1, 0, 0, 0, 0, 0] (by kernel_rfl)
  have h := h.ndBack (N := (⟨nb, ki, si, li, ch, un, ug, none⟩ : ND)) hk
  refine ret_end [.agg #[.int .i64 ki, .int .i64 si, .int .i64 li, .int .i64 ch, .int .i64 un, .int .i64 ug], .nilIface] [2, 0, 1] h (by kernel_rfl) (res_c 0 [.int .i64 ki, .int .i64 si, .int .i64 li, .int .i64 ch, .int .i64 un, .int .i64 ug] (.agg #[.int .i64 ki, .int .i64 si, .int .i64 li, .int .i64 ch, .int .i64 un, .int .i64 ug]) 4 rfl (by kernel_rfl) (res_t (by kernel_rfl) res_n)) ?_
  exact ⟨rfl, rfl⟩
theorem attrF_spec {B : Nat} (ad : Nat → Addr) (tb : Nat) (ps : List (Option Nat)) (gs : List Int) (vl vg : Value) (T : TypeId) (Sl Sg : Nat → Prop) (l : List (Option ND)) (hl : ps.length = gs.length) (hr : ∀ x ∈ gs, 0 ≤ x ∧ x ≤ 1000000) (n g : Int) (k nb : Nat) (ki si li ch un ug : Int) (q : DQ) (hk : l[k]? = some (some (⟨nb, ki, si, li, ch, un, ug, some q⟩ : ND))) (ha : atOf ps gs n g = some nb)  : Spec Tryz.prog 37 #[.pointer (some ⟨tb, 0, none⟩), .agg #[.int .i64 n, .int .i64 g]] [rTab tb ps gs vl vg T Sl Sg, rNds l, rEnv B ad [10]] (fun u L => u = .tuple #[.agg #[.int .i64 ki, .int .i64 q.size, .int .i64 li, .int .i64 ch, .int .i64 un, .int .i64 ug], .nilIface] ∧ L = [rTab tb ps gs vl vg T Sl Sg, rNds l, rEnv B ad [10]]) := by
  refine spec_of (#[.pointer (some ⟨tb, 0, none⟩), .agg #[.int .i64 n, .int .i64 g], undef, undef, undef, undef, undef, undef, undef, undef, undef, undef, undef, undef, undef, undef, undef, undef, undef, undef, undef, undef, undef, undef, undef, undef, undef, undef, undef, undef, undef, undef, undef, undef, undef]) Tryz.func37 rfl (by kernel_rfl) fun E w0 w h => ?_
  refine c_seq ?_
  refine c_reg ?_
  refine sq_new rfl (fun b => .pointer (some ⟨b, 0, none⟩)) [.int .i64 n, .int .i64 g] 29 (fun _ => by kernel_rfl) h ?_; intro k1 w h
  refine sq_new rfl (fun b => .pointer (some ⟨b, 0, none⟩)) [.int .i64 0, .int .i64 0, .int .i64 0, .int .i64 0, .int .i64 0, .int .i64 0] 51 (fun _ => by kernel_rfl) h ?_; intro k2 w h
  refine sq_p (.nilIface) rfl (fun _ => by kernel_rfl) ?_
  refine lnil ?_
  refine thn_n ?_
  refine c_seq ?_
  refine c_reg ?_
  refine sq_p (.pointer (some ⟨tb, 0, none⟩)) rfl (fun _ => by kernel_rfl) ?_
  refine sq_q rfl h (g_ld 0 [.int .i64 n, .int .i64 g] (.agg #[.int .i64 n, .int .i64 g]) (by kernel_rfl) 1 rfl) ?_
  refine sq_call #[.pointer (some ⟨tb, 0, none⟩), .agg #[.int .i64 n, .int .i64 g]] [2, 3] rfl (nodesAt_spec ad tb nb n g ps gs vl vg T Sl Sg hl hr ha) (fun _ => by kernel_rfl) h ?_; rintro v_ L_ w ⟨rfl, rfl⟩ h
  have h := h.pickE (M := [rNds l, rTab tb ps gs vl vg T Sl Sg, rEnv B ad [10], rCell true k2 [.int .i64 0, .int .i64 0, .int .i64 0, .int .i64 0, .int .i64 0, .int .i64 0] 51, rCell true k1 [.int .i64 n, .int .i64 g] 29]) [4, 0, 0, 0, 0] (by kernel_rfl)
  have h := h.ndOpen hk
  have h : Own w0 E [rCell true nb [.int .i64 ki, .int .i64 si, .int .i64 li, .int .i64 ch, .int .i64 un, .int .i64 ug, .pointer (some ⟨q.db, 0, none⟩)] 90, datRes (some q), rNdsO l k, rTab tb ps gs vl vg T Sl Sg, rEnv B ad [10], rCell true k2 [.int .i64 0, .int .i64 0, .int .i64 0, .int .i64 0, .int .i64 0, .int .i64 0] 51, rCell true k1 [.int .i64 n, .int .i64 g] 29] w := h
  refine sq_p (.tuple #[.pointer (some ⟨nb, 0, none⟩), .nilIface]) rfl (fun _ => by kernel_rfl) ?_
  refine sq_p (.pointer (some ⟨nb, 0, none⟩)) rfl (fun _ => by kernel_rfl) ?_
  refine sq_p (.nilIface) rfl (fun _ => by kernel_rfl) ?_
  refine sq_p (.pointer (some ⟨nb, 0, none⟩)) rfl (fun _ => by kernel_rfl) ?_
  refine sq_p (.nilIface) rfl (fun _ => by kernel_rfl) ?_
  refine lnil ?_
  refine thn_n ?_
  refine c_seq ?_
  refine c_seq ?_
  refine c_reg ?_
  refine sq_p (.nilIface) rfl (fun _ => by kernel_rfl) ?_
  refine sq_p (.bool false) rfl (fun _ => by kernel_rfl) ?_
  refine lnil ?_
  refine thn_n ?_
  refine c_false (by kernel_rfl) ?_
  refine c_skip ?_
  refine thn_n ?_
  refine c_seq ?_
  refine c_reg ?_
  refine sq_p (.pointer (some ⟨nb, 0, none⟩)) rfl (fun _ => by kernel_rfl) ?_
  refine sq_p (.pointer (some ⟨nb, 0, none⟩)) rfl (fun _ => by kernel_rfl) ?_
  refine sq_p (.pointer (some ⟨nb, 0, none⟩)) rfl (fun _ => by kernel_rfl) ?_
  refine sq_q rfl h (g_ld 0 [.int .i64 ki, .int .i64 si, .int .i64 li, .int .i64 ch, .int .i64 un, .int .i64 ug] (.agg #[.int .i64 ki, .int .i64 si, .int .i64 li, .int .i64 ch, .int .i64 un, .int .i64 ug]) (by kernel_rfl) 0 rfl) ?_
  refine sq_new rfl (fun b => .pointer (some ⟨b, 0, none⟩)) [.int .i64 0, .int .i64 0, .int .i64 0, .int .i64 0, .int .i64 0, .int .i64 0] 51 (fun _ => by kernel_rfl) h ?_; intro k3 w h
  refine sq_st rfl 0 [.int .i64 ki, .int .i64 si, .int .i64 li, .int .i64 ch, .int .i64 un, .int .i64 ug] [.int .i64 ki, .int .i64 si, .int .i64 li, .int .i64 ch, .int .i64 un, .int .i64 ug] h 0 rfl (by kernel_rfl) ?_; intro w h
  refine lnil ?_
  refine thn_n ?_
  refine c_seq ?_
  refine c_seq ?_
  refine c_reg ?_
  refine sq_p (.pointer (some ⟨nb, 0, none⟩)) rfl (fun _ => by kernel_rfl) ?_
  refine sq_p (.pointer (some ⟨nb, 0, none⟩)) rfl (fun _ => by kernel_rfl) ?_
  refine sq_p (.pointer (some ⟨nb, 6, none⟩)) rfl (fun _ => by kernel_rfl) ?_
  refine sq_q rfl h (g_ld 6 [.pointer (some ⟨q.db, 0, none⟩)] (.pointer (some ⟨q.db, 0, none⟩)) (by kernel_rfl) 1 rfl) ?_
  refine sq_p (.bool true) rfl (fun _ => by kernel_rfl) ?_
  refine lnil ?_
  refine thn_n ?_
  refine c_true (by kernel_rfl) ?_
  refine c_reg ?_
  refine sq_p (.pointer (some ⟨nb, 0, none⟩)) rfl (fun _ => by kernel_rfl) ?_
  refine sq_p (.pointer (some ⟨nb, 0, none⟩)) rfl (fun _ => by kernel_rfl) ?_
  refine sq_p (.pointer (some ⟨nb, 6, none⟩)) rfl (fun _ => by kernel_rfl) ?_
  refine sq_q rfl h (g_ld 6 [.pointer (some ⟨q.db, 0, none⟩)] (.pointer (some ⟨q.db, 0, none⟩)) (by kernel_rfl) 1 rfl) ?_
  refine sq_call #[.pointer (some ⟨q.db, 0, none⟩)] [2] rfl (sizeD_spec q) (fun _ => by kernel_rfl) h ?_; rintro v_ L_ w ⟨rfl, rfl⟩ h
  refine sq_p (.pointer (some ⟨k3, 1, none⟩)) rfl (fun _ => by kernel_rfl) ?_
  refine sq_st rfl 1 [.int .i64 q.size] [.int .i64 ki, .int .i64 q.size, .int .i64 li, .int .i64 ch, .int .i64 un, .int .i64 ug] h 1 rfl (by kernel_rfl) ?_; intro w h
  refine lnil ?_
  refine thn_n ?_
  refine c_seq ?_
  refine c_reg ?_
  refine sq_q rfl h (g_ld 0 [.int .i64 ki, .int .i64 q.size, .int .i64 li, .int .i64 ch, .int .i64 un, .int .i64 ug] (.agg #[.int .i64 ki, .int .i64 q.size, .int .i64 li, .int .i64 ch, .int .i64 un, .int .i64 ug]) (by kernel_rfl) 1 rfl) ?_
  refine sq_st rfl 0 [.int .i64 ki, .int .i64 q.size, .int .i64 li, .int .i64 ch, .int .i64 un, .int .i64 ug] [.int .i64 ki, .int .i64 q.size, .int .i64 li, .int .i64 ch, .int .i64 un, .int .i64 ug] h 6 rfl (by kernel_rfl) ?_; intro w h
  refine sq_p (.nilIface) rfl (fun _ => by kernel_rfl) ?_
  refine lnil ?_
  refine thn_n ?_
  refine c_ret ?_
  have h := h.pickE (M := [rCell true nb [.int .i64 ki, .int .i64 si, .int .i64 li, .int .i64 ch, .int .i64 un, .int .i64 ug, .pointer (some ⟨q.db, 0, none⟩)] 90, datRes (some q), rNdsO l k, rCell true k3 [.int .i64 ki, .int .i64 q.size, .int .i64 li, .int .i64 ch, .int .i64 un, .int .i64 ug] 51, rTab tb ps gs vl vg T Sl Sg, rEnv B ad [10], rCell true k2 [.int .i64 ki, .int .i64 q.size, .int .i64 li, .int .i64 ch, .int .i64 un, .int .i64 ug] 51, rCell true k1 [.int .i64 n, .int .i64 g] 29]) [2, 0, 1, 0, 0, 0, 0, 0] (by kernel_rfl)
  have h := h.ndBack (N := (⟨nb, ki, si, li, ch, un, ug, some q⟩ : ND)) hk
  refine ret_end [.agg #[.int .i64 ki, .int .i64 q.size, .int .i64 li, .int .i64 ch, .int .i64 un, .int .i64 ug], .nilIface] [2, 0, 1] h (by kernel_rfl) (res_c 0 [.int .i64 ki, .int .i64 q.size, .int .i64 li, .int .i64 ch, .int .i64 un, .int .i64 ug] (.agg #[.int .i64 ki, .int .i64 q.size, .int .i64 li, .int .i64 ch, .int .i64 un, .int .i64 ug]) 4 rfl (by kernel_rfl) (res_t (by kernel_rfl) res_n)) ?_
  exact ⟨rfl, rfl⟩

theorem attrY_spec {B : Nat} (ad : Nat → Addr) (tb : Nat) (ps : List (Option Nat)) (gs : List Int) (vl vg : Value) (T : TypeId) (Sl Sg : Nat → Prop) (l : List (Option ND)) (hl : ps.length = gs.length) (hr : ∀ x ∈ gs, 0 ≤ x ∧ x ≤ 1000000) (n g : Int) (k : Nat) (N : ND) (hlk : l[k]? = some (some N)) (ha : atOf ps gs n g = some N.nb) :
    Spec Tryz.prog 37 #[.pointer (some ⟨tb, 0, none⟩), .agg #[.int .i64 n, .int .i64 g]] [rTab tb ps gs vl vg T Sl Sg, rNds l, rEnv B ad [10]] fun u L => u = .tuple #[.agg #[.int .i64 N.kind, .int .i64 (ndSize N), .int .i64 N.links, .int .i64 N.change, .int .i64 N.upn, .int .i64 N.upg], .nilIface] ∧ L = [rTab tb ps gs vl vg T Sl Sg, rNds l, rEnv B ad [10]] := by
  obtain ⟨nb, ki, si, li, ch, un, ug, dq⟩ := N
  cases dq with
  | none => exact attrD_spec ad tb ps gs vl vg T Sl Sg l hl hr n g k nb ki si li ch un ug hlk ha
  | some q => exact attrF_spec ad tb ps gs vl vg T Sl Sg l hl hr n g k nb ki si li ch un ug q hlk ha

theorem dirY_spec {B : Nat} (ad : Nat → Addr) (b most tb dm pm : Nat) (ps : List (Option Nat)) (gs : List Int) (vl vg : Value) (T : TypeId) (Sl Sg : Nat → Prop) (l : List (Option ND)) (ds : List DN) (pn : List ((Int × Int) × Int)) (hl : ps.length = gs.length) (hr : ∀ x ∈ gs, 0 ≤ x ∧ x ≤ 1000000) (n g : Int) (k : Nat) (N : ND) (hlk : l[k]? = some (some N)) (ha : atOf ps gs n g = some N.nb) (j : Nat) (d : DN) (hj : ds[j]? = some d) (hdh : d.h = (n, g)) (hdd : (ds.map (·.h)).Nodup)  : Spec Tryz.prog 35 #[.pointer (some ⟨b, 0, none⟩), .agg #[.int .i64 n, .int .i64 g]] [rCell true b [.pointer (some ⟨tb, 0, none⟩), .int .i64 (most : Int), .int .i64 0, .int .i64 0, .map (some dm), .map (some pm)] 46, rTab tb ps gs vl vg T Sl Sg, rNds l, rMap true dm hk (ds.map dnKV), rEnv B ad [10]] (fun u L => u = .tuple #[.map (some d.mb), .nilIface] ∧ L = [rCell true b [.pointer (some ⟨tb, 0, none⟩), .int .i64 (most : Int), .int .i64 0, .int .i64 0, .map (some dm), .map (some pm)] 46, rTab tb ps gs vl vg T Sl Sg, rNds l, rMap true dm hk (ds.map dnKV), rEnv B ad [10]]) := by
  refine spec_of (#[.pointer (some ⟨b, 0, none⟩), .agg #[.int .i64 n, .int .i64 g], undef, undef, undef, undef, undef, undef, undef, undef, undef, undef, undef, undef, undef, undef, undef, undef, undef, undef, undef, undef, undef, undef, undef, undef, undef, undef, undef, undef, undef, undef, undef, undef, undef]) Tryz.func35 rfl (by kernel_rfl) fun E w0 w h => ?_
  refine c_seq ?_
  refine c_reg ?_
  refine sq_new rfl (fun b => .pointer (some ⟨b, 0, none⟩)) [.int .i64 n, .int .i64 g] 29 (fun _ => by kernel_rfl) h ?_; intro k1 w h
  refine sq_p (.map none) rfl (fun _ => by kernel_rfl) ?_
  refine sq_p (.nilIface) rfl (fun _ => by kernel_rfl) ?_
  refine lnil ?_
  refine thn_n ?_
  refine c_seq ?_
  refine c_seq ?_
  refine d_start 12 [0, 0] (by kernel_rfl) h fun w h => ?_
  refine d_take 0 528 [0, 0] rfl (v := .pointer (some ⟨b, 0, none⟩)) (by kernel_rfl) (qp_thn (qp_thn qp_body)) (yq (by kernel_rfl) (g_pure (v := .pointer (some ⟨b, 0, none⟩)) fun _ => by kernel_rfl)) h (by kernel_rfl) ?_
  refine d_take 1 529 [0, 0] rfl (v := .pointer (some ⟨b, 0, none⟩)) (by kernel_rfl) (qp_thn (qp_thn qp_body)) (yq (by kernel_rfl) (g_pure (v := .pointer (some ⟨b, 0, none⟩)) fun _ => by kernel_rfl)) h (by kernel_rfl) ?_
  refine d_take 2 531 [0, 0] rfl (v := .pointer (some ⟨b, 0, none⟩)) (by kernel_rfl) (qp_thn (qp_thn qp_body)) (yq (by kernel_rfl) (g_pure (v := .pointer (some ⟨b, 0, none⟩)) fun _ => by kernel_rfl)) h (by kernel_rfl) ?_
  refine d_take 3 535 [0, 0] rfl (v := .pointer (some ⟨tb, 0, none⟩)) (by kernel_rfl) (qp_thn (qp_thn qp_body)) (yq (by kernel_rfl) (g_ld 0 [.pointer (some ⟨tb, 0, none⟩)] (.pointer (some ⟨tb, 0, none⟩)) (by kernel_rfl) 1 rfl)) h (by kernel_rfl) ?_
  refine d_take 4 527 [0, 0] rfl (v := .agg #[.int .i64 n, .int .i64 g]) (by kernel_rfl) (qp_thn (qp_thn qp_body)) (yq (by kernel_rfl) (g_ld 0 [.int .i64 n, .int .i64 g] (.agg #[.int .i64 n, .int .i64 g]) (by kernel_rfl) 0 rfl)) h (by kernel_rfl) ?_
  refine d_ready [5, 9] (by kernel_rfl) rfl ?_
  refine ad_call #[.pointer (some ⟨tb, 0, none⟩), .agg #[.int .i64 n, .int .i64 g]] [2, 2, 3] [3, 3] rfl (by kernel_rfl) (attrY_spec ad tb ps gs vl vg T Sl Sg l hl hr n g k N hlk ha) (fun _ => by kernel_rfl) h ?_ ?_
  · skip
    rintro v_ L_ w ⟨rfl, rfl⟩ h
    refine ⟨by kernel_rfl, ?_⟩
    refine d_take 6 575 [3, 3] rfl (v := .tuple #[.agg #[.int .i64 N.kind, .int .i64 (ndSize N), .int .i64 N.links, .int .i64 N.change, .int .i64 N.upn, .int .i64 N.upg], .nilIface]) (by kernel_rfl) (qp_thn (qp_thn qp_body)) (yq (by kernel_rfl) (g_pure (v := .tuple #[.agg #[.int .i64 N.kind, .int .i64 (ndSize N), .int .i64 N.links, .int .i64 N.change, .int .i64 N.upn, .int .i64 N.upg], .nilIface]) fun _ => by kernel_rfl)) h (by kernel_rfl) ?_
    refine d_take 7 895 [3, 3] rfl (v := .agg #[.int .i64 N.kind, .int .i64 (ndSize N), .int .i64 N.links, .int .i64 N.change, .int .i64 N.upn, .int .i64 N.upg]) (by kernel_rfl) (qp_thn (qp_thn qp_body)) (yq (by kernel_rfl) (g_pure (v := .agg #[.int .i64 N.kind, .int .i64 (ndSize N), .int .i64 N.links, .int .i64 N.change, .int .i64 N.upn, .int .i64 N.upg]) fun _ => by kernel_rfl)) h (by kernel_rfl) ?_
    refine d_take 8 1791 [3, 3] rfl (v := .nilIface) (by kernel_rfl) (qp_thn (qp_thn qp_body)) (yq (by kernel_rfl) (g_pure (v := .nilIface) fun _ => by kernel_rfl)) h (by kernel_rfl) ?_
    refine d_ready [9] (by kernel_rfl) rfl ?_
    refine ad_new [4, 4] rfl (by kernel_rfl) (fun b => .pointer (some ⟨b, 0, none⟩)) [.int .i64 0, .int .i64 0, .int .i64 0, .int .i64 0, .int .i64 0, .int .i64 0] 51 (fun _ => by kernel_rfl) h ?_ ?_
    · skip
      intro k2 w h; refine ⟨by kernel_rfl, ?_⟩
      refine d_ready [10] (by kernel_rfl) rfl ?_
      refine ad_st [4, 4] rfl (by kernel_rfl) 0 [.int .i64 N.kind, .int .i64 (ndSize N), .int .i64 N.links, .int .i64 N.change, .int .i64 N.upn, .int .i64 N.upg] [.int .i64 N.kind, .int .i64 (ndSize N), .int .i64 N.links, .int .i64 N.change, .int .i64 N.upn, .int .i64 N.upg] h 0 rfl (by kernel_rfl) ?_ ?_
      · skip
        intro w h; refine ⟨by kernel_rfl, ?_⟩
        refine d_take 11 2047 [4, 4] rfl (v := .nilIface) (by kernel_rfl) (qp_thn (qp_thn qp_body)) (yq (by kernel_rfl) (g_pure (v := .nilIface) fun _ => by kernel_rfl)) h (by kernel_rfl) ?_
        refine d_done (by kernel_rfl) ?_
        refine thn_n ?_
        refine c_seq ?_
        refine c_reg ?_
        refine sq_p (.nilIface) rfl (fun _ => by kernel_rfl) ?_
        refine sq_p (.bool false) rfl (fun _ => by kernel_rfl) ?_
        refine lnil ?_
        refine thn_n ?_
        refine c_false (by kernel_rfl) ?_
        refine c_skip ?_
        refine thn_n ?_
        refine c_seq ?_
        refine d_start 11 [4, 4, 4] (by kernel_rfl) h fun w h => ?_
        refine d_take 0 16 [4, 4, 4] rfl (v := .pointer (some ⟨b, 0, none⟩)) (by kernel_rfl) (qp_thn qp_body) (yq (by kernel_rfl) (g_pure (v := .pointer (some ⟨b, 0, none⟩)) fun _ => by kernel_rfl)) h (by kernel_rfl) ?_
        refine d_take 1 17 [4, 4, 4] rfl (v := .pointer (some ⟨b, 0, none⟩)) (by kernel_rfl) (qp_thn qp_body) (yq (by kernel_rfl) (g_pure (v := .pointer (some ⟨b, 0, none⟩)) fun _ => by kernel_rfl)) h (by kernel_rfl) ?_
        refine d_take 2 19 [4, 4, 4] rfl (v := .pointer (some ⟨b, 4, none⟩)) (by kernel_rfl) (qp_thn qp_body) (yq (by kernel_rfl) (g_pure (v := .pointer (some ⟨b, 4, none⟩)) fun _ => by kernel_rfl)) h (by kernel_rfl) ?_
        refine d_take 3 23 [4, 4, 4] rfl (v := .map (some dm)) (by kernel_rfl) (qp_thn qp_body) (yq (by kernel_rfl) (g_ld 4 [.map (some dm)] (.map (some dm)) (by kernel_rfl) 1 rfl)) h (by kernel_rfl) ?_
        refine d_take 4 15 [4, 4, 4] rfl (v := .agg #[.int .i64 n, .int .i64 g]) (by kernel_rfl) (qp_thn qp_body) (yq (by kernel_rfl) (g_ld 0 [.int .i64 n, .int .i64 g] (.agg #[.int .i64 n, .int .i64 g]) (by kernel_rfl) 0 rfl)) h (by kernel_rfl) ?_
        refine d_take 5 31 [4, 4, 4] rfl (v := .tuple #[.map (some d.mb), .bool true]) (by kernel_rfl) (qp_thn qp_body) (yq (by kernel_rfl) (g_eq (v' := .tuple #[.map (some d.mb), .bool true]) (g_look (K := 29) (E := 48) (z := (.map none)) (kv := (ds.map dnKV)) (ok := true) keyHk (n, g) (by kernel_rfl) (fun _ => by kernel_rfl) 2 rfl) (by rw [show aget (ds.map dnKV) (n, g) = _ from hdh ▸ dir_get hdd hj]; rfl))) h (by kernel_rfl) ?_
        refine d_take 6 63 [4, 4, 4] rfl (v := .tuple #[.map (some d.mb), .bool true]) (by kernel_rfl) (qp_thn qp_body) (yq (by kernel_rfl) (g_pure (v := .tuple #[.map (some d.mb), .bool true]) fun _ => by kernel_rfl)) h (by kernel_rfl) ?_
        refine d_take 7 383 [4, 4, 4] rfl (v := .map (some d.mb)) (by kernel_rfl) (qp_thn qp_body) (yq (by kernel_rfl) (g_pure (v := .map (some d.mb)) fun _ => by kernel_rfl)) h (by kernel_rfl) ?_
        refine d_take 8 767 [4, 4, 4] rfl (v := .bool true) (by kernel_rfl) (qp_thn qp_body) (yq (by kernel_rfl) (g_pure (v := .bool true) fun _ => by kernel_rfl)) h (by kernel_rfl) ?_
        refine d_take 9 511 [4, 4, 4] rfl (v := .map (some d.mb)) (by kernel_rfl) (qp_thn qp_body) (yq (by kernel_rfl) (g_pure (v := .map (some d.mb)) fun _ => by kernel_rfl)) h (by kernel_rfl) ?_
        refine d_take 10 1023 [4, 4, 4] rfl (v := .bool true) (by kernel_rfl) (qp_thn qp_body) (yq (by kernel_rfl) (g_pure (v := .bool true) fun _ => by kernel_rfl)) h (by kernel_rfl) ?_
        refine d_done (by kernel_rfl) ?_
        refine thn_n ?_
        refine c_seq ?_
        refine c_seq ?_
        refine c_reg ?_
        refine sq_p (.bool true) rfl (fun _ => by kernel_rfl) ?_
        refine sq_p (.bool false) rfl (fun _ => by kernel_rfl) ?_
        refine lnil ?_
        refine thn_n ?_
        refine c_false (by kernel_rfl) ?_
        refine c_skip ?_
        refine thn_n ?_
        refine c_seq ?_
        refine c_reg ?_
        refine sq_p (.map (some d.mb)) rfl (fun _ => by kernel_rfl) ?_
        refine sq_p (.map (some d.mb)) rfl (fun _ => by kernel_rfl) ?_
        refine sq_p (.nilIface) rfl (fun _ => by kernel_rfl) ?_
        refine lnil ?_
        refine thn_n ?_
        refine c_ret ?_
        refine ret_end [.map (some d.mb), .nilIface] [5, 1, 1, 3, 1] h (by kernel_rfl) (res_t (by kernel_rfl) (res_t (by kernel_rfl) res_n)) ?_
        exact ⟨rfl, rfl⟩
      exact ad_nil
    exact ad_nil
  refine ad_new [1, 1] rfl (by kernel_rfl) (fun b => .pointer (some ⟨b, 0, none⟩)) [.int .i64 0, .int .i64 0, .int .i64 0, .int .i64 0, .int .i64 0, .int .i64 0] 51 (fun _ => by kernel_rfl) h ?_ ?_
  · skip
    intro k3 w h; refine ⟨by kernel_rfl, ?_⟩
    refine d_ready [5] (by kernel_rfl) rfl ?_
    refine ad_call #[.pointer (some ⟨tb, 0, none⟩), .agg #[.int .i64 n, .int .i64 g]] [3, 3, 4] [4, 4] rfl (by kernel_rfl) (attrY_spec ad tb ps gs vl vg T Sl Sg l hl hr n g k N hlk ha) (fun _ => by kernel_rfl) h ?_ ?_
    · skip
      rintro v_ L_ w ⟨rfl, rfl⟩ h
      refine ⟨by kernel_rfl, ?_⟩
      refine d_take 6 575 [4, 4] rfl (v := .tuple #[.agg #[.int .i64 N.kind, .int .i64 (ndSize N), .int .i64 N.links, .int .i64 N.change, .int .i64 N.upn, .int .i64 N.upg], .nilIface]) (by kernel_rfl) (qp_thn (qp_thn qp_body)) (yq (by kernel_rfl) (g_pure (v := .tuple #[.agg #[.int .i64 N.kind, .int .i64 (ndSize N), .int .i64 N.links, .int .i64 N.change, .int .i64 N.upn, .int .i64 N.upg], .nilIface]) fun _ => by kernel_rfl)) h (by kernel_rfl) ?_
      refine d_take 7 895 [4, 4] rfl (v := .agg #[.int .i64 N.kind, .int .i64 (ndSize N), .int .i64 N.links, .int .i64 N.change, .int .i64 N.upn, .int .i64 N.upg]) (by kernel_rfl) (qp_thn (qp_thn qp_body)) (yq (by kernel_rfl) (g_pure (v := .agg #[.int .i64 N.kind, .int .i64 (ndSize N), .int .i64 N.links, .int .i64 N.change, .int .i64 N.upn, .int .i64 N.upg]) fun _ => by kernel_rfl)) h (by kernel_rfl) ?_
      refine d_take 8 1791 [4, 4] rfl (v := .nilIface) (by kernel_rfl) (qp_thn (qp_thn qp_body)) (yq (by kernel_rfl) (g_pure (v := .nilIface) fun _ => by kernel_rfl)) h (by kernel_rfl) ?_
      refine d_ready [10] (by kernel_rfl) rfl ?_
      refine ad_st [4, 4] rfl (by kernel_rfl) 0 [.int .i64 N.kind, .int .i64 (ndSize N), .int .i64 N.links, .int .i64 N.change, .int .i64 N.upn, .int .i64 N.upg] [.int .i64 N.kind, .int .i64 (ndSize N), .int .i64 N.links, .int .i64 N.change, .int .i64 N.upn, .int .i64 N.upg] h 3 rfl (by kernel_rfl) ?_ ?_
      · skip
        intro w h; refine ⟨by kernel_rfl, ?_⟩
        refine d_take 11 2047 [4, 4] rfl (v := .nilIface) (by kernel_rfl) (qp_thn (qp_thn qp_body)) (yq (by kernel_rfl) (g_pure (v := .nilIface) fun _ => by kernel_rfl)) h (by kernel_rfl) ?_
        refine d_done (by kernel_rfl) ?_
        refine thn_n ?_
        refine c_seq ?_
        refine c_reg ?_
        refine sq_p (.nilIface) rfl (fun _ => by kernel_rfl) ?_
        refine sq_p (.bool false) rfl (fun _ => by kernel_rfl) ?_
        refine lnil ?_
        refine thn_n ?_
        refine c_false (by kernel_rfl) ?_
        refine c_skip ?_
        refine thn_n ?_
        refine c_seq ?_
        refine d_start 11 [4, 4, 4] (by kernel_rfl) h fun w h => ?_
        refine d_take 0 16 [4, 4, 4] rfl (v := .pointer (some ⟨b, 0, none⟩)) (by kernel_rfl) (qp_thn qp_body) (yq (by kernel_rfl) (g_pure (v := .pointer (some ⟨b, 0, none⟩)) fun _ => by kernel_rfl)) h (by kernel_rfl) ?_
        refine d_take 1 17 [4, 4, 4] rfl (v := .pointer (some ⟨b, 0, none⟩)) (by kernel_rfl) (qp_thn qp_body) (yq (by kernel_rfl) (g_pure (v := .pointer (some ⟨b, 0, none⟩)) fun _ => by kernel_rfl)) h (by kernel_rfl) ?_
        refine d_take 2 19 [4, 4, 4] rfl (v := .pointer (some ⟨b, 4, none⟩)) (by kernel_rfl) (qp_thn qp_body) (yq (by kernel_rfl) (g_pure (v := .pointer (some ⟨b, 4, none⟩)) fun _ => by kernel_rfl)) h (by kernel_rfl) ?_
        refine d_take 3 23 [4, 4, 4] rfl (v := .map (some dm)) (by kernel_rfl) (qp_thn qp_body) (yq (by kernel_rfl) (g_ld 4 [.map (some dm)] (.map (some dm)) (by kernel_rfl) 1 rfl)) h (by kernel_rfl) ?_
        refine d_take 4 15 [4, 4, 4] rfl (v := .agg #[.int .i64 n, .int .i64 g]) (by kernel_rfl) (qp_thn qp_body) (yq (by kernel_rfl) (g_ld 0 [.int .i64 n, .int .i64 g] (.agg #[.int .i64 n, .int .i64 g]) (by kernel_rfl) 0 rfl)) h (by kernel_rfl) ?_
        refine d_take 5 31 [4, 4, 4] rfl (v := .tuple #[.map (some d.mb), .bool true]) (by kernel_rfl) (qp_thn qp_body) (yq (by kernel_rfl) (g_eq (v' := .tuple #[.map (some d.mb), .bool true]) (g_look (K := 29) (E := 48) (z := (.map none)) (kv := (ds.map dnKV)) (ok := true) keyHk (n, g) (by kernel_rfl) (fun _ => by kernel_rfl) 2 rfl) (by rw [show aget (ds.map dnKV) (n, g) = _ from hdh ▸ dir_get hdd hj]; rfl))) h (by kernel_rfl) ?_
        refine d_take 6 63 [4, 4, 4] rfl (v := .tuple #[.map (some d.mb), .bool true]) (by kernel_rfl) (qp_thn qp_body) (yq (by kernel_rfl) (g_pure (v := .tuple #[.map (some d.mb), .bool true]) fun _ => by kernel_rfl)) h (by kernel_rfl) ?_
        refine d_take 7 383 [4, 4, 4] rfl (v := .map (some d.mb)) (by kernel_rfl) (qp_thn qp_body) (yq (by kernel_rfl) (g_pure (v := .map (some d.mb)) fun _ => by kernel_rfl)) h (by kernel_rfl) ?_
        refine d_take 8 767 [4, 4, 4] rfl (v := .bool true) (by kernel_rfl) (qp_thn qp_body) (yq (by kernel_rfl) (g_pure (v := .bool true) fun _ => by kernel_rfl)) h (by kernel_rfl) ?_
        refine d_take 9 511 [4, 4, 4] rfl (v := .map (some d.mb)) (by kernel_rfl) (qp_thn qp_body) (yq (by kernel_rfl) (g_pure (v := .map (some d.mb)) fun _ => by kernel_rfl)) h (by kernel_rfl) ?_
        refine d_take 10 1023 [4, 4, 4] rfl (v := .bool true) (by kernel_rfl) (qp_thn qp_body) (yq (by kernel_rfl) (g_pure (v := .bool true) fun _ => by kernel_rfl)) h (by kernel_rfl) ?_
        refine d_done (by kernel_rfl) ?_
        refine thn_n ?_
        refine c_seq ?_
        refine c_seq ?_
        refine c_reg ?_
        refine sq_p (.bool true) rfl (fun _ => by kernel_rfl) ?_
        refine sq_p (.bool false) rfl (fun _ => by kernel_rfl) ?_
        refine lnil ?_
        refine thn_n ?_
        refine c_false (by kernel_rfl) ?_
        refine c_skip ?_
        refine thn_n ?_
        refine c_seq ?_
        refine c_reg ?_
        refine sq_p (.map (some d.mb)) rfl (fun _ => by kernel_rfl) ?_
        refine sq_p (.map (some d.mb)) rfl (fun _ => by kernel_rfl) ?_
        refine sq_p (.nilIface) rfl (fun _ => by kernel_rfl) ?_
        refine lnil ?_
        refine thn_n ?_
        refine c_ret ?_
        refine ret_end [.map (some d.mb), .nilIface] [5, 0, 0, 3, 0] h (by kernel_rfl) (res_t (by kernel_rfl) (res_t (by kernel_rfl) res_n)) ?_
        exact ⟨rfl, rfl⟩
      exact ad_nil
    exact ad_nil
  exact ad_nil

theorem checkY_spec {B : Nat} (ad : Nat → Addr) (s : ByteArray) (hs : s.size ≤ 9223372036854775807) (hok : nameOk s) : Spec Tryz.prog 36 #[.string s] [rEnv B ad [4]] fun u L => u = .nilIface ∧ L = [rEnv B ad [4]] :=
  (check_two ad s hs).mono fun u L h => by
    rcases h with ⟨_, h1, h2⟩ | ⟨h0, _⟩
    · exact ⟨h1, h2⟩
    · exact absurd hok h0

theorem namedY_spec {B : Nat} (ad : Nat → Addr) (b most tb dm pm : Nat) (ps : List (Option Nat)) (gs : List Int) (vl vg : Value) (T : TypeId) (Sl Sg : Nat → Prop) (l : List (Option ND)) (ds : List DN) (pn : List ((Int × Int) × Int)) (hl : ps.length = gs.length) (hr : ∀ x ∈ gs, 0 ≤ x ∧ x ≤ 1000000) (n g : Int) (k : Nat) (N : ND) (hlk : l[k]? = some (some N)) (ha : atOf ps gs n g = some N.nb) (j : Nat) (d : DN) (hj : ds[j]? = some d) (hdh : d.h = (n, g)) (hdd : (ds.map (·.h)).Nodup) (s : ByteArray) (hs : s.size ≤ 9223372036854775807) (hok : nameOk s)  : Spec Tryz.prog 16 #[.pointer (some ⟨b, 0, none⟩), .agg #[.int .i64 n, .int .i64 g], .string s] [rCell true b [.pointer (some ⟨tb, 0, none⟩), .int .i64 (most : Int), .int .i64 0, .int .i64 0, .map (some dm), .map (some pm)] 46, rTab tb ps gs vl vg T Sl Sg, rNds l, rMap true dm hk (ds.map dnKV), rEnv B ad [10], rEnv B ad [4]] (fun u L => u = .tuple #[.map (some d.mb), .nilIface] ∧ L = [rCell true b [.pointer (some ⟨tb, 0, none⟩), .int .i64 (most : Int), .int .i64 0, .int .i64 0, .map (some dm), .map (some pm)] 46, rTab tb ps gs vl vg T Sl Sg, rNds l, rMap true dm hk (ds.map dnKV), rEnv B ad [10], rEnv B ad [4]]) := by
  refine spec_of (#[.pointer (some ⟨b, 0, none⟩), .agg #[.int .i64 n, .int .i64 g], .string s, undef, undef, undef, undef, undef, undef, undef, undef, undef, undef, undef, undef, undef, undef, undef, undef, undef, undef, undef]) Tryz.func16 rfl (by kernel_rfl) fun E w0 w h => ?_
  refine c_seq ?_
  refine c_reg ?_
  refine sq_new rfl (fun b => .pointer (some ⟨b, 0, none⟩)) [.int .i64 n, .int .i64 g] 29 (fun _ => by kernel_rfl) h ?_; intro k1 w h
  refine sq_p (.map none) rfl (fun _ => by kernel_rfl) ?_
  refine sq_p (.nilIface) rfl (fun _ => by kernel_rfl) ?_
  refine lnil ?_
  refine thn_n ?_
  refine c_seq ?_
  refine c_reg ?_
  refine sq_p (.pointer (some ⟨b, 0, none⟩)) rfl (fun _ => by kernel_rfl) ?_
  refine sq_q rfl h (g_ld 0 [.int .i64 n, .int .i64 g] (.agg #[.int .i64 n, .int .i64 g]) (by kernel_rfl) 0 rfl) ?_
  refine sq_call #[.pointer (some ⟨b, 0, none⟩), .agg #[.int .i64 n, .int .i64 g]] [1, 1, 1, 1, 1] rfl (dirY_spec ad b most tb dm pm ps gs vl vg T Sl Sg l ds pn hl hr n g k N hlk ha j d hj hdh hdd) (fun _ => by kernel_rfl) h ?_; rintro v_ L_ w ⟨rfl, rfl⟩ h
  refine sq_p (.tuple #[.map (some d.mb), .nilIface]) rfl (fun _ => by kernel_rfl) ?_
  refine sq_p (.map (some d.mb)) rfl (fun _ => by kernel_rfl) ?_
  refine sq_p (.nilIface) rfl (fun _ => by kernel_rfl) ?_
  refine sq_p (.map (some d.mb)) rfl (fun _ => by kernel_rfl) ?_
  refine sq_p (.nilIface) rfl (fun _ => by kernel_rfl) ?_
  refine lnil ?_
  refine thn_n ?_
  refine c_seq ?_
  refine c_seq ?_
  refine c_reg ?_
  refine sq_p (.nilIface) rfl (fun _ => by kernel_rfl) ?_
  refine sq_p (.bool false) rfl (fun _ => by kernel_rfl) ?_
  refine lnil ?_
  refine thn_n ?_
  refine c_false (by kernel_rfl) ?_
  refine c_skip ?_
  refine thn_n ?_
  refine c_seq ?_
  refine c_reg ?_
  refine sq_p (.map (some d.mb)) rfl (fun _ => by kernel_rfl) ?_
  refine sq_p (.string s) rfl (fun _ => by kernel_rfl) ?_
  refine sq_call #[.string s] [6] rfl (checkY_spec ad s hs hok) (fun _ => by kernel_rfl) h ?_; rintro v_ L_ w ⟨rfl, rfl⟩ h
  refine sq_p (.map (some d.mb)) rfl (fun _ => by kernel_rfl) ?_
  refine sq_p (.nilIface) rfl (fun _ => by kernel_rfl) ?_
  refine lnil ?_
  refine thn_n ?_
  refine c_ret ?_
  refine ret_end [.map (some d.mb), .nilIface] [1, 1, 1, 1, 1, 0] h (by kernel_rfl) (res_t (by kernel_rfl) (res_t (by kernel_rfl) res_n)) ?_
  exact ⟨rfl, rfl⟩

end Go.Proofs.YtbdolnbgjkhdnaaGreatDoor
