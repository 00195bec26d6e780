/- Lemmas: part 2. -/
import Derived.Test.YtpojpkhpddnmjaaGreatDoorL1
import Derived.LaidEql
import Derived.Stop.Asserts
import Derived.RowKitTokens
import Derived.Lib.SliceRun
import Derived.Laws.IdiomCopy
import Derived.IntWalk
import Derived.Lib.ConvBytes
import Derived.Deep.RegionHeld3
set_option linter.all false
set_option maxRecDepth 100000
set_option maxHeartbeats 20000000
namespace Go.Proofs.YtpojpkhpddnmjaaGreatDoor
open Go.RowKit
section
open Go.RowKit Go.Extern.Stop Go.Stop Go.Extern
theorem Mg (t:Addr) (w:World):(ReflectliteValue.unpack (.iface 161 (.pointer (some t)))).run Tryz.prog w
    = .ok (.agg #[.pointer (some ⟨16,161,none⟩),.pointer (some ⟨w.heap.size,0,none⟩),.int .u64 150]) (w.alloc (.cells #[.pointer (some t)] 161)):=by kernel_rfl
theorem Rm (a : Addr) (w : World) : (ReflectliteValue.methodAny (ReflectliteValue.valueError "reflectlite.Value.Type" 0) (fun t _ _ _ => ReflectliteType.toType t) #[.agg #[.pointer (some ⟨16, 161, none⟩), .pointer (some a), .int .u64 150]]).run Tryz.prog w
    = .ok (.iface 197 (.agg #[.pointer (some ⟨16,161,none⟩)])) w:=by kernel_rfl
theorem Lm (h : Value) (w : World) : (Go.method 364 197 (.agg #[h]) "Kind").run Tryz.prog w = .ok (141, h) w := by kernel_rfl
theorem Q5 (w:World):((ReflectliteType.abiMethod fun t=>(fun a:Nat=>Value.int IntKind.u8 (a:Int)) <$> Rtype.kind t) #[.pointer (some ⟨16,161,none⟩)]).run Tryz.prog w=.ok (.int .u8 22) w:=by kernel_rfl
theorem Q4 (w:World):((ReflectliteType.abiMethod fun t=>(fun a:Nat=>Value.int IntKind.u8 (a:Int)) <$> Rtype.kind t) #[.pointer (some ⟨16,127,none⟩)]).run Tryz.prog w=.ok (.int .u8 22) w:=by kernel_rfl
theorem rlm (z:Sem Value) (f:TypeId→Addr→Nat→Nat→Sem Value) (v:Value) :
    ReflectliteValue.method z f #[v]=(do match ← ReflectliteValue.parts v with|none=>z|some (t,a,fl)=>f t a fl (fl % 32)):=rfl
theorem Pc (a:Addr) (w:World):(ReflectliteValue.parts (.agg #[.pointer (some ⟨16,161,none⟩),.pointer (some a),.int .u64 150])).run Tryz.prog w=.ok (some (161,a,150)) w:=by kernel_rfl
theorem Pv (a p:Addr) (W:World) (ha:W.cell? a=some (.pointer (some p))) :
    (ReflectliteValue.method (ReflectliteValue.valueError "reflectlite.Value.IsNil" 0) ReflectliteValue.isNil #[.agg #[.pointer (some ⟨16, 161, none⟩), .pointer (some a), .int .u64 150]]).run Tryz.prog W = .ok (.bool false) W := by
  rw [rlm]
  simp only [Sem.run_bind,Pc,Result.andThen]
  simp [ReflectliteValue.isNil,loadVar,isAgg,underlying,Tryz.underlying161,ha,Result.andThen]
theorem Ll (h : Value) (w : World) : (Go.method 364 197 (.agg #[h]) "Elem").run Tryz.prog w = .ok (155, .agg #[h]) w := by kernel_rfl
theorem Hw (h : Value) (w : World) : (Go.method 364 197 (.agg #[h]) "Implements").run Tryz.prog w = .ok (156, .agg #[h]) w := by kernel_rfl
theorem G8 (h : Value) (w : World) : (Go.method 364 197 (.agg #[h]) "AssignableTo").run Tryz.prog w = .ok (153, .agg #[h]) w := by kernel_rfl
theorem Rc (w:World):(ReflectliteType.method ReflectliteType.elem #[.agg #[.pointer (some ⟨16,161,none⟩)]]).run Tryz.prog w=.ok (.iface 197 (.agg #[.pointer (some ⟨16,127,none⟩)])) w:=by kernel_rfl
theorem Jw (w : World) : (ReflectliteType.relation "Implements" ReflectliteType.implements_ #[.agg #[.pointer (some ⟨16, 127, none⟩)], .iface 197 (.agg #[.pointer (some ⟨16, 27, none⟩)])]).run Tryz.prog w = .ok (.bool true) w := by kernel_rfl
theorem Vc (v:Value) (w:World):(ReflectliteType.typeOf #[.iface 127 v]).run Tryz.prog w=.ok (.iface 197 (.agg #[.pointer (some ⟨16,127,none⟩)])) w:=by kernel_rfl
theorem Nz (w : World) : (ReflectliteType.relation "AssignableTo" ReflectliteType.assignableTo #[.agg #[.pointer (some ⟨16, 127, none⟩)], .iface 197 (.agg #[.pointer (some ⟨16, 127, none⟩)])]).run Tryz.prog w = .ok (.bool true) w := by kernel_rfl
theorem R5 (e:Addr) (w:World):(ReflectliteValue.unpack (.iface 127 (.pointer (some e)))).run Tryz.prog w
    = .ok (.agg #[.pointer (some ⟨16,127,none⟩),.pointer (some ⟨w.heap.size,0,none⟩),.int .u64 150]) (w.alloc (.cells #[.pointer (some e)] 127)):=by kernel_rfl
theorem Tw (w:World):(Rtype.elem? 161).run Tryz.prog w=.ok (some 127) w:=by kernel_rfl
theorem Aeq (p:Addr) (w:World):(ReflectliteValue.mk 127 p ReflectliteValue.flagAddr).run Tryz.prog w=.ok (.agg #[.pointer (some ⟨16,127,none⟩),.pointer (some p),.int .u64 406]) w:=by kernel_rfl
theorem Xr (a p:Addr) (W:World) (ha:W.cell? a=some (.pointer (some p))) :
    (ReflectliteValue.method (ReflectliteValue.valueError "reflectlite.Value.Elem" 0) ReflectliteValue.elem #[.agg #[.pointer (some ⟨16, 161, none⟩), .pointer (some a), .int .u64 150]]).run Tryz.prog W
      = .ok (.agg #[.pointer (some ⟨16,127,none⟩),.pointer (some p),.int .u64 406]) W:=by
  rw [rlm]
  simp only [Sem.run_bind,Pc,Result.andThen]
  simp [ReflectliteValue.elem,loadVar,isAgg,underlying,Tryz.underlying161,ha,Result.andThen,Tw,Aeq]
theorem rls (v x:Value):ReflectliteValue.set #[v,x]=(do
    let (some (dst,a,fl),some (src,b,_)):=(← ReflectliteValue.parts v,← ReflectliteValue.parts x)
      | unsupported (.noEntry "extern/(internal/reflectlite.Value).Set.zeroValue")
    if fl / ReflectliteValue.flagAddr % 2 == 0 then unsupported (.noEntry "extern/(internal/reflectlite.Value).Set.unaddressable")
    let val ← loadVar src b
    if ← Rtype.directlyAssignable dst src then storeVar dst a val
    else if ← Rtype.implements dst src then
      if (← Rtype.kind src)==20 then
        match val with
        | .nilIface => unsupported (.noEntry "extern/reflectlite: a nil value of one interface type handed on as a value of another")
        | _=>storeVar dst a val
      else storeVar dst a (.iface src val)
    else panicString ("reflectlite.Set: value of type " ++ (← Rtype.spelt src) ++ " is not assignable to type " ++ (← Rtype.spelt dst))
    pure (.tuple #[])):=rfl
theorem Vr (a:Addr) (w:World):(ReflectliteValue.parts (.agg #[.pointer (some ⟨16,127,none⟩),.pointer (some a),.int .u64 406])).run Tryz.prog w=.ok (some (127,a,406)) w:=by kernel_rfl
theorem V6 (a:Addr) (w:World):(ReflectliteValue.parts (.agg #[.pointer (some ⟨16,127,none⟩),.pointer (some a),.int .u64 150])).run Tryz.prog w=.ok (some (127,a,150)) w:=by kernel_rfl
theorem Ut (w:World):(Rtype.directlyAssignable 127 127).run Tryz.prog w=.ok true w:=by kernel_rfl
theorem Abm (ta b e:Addr) (old:Value) (W:World) (hb:W.cell? b=some (.pointer (some e))) (ht:W.cell? ta=some old) (hf:W.frozen? ta=false) :
    (ReflectliteValue.set #[.agg #[.pointer (some ⟨16,127,none⟩),.pointer (some ta),.int .u64 406],.agg #[.pointer (some ⟨16,127,none⟩),.pointer (some b),.int .u64 150]]).run Tryz.prog W
      = .ok (.tuple #[]) (W.setCell ta (.pointer (some e))):=by
  rw [rls]
  simp only [Sem.run_bind,Vr,V6,Result.andThen]
  simp [ReflectliteValue.flagAddr,loadVar,isAgg,underlying,Tryz.underlying127,hb,Result.andThen,Ut,storeVar,Value.cells,storeCells,Addr.add]
  rw [run_store Tryz.prog W ta _ _ (by rfl)]
  simp [ht,hf]
theorem Wr (v:Value) (w:World):(ReflectliteType.typeOf #[.iface 232 v]).run Tryz.prog w=.ok (.iface 197 (.agg #[.pointer (some ⟨16,232,none⟩)])) w:=by kernel_rfl
theorem Pm (w : World) : (ReflectliteType.relation "AssignableTo" ReflectliteType.assignableTo #[.agg #[.pointer (some ⟨16, 232, none⟩)], .iface 197 (.agg #[.pointer (some ⟨16, 127, none⟩)])]).run Tryz.prog w = .ok (.bool false) w := by kernel_rfl
theorem Ab5 (v:Value) (xT:TypeId) (w:World):(Instr.typeAssert (.iface 232 v) xT 201 true).run Tryz.prog w=.ok (.tuple #[.nilIface,.bool false]) w:=run_typeAssert_lacksB Tryz.underlying201 (by kernel_rfl) (by kernel_rfl) v xT w
theorem Om (v:Value) (xT:TypeId) (w:World):(Instr.typeAssert (.iface 232 v) xT 208 true).run Tryz.prog w=.ok (.tuple #[.nilIface,.bool false]) w:=run_typeAssert_lacksB Tryz.underlying208 (by kernel_rfl) (by kernel_rfl) v xT w
theorem H3 (v:Value) (xT:TypeId) (w:World):(Instr.typeAssert (.iface 232 v) xT 204 true).run Tryz.prog w=.ok (.tuple #[.nilIface,.bool false]) w:=run_typeAssert_lacksB Tryz.underlying204 (by kernel_rfl) (by kernel_rfl) v xT w
theorem Hn (v:Value) (xT:TypeId) (w:World):(Instr.typeAssert (.iface 232 v) xT 206 true).run Tryz.prog w=.ok (.tuple #[.nilIface,.bool false]) w:=run_typeAssert_lacksB Tryz.underlying206 (by kernel_rfl) (by kernel_rfl) v xT w
theorem U7 (v:Value) (xT:TypeId) (w:World):(Instr.typeAssert (.iface 127 v) xT 208 true).run Tryz.prog w=.ok (.tuple #[.nilIface,.bool false]) w:=run_typeAssert_lacksB Tryz.underlying208 (by kernel_rfl) (by kernel_rfl) v xT w
theorem Lq (v:Value) (xT:TypeId) (w:World):(Instr.typeAssert (.iface 127 v) xT 204 true).run Tryz.prog w=.ok (.tuple #[.iface 127 v,.bool true]) w:=run_typeAssert_hasB Tryz.underlying204 (by kernel_rfl) v xT w
theorem Jv (v : Value) (w : World) : (Go.method 364 127 v "Unwrap").run Tryz.prog w = .ok (146, v) w := by kernel_rfl
theorem Hq (v:Value) (w:World):(callFunc 101 #[.iface 232 v]).run Tryz.prog w=.ok (.value (.iface 197 (.agg #[.pointer (some ⟨16,232,none⟩)]))) w:=by kernel_rfl
theorem Fk (w:World):(callFunc 154 #[.agg #[.pointer (some ⟨16,232,none⟩)]]).run Tryz.prog w=.ok (.value (.bool true)) w:=by kernel_rfl
theorem Ee (v : Value) (w : World) : (Go.method 364 197 v "Comparable").run Tryz.prog w = .ok (154, v) w := by kernel_rfl
theorem La:(Tryz.prog.info? 232).map (·.comparable)=some true:=by kernel_rfl
theorem Ld:(Tryz.prog.info? 253).map (·.size)=some 1:=by kernel_rfl
theorem Ag2 (e t:Addr) (old:Value) (w:World) (hg:w.cell? ⟨15,0,none⟩=some (.iface 197 (.agg #[.pointer (some ⟨16,27,none⟩)]))) (ht0:w.cell? t=some old) (hf0:w.frozen? t=false) :
    Calls Tryz.prog 82 #[.iface 127 (.pointer (some e)),.iface 161 (.pointer (some t))] w fun ev w'=>ev=.returned (.bool true)∧w'=((((w.alloc (.cells #[.pointer (some t)] 161)).alloc (.cells #[.pointer (some ⟨16,161,none⟩),.pointer (some ⟨w.heap.size,0,none⟩),.int .u64 150] 180)).alloc (.cells #[.pointer (some ⟨16,161,none⟩),.pointer (some ⟨w.heap.size,0,none⟩),.int .u64 150] 180)).alloc (.cells #[.pointer (some e)] 127)).setCell t (.pointer (some e)):=by
  have h6:=@run_callFunc_extern Tryz.prog 97 _ (fun args=>ReflectliteValue.unpack (args.getD 0 (.tuple #[]))) Tryz.func97 (by kernel_rfl) (by kernel_rfl) (by kernel_rfl) (by kernel_rfl)
  have h7 := @run_callFunc_extern Tryz.prog 98 _ (ReflectliteValue.methodAny (ReflectliteValue.valueError "reflectlite.Value.Type" 0) (fun t _ _ _ => ReflectliteType.toType t)) Tryz.func98 (by kernel_rfl) (by kernel_rfl) (by kernel_rfl) (by kernel_rfl)
  have h8 := @run_callFunc_extern Tryz.prog 99 _ (ReflectliteValue.method (ReflectliteValue.valueError "reflectlite.Value.IsNil" 0) ReflectliteValue.isNil) Tryz.func99 (by kernel_rfl) (by kernel_rfl) (by kernel_rfl) (by kernel_rfl)
  have h27:=@run_callFunc_extern Tryz.prog 141 _ (ReflectliteType.abiMethod fun t=>do pure (.int .u8 (← Rtype.kind t))) Tryz.func141 (by kernel_rfl) (by kernel_rfl) (by kernel_rfl) (by kernel_rfl)
  have h37:=@run_callFunc_extern Tryz.prog 155 _ (ReflectliteType.method ReflectliteType.elem) Tryz.func155 (by kernel_rfl) (by kernel_rfl) (by kernel_rfl) (by kernel_rfl)
  have h38 := @run_callFunc_extern Tryz.prog 156 _ (ReflectliteType.relation "Implements" ReflectliteType.implements_) Tryz.func156 (by kernel_rfl) (by kernel_rfl) (by kernel_rfl) (by kernel_rfl)
  have h10:=@run_callFunc_extern Tryz.prog 101 _ ReflectliteType.typeOf Tryz.func101 (by kernel_rfl) (by kernel_rfl) (by kernel_rfl) (by kernel_rfl)
  have h35 := @run_callFunc_extern Tryz.prog 153 _ (ReflectliteType.relation "AssignableTo" ReflectliteType.assignableTo) Tryz.func153 (by kernel_rfl) (by kernel_rfl) (by kernel_rfl) (by kernel_rfl)
  have h11 := @run_callFunc_extern Tryz.prog 107 _ (ReflectliteValue.method (ReflectliteValue.valueError "reflectlite.Value.Elem" 0) ReflectliteValue.elem) Tryz.func107 (by kernel_rfl) (by kernel_rfl) (by kernel_rfl) (by kernel_rfl)
  have h12:=@run_callFunc_extern Tryz.prog 108 _ ReflectliteValue.set Tryz.func108 (by kernel_rfl) (by kernel_rfl) (by kernel_rfl) (by kernel_rfl)
  have tO:=Vc
  have mA:=G8
  have a25:=Nz
  have v25:=R5
  have f6:=Mg
  have f7:=Rm
  have mK:=Lm
  have mE:=Ll
  have mI:=Hw
  have k27:=Q5
  have k25:=Q4
  have e27:=Rc
  have i25:=Jw
  have n8:=Pv ⟨w.heap.size,0,none⟩ t ((w.alloc (.cells #[.pointer (some t)] 161)).alloc (.cells #[.pointer (some ⟨16,161,none⟩),.pointer (some ⟨w.heap.size,0,none⟩),.int .u64 150] 180)) (by simp)
  have hlt:15<w.heap.size:=World.block_lt_of_cell? _ _ hg
  have hg2:((w.alloc (.cells #[.pointer (some t)] 161)).alloc (.cells #[.pointer (some ⟨16,161,none⟩),.pointer (some ⟨w.heap.size,0,none⟩),.int .u64 150] 180)).cell? ⟨15,0,none⟩=some (.iface 197 (.agg #[.pointer (some ⟨16,27,none⟩)])):=by
    rw [World.cell?_alloc_lt _ _ ⟨15,0,none⟩ (by simp;omega),World.cell?_alloc_lt _ _ ⟨15,0,none⟩ hlt];exact hg
  have htl:t.block<w.heap.size:=by
    rcases Nat.lt_or_ge t.block w.heap.size with h|h
    · exact h
    · simp [World.cell?,Array.getElem?_eq_none h] at ht0
  have el:=Xr ⟨w.heap.size,0,none⟩ t (((w.alloc (.cells #[.pointer (some t)] 161)).alloc (.cells #[.pointer (some ⟨16,161,none⟩),.pointer (some ⟨w.heap.size,0,none⟩),.int .u64 150] 180)).alloc (.cells #[.pointer (some ⟨16,161,none⟩),.pointer (some ⟨w.heap.size,0,none⟩),.int .u64 150] 180)) (by rw [World.cell?_alloc_lt _ _ ⟨w.heap.size,0,none⟩ (by simp;omega)];simp)
  have st:=Abm t ⟨w.heap.size+1+1+1,0,none⟩ e old ((((w.alloc (.cells #[.pointer (some t)] 161)).alloc (.cells #[.pointer (some ⟨16,161,none⟩),.pointer (some ⟨w.heap.size,0,none⟩),.int .u64 150] 180)).alloc (.cells #[.pointer (some ⟨16,161,none⟩),.pointer (some ⟨w.heap.size,0,none⟩),.int .u64 150] 180)).alloc (.cells #[.pointer (some e)] 127))
    (by rw [World.cell?_alloc_at _ _ _ _ (by simp)];rfl)
    (by rw [World.cell?_alloc_lt _ _ t (by simp;omega),World.cell?_alloc_lt _ _ t (by simp;omega),World.cell?_alloc_lt _ _ t (by simp;omega),World.cell?_alloc_lt _ _ t htl];exact ht0)
    (by rw [World.frozen?_alloc_old _ _ t (by simp;omega),World.frozen?_alloc_old _ _ t (by simp;omega),World.frozen?_alloc_old _ _ t (by simp;omega),World.frozen?_alloc_old _ _ t (Nat.ne_of_lt htl)];exact hf0)
  go_enter Tryz.func82,Tryz.ntmps82
  go_wp2
  refine wp_loop_rounds 1 ?_
  rw [rounds_succ]
  go_wp2
  go_ret
  exact ⟨rfl,rfl⟩
theorem Ae1 (x:Value) (t:Addr) (old:Value) (w:World) (hg:w.cell? ⟨15,0,none⟩=some (.iface 197 (.agg #[.pointer (some ⟨16,27,none⟩)]))) (ht0:w.cell? t=some old) (hf0:w.frozen? t=false) :
    Calls Tryz.prog 82 #[.iface 232 x,.iface 161 (.pointer (some t))] w fun ev w'=>ev=.returned (.bool false)∧w'=((w.alloc (.cells #[.pointer (some t)] 161)).alloc (.cells #[.pointer (some ⟨16,161,none⟩),.pointer (some ⟨w.heap.size,0,none⟩),.int .u64 150] 180)).alloc (.cells #[.pointer (some ⟨16,161,none⟩),.pointer (some ⟨w.heap.size,0,none⟩),.int .u64 150] 180):=by
  have h6:=@run_callFunc_extern Tryz.prog 97 _ (fun args=>ReflectliteValue.unpack (args.getD 0 (.tuple #[]))) Tryz.func97 (by kernel_rfl) (by kernel_rfl) (by kernel_rfl) (by kernel_rfl)
  have h7 := @run_callFunc_extern Tryz.prog 98 _ (ReflectliteValue.methodAny (ReflectliteValue.valueError "reflectlite.Value.Type" 0) (fun t _ _ _ => ReflectliteType.toType t)) Tryz.func98 (by kernel_rfl) (by kernel_rfl) (by kernel_rfl) (by kernel_rfl)
  have h8 := @run_callFunc_extern Tryz.prog 99 _ (ReflectliteValue.method (ReflectliteValue.valueError "reflectlite.Value.IsNil" 0) ReflectliteValue.isNil) Tryz.func99 (by kernel_rfl) (by kernel_rfl) (by kernel_rfl) (by kernel_rfl)
  have h27:=@run_callFunc_extern Tryz.prog 141 _ (ReflectliteType.abiMethod fun t=>do pure (.int .u8 (← Rtype.kind t))) Tryz.func141 (by kernel_rfl) (by kernel_rfl) (by kernel_rfl) (by kernel_rfl)
  have h37:=@run_callFunc_extern Tryz.prog 155 _ (ReflectliteType.method ReflectliteType.elem) Tryz.func155 (by kernel_rfl) (by kernel_rfl) (by kernel_rfl) (by kernel_rfl)
  have h38 := @run_callFunc_extern Tryz.prog 156 _ (ReflectliteType.relation "Implements" ReflectliteType.implements_) Tryz.func156 (by kernel_rfl) (by kernel_rfl) (by kernel_rfl) (by kernel_rfl)
  have h10:=@run_callFunc_extern Tryz.prog 101 _ ReflectliteType.typeOf Tryz.func101 (by kernel_rfl) (by kernel_rfl) (by kernel_rfl) (by kernel_rfl)
  have h35 := @run_callFunc_extern Tryz.prog 153 _ (ReflectliteType.relation "AssignableTo" ReflectliteType.assignableTo) Tryz.func153 (by kernel_rfl) (by kernel_rfl) (by kernel_rfl) (by kernel_rfl)
  have h11 := @run_callFunc_extern Tryz.prog 107 _ (ReflectliteValue.method (ReflectliteValue.valueError "reflectlite.Value.Elem" 0) ReflectliteValue.elem) Tryz.func107 (by kernel_rfl) (by kernel_rfl) (by kernel_rfl) (by kernel_rfl)
  have h12:=@run_callFunc_extern Tryz.prog 108 _ ReflectliteValue.set Tryz.func108 (by kernel_rfl) (by kernel_rfl) (by kernel_rfl) (by kernel_rfl)
  have tO:=Wr
  have mA:=G8
  have a25:=Pm
  have f6:=Mg
  have f7:=Rm
  have mK:=Lm
  have mE:=Ll
  have mI:=Hw
  have k27:=Q5
  have k25:=Q4
  have e27:=Rc
  have i25:=Jw
  have n8:=Pv ⟨w.heap.size,0,none⟩ t ((w.alloc (.cells #[.pointer (some t)] 161)).alloc (.cells #[.pointer (some ⟨16,161,none⟩),.pointer (some ⟨w.heap.size,0,none⟩),.int .u64 150] 180)) (by simp)
  have hlt:15<w.heap.size:=World.block_lt_of_cell? _ _ hg
  have hg2:((w.alloc (.cells #[.pointer (some t)] 161)).alloc (.cells #[.pointer (some ⟨16,161,none⟩),.pointer (some ⟨w.heap.size,0,none⟩),.int .u64 150] 180)).cell? ⟨15,0,none⟩=some (.iface 197 (.agg #[.pointer (some ⟨16,27,none⟩)])):=by
    rw [World.cell?_alloc_lt _ _ ⟨15,0,none⟩ (by simp;omega),World.cell?_alloc_lt _ _ ⟨15,0,none⟩ hlt];exact hg
  have nA:=Ab5
  have nU:=H3
  have nV:=Hn
  go_enter Tryz.func82,Tryz.ntmps82
  go_wp2
  refine wp_loop_rounds 1 ?_
  rw [rounds_succ]
  go_wp2
  go_ret
  exact ⟨rfl,rfl⟩
theorem Aen (a:Addr) (w:World) :
    Calls Tryz.prog 83 #[.iface 232 (.pointer (some a)),.iface 232 (.pointer (some a))] w fun e w'=>e=.returned (.bool true)∧w=w':=by
  obtain ⟨i,hi,hcmp⟩:=Option.map_eq_some_iff.1 La
  obtain ⟨j,hj,hjs⟩:=Option.map_eq_some_iff.1 Ld
  have tT:=Hq
  have cT:=Fk
  have mR:=Ee
  have heq:=run_eql_iface_ptr_same (P:=Tryz.prog) w a Tryz.underlying27 Tryz.underlying232 hi hcmp hj
  go_enter Tryz.func83,Tryz.ntmps83
  go_wp2
  refine wp_loop_rounds 1 ?_
  rw [rounds_succ]
  go_wp2
  go_ret
  exact ⟨rfl,rfl⟩
theorem Ab3 (a b:Addr) (w:World) (hne:a≠b) (ha:∃ x t,w.heap[a.block]?=some (.cells x t (0,0))) (hb:∃ x t,w.heap[b.block]?=some (.cells x t (0,0))) :
    Calls Tryz.prog 83 #[.iface 232 (.pointer (some a)),.iface 232 (.pointer (some b))] w fun e w'=>e=.returned (.bool false)∧w=w':=by
  obtain ⟨ca,ta,ha⟩:=ha
  obtain ⟨cb,tb,hb⟩:=hb
  obtain ⟨i,hi,hcmp⟩:=Option.map_eq_some_iff.1 La
  obtain ⟨j,hj,hjs⟩:=Option.map_eq_some_iff.1 Ld
  have tT:=Hq
  have cT:=Fk
  have mR:=Ee
  have nE:=Om
  have uE:=H3
  have vE:=Hn
  have heq:=run_eql_iface_ptr_other (P:=Tryz.prog) w Tryz.underlying27 Tryz.underlying232 hi hcmp hj (by rw [hjs];decide) hne ha hb
  clear hb ha
  go_enter Tryz.func83,Tryz.ntmps83
  go_wp2
  refine wp_loop_rounds 1 ?_
  rw [rounds_succ]
  go_wp2
  go_ret
  exact ⟨rfl,rfl⟩
theorem Qq (pb po:Nat) (b:Addr) (w:World) (h1:w.cell? ⟨pb,po+1,none⟩=some (.iface 232 (.pointer (some b)))) :
    Calls Tryz.prog 83 #[.iface 127 (.pointer (some ⟨pb,po,none⟩)),.iface 232 (.pointer (some b))] w fun e w'=>e=.returned (.bool true)∧w=w':=by
  obtain ⟨i,hi,hcmp⟩:=Option.map_eq_some_iff.1 La
  obtain ⟨j,hj,hjs⟩:=Option.map_eq_some_iff.1 Ld
  have tT:=Hq
  have cT:=Fk
  have mR:=Ee
  have nE:=Om
  have uE:=H3
  have vE:=Hn
  have nW:=U7
  have uW:=Lq
  have mU:=Jv
  have heq:=run_eql_iface_ptr_same (P:=Tryz.prog) w b Tryz.underlying27 Tryz.underlying232 hi hcmp hj
  have hty:=run_eql_iface_types (P:=Tryz.prog) 127 232 (.pointer (some ⟨pb,po,none⟩)) (.pointer (some b)) Tryz.underlying27 (by decide) w
  go_enter Tryz.func83,Tryz.ntmps83
  go_wp2
  refine wp_loop_rounds 2 ?_
  rw [rounds_succ]
  go_wp2
  rw [rounds_succ]
  go_wp2
  go_ret
  exact ⟨rfl,rfl⟩
theorem Ox (pb po:Nat) (b a:Addr) (w:World) (h1:w.cell? ⟨pb,po+1,none⟩=some (.iface 232 (.pointer (some a)))) (hne:a≠b) (ha:∃ x t,w.heap[a.block]?=some (.cells x t (0,0))) (hb:∃ x t,w.heap[b.block]?=some (.cells x t (0,0))) :
    Calls Tryz.prog 83 #[.iface 127 (.pointer (some ⟨pb,po,none⟩)),.iface 232 (.pointer (some b))] w fun e w'=>e=.returned (.bool false)∧w=w':=by
  obtain ⟨ca,ta,ha⟩:=ha
  obtain ⟨cb,tb,hb⟩:=hb
  obtain ⟨i,hi,hcmp⟩:=Option.map_eq_some_iff.1 La
  obtain ⟨j,hj,hjs⟩:=Option.map_eq_some_iff.1 Ld
  have tT:=Hq
  have cT:=Fk
  have mR:=Ee
  have nE:=Om
  have uE:=H3
  have vE:=Hn
  have nW:=U7
  have uW:=Lq
  have mU:=Jv
  have heq:=run_eql_iface_ptr_other (P:=Tryz.prog) w Tryz.underlying27 Tryz.underlying232 hi hcmp hj (by rw [hjs];decide) hne ha hb
  have hty:=run_eql_iface_types (P:=Tryz.prog) 127 232 (.pointer (some ⟨pb,po,none⟩)) (.pointer (some b)) Tryz.underlying27 (by decide) w
  clear ha hb
  go_enter Tryz.func83,Tryz.ntmps83
  go_wp2
  refine wp_loop_rounds 2 ?_
  rw [rounds_succ]
  go_wp2
  rw [rounds_succ]
  go_wp2
  go_ret
  exact ⟨rfl,rfl⟩
end
def Cp:List Nat:=[1,2,3,4,5,6,7,8,9,10,11,12,13,14,15]
structure J9 (B:Nat) (ad:Nat→Addr) (w:World):Prop where
  env:Env B ad Cp w
  handle:w.cell? ⟨15,0,none⟩=some (.iface 197 (.agg #[.pointer (some ⟨16,27,none⟩)]))∧15<B
theorem J9.keep {B:Nat} {ad:Nat→Addr} {S:Nat→Prop} {w w':World} (h:J9 B ad w) (c:Chg S w w') (hS:∀ x,S x→B≤x):J9 B ad w':=
  ⟨h.env.keep c hS,(c.cell (p:=⟨15,0,none⟩) (Nat.lt_of_lt_of_le h.handle.2 h.env.size) (fun s=>by have:=hS _ s;have:=h.handle.2;simp at *;omega)).trans h.handle.1,h.handle.2⟩
theorem J9.keepN {B:Nat} {ad:Nat→Addr} {w w':World} (h:J9 B ad w) (c:Chg Nil w w'):J9 B ad w':=h.keep c (fun _ f=>f.elim)
theorem J9.alloc {B:Nat} {ad:Nat→Addr} {w:World} (h:J9 B ad w) (o:Obj):J9 B ad (w.alloc o):=h.keepN ((Chg.refl Nil w).alloc o)
theorem J9.sub {B:Nat} {ad:Nat→Addr} {ds:List Nat} {w:World} (h:J9 B ad w) (hd:∀ c∈ds,c∈Cp):Env B ad ds w:=h.env.sub hd
theorem Aee (x:Value) (t:Addr) (old:Value) (w:World) (hg:w.cell? ⟨15,0,none⟩=some (.iface 197 (.agg #[.pointer (some ⟨16,27,none⟩)])))
    (ht0:w.cell? t=some old) (hf0:w.frozen? t=false) :
    Calls Tryz.prog 82 #[.iface 232 x,.iface 161 (.pointer (some t))] w fun e w'=>e=.returned (.bool false)∧Chg Nil w w':=
  (Ae1 x t old w hg ht0 hf0).mono fun e w' ⟨he,hw⟩=>⟨he,by subst hw;exact ((((Chg.refl _ _).alloc _).alloc _).alloc _)⟩
theorem Ae4 (e t:Addr) (old:Value) (w:World) (hg:w.cell? ⟨15,0,none⟩=some (.iface 197 (.agg #[.pointer (some ⟨16,27,none⟩)])))
    (ht0:w.cell? t=some old) (hf0:w.frozen? t=false) :
    Calls Tryz.prog 82 #[.iface 127 (.pointer (some e)),.iface 161 (.pointer (some t))] w fun ev w'=>ev=.returned (.bool true)∧Chg (·=t.block) w w'∧w'.cell? t=some (.pointer (some e)):=
  (Ag2 e t old w hg ht0 hf0).mono fun ev w' ⟨he,hw⟩=>⟨he,by subst hw;exact Chg.setCell (S:=(·=t.block)) (p:=t) ((((((Chg.refl _ _).alloc _).alloc _).alloc _).alloc _)) (.inr rfl) _,by
    subst hw
    have hl:=World.block_lt_of_cell? _ _ ht0
    refine World.cell?_setCell_same _ _ _ (u:=old) ?_
    rw [World.cell?_alloc_lt _ _ t (by simp;omega),World.cell?_alloc_lt _ _ t (by simp;omega),World.cell?_alloc_lt _ _ t (by simp;omega),World.cell?_alloc_lt _ _ t hl]
    exact ht0⟩
theorem Uh (w:World):Calls Tryz.prog 49 #[.nilIface] w fun e w'=>e=.returned (.tuple #[.int .i64 0,.int .i64 (-1)])∧w=w':=by
  go_enter Tryz.func49,Tryz.ntmps49
  go_wp2
  go_ret2
  exact ⟨rfl,rfl⟩
def Af8 (w:World) (sb:Nat) (ad:Nat→Addr) (c:Nat) (at_:Int) (v i:Value) (wr:World):Prop:=
  ∃ k:Nat,k<c∧v=.int .i64 at_∧i=.int .i64 k∧Chg Nil w wr∧∀ j,j<15→wr.cell? ⟨sb,j,none⟩=some (.iface 232 (.pointer (some (ad (j+1)))))
theorem Ud {B:Nat} (ad:Nat→Addr) (c:Nat) (w:World) (he:J9 B ad w) (h0:0<c) (h1:c≤15) :
    Calls Tryz.prog 49 #[.iface 232 (.pointer (some (ad c)))] w fun e w'=>e=.returned (.tuple #[.int .i64 c,.int .i64 (-1)])∧Chg Nil w w':=by
  have HE:=Lib.hid he
  have hnn:=fun W=>run_eql_iface_nil_left (P:=Tryz.prog) W 232 (.pointer (some (ad c))) Tryz.underlying27
  have hh:=he.handle.1
  have hhl:=Nat.lt_of_lt_of_le he.handle.2 he.env.size
  clear he
  go_enter Tryz.func49,Tryz.ntmps49
  go_wp2_with fail
  refine (Aee _ _ (.pointer none) _ ?_ ?_ ?_).mono ?_
  · rw [World.cell?_alloc_lt _ _ _ hhl];exact hh
  · simp
  · simp
  rintro e w1 ⟨rfl,hc1⟩
  have hC1:Chg Nil w w1:=((Chg.refl _ _).alloc _).then hc1
  have hE1:=(HE.out.keepN hC1).env
  obtain ⟨q1,l1⟩:=hE1.get (c:=1) (by decide)
  obtain ⟨q2,l2⟩:=hE1.get (c:=2) (by decide)
  obtain ⟨q3,l3⟩:=hE1.get (c:=3) (by decide)
  obtain ⟨q4,l4⟩:=hE1.get (c:=4) (by decide)
  obtain ⟨q5,l5⟩:=hE1.get (c:=5) (by decide)
  obtain ⟨q6,l6⟩:=hE1.get (c:=6) (by decide)
  obtain ⟨q7,l7⟩:=hE1.get (c:=7) (by decide)
  obtain ⟨q8,l8⟩:=hE1.get (c:=8) (by decide)
  obtain ⟨q9,l9⟩:=hE1.get (c:=9) (by decide)
  obtain ⟨q10,l10⟩:=hE1.get (c:=10) (by decide)
  obtain ⟨q11,l11⟩:=hE1.get (c:=11) (by decide)
  obtain ⟨q12,l12⟩:=hE1.get (c:=12) (by decide)
  obtain ⟨q13,l13⟩:=hE1.get (c:=13) (by decide)
  obtain ⟨q14,l14⟩:=hE1.get (c:=14) (by decide)
  obtain ⟨q15,l15⟩:=hE1.get (c:=15) (by decide)
  simp only [gl] at q1 q2 q3 q4 q5 q6 q7 q8 q9 q10 q11 q12 q13 q14 q15
  clear l1 l2 l3 l4 l5 l6 l7 l8 l9 l10 l11 l12 l13 l14 l15 hE1 hh hhl
  go_wp2_with fail
  clear q1 q2 q3 q4 q5 q6 q7 q8 q9 q10 q11 q12 q13 q14 q15 hnn
  go_loopw [3,33] (fun v i wr=>Af8 w w1.heap.size ad c (-1) v i wr) (fun _ i _=>(15 - intOf i).toNat)
  case atStart=>
    refine ⟨0,h0,rfl,rfl,hC1.alloc _,fun j hj=>?_⟩
    rw [World.cell?_alloc_at _ _ _ _ rfl]
    rcases (show j=0∨j=1∨j=2∨j=3∨j=4∨j=5∨j=6∨j=7∨j=8∨j=9∨j=10∨j=11∨j=12∨j=13∨j=14 by omega) with rfl|rfl|rfl|rfl|rfl|rfl|rfl|rfl|rfl|rfl|rfl|rfl|rfl|rfl|rfl<;>rfl
  case round=>
    rename_i wr _
    obtain ⟨k,hk,rfl,rfl,hC,hcell⟩:=hrel
    have hE:=(HE.out.keepN hC).env
    have hc:=hcell k (by omega)
    have hk15:(k:Int)<15:=by omega
    by_cases hkc:k+1=c
    · have hnum:((k:Int)+1)=(c:Int):=by omega
      have hI:=Aen (ad c) wr
      rw [hkc] at hc
      have HN:=Lib.hid hnum
      have HK:=Lib.hid hkc
      have HC:=Lib.hid hcell
      have HI:=Lib.hid hI
      clear hnum hkc hcell hI
      go_wp2_with fail
      refine HI.out.mono ?_
      rintro e w2 ⟨rfl,rfl⟩
      go_wp2_with fail
      go_ret2
      exact ⟨by simp [HN.out],hC⟩
    · obtain ⟨_,r1,_⟩:=hE.row (k+1) (by simp [Cp];omega)
      obtain ⟨_,r2,_⟩:=hE.row c (by simp [Cp];omega)
      have hI:=Ab3 (ad c) (ad (k+1)) wr (hE.dist c (by simp [Cp];omega) (k+1) (by simp [Cp];omega) (fun e=>hkc e.symm)) r2 r1
      have HC:=Lib.hid hcell
      have HI:=Lib.hid hI
      clear hcell hI r1 r2 hE
      go_wp2_with fail
      refine HI.out.mono ?_
      rintro e w2 ⟨rfl,rfl⟩
      go_wp2_with fail
      go_roundw
      case rel=>exact ⟨k+1,by omega,rfl,by go_num,hC,HC.out⟩
      case measure=>simp [intOf];omega
def A6 (B:Nat) (ad:Nat→Addr):Res:=
  ⟨false,fun b=>(∃ c∈Cp,b=gl c∨b=(ad c).block)∨b=15,fun w=>J9 B ad w,fun w w' h hs hb=>
    ⟨(Br B ad Cp).stab w w' h.env hs (fun b hb'=>hb b (.inl hb')),by
      rw [World.cell?_of_block (w:=w) (hb 15 (.inr rfl))];exact h.handle.1,h.handle.2⟩,
   fun w b h hb=>by
    rcases hb with hb|rfl
    · exact (Br B ad Cp).alive w b h.env hb
    · exact Nat.lt_of_lt_of_le h.handle.2 h.env.size⟩
theorem Own.addRO {w0 w:World} {E:Ent} {L:List Res} (h:Own w0 E L w) (i:Nat) {r r':Res} (hi:L[i]?=some r) (hw:r.wr=false) (hw':r'.wr=false) (hf:∀ w,r.fact w→r'.fact w) (hs:∀ b,r'.foot b→r.foot b):Own w0 E (r'::L) w:=by
  have hm:=List.mem_of_getElem? hi
  have h1:=h.perm (Hb hi).symm
  have ha:=(List.pairwise_cons.1 h1.apart).1
  refine ⟨h.chg,h.mono,fun s hs'=>?_,List.pairwise_cons.2 ⟨fun s hs' hc b hb hsb=>?_,h.apart⟩,fun s hs' b hb=>?_⟩
  · rcases List.mem_cons.1 hs' with rfl|hs'
    · exact hf w (h.facts r hm)
    · exact h.facts s hs'
  · rcases hc with hc|hc
    · rw [hw'] at hc;cases hc
    · rcases List.mem_cons.1 ((Hb hi).symm.mem_iff.1 hs') with rfl|hs2
      · rw [hw] at hc;cases hc
      · exact ha s hs2 (.inr hc) b (hs b hb) hsb
  · rcases List.mem_cons.1 hs' with rfl|hs'
    · have:=h.may r hm b (hs b hb)
      rw [hw] at this
      rw [hw'];exact this
    · exact h.may s hs' b hb
theorem Own.envSub {w0 w:World} {E:Ent} {L:List Res} {B:Nat} {ad:Nat→Addr} (h:Own w0 E L w) (cs:List Nat) (i:Nat) (hi:L[i]?=some (A6 B ad)) (hc:∀ c∈cs,c∈Cp):Own w0 E (Br B ad cs::L) w:=
  h.addRO i hi rfl rfl (fun w hw=>hw.env.sub hc) (fun b ⟨c,h1,h2⟩=>.inl ⟨c,hc c h1,h2⟩)
theorem Own.eS {w0 w:World} {E:Ent} {L:List Res} {B:Nat} {ad:Nat→Addr} (h:Own w0 E L w) (cs:List Nat) (i:Nat) (hi:L[i]?=some (A6 B ad)) (hc:∀ c∈cs,c∈Cp:=by decide):Own w0 E (Br B ad cs::L) w:=h.envSub cs i hi hc
abbrev Ra (B:Nat) (ad:Nat→Addr) (b tb most dm pm:Nat) (ps:List (Option Nat)) (gs:List Int) (vl vg:Value) (T:TypeId) (Sl Sg:Nat→Prop) (l:List (Option ND)) (ds:List DN) (pn:List ((Int×Int)×Int)):List Res:=
  [Rb b tb most dm pm,B1 tb ps gs vl vg T Sl Sg,Cm l,Ci true dm hk (ds.map Bt),Eh ds,Ci true pm hk (pn.map Cw),A6 B ad]
section
variable {a:Act} {w w0:World} {En:Ent} {L:List Res} {dst:Option Tmp} {T:TypeId} {m x:Operand} {ty:TypeId} {pos:String} {after:Array Edge} {g:Option (Nat×Bool)} {r:Nat} {wr:Bool}
theorem Gks {kv:List (ByteArray×Value)} (ok:Bool) (k:ByteArray) (i:Nat) (hi:L[i]?=some (Ci wr r sk kv)) (hx:(a.eval m,a.eval x,Tryz.prog.underlying T)=(.map (some r),sk k,some (.map 9 34)):=by kernel_rfl) :
    Cl Tryz.prog w0 En L ⟨dst,.lookup T m x ok,ty,pos,after,g⟩ a (if ok then .tuple #[(Af kv k).getD (.agg #[.int .i64 0,.int .i64 0]),.bool (Af kv k).isSome] else (Af kv k).getD (.agg #[.int .i64 0,.int .i64 0])):=
  H7 (K:=9) (E:=34) (z:=(.agg #[.int .i64 0,.int .i64 0])) (Co (by kernel_rfl)) k hx (fun _=>by kernel_rfl) i hi
theorem Gkd {kv:List ((Int×Int)×Value)} (ok:Bool) (k:Int×Int) (i:Nat) (hi:L[i]?=some (Ci wr r hk kv)) (hx:(a.eval m,a.eval x,Tryz.prog.underlying T)=(.map (some r),hk k,some (.map 34 82)):=by kernel_rfl) :
    Cl Tryz.prog w0 En L ⟨dst,.lookup T m x ok,ty,pos,after,g⟩ a (if ok then .tuple #[(Af kv k).getD (.map none),.bool (Af kv k).isSome] else (Af kv k).getD (.map none)):=
  H7 (K:=34) (E:=82) (z:=(.map none)) Dk k hx (fun _=>by kernel_rfl) i hi
theorem Gkp {kv:List ((Int×Int)×Value)} (ok:Bool) (k:Int×Int) (i:Nat) (hi:L[i]?=some (Ci wr r hk kv)) (hx:(a.eval m,a.eval x,Tryz.prog.underlying T)=(.map (some r),hk k,some (.map 34 3)):=by kernel_rfl) :
    Cl Tryz.prog w0 En L ⟨dst,.lookup T m x ok,ty,pos,after,g⟩ a (if ok then .tuple #[(Af kv k).getD (.int .i64 0),.bool (Af kv k).isSome] else (Af kv k).getD (.int .i64 0)):=
  H7 (K:=34) (E:=3) (z:=(.int .i64 0)) Dk k hx (fun _=>by kernel_rfl) i hi
end
theorem R8 {B:Nat} (ad:Nat→Addr) (b:Nat) (kind:Int) (ps:List (Option Nat)) (gs:List Int) (vl vg:Value) (T:TypeId) (Sl Sg:Nat→Prop) (hk:kind=1∨kind=2) (hl:ps.length≤300) (hf:F2 ps=none):Au Tryz.prog 30 #[.pointer (some ⟨b,0,none⟩),.int .i64 kind] [B1 b ps gs vl vg T Sl Sg,Br B ad [9]] fun u L=>u=.tuple #[N0 0 0,Ag ad 9]∧L=[B1 b ps gs vl vg T Sl Sg,Br B ad [9]]:=fun E w0 w ho=>
  (Z5 ad b kind ps gs vl vg T Sl Sg w (ho.fact 1 rfl) (ho.fact 0 rfl) hk hl hf).mono fun e w' ⟨he,hc⟩=>⟨_,_,⟨rfl,rfl⟩,he,ho.quiet hc⟩
theorem Ju {B:Nat} (ad:Nat→Addr) (b k nb:Nat) (g:Int) (ps:List (Option Nat)) (gs:List Int) (vl vg:Value) (T:TypeId) (Sl Sg:Nat→Prop) (l:List (Option ND)) (hl:ps.length=gs.length) (hr:∀ x∈gs,0≤x∧x≤1000000) (hk:k<ps.length) (hs:Bk ps gs k g=some nb) :
    Au Tryz.prog 90 #[.pointer (some ⟨b,0,none⟩),.agg #[.int .i64 (k:Int),.int .i64 g]] [B1 b ps gs vl vg T Sl Sg,Cm l,Br B ad [10]] fun u L=>u=.nilIface∧L=[B1 b (ps.set k none) gs vl vg T Sl Sg,Cm (l.set k none),Br B ad [10]]:=fun E w0 w ho=>
  (Aeb ad b k nb g ps gs vl vg T Sl Sg w (ho.fact 2 rfl) (ho.fact 0 rfl) hl hr hk hs).mono fun e w' ⟨he,hc,ht⟩=>by
    have h1:=ho.upd 0 (r:=B1 b ps gs vl vg T Sl Sg) (r':=B1 b (ps.set k none) gs vl vg T Sl Sg) rfl rfl (hc.mono fun x _ hx=>.inr (.inl hx)) ht fun x hx=>.inl hx
    have h2:Own w0 E (Cm l::[B1 b (ps.set k none) gs vl vg T Sl Sg,Br B ad [10]]) w':=h1.pick [1,0,0]
    exact ⟨_,_,⟨rfl,rfl⟩,he,(h2.ndFree k).pick [1,0,0]⟩


section
open Go.RowKit Go.Lib
section
variable {α:Type} {enc:α→List Value} {k:Nat} {P:Program}
end
end
section
variable {P:Program} {a:Act} {w w0:World} {E:Ent} {L M:List Res} {K:Act→World→Prop} {Q:Exit→Act→World→Prop} {ops:Array Oper} {rest:List Oper}
variable {dst:Option Tmp} {x y:Operand} {T T2 ty:TypeId} {pos:String} {after:Array Edge} {g:Option (Nat×Bool)} {v:Value} {d k n:Nat} {xs:List Value}
variable {α:Type} {enc:α→List Value} {l:List α}
theorem Own.cut {m:Nat} (he:∀ x,(enc x).length=k) (h:Own w0 E L w) (i:Nat) (hi':L[i]?=some (A8 true v d k enc l)) (hm:m≤l.length):Own w0 E (L.set i (A8 true (Ma k v 0 m) d k enc (l.take m))) w:=by
  have hf:Bb w v d k l.length (l.flatMap enc) (Gz v):=h.fact i hi'
  have hb:Gz (Ma k v 0 m)=Gz v:=by
    obtain ⟨ad,cap,rfl⟩:=hf.shape
    rw [K7]
    cases ad<;>rfl
  refine h.upd i hi' rfl (Chg.refl _ _) ?_ (fun y hy=>.inl (show Gz v y from hb▸hy))
  show Bb w (Ma k v 0 m) d k (l.take m).length ((l.take m).flatMap enc) (Gz (Ma k v 0 m))
  rw [hb]
  have hl:(l.take m).length=m:=by rw [List.length_take,Nat.min_eq_left hm]
  obtain ⟨e,⟨rfl,h2⟩|⟨g,off,cap,cs,rfl,hbk,h2,h3,h4,h5,h6⟩⟩:=hf
  · have h2':l.length=0:=h2
    obtain rfl:m=0:=by omega
    rw [K7]
    exact ⟨by simp,.inl ⟨rfl,by simp⟩⟩
  · rw [K7,hl]
    refine ⟨by rw [Fp enc he,hl],.inr ⟨g,off,cap,cs,rfl,hbk,by omega,h3,h4,fun j u hj=>h5 j u ?_,h6⟩⟩
    have e5:l.flatMap enc=(l.take m).flatMap enc++(l.drop m).flatMap enc:=by rw [← List.flatMap_append,List.take_append_drop]
    rw [e5,List.getElem?_append_left (List.getElem?_eq_some_iff.1 hj).1];exact hj
variable {br:Nat→Bool} {fuel i0:Nat} {listed:Array Bool} {is:List Nat}
end
section
variable {P:Program} {a:Act} {w w0:World} {E:Ent} {L:List Res} {dst:Option Tmp} {x y:Operand} {T ty:TypeId} {pos:String} {after:Array Edge} {g:Option (Nat×Bool)} {u v:Int}
theorem Abx (hx:(a.eval x,a.eval y)=(.int .i64 u,.int .i64 v)):Cl P w0 E L ⟨dst,.call { callee:=.builtin .min,args:=#[x,y],argTypes:=#[T,T] },ty,pos,after,g⟩ a (.int .i64 (min u v)):=fun w _=>by
  simp only [Prod.mk.injEq] at hx
  have e:(if v<u then v else u)=min u v:=by split<;>omega
  simp [execOp,resolve,invoke,builtin,hx.1,hx.2,Builtin.min_,Builtin.min2,Result.andThen]
  rw [e]
theorem Own.pickE {L M:List Res} (h:Own w0 E L w) (is:List Nat) (e:pk is L=M):Own w0 E M w:=e▸h.pick is
end
section
open Go.RowKit Go.Lib
def Cn (n:Nat):Bool:=decide (97≤n∧n≤122)||decide (65≤n∧n≤90)||decide (48≤n∧n≤57)||n==46||n==45||n==95
def Ahb (n:Nat):Int:=bits .or .u8 (n:Int) 32
theorem Ww:∀ n:Fin 256,(decide (97≤Ahb n.val)&&decide (Ahb n.val≤122))=(decide (97≤n.val∧n.val≤122)||decide (65≤n.val∧n.val≤90)):=by decide +kernel
theorem Aci (n:Nat) (hn:n<256) (w:World):Calls Tryz.prog 89 #[.int .u8 n] w fun e w'=>e=.returned (.bool (Cn n))∧w=w':=by
  have hl:=Ww ⟨n,hn⟩
  simp only at hl
  obtain ⟨q,hq⟩:∃ q,q=bits .or .u8 (n:Int) 32:=⟨_,rfl⟩
  have hq2:Ahb n=q:=hq.symm
  rw [hq2] at hl
  have hS:Cn n=((decide (97≤q)&&decide (q≤122))||decide (48≤n∧n≤57)||n==46||n==45||n==95):=by unfold Cn;rw [hl]
  have HS:=Lib.hid hS
  have hbo:bits .or .u8 (n:Int) 32=q:=hq.symm
  clear hl hq hq2 hS
  by_cases h1:97≤q
  · by_cases h2:q≤122
    · have HX:=Lib.hid (show Cn n=true by rw [HS.out];simp [h1,h2])
      go_enter Tryz.func89,Tryz.ntmps89
      go_wp2_with fail
      go_ret
      exact ⟨by rw [HX.out];rfl,rfl⟩
    · have hB:decide (q≤122)=false:=by simpa using h2
      have HQ:=Lib.hid (show (decide (97≤q)&&decide (q≤122))=false by rw [hB,Bool.and_false])
      clear h2
      by_cases d1:48≤n
      · by_cases d2:n≤57
        · have HX:=Lib.hid (show Cn n=true by rw [HS.out];simp [d1,d2])
          have e1:(48:Int)≤(n:Int):=by omega
          have e2:(n:Int)≤57:=by omega
          clear d1 d2
          go_enter Tryz.func89,Tryz.ntmps89
          go_wp2_with fail
          go_ret
          exact ⟨by rw [HX.out];rfl,rfl⟩
        · have e1:(48:Int)≤(n:Int):=by omega
          have e2:decide ((n:Int)≤57)=false:=by simp;omega
          have HD:=Lib.hid (show decide (48≤n∧n≤57)=false by simp;omega)
          clear d1
          by_cases n46:n=46
          · have HX:=Lib.hid (show Cn n=true by rw [HS.out];simp [n46])
            have s46:((n:Int)==46)=true:=by simp;omega
            clear n46
            go_enter Tryz.func89,Tryz.ntmps89
            go_wp2_with fail
            go_ret
            exact ⟨by rw [HX.out];rfl,rfl⟩
          by_cases n45:n=45
          · have HX:=Lib.hid (show Cn n=true by rw [HS.out];simp [n45])
            have s45:((n:Int)==45)=true:=by simp;omega
            have s46:((n:Int)==46)=false:=by simp;omega
            clear n45 n46
            go_enter Tryz.func89,Tryz.ntmps89
            go_wp2_with fail
            go_ret
            exact ⟨by rw [HX.out];rfl,rfl⟩
          by_cases n95:n=95
          · have HX:=Lib.hid (show Cn n=true by rw [HS.out];simp [n95])
            have s95:((n:Int)==95)=true:=by simp;omega
            have s46:((n:Int)==46)=false:=by simp;omega
            have s45:((n:Int)==45)=false:=by simp;omega
            clear n95 n46 n45
            go_enter Tryz.func89,Tryz.ntmps89
            go_wp2_with fail
            go_ret
            exact ⟨by rw [HX.out];rfl,rfl⟩
          have HX:=Lib.hid (show Cn n=false by rw [HS.out,HD.out,HQ.out];simp [n46,n45,n95])
          have s46:((n:Int)==46)=false:=by simp;omega
          have s45:((n:Int)==45)=false:=by simp;omega
          have s95:((n:Int)==95)=false:=by simp;omega
          clear n46 n45 n95
          go_enter Tryz.func89,Tryz.ntmps89
          go_wp2_with fail
          go_ret
          exact ⟨by rw [HX.out];rfl,rfl⟩
      · have e1:decide ((48:Int)≤(n:Int))=false:=by simp;omega
        have HD:=Lib.hid (show decide (48≤n∧n≤57)=false by simp;omega)
        clear d1
        by_cases n46:n=46
        · have HX:=Lib.hid (show Cn n=true by rw [HS.out];simp [n46])
          have s46:((n:Int)==46)=true:=by simp;omega
          clear n46
          go_enter Tryz.func89,Tryz.ntmps89
          go_wp2_with fail
          go_ret
          exact ⟨by rw [HX.out];rfl,rfl⟩
        by_cases n45:n=45
        · have HX:=Lib.hid (show Cn n=true by rw [HS.out];simp [n45])
          have s45:((n:Int)==45)=true:=by simp;omega
          have s46:((n:Int)==46)=false:=by simp;omega
          clear n45 n46
          go_enter Tryz.func89,Tryz.ntmps89
          go_wp2_with fail
          go_ret
          exact ⟨by rw [HX.out];rfl,rfl⟩
        by_cases n95:n=95
        · have HX:=Lib.hid (show Cn n=true by rw [HS.out];simp [n95])
          have s95:((n:Int)==95)=true:=by simp;omega
          have s46:((n:Int)==46)=false:=by simp;omega
          have s45:((n:Int)==45)=false:=by simp;omega
          clear n95 n46 n45
          go_enter Tryz.func89,Tryz.ntmps89
          go_wp2_with fail
          go_ret
          exact ⟨by rw [HX.out];rfl,rfl⟩
        have HX:=Lib.hid (show Cn n=false by rw [HS.out,HD.out,HQ.out];simp [n46,n45,n95])
        have s46:((n:Int)==46)=false:=by simp;omega
        have s45:((n:Int)==45)=false:=by simp;omega
        have s95:((n:Int)==95)=false:=by simp;omega
        clear n46 n45 n95
        go_enter Tryz.func89,Tryz.ntmps89
        go_wp2_with fail
        go_ret
        exact ⟨by rw [HX.out];rfl,rfl⟩
  · have hA:decide (97≤q)=false:=by simpa using h1
    have HQ:=Lib.hid (show (decide (97≤q)&&decide (q≤122))=false by rw [hA,Bool.false_and])
    clear h1
    by_cases d1:48≤n
    · by_cases d2:n≤57
      · have HX:=Lib.hid (show Cn n=true by rw [HS.out];simp [d1,d2])
        have e1:(48:Int)≤(n:Int):=by omega
        have e2:(n:Int)≤57:=by omega
        clear d1 d2
        go_enter Tryz.func89,Tryz.ntmps89
        go_wp2_with fail
        go_ret
        exact ⟨by rw [HX.out];rfl,rfl⟩
      · have e1:(48:Int)≤(n:Int):=by omega
        have e2:decide ((n:Int)≤57)=false:=by simp;omega
        have HD:=Lib.hid (show decide (48≤n∧n≤57)=false by simp;omega)
        clear d1
        by_cases n46:n=46
        · have HX:=Lib.hid (show Cn n=true by rw [HS.out];simp [n46])
          have s46:((n:Int)==46)=true:=by simp;omega
          clear n46
          go_enter Tryz.func89,Tryz.ntmps89
          go_wp2_with fail
          go_ret
          exact ⟨by rw [HX.out];rfl,rfl⟩
        by_cases n45:n=45
        · have HX:=Lib.hid (show Cn n=true by rw [HS.out];simp [n45])
          have s45:((n:Int)==45)=true:=by simp;omega
          have s46:((n:Int)==46)=false:=by simp;omega
          clear n45 n46
          go_enter Tryz.func89,Tryz.ntmps89
          go_wp2_with fail
          go_ret
          exact ⟨by rw [HX.out];rfl,rfl⟩
        by_cases n95:n=95
        · have HX:=Lib.hid (show Cn n=true by rw [HS.out];simp [n95])
          have s95:((n:Int)==95)=true:=by simp;omega
          have s46:((n:Int)==46)=false:=by simp;omega
          have s45:((n:Int)==45)=false:=by simp;omega
          clear n95 n46 n45
          go_enter Tryz.func89,Tryz.ntmps89
          go_wp2_with fail
          go_ret
          exact ⟨by rw [HX.out];rfl,rfl⟩
        have HX:=Lib.hid (show Cn n=false by rw [HS.out,HD.out,HQ.out];simp [n46,n45,n95])
        have s46:((n:Int)==46)=false:=by simp;omega
        have s45:((n:Int)==45)=false:=by simp;omega
        have s95:((n:Int)==95)=false:=by simp;omega
        clear n46 n45 n95
        go_enter Tryz.func89,Tryz.ntmps89
        go_wp2_with fail
        go_ret
        exact ⟨by rw [HX.out];rfl,rfl⟩
    · have e1:decide ((48:Int)≤(n:Int))=false:=by simp;omega
      have HD:=Lib.hid (show decide (48≤n∧n≤57)=false by simp;omega)
      clear d1
      by_cases n46:n=46
      · have HX:=Lib.hid (show Cn n=true by rw [HS.out];simp [n46])
        have s46:((n:Int)==46)=true:=by simp;omega
        clear n46
        go_enter Tryz.func89,Tryz.ntmps89
        go_wp2_with fail
        go_ret
        exact ⟨by rw [HX.out];rfl,rfl⟩
      by_cases n45:n=45
      · have HX:=Lib.hid (show Cn n=true by rw [HS.out];simp [n45])
        have s45:((n:Int)==45)=true:=by simp;omega
        have s46:((n:Int)==46)=false:=by simp;omega
        clear n45 n46
        go_enter Tryz.func89,Tryz.ntmps89
        go_wp2_with fail
        go_ret
        exact ⟨by rw [HX.out];rfl,rfl⟩
      by_cases n95:n=95
      · have HX:=Lib.hid (show Cn n=true by rw [HS.out];simp [n95])
        have s95:((n:Int)==95)=true:=by simp;omega
        have s46:((n:Int)==46)=false:=by simp;omega
        have s45:((n:Int)==45)=false:=by simp;omega
        clear n95 n46 n45
        go_enter Tryz.func89,Tryz.ntmps89
        go_wp2_with fail
        go_ret
        exact ⟨by rw [HX.out];rfl,rfl⟩
      have HX:=Lib.hid (show Cn n=false by rw [HS.out,HD.out,HQ.out];simp [n46,n45,n95])
      have s46:((n:Int)==46)=false:=by simp;omega
      have s45:((n:Int)==45)=false:=by simp;omega
      have s95:((n:Int)==95)=false:=by simp;omega
      clear n46 n45 n95
      go_enter Tryz.func89,Tryz.ntmps89
      go_wp2_with fail
      go_ret
      exact ⟨by rw [HX.out];rfl,rfl⟩
theorem Nu (n:Nat) (hn:n<256) (w:World):Calls Tryz.prog 88 #[.int .u8 n] w fun e w'=>e=.returned (.bool (!(Cn n)))∧w=w':=by
  go_enter Tryz.func88,Tryz.ntmps88
  go_wp2_with fail
  refine (Aci n hn w).mono ?_
  rintro e w1 ⟨rfl,rfl⟩
  go_wp2_with fail
  go_ret
  exact ⟨rfl,rfl⟩
def If (l:List UInt8):Option Nat:=l.findIdx? fun b=>!(Cn b.toNat)
def ixI:Option Nat→Int
  | some k=>(k:Int)
  | none=>-1
theorem Gg {l:List UInt8} {k:Nat} {f:UInt8} (h:l[k]?=some f):l.take (k+1)=l.take k++[f]:=by rw [List.take_add_one,h];rfl
def RelIx (l:List UInt8) (w:World) (i:Value) (wr:World):Prop:=∃ k:Nat,k≤l.length∧i=.int .i64 k∧w=wr∧∀ b∈l.take k,Cn b.toNat=true
theorem Qo (g n c:Nat) (l:List UInt8) (hl:n=l.length) (hc:n≤c) (h63:n≤9223372036854775807) (w:World) (hcell:∀ k b,l[k]?=some b→w.cell? ⟨g,k,none⟩=some (.int .u8 b.toNat)) :
    Calls Tryz.prog 106 #[.slice (some ⟨g,0,none⟩) n c,.func (.func 88) #[] #[]] w fun e w'=>e=.returned (.int .i64 (ixI (If l)))∧w=w':=by
  have HL:=Lib.hid hl
  have HCE:=Lib.hid hcell
  clear hl hcell
  go_enter Tryz.func106,Tryz.ntmps106
  go_wp2_with fail
  go_loopw [8] (fun i wr=>RelIx l w i wr) (fun i _=>(n - RowKit.intOf i).toNat)
  case atStart=>exact ⟨0,Nat.zero_le _,rfl,rfl,by simp⟩
  case round=>
    obtain ⟨k,hk,rfl,rfl,hall⟩:=hrel
    have HA:=Lib.hid hall
    clear hall
    have hkn:k≤n:=by rw [HL.out];exact hk
    by_cases hlt:k<n
    · obtain ⟨b,hb⟩:∃ b,l[k]?=some b:=⟨l[k]'(by rw [← HL.out];exact hlt),List.getElem?_eq_getElem _⟩
      have c0:=HCE.out k b hb
      have j0:(0:Int)≤(k:Int):=by omega
      have j1:(k:Int)<(n:Int):=by omega
      have HB:=Lib.hid hb
      clear hb
      have hb256:=b.toNat_lt
      by_cases hs:Cn b.toNat=true
      · have HS:=Lib.hid hs
        clear hs
        go_wp2_with fail
        refine (Nu b.toNat hb256 _).mono ?_
        rintro e w1 ⟨rfl,rfl⟩
        rw [HS.out]
        go_wp2_with fail
        go_roundw
        case rel=>exact ⟨k+1,by rw [← HL.out];omega,by go_num,rfl,fun x hx=>by
          rw [Gg HB.out] at hx
          rcases List.mem_append.1 hx with hx|hx
          · exact HA.out x hx
          · rw [List.mem_singleton.1 hx];exact HS.out⟩
        case measure=>simp [RowKit.intOf];omega
      · have hs2:Cn b.toNat=false:=by simpa using hs
        have HS:=Lib.hid hs2
        have HX:=Lib.hid (show If l=some k by
          unfold If
          rw [List.findIdx?_eq_some_iff_getElem]
          obtain ⟨hkl,e⟩:=List.getElem?_eq_some_iff.1 HB.out
          refine ⟨hkl,by rw [e,hs2];rfl,fun j hj=>?_⟩
          have:=HA.out (l[j]'(by omega)) (by rw [List.mem_iff_getElem?];exact ⟨j,by rw [List.getElem?_take,if_pos hj];exact List.getElem?_eq_getElem _⟩)
          simp [this])
        clear hs hs2
        go_wp2_with fail
        refine (Nu b.toNat hb256 _).mono ?_
        rintro e w1 ⟨rfl,rfl⟩
        rw [HS.out]
        go_wp2_with fail
        go_ret
        exact ⟨by rw [HX.out];rfl,rfl⟩
    · obtain rfl:k=n:=by omega
      have HX:=Lib.hid (show If l=none by
        unfold If
        rw [List.findIdx?_eq_none_iff]
        intro x hx
        have:=HA.out x (by rw [HL.out,List.take_of_length_le (Nat.le_refl _)];exact hx)
        simp [this])
      go_wp2_with fail
      go_ret
      exact ⟨by rw [HX.out];rfl,rfl⟩
theorem Ti (g n c:Nat) (l:List UInt8) (hl:n=l.length) (hc:n≤c) (h63:n≤9223372036854775807) (w:World) (hcell:∀ k b,l[k]?=some b→w.cell? ⟨g,k,none⟩=some (.int .u8 b.toNat)) :
    Calls Tryz.prog 87 #[.slice (some ⟨g,0,none⟩) n c,.func (.func 88) #[] #[]] w fun e w'=>e=.returned (.bool (If l).isSome)∧w=w':=by
  have HI:=Lib.hid (Qo g n c l hl hc h63 w hcell)
  clear hl hcell
  cases hb:If l with
  | none=>
    rw [hb] at HI
    simp only [ixI] at HI
    clear hb
    go_enter Tryz.func87,Tryz.ntmps87
    go_wp2_with fail
    refine HI.out.mono ?_
    rintro e w1 ⟨rfl,rfl⟩
    go_wp2_with fail
    go_ret
    exact ⟨rfl,rfl⟩
  | some k=>
    rw [hb] at HI
    simp only [ixI] at HI
    clear hb
    have hk0:(0:Int)≤(k:Int):=by omega
    go_enter Tryz.func87,Tryz.ntmps87
    go_wp2_with fail
    refine HI.out.mono ?_
    rintro e w1 ⟨rfl,rfl⟩
    go_wp2_with fail
    go_ret
    exact ⟨rfl,rfl⟩
end
section
open Go.RowKit Go.Lib
theorem P5 {k:ByteArray} {l:List UInt8} (h:¬k=⟨l.toArray⟩):(k.toList==l)=false:=by
  rw [beq_eq_false_iff_ne]
  intro e
  apply h
  have e2:k.data.toList=l:=by rw [← e];exact (ByteArray.toList_eq k).symm
  obtain ⟨d⟩:=k
  simp only at e2
  subst e2
  rfl
end
section
open Go.RowKit Go.Lib
def Acj:ByteArray:=⟨#[46]⟩
def Adt:ByteArray:=⟨#[46,46]⟩
def A0 (s:ByteArray):Prop:=1≤s.size∧s.size≤24∧s≠Acj∧s≠Adt∧If s.data.toList=none
instance (s:ByteArray):Decidable (A0 s):=by unfold A0;infer_instance
def Hy (s:ByteArray):Nat:=if A0 s then 0 else 4
theorem C3 {s:ByteArray} (h:¬A0 s):Hy s=4:=if_neg h
theorem Bf {s:ByteArray} (h:A0 s):Hy s=0:=if_pos h
theorem Aca (w:World) (s:ByteArray):∃ cap W,(convert 9 167 (.string s)).run Tryz.prog w=.ok (.slice (some ⟨w.heap.size,0,none⟩) s.size cap) W∧Chg Nil w W∧s.size≤cap∧∀ k b,s.data.toList[k]?=some b→W.cell? ⟨w.heap.size,k,none⟩=some (.int .u8 b.toNat):=by
  refine ⟨_,_,Lib.run_convert_string_bytes (P:=Tryz.prog) w 9 167 5 s Tryz.underlying9 Tryz.underlying167 Tryz.underlying5,⟨rfl,rfl,rfl,by rw [Lib.bytesWorld_size];omega,fun k hk _=>Lib.bytesWorld_at_old w _ s k hk⟩,grownCap_ge _ _ _ _,fun k b hb=>?_⟩
  have hk:k<s.size:=by have:=(List.getElem?_eq_some_iff.1 hb).1;rwa [Array.length_toList] at this
  rw [Lib.bytesWorld_cell w _ s k hk]
  simp [List.getD,hb]
theorem Aaq {B:Nat} (ad:Nat→Addr) (s:ByteArray) (w:World) (he:Env B ad [4] w) (hs:s.size≤9223372036854775807) :
    Calls Tryz.prog 53 #[.string s] w fun e w'=>e=.returned (Ag ad (Hy s))∧Chg Nil w w':=by
  obtain ⟨q1,q1l⟩:=he.get (c:=4) (by simp)
  simp only [gl] at q1 q1l
  have HE:=Lib.hid he
  clear he
  by_cases h0:s=⟨#[]⟩
  · have HX:=Lib.hid (C3 (s:=s) (fun h=>by have:=h.1;rw [h0] at this;simp [ByteArray.size] at this))
    rw [HX.out]
    subst h0
    go_enter Tryz.func53,Tryz.ntmps53
    go_wp2_with fail
    go_ret
    exact ⟨rfl,Chg.refl _ _⟩
  have hne:=P5 (l:=[]) h0
  by_cases h1:24<s.size
  · have HX:=Lib.hid (C3 (s:=s) (fun h=>by have:=h.2.1;omega))
    rw [HX.out]
    have h1d:decide ((s.size:Int)≤24)=false:=by simp;omega
    clear h0
    go_enter Tryz.func53,Tryz.ntmps53
    go_wp2_with fail
    go_ret
    exact ⟨rfl,Chg.refl _ _⟩
  have h1I:(s.size:Int)≤24:=by omega
  by_cases h2:s=Acj
  · have HX:=Lib.hid (C3 (s:=s) (fun h=>h.2.2.1 h2))
    rw [HX.out]
    subst h2
    unfold Acj at *
    go_enter Tryz.func53,Tryz.ntmps53
    go_wp2_with fail
    go_ret
    exact ⟨rfl,Chg.refl _ _⟩
  have h2n:=P5 (l:=[46]) h2
  by_cases h3:s=Adt
  · have HX:=Lib.hid (C3 (s:=s) (fun h=>h.2.2.2.1 h3))
    rw [HX.out]
    subst h3
    unfold Adt at *
    go_enter Tryz.func53,Tryz.ntmps53
    go_wp2_with fail
    go_ret
    exact ⟨rfl,Chg.refl _ _⟩
  have h3n:=P5 (l:=[46,46]) h3
  have hp:1≤s.size:=by
    rcases Nat.eq_zero_or_pos s.size with h|h
    · exfalso;apply h0;apply ByteArray.ext;exact Array.eq_empty_of_size_eq_zero h
    · exact h
  have HOK:=Lib.hid (show A0 s↔If s.data.toList=none from ⟨fun h=>h.2.2.2.2,fun h=>⟨hp,by omega,h2,h3,h⟩⟩)
  clear h0 h2 h3
  go_enter Tryz.func53,Tryz.ntmps53
  obtain ⟨cap,W,hcv,hcw,hcap,hcell⟩:=Aca w s
  have HCW:=Lib.hid hcw
  have HCC:=Lib.hid (Ti w.heap.size s.size cap s.data.toList Array.length_toList.symm hcap hs W hcell)
  obtain ⟨q2,q2l⟩:=(HE.out.keepN hcw).get (c:=4) (by simp)
  simp only [gl] at q2 q2l
  clear hcw hcap hcell
  cases hb:If s.data.toList with
  | none=>
    have HX:=Lib.hid (Bf (HOK.out.2 hb))
    rw [hb] at HCC
    clear hb
    go_wp2_with fail
    refine HCC.out.mono ?_
    rintro e w2 ⟨rfl,rfl⟩
    go_wp2_with fail
    go_ret
    exact ⟨by rw [HX.out];rfl,HCW.out⟩
  | some k=>
    have HX:=Lib.hid (C3 (s:=s) (fun h=>by have:=HOK.out.1 h;rw [hb] at this;cases this))
    rw [hb] at HCC
    clear hb
    go_wp2_with fail
    refine HCC.out.mono ?_
    rintro e w2 ⟨rfl,rfl⟩
    go_wp2_with fail
    go_ret
    exact ⟨by rw [HX.out];rfl,HCW.out⟩
end
theorem fifteen {B:Nat} {ad:Nat→Addr} {w:World} (h:Env B ad Cp w):∀ c,1≤c→c≤15→w.cell? ⟨gl c,0,none⟩=some (.iface 232 (.pointer (some (ad c))))∧gl c<w.heap.size:=
  fun c h1 h2=>h.get (by simp [Cp];omega)
theorem V4 {B:Nat} (ad:Nat→Addr) (c pb:Nat) (n:Int) (w:World) (he:J9 B ad w) (h0:0<c) (h1:c≤15)
    (hb:w.heap[pb]?=some (.cells #[.int .i64 n,.iface 232 (.pointer (some (ad c)))] 129 (0,0))) :
    Calls Tryz.prog 49 #[.iface 127 (.pointer (some ⟨pb,0,none⟩))] w fun e w'=>e=.returned (.tuple #[.int .i64 c,.int .i64 n])∧Chg Nil w w':=by
  have HE:=Lib.hid he
  have hnn:=fun W=>run_eql_iface_nil_left (P:=Tryz.prog) W 127 (.pointer (some ⟨pb,0,none⟩)) Tryz.underlying27
  have hh:=he.handle.1
  have hhl:=Nat.lt_of_lt_of_le he.handle.2 he.env.size
  have hpl:=lt_of_block hb
  have HB:=Lib.hid hb
  clear he hb
  go_enter Tryz.func49,Tryz.ntmps49
  go_wp2_with fail
  refine (Ae4 _ _ (.pointer none) _ ?_ ?_ ?_).mono ?_
  · rw [World.cell?_alloc_lt _ _ _ hhl];exact hh
  · simp
  · simp
  rintro e w1 ⟨rfl,hc1,ht1⟩
  have hC1:Chg Nil w w1:=((Chg.refl _ _).alloc _).trans hc1 (fun x hx e=>by have:x=w.heap.size:=e;omega)
  have hb1:=hC1.keep HB.out (fun f=>f)
  have p0:=A9 hb1 0
  have hpl1:=lt_of_block hb1
  simp only [List.getElem?_toArray,List.getElem?_cons_zero] at p0
  have hE1:=(HE.out.keepN hC1).env
  obtain ⟨q1,l1⟩:=hE1.get (c:=1) (by decide)
  obtain ⟨q2,l2⟩:=hE1.get (c:=2) (by decide)
  obtain ⟨q3,l3⟩:=hE1.get (c:=3) (by decide)
  obtain ⟨q4,l4⟩:=hE1.get (c:=4) (by decide)
  obtain ⟨q5,l5⟩:=hE1.get (c:=5) (by decide)
  obtain ⟨q6,l6⟩:=hE1.get (c:=6) (by decide)
  obtain ⟨q7,l7⟩:=hE1.get (c:=7) (by decide)
  obtain ⟨q8,l8⟩:=hE1.get (c:=8) (by decide)
  obtain ⟨q9,l9⟩:=hE1.get (c:=9) (by decide)
  obtain ⟨q10,l10⟩:=hE1.get (c:=10) (by decide)
  obtain ⟨q11,l11⟩:=hE1.get (c:=11) (by decide)
  obtain ⟨q12,l12⟩:=hE1.get (c:=12) (by decide)
  obtain ⟨q13,l13⟩:=hE1.get (c:=13) (by decide)
  obtain ⟨q14,l14⟩:=hE1.get (c:=14) (by decide)
  obtain ⟨q15,l15⟩:=hE1.get (c:=15) (by decide)
  simp only [gl] at q1 q2 q3 q4 q5 q6 q7 q8 q9 q10 q11 q12 q13 q14 q15
  clear l1 l2 l3 l4 l5 l6 l7 l8 l9 l10 l11 l12 l13 l14 l15 hE1 hh hhl hb1
  go_wp2_with fail
  clear q1 q2 q3 q4 q5 q6 q7 q8 q9 q10 q11 q12 q13 q14 q15 hnn p0 ht1
  go_loopw [3,33] (fun v i wr=>Af8 w w1.heap.size ad c n v i wr) (fun _ i _=>(15 - intOf i).toNat)
  case atStart=>
    refine ⟨0,h0,rfl,rfl,hC1.alloc _,fun j hj=>?_⟩
    rw [World.cell?_alloc_at _ _ _ _ rfl]
    rcases (show j=0∨j=1∨j=2∨j=3∨j=4∨j=5∨j=6∨j=7∨j=8∨j=9∨j=10∨j=11∨j=12∨j=13∨j=14 by omega) with rfl|rfl|rfl|rfl|rfl|rfl|rfl|rfl|rfl|rfl|rfl|rfl|rfl|rfl|rfl<;>rfl
  case round=>
    obtain ⟨k,hk,rfl,rfl,hC,hcell⟩:=hrel
    have hE:=(HE.out.keepN hC).env
    have hc:=hcell k (by omega)
    have hk15:(k:Int)<15:=by omega
    have hbw:=hC.keep HB.out (fun f=>f)
    have hx1:=A9 hbw 1
    simp only [List.getElem?_toArray,List.getElem?_cons_zero,List.getElem?_cons_succ] at hx1
    by_cases hkc:k+1=c
    · have hnum:((k:Int)+1)=(c:Int):=by omega
      have hI:=Qq pb 0 (ad c) wr (by simpa using hx1)
      rw [hkc] at hc
      have HN:=Lib.hid hnum
      have HK:=Lib.hid hkc
      have HC:=Lib.hid hcell
      have HI:=Lib.hid hI
      clear hnum hkc hcell hI hbw hx1
      go_wp2_with fail
      refine HI.out.mono ?_
      rintro e w2 ⟨rfl,rfl⟩
      go_wp2_with fail
      go_ret2
      exact ⟨by simp [HN.out],hC⟩
    · obtain ⟨_,r1,_⟩:=hE.row (k+1) (by simp [Cp];omega)
      obtain ⟨_,r2,_⟩:=hE.row c (by simp [Cp];omega)
      have hI:=Ox pb 0 (ad (k+1)) (ad c) wr (by simpa using hx1) (hE.dist c (by simp [Cp];omega) (k+1) (by simp [Cp];omega) (fun e=>hkc e.symm)) r2 r1
      have HC:=Lib.hid hcell
      have HI:=Lib.hid hI
      clear hcell hI r1 r2 hE hbw hx1
      go_wp2_with fail
      refine HI.out.mono ?_
      rintro e w2 ⟨rfl,rfl⟩
      go_wp2_with fail
      go_roundw
      case rel=>exact ⟨k+1,by omega,rfl,by go_num,hC,HC.out⟩
      case measure=>simp [intOf];omega
section
open Go.RowKit Go.Lib
def Ro (ad:Nat→Addr) (w:World) (v:Value) (c:Nat) (at_:Int):Prop:=
  (c=0∧at_=-1∧v=.nilIface)∨(0<c∧c≤15∧at_=-1∧v=.iface 232 (.pointer (some (ad c))))∨
  (0<c∧c≤15∧∃ pb,v=.iface 127 (.pointer (some ⟨pb,0,none⟩))∧w.heap[pb]?=some (.cells #[.int .i64 at_,.iface 232 (.pointer (some (ad c)))] 129 (0,0)))
theorem Ro.keep {ad:Nat→Addr} {w w':World} {v:Value} {c:Nat} {at_:Int} (h:Ro ad w v c at_) (hc:Chg Nil w w'):Ro ad w' v c at_:=by
  rcases h with h|h|⟨h1,h2,pb,h3,h4⟩
  · exact .inl h
  · exact .inr (.inl h)
  · exact .inr (.inr ⟨h1,h2,pb,h3,hc.keep h4 (fun f=>f)⟩)
theorem Ro.le {ad:Nat→Addr} {w:World} {v:Value} {c:Nat} {at_:Int} (h:Ro ad w v c at_):c≤15:=by
  rcases h with h|h|h
  · omega
  · exact h.2.1
  · exact h.2.1
theorem V7 {B:Nat} (ad:Nat→Addr) (v:Value) (c:Nat) (at_:Int) (w:World) (he:J9 B ad w) (h:Ro ad w v c at_) :
    Calls Tryz.prog 26 #[v,.agg #[.int .i64 c,.int .i64 at_]] w fun e w'=>e=.returned (.bool true)∧Chg Nil w w':=by
  have HE:=Lib.hid he
  clear he
  have HK:=Lib.hid ((Chg.refl Nil w).alloc (.cells #[.int .i64 c,.int .i64 at_] 66))
  have HBX:=Lib.hid (Bp w (.cells #[.int .i64 c,.int .i64 at_] 66))
  have fin:∀ (w2:World),Chg Nil (w.alloc (.cells #[.int .i64 c,.int .i64 at_] 66)) w2→w2.cell? ⟨w.heap.size,0,none⟩=some (.int .i64 c)∧w2.cell? ⟨w.heap.size,1,none⟩=some (.int .i64 at_):=fun w2 h2=>⟨A9 (h2.keep HBX.out (fun f=>f)) 0,A9 (h2.keep HBX.out (fun f=>f)) 1⟩
  have FIN:=Lib.hid fin
  clear fin
  rcases h with ⟨rfl,rfl,rfl⟩|⟨h0,h1,rfl,rfl⟩|⟨h0,h1,pb,rfl,hb⟩
  · go_enter Tryz.func26,Tryz.ntmps26
    go_wp2_with fail
    refine (Uh _).mono ?_
    rintro e w1 ⟨rfl,rfl⟩
    obtain ⟨c0,c1⟩:=FIN.out _ (Chg.refl _ _)
    go_wp2_with fail
    go_ret
    exact ⟨rfl,HK.out⟩
  · have hc0:((c:Int)==0)=false:=by simp;omega
    go_enter Tryz.func26,Tryz.ntmps26
    go_wp2_with fail
    refine (Ud ad c _ (HE.out.keepN HK.out) h0 h1).mono ?_
    rintro e w1 ⟨rfl,hc1⟩
    obtain ⟨c0,c1⟩:=FIN.out _ hc1
    go_wp2_with fail
    go_ret
    exact ⟨rfl,HK.out.then hc1⟩
  · have hc0:((c:Int)==0)=false:=by simp;omega
    have HB:=Lib.hid (HK.out.keep hb (fun f=>f))
    clear hb
    go_enter Tryz.func26,Tryz.ntmps26
    go_wp2_with fail
    refine (V4 ad c pb at_ _ (HE.out.keepN HK.out) h0 h1 HB.out).mono ?_
    rintro e w1 ⟨rfl,hc1⟩
    obtain ⟨c0,c1⟩:=FIN.out _ hc1
    go_wp2_with fail
    go_ret
    exact ⟨rfl,HK.out.then hc1⟩
def R6 (w:World) (B:Nat) (a:Option Addr) (l:List ByteArray):Prop:=∀ (k:Nat) x,l[k]?=some x→x.size≤9223372036854775807∧∃ g off,a=some ⟨g,off,none⟩∧g<B∧w.cell? ⟨g,off+k,none⟩=some (.string x)
theorem R6.keep {w w':World} {B:Nat} {a:Option Addr} {l:List ByteArray} {S:Nat→Prop} (h:R6 w B a l) (hB:B≤w.heap.size) (c:Chg S w w') (hS:∀ x,S x→B≤x):R6 w' B a l:=fun k x hx=>by
  obtain ⟨h0,g,off,e,hg,hc⟩:=h k x hx
  exact ⟨h0,g,off,e,hg,(c.cell (p:=⟨g,off+k,none⟩) (by simp;omega) (fun s=>by have:=hS _ s;simp at this;omega)).trans hc⟩
end
section
open Go.RowKit Go.Lib
def RelNE (s:ByteArray) (w:World) (i:Value) (wr:World):Prop:=∃ k:Nat,k≤s.size∧i=.int .i64 k∧w=wr∧∀ b∈s.data.toList.take k,Cn b.toNat=true
theorem S5 {l:List UInt8} {k:Nat} {b:UInt8} (h:l[k]?=some b) (hb:Cn b.toNat=false):If l≠none:=by
  unfold If
  intro e
  rw [List.findIdx?_eq_none_iff] at e
  have:=e b (List.mem_of_getElem? h)
  rw [hb] at this
  cases this
theorem Ad6 {l:List UInt8} (h:∀ b∈l,Cn b.toNat=true):If l=none:=by
  unfold If
  rw [List.findIdx?_eq_none_iff]
  intro x hx
  rw [h x hx];rfl
theorem Zc {s:ByteArray} {k:Nat} (h:k<s.size):s.data.toList[k]?=some s[k]:=by
  have hkl:k<s.data.toList.length:=by rw [Array.length_toList];exact h
  rw [List.getElem?_eq_getElem hkl];rfl
theorem Qh (s:ByteArray) (w:World) (hs:s.size≤9223372036854775807) :
    Calls Tryz.prog 60 #[.string s] w fun e w'=>e=.returned (.int .i64 (Hy s:Nat))∧w=w':=by
  by_cases h0:s.size<1
  · have HX:=Lib.hid (C3 (s:=s) (fun h=>by have:=h.1;omega))
    rw [HX.out]
    go_enter Tryz.func60,Tryz.ntmps60
    go_wp2_with fail
    go_ret
    exact ⟨rfl,rfl⟩
  have h0d:decide (s.size<1)=false:=by simpa using h0
  have h0e:s.size≠0:=by omega
  by_cases h1:24<s.size
  · have HX:=Lib.hid (C3 (s:=s) (fun h=>by have:=h.2.1;omega))
    rw [HX.out]
    go_enter Tryz.func60,Tryz.ntmps60
    go_wp2_with fail
    go_ret
    exact ⟨rfl,rfl⟩
  have h1d:decide (24<s.size)=false:=by simpa using h1
  by_cases h2:s=Acj
  · have HX:=Lib.hid (C3 (s:=s) (fun h=>h.2.2.1 h2))
    rw [HX.out]
    subst h2
    unfold Acj at *
    clear h0d h1d h0 h1 h0e
    go_enter Tryz.func60,Tryz.ntmps60
    go_wp2_with fail
    go_ret
    exact ⟨rfl,rfl⟩
  have h2n:=P5 (l:=[46]) h2
  by_cases h3:s=Adt
  · have HX:=Lib.hid (C3 (s:=s) (fun h=>h.2.2.2.1 h3))
    rw [HX.out]
    subst h3
    unfold Adt at *
    clear h0d h1d h0 h1 h0e
    go_enter Tryz.func60,Tryz.ntmps60
    go_wp2_with fail
    go_ret
    exact ⟨rfl,rfl⟩
  have h3n:=P5 (l:=[46,46]) h3
  have HOK:=Lib.hid (show A0 s↔If s.data.toList=none from ⟨fun h=>h.2.2.2.2,fun h=>⟨by omega,by omega,h2,h3,h⟩⟩)
  clear h2 h3
  go_enter Tryz.func60,Tryz.ntmps60
  go_wp2_with fail
  go_loopw [3] (fun i wr=>RelNE s w i wr) (fun i _=>(s.size - RowKit.intOf i).toNat)
  case atStart=>exact ⟨0,Nat.zero_le _,rfl,rfl,by simp⟩
  case round=>
    obtain ⟨k,hk,rfl,rfl,hall⟩:=hrel
    have HA:=Lib.hid hall
    clear hall
    by_cases hlt:k<s.size
    · have j0:(0:Int)≤(k:Int):=by omega
      have j1:(k:Int)<(s.size:Int):=by omega
      have HB:=Lib.hid (Zc hlt)
      obtain ⟨n,hn⟩:∃ n:Nat,n=s[k].toNat:=⟨_,rfl⟩
      have HN:=Lib.hid hn
      have hnI:((s[k].toNat:Nat):Int)=(n:Int):=by rw [hn]
      clear hn
      rcases (show (n<45∨n=47)∨n=45∨n=46∨(48≤n∧n≤57)∨(58≤n∧n≤64)∨(65≤n∧n≤90)∨((91≤n∧n≤94)∨n=96)∨n=95∨(97≤n∧n≤122)∨123≤n by omega) with hz|hz|hz|hz|hz|hz|hz|hz|hz|hz
      · have t1:decide ((97:Int)≤(n:Int))=false:=by simp;omega
        have t2:decide ((n:Int)≤122)=true:=by simp;omega
        have t3:decide ((65:Int)≤(n:Int))=false:=by simp;omega
        have t4:decide ((n:Int)≤90)=true:=by simp;omega
        have t5:decide ((48:Int)≤(n:Int))=false:=by simp;omega
        have t6:decide ((n:Int)≤57)=true:=by simp;omega
        have t7:((n:Int) != 46)=true:=by simp;omega
        have t8:((n:Int) != 45)=true:=by simp;omega
        have t9:((n:Int) != 95)=true:=by simp;omega
        have HS:=Lib.hid (show Cn n=false by unfold Cn;simp;omega)
        clear hz
        have HX:=Lib.hid (C3 (s:=s) (fun h=>S5 HB.out (by rw [← HN.out];exact HS.out) (HOK.out.1 h)))
        go_wp2_with fail
        go_ret
        exact ⟨by rw [HX.out];rfl,rfl⟩
      · have t1:decide ((97:Int)≤(n:Int))=false:=by simp;omega
        have t2:decide ((n:Int)≤122)=true:=by simp;omega
        have t3:decide ((65:Int)≤(n:Int))=false:=by simp;omega
        have t4:decide ((n:Int)≤90)=true:=by simp;omega
        have t5:decide ((48:Int)≤(n:Int))=false:=by simp;omega
        have t6:decide ((n:Int)≤57)=true:=by simp;omega
        have t7:((n:Int) != 46)=true:=by simp;omega
        have t8:((n:Int) != 45)=false:=by simp;omega
        have t9:((n:Int) != 95)=true:=by simp;omega
        have HS:=Lib.hid (show Cn n=true by unfold Cn;simp;omega)
        clear hz
        go_wp2_with fail
        go_roundw
        case rel=>exact ⟨k+1,by omega,by go_num,rfl,fun x hx=>by
          rw [Gg HB.out] at hx
          rcases List.mem_append.1 hx with hx|hx
          · exact HA.out x hx
          · rw [List.mem_singleton.1 hx,← HN.out];exact HS.out⟩
        case measure=>simp [RowKit.intOf];omega
      · have t1:decide ((97:Int)≤(n:Int))=false:=by simp;omega
        have t2:decide ((n:Int)≤122)=true:=by simp;omega
        have t3:decide ((65:Int)≤(n:Int))=false:=by simp;omega
        have t4:decide ((n:Int)≤90)=true:=by simp;omega
        have t5:decide ((48:Int)≤(n:Int))=false:=by simp;omega
        have t6:decide ((n:Int)≤57)=true:=by simp;omega
        have t7:((n:Int) != 46)=false:=by simp;omega
        have t8:((n:Int) != 45)=true:=by simp;omega
        have t9:((n:Int) != 95)=true:=by simp;omega
        have HS:=Lib.hid (show Cn n=true by unfold Cn;simp;omega)
        clear hz
        go_wp2_with fail
        go_roundw
        case rel=>exact ⟨k+1,by omega,by go_num,rfl,fun x hx=>by
          rw [Gg HB.out] at hx
          rcases List.mem_append.1 hx with hx|hx
          · exact HA.out x hx
          · rw [List.mem_singleton.1 hx,← HN.out];exact HS.out⟩
        case measure=>simp [RowKit.intOf];omega
      · have t1:decide ((97:Int)≤(n:Int))=false:=by simp;omega
        have t2:decide ((n:Int)≤122)=true:=by simp;omega
        have t3:decide ((65:Int)≤(n:Int))=false:=by simp;omega
        have t4:decide ((n:Int)≤90)=true:=by simp;omega
        have t5:decide ((48:Int)≤(n:Int))=true:=by simp;omega
        have t6:decide ((n:Int)≤57)=true:=by simp;omega
        have t7:((n:Int) != 46)=true:=by simp;omega
        have t8:((n:Int) != 45)=true:=by simp;omega
        have t9:((n:Int) != 95)=true:=by simp;omega
        have HS:=Lib.hid (show Cn n=true by unfold Cn;simp;omega)
        clear hz
        go_wp2_with fail
        go_roundw
        case rel=>exact ⟨k+1,by omega,by go_num,rfl,fun x hx=>by
          rw [Gg HB.out] at hx
          rcases List.mem_append.1 hx with hx|hx
          · exact HA.out x hx
          · rw [List.mem_singleton.1 hx,← HN.out];exact HS.out⟩
        case measure=>simp [RowKit.intOf];omega
      · have t1:decide ((97:Int)≤(n:Int))=false:=by simp;omega
        have t2:decide ((n:Int)≤122)=true:=by simp;omega
        have t3:decide ((65:Int)≤(n:Int))=false:=by simp;omega
        have t4:decide ((n:Int)≤90)=true:=by simp;omega
        have t5:decide ((48:Int)≤(n:Int))=true:=by simp;omega
        have t6:decide ((n:Int)≤57)=false:=by simp;omega
        have t7:((n:Int) != 46)=true:=by simp;omega
        have t8:((n:Int) != 45)=true:=by simp;omega
        have t9:((n:Int) != 95)=true:=by simp;omega
        have HS:=Lib.hid (show Cn n=false by unfold Cn;simp;omega)
        clear hz
        have HX:=Lib.hid (C3 (s:=s) (fun h=>S5 HB.out (by rw [← HN.out];exact HS.out) (HOK.out.1 h)))
        go_wp2_with fail
        go_ret
        exact ⟨by rw [HX.out];rfl,rfl⟩
      · have t1:decide ((97:Int)≤(n:Int))=false:=by simp;omega
        have t2:decide ((n:Int)≤122)=true:=by simp;omega
        have t3:decide ((65:Int)≤(n:Int))=true:=by simp;omega
        have t4:decide ((n:Int)≤90)=true:=by simp;omega
        have t5:decide ((48:Int)≤(n:Int))=true:=by simp;omega
        have t6:decide ((n:Int)≤57)=false:=by simp;omega
        have t7:((n:Int) != 46)=true:=by simp;omega
        have t8:((n:Int) != 45)=true:=by simp;omega
        have t9:((n:Int) != 95)=true:=by simp;omega
        have HS:=Lib.hid (show Cn n=true by unfold Cn;simp;omega)
        clear hz
        go_wp2_with fail
        go_roundw
        case rel=>exact ⟨k+1,by omega,by go_num,rfl,fun x hx=>by
          rw [Gg HB.out] at hx
          rcases List.mem_append.1 hx with hx|hx
          · exact HA.out x hx
          · rw [List.mem_singleton.1 hx,← HN.out];exact HS.out⟩
        case measure=>simp [RowKit.intOf];omega
      · have t1:decide ((97:Int)≤(n:Int))=false:=by simp;omega
        have t2:decide ((n:Int)≤122)=true:=by simp;omega
        have t3:decide ((65:Int)≤(n:Int))=true:=by simp;omega
        have t4:decide ((n:Int)≤90)=false:=by simp;omega
        have t5:decide ((48:Int)≤(n:Int))=true:=by simp;omega
        have t6:decide ((n:Int)≤57)=false:=by simp;omega
        have t7:((n:Int) != 46)=true:=by simp;omega
        have t8:((n:Int) != 45)=true:=by simp;omega
        have t9:((n:Int) != 95)=true:=by simp;omega
        have HS:=Lib.hid (show Cn n=false by unfold Cn;simp;omega)
        clear hz
        have HX:=Lib.hid (C3 (s:=s) (fun h=>S5 HB.out (by rw [← HN.out];exact HS.out) (HOK.out.1 h)))
        go_wp2_with fail
        go_ret
        exact ⟨by rw [HX.out];rfl,rfl⟩
      · have t1:decide ((97:Int)≤(n:Int))=false:=by simp;omega
        have t2:decide ((n:Int)≤122)=true:=by simp;omega
        have t3:decide ((65:Int)≤(n:Int))=true:=by simp;omega
        have t4:decide ((n:Int)≤90)=false:=by simp;omega
        have t5:decide ((48:Int)≤(n:Int))=true:=by simp;omega
        have t6:decide ((n:Int)≤57)=false:=by simp;omega
        have t7:((n:Int) != 46)=true:=by simp;omega
        have t8:((n:Int) != 45)=true:=by simp;omega
        have t9:((n:Int) != 95)=false:=by simp;omega
        have HS:=Lib.hid (show Cn n=true by unfold Cn;simp;omega)
        clear hz
        go_wp2_with fail
        go_roundw
        case rel=>exact ⟨k+1,by omega,by go_num,rfl,fun x hx=>by
          rw [Gg HB.out] at hx
          rcases List.mem_append.1 hx with hx|hx
          · exact HA.out x hx
          · rw [List.mem_singleton.1 hx,← HN.out];exact HS.out⟩
        case measure=>simp [RowKit.intOf];omega
      · have t1:decide ((97:Int)≤(n:Int))=true:=by simp;omega
        have t2:decide ((n:Int)≤122)=true:=by simp;omega
        have t3:decide ((65:Int)≤(n:Int))=true:=by simp;omega
        have t4:decide ((n:Int)≤90)=false:=by simp;omega
        have t5:decide ((48:Int)≤(n:Int))=true:=by simp;omega
        have t6:decide ((n:Int)≤57)=false:=by simp;omega
        have t7:((n:Int) != 46)=true:=by simp;omega
        have t8:((n:Int) != 45)=true:=by simp;omega
        have t9:((n:Int) != 95)=true:=by simp;omega
        have HS:=Lib.hid (show Cn n=true by unfold Cn;simp;omega)
        clear hz
        go_wp2_with fail
        go_roundw
        case rel=>exact ⟨k+1,by omega,by go_num,rfl,fun x hx=>by
          rw [Gg HB.out] at hx
          rcases List.mem_append.1 hx with hx|hx
          · exact HA.out x hx
          · rw [List.mem_singleton.1 hx,← HN.out];exact HS.out⟩
        case measure=>simp [RowKit.intOf];omega
      · have t1:decide ((97:Int)≤(n:Int))=true:=by simp;omega
        have t2:decide ((n:Int)≤122)=false:=by simp;omega
        have t3:decide ((65:Int)≤(n:Int))=true:=by simp;omega
        have t4:decide ((n:Int)≤90)=false:=by simp;omega
        have t5:decide ((48:Int)≤(n:Int))=true:=by simp;omega
        have t6:decide ((n:Int)≤57)=false:=by simp;omega
        have t7:((n:Int) != 46)=true:=by simp;omega
        have t8:((n:Int) != 45)=true:=by simp;omega
        have t9:((n:Int) != 95)=true:=by simp;omega
        have HS:=Lib.hid (show Cn n=false by unfold Cn;simp;omega)
        clear hz
        have HX:=Lib.hid (C3 (s:=s) (fun h=>S5 HB.out (by rw [← HN.out];exact HS.out) (HOK.out.1 h)))
        go_wp2_with fail
        go_ret
        exact ⟨by rw [HX.out];rfl,rfl⟩
    · obtain rfl:k=s.size:=by omega
      have HX:=Lib.hid (Bf (s:=s) (HOK.out.2 (Ad6 (fun b hb=>HA.out b (by rw [List.take_of_length_le (by rw [Array.length_toList];exact Nat.le_refl _)];exact hb)))))
      go_wp2_with fail
      go_ret
      exact ⟨by rw [HX.out];rfl,rfl⟩
end
theorem W7 {B:Nat} (ad:Nat→Addr) (s:ByteArray) (hs:s.size≤9223372036854775807):Au Tryz.prog 53 #[.string s] [Br B ad [4]] fun u L=>u=Ag ad (Hy s)∧L=[Br B ad [4]]:=fun E w0 w ho=>
  (Aaq ad s w (ho.fact 0 rfl) hs).mono fun e w' ⟨he,hc⟩=>⟨_,_,⟨rfl,rfl⟩,he,ho.quiet hc⟩
theorem O6 (s:ByteArray) (hs:s.size≤9223372036854775807):Au Tryz.prog 60 #[.string s] [] fun u L=>u=.int .i64 (Hy s:Nat)∧L=[]:=
  Ph fun w=>(Qh s w hs).mono fun e w' ⟨he,hc⟩=>⟨he,hc▸Chg.refl _ _⟩
theorem Ri {B:Nat} (ad:Nat→Addr) (s:ByteArray) (hs:s.size≤9223372036854775807):Au Tryz.prog 53 #[.string s] [Br B ad [4]] fun u L=>(A0 s∧u=.nilIface∧L=[Br B ad [4]])∨(¬A0 s∧u=Ag ad 4∧L=[Br B ad [4]]):=
  (W7 ad s hs).mono fun u L ⟨h1,h2⟩=>by
    by_cases h:A0 s
    · exact .inl ⟨h,by rw [h1,Bf h];rfl,h2⟩
    · exact .inr ⟨h,by rw [h1,C3 h],h2⟩
theorem Et (s:ByteArray) (hs:s.size≤9223372036854775807):Au Tryz.prog 60 #[.string s] [] fun u L=>(A0 s∧u=.int .i64 0∧L=[])∨(¬A0 s∧u=.int .i64 4∧L=[]):=
  (O6 s hs).mono fun u L ⟨h1,h2⟩=>by
    by_cases h:A0 s
    · exact .inl ⟨h,by rw [h1,Bf h];rfl,h2⟩
    · exact .inr ⟨h,by rw [h1,C3 h];rfl,h2⟩
section
variable {B:Nat} (ad:Nat→Addr)
include B ad
theorem Np (b:Nat) (n g:Int) (ps:List (Option Nat)) (gs:List Int) (vl vg:Value) (T:TypeId) (Sl Sg:Nat→Prop) (hl:ps.length=gs.length) (hr:∀ x∈gs,0≤x∧x≤1000000) (ha:Bk ps gs n g=none) :
    Au Tryz.prog 67 #[Pp b,Hg n g] [B1 b ps gs vl vg T Sl Sg,Br B ad [10]] fun u L=>u=.tuple #[.pointer none,Ag ad 10]∧L=[B1 b ps gs vl vg T Sl Sg,Br B ad [10]]:=
  (Wd ad b n g ps gs vl vg T Sl Sg hl hr).mono fun u L h=>by
    rcases h with ⟨nb,h1,_⟩|⟨_,h2,h3⟩
    · rw [ha] at h1;cases h1
    · exact ⟨h2,h3⟩
theorem Bq (tb:Nat) (ps:List (Option Nat)) (gs:List Int) (vl vg:Value) (T:TypeId) (Sl Sg:Nat→Prop) (l:List (Option ND)) (hl:ps.length=gs.length) (hr:∀ x∈gs,0≤x∧x≤1000000) (n g:Int) (k:Nat) (N:ND) (hk:l[k]?=some (some N)) (ha:Bk ps gs n g=some N.nb) (hc:0≤N.change∧N.change≤1000000):Au Tryz.prog 57 #[Pp tb,Hg n g] [B1 tb ps gs vl vg T Sl Sg,Cm l,Br B ad [10]] (fun u L=>u=.nilIface∧L=[B1 tb ps gs vl vg T Sl Sg,Cm (l.set k (some { N with change:=N.change+1 })),Br B ad [10]]):=by
 refine Zo 23 Tryz.func57 fun E w0 w h=>?_
 refine Qs (ZN [Ii n,Ii g] 34 h fun k1 w h=>ZP .nilIface (Qm (ZP (Pp tb) (ZG h (Gla 0 [Ii n,Ii g] 0) (ZC [1,2] (F0 ad tb _ n g ps gs vl vg T Sl Sg hl hr ha) h fun w h=>?_)))))
 have h:=(h.pkr [3]).ndOpen hk
 refine ZP (.tuple #[Pp N.nb,.nilIface]) (ZP (Pp N.nb) (ZP .nilIface (ZP (Pp N.nb) (ZP .nilIface (Qu (ZP .nilIface (ZP (.bool false) (Fs (ZP (Pp N.nb) (ZP (Pp N.nb) (ZP (Pp N.nb) (ZP (Pt N.nb 3) (ZG h (Gl 3 (Ii N.change) 0) (ZG h (Gw (N.change+1)) (ZP (Pp N.nb) (ZP (Pp N.nb) (ZP (Pt N.nb 3) (ZS 3 [Ii (N.change+1)] [Ii N.kind,Ii N.size,Ii N.links,Ii (N.change+1),Ii N.upn,Ii N.upg,(Ab7 N.dq)] 0 rfl h fun w h=>Qm (ZP .nilIface (Qr ?_))))))))))))))))))))
 have h:=h.ndClose { N with change:=N.change+1 }
 exact ZR [.nilIface] [1,0,0] h ⟨rfl,rfl⟩
theorem Gs (tb:Nat) (ps:List (Option Nat)) (gs:List Int) (vl vg:Value) (T:TypeId) (Sl Sg:Nat→Prop) (l:List (Option ND)) (hl:ps.length=gs.length) (hr:∀ x∈gs,0≤x∧x≤1000000) (n g:Int) (k:Nat) (N:ND) (hk:l[k]?=some (some N)) (ha:Bk ps gs n g=some N.nb) (a0 a1 a2 a3 a4 a5:Int):Au Tryz.prog 31 #[Pp tb,Hg n g,.agg #[Ii a0,Ii a1,Ii a2,Ii a3,Ii a4,Ii a5]] [B1 tb ps gs vl vg T Sl Sg,Cm l,Br B ad [10]] (fun u L=>L=[B1 tb ps gs vl vg T Sl Sg,Cm (l.set k (some { N with kind:=a0,size:=a1,links:=a2,upn:=a4,upg:=a5 })),Br B ad [10]]):=by
 refine Zo 23 Tryz.func31 fun E w0 w h=>?_
 refine Qs (ZN [Ii n,Ii g] 34 h fun k1 w h=>ZN [Ii a0,Ii a1,Ii a2,Ii a3,Ii a4,Ii a5] 46 h fun k2 w h=>Qm (ZP (Pp tb) (ZG h (Gla 0 [Ii n,Ii g] 1) (ZC [2,3] (F0 ad tb _ n g ps gs vl vg T Sl Sg hl hr ha) h fun w h=>?_))))
 have h:=(h.pkr [4]).ndOpen hk
 refine ZP (.tuple #[Pp N.nb,.nilIface]) (ZP (Pp N.nb) (ZP .nilIface (ZP (Pp N.nb) (ZP .nilIface (Qm (ZP .nilIface (ZP (.bool true) (Qg (Qs (ZP (Pp N.nb) (ZP (Pp N.nb) (ZP (Pp N.nb) (ZP (Pt N.nb 3) (ZG h (Gl 3 (Ii N.change) 0) (ZP (Pt k2 3) (ZS 3 [Ii N.change] [Ii a0,Ii a1,Ii a2,Ii N.change,Ii a4,Ii a5] 5 rfl h fun w h=>Qn (Ah (ZP (Pp N.nb) (ZG h (Gla 0 [Ii a0,Ii a1,Ii a2,Ii N.change,Ii a4,Ii a5] 5) (ZP (Pp N.nb) (ZP (Pp N.nb) (ZS 0 [Ii a0,Ii a1,Ii a2,Ii N.change,Ii a4,Ii a5] [Ii a0,Ii a1,Ii a2,Ii N.change,Ii a4,Ii a5,(Ab7 N.dq)] 0 rfl h fun w h=>Cu ?_))))))))))))))))))))))
 have h:=h.ndClose { N with kind:=a0,size:=a1,links:=a2,upn:=a4,upg:=a5 }
 exact ZR [] [1,0,0] h rfl
theorem I9 (tb:Nat) (ps:List (Option Nat)) (gs:List Int) (vl vg:Value) (T:TypeId) (Sl Sg:Nat→Prop) (l:List (Option ND)) (hl:ps.length=gs.length) (hr:∀ x∈gs,0≤x∧x≤1000000) (n g:Int) (ha:Bk ps gs n g=none):Au Tryz.prog 46 #[Pp tb,Hg n g] [B1 tb ps gs vl vg T Sl Sg,Cm l,Br B ad [10]] (fun u L=>u=.tuple #[.agg #[Ii 0,Ii 0,Ii 0,Ii 0,Ii 0,Ii 0],Ag ad 10]∧L=[B1 tb ps gs vl vg T Sl Sg,Cm l,Br B ad [10]]):=by
 refine Zo 33 Tryz.func46 fun E w0 w h=>?_
 refine Qs (ZN [Ii n,Ii g] 34 h fun k1 w h=>ZN [Ii 0,Ii 0,Ii 0,Ii 0,Ii 0,Ii 0] 46 h fun k2 w h=>ZP .nilIface (Qm (ZP (Pp tb) (ZG h (Gla 0 [Ii n,Ii g] 1) (ZC [2,3] (Np ad tb n g ps gs vl vg T Sl Sg hl hr ha) h fun w h=>ZP (.tuple #[.pointer none,Ag ad 10]) (ZP (.pointer none) (ZP (Ag ad 10) (ZP (.pointer none) (ZP (Ag ad 10) (Qu (ZP (Ag ad 10) (ZP (.bool true) (Qg (Qs (ZP (.agg #[Ii 0,Ii 0,Ii 0,Ii 0,Ii 0,Ii 0]) (ZP (Ag ad 10) (ZSs [Ii 0,Ii 0,Ii 0,Ii 0,Ii 0,Ii 0] 2 rfl h fun w h=>ZP (Ag ad 10) (Qr (Ar ?_)))))))))))))))))))
 refine B5 [.agg #[Ii 0,Ii 0,Ii 0,Ii 0,Ii 0,Ii 0],Ag ad 10] [0,3,0] h (by kernel_rfl) (Du 0 [Ii 0,Ii 0,Ii 0,Ii 0,Ii 0,Ii 0] (.agg #[Ii 0,Ii 0,Ii 0,Ii 0,Ii 0,Ii 0]) 2 rfl (by kernel_rfl) (Ei (by kernel_rfl) Dr)) ?_
 exact ⟨rfl,rfl⟩
theorem Xc (tb:Nat) (ps:List (Option Nat)) (gs:List Int) (vl vg:Value) (T:TypeId) (Sl Sg:Nat→Prop) (l:List (Option ND)) (hl:ps.length=gs.length) (hr:∀ x∈gs,0≤x∧x≤1000000) (n g:Int) (k nb:Nat) (ki si li ch un ug:Int) (hk:l[k]?=some (some (⟨nb,ki,si,li,ch,un,ug,none⟩:ND))) (ha:Bk ps gs n g=some nb):Au Tryz.prog 46 #[Pp tb,Hg n g] [B1 tb ps gs vl vg T Sl Sg,Cm l,Br B ad [10]] (fun u L=>u=.tuple #[.agg #[Ii ki,Ii si,Ii li,Ii ch,Ii un,Ii ug],.nilIface]∧L=[B1 tb ps gs vl vg T Sl Sg,Cm l,Br B ad [10]]):=by
 refine Zo 33 Tryz.func46 fun E w0 w h=>?_
 refine Qs (ZN [Ii n,Ii g] 34 h fun k1 w h=>ZN [Ii 0,Ii 0,Ii 0,Ii 0,Ii 0,Ii 0] 46 h fun k2 w h=>ZP .nilIface (Qm (ZP (Pp tb) (ZG h (Gla 0 [Ii n,Ii g] 1) (ZC [2,3] (F0 ad tb nb n g ps gs vl vg T Sl Sg hl hr ha) h fun w h=>?_)))))
 have h:=(h.pkr [4]).ndOpen hk
 refine ZP (.tuple #[Pp nb,.nilIface]) (ZP (Pp nb) (ZP .nilIface (ZP (Pp nb) (ZP .nilIface (Qu (ZP .nilIface (ZP (.bool false) (Fs (ZP (Pp nb) (ZP (Pp nb) (ZP (Pp nb) (ZG h (Gla 0 [Ii ki,Ii si,Ii li,Ii ch,Ii un,Ii ug] 0) (ZN [Ii 0,Ii 0,Ii 0,Ii 0,Ii 0,Ii 0] 46 h fun k3 w h=>ZSs [Ii ki,Ii si,Ii li,Ii ch,Ii un,Ii ug] 0 rfl h fun w h=>Qu (ZP (Pp nb) (ZP (Pp nb) (ZP (Pt nb 6) (ZG h (Gl 6 (.pointer none) 1) (ZP (.bool false) (Fs (ZG h (Gla 0 [Ii ki,Ii si,Ii li,Ii ch,Ii un,Ii ug] 0) (ZSs [Ii ki,Ii si,Ii li,Ii ch,Ii un,Ii ug] 6 rfl h fun w h=>ZP .nilIface (Qr ?_))))))))))))))))))))))
 have h:=(h.pkr [1,1,1]).ndBack (N:=(⟨nb,ki,si,li,ch,un,ug,none⟩:ND)) hk
 refine B5 [.agg #[Ii ki,Ii si,Ii li,Ii ch,Ii un,Ii ug],.nilIface] [2,0,1] h (by kernel_rfl) (Du 0 [Ii ki,Ii si,Ii li,Ii ch,Ii un,Ii ug] (.agg #[Ii ki,Ii si,Ii li,Ii ch,Ii un,Ii ug]) 4 rfl (by kernel_rfl) (Ei (by kernel_rfl) Dr)) ?_
 exact ⟨rfl,rfl⟩
theorem Wh (tb:Nat) (ps:List (Option Nat)) (gs:List Int) (vl vg:Value) (T:TypeId) (Sl Sg:Nat→Prop) (l:List (Option ND)) (hl:ps.length=gs.length) (hr:∀ x∈gs,0≤x∧x≤1000000) (n g:Int) (k nb:Nat) (ki si li ch un ug:Int) (q:DQ) (hk:l[k]?=some (some (⟨nb,ki,si,li,ch,un,ug,some q⟩:ND))) (ha:Bk ps gs n g=some nb):Au Tryz.prog 46 #[Pp tb,Hg n g] [B1 tb ps gs vl vg T Sl Sg,Cm l,Br B ad [10]] (fun u L=>u=.tuple #[.agg #[Ii ki,Ii q.size,Ii li,Ii ch,Ii un,Ii ug],.nilIface]∧L=[B1 tb ps gs vl vg T Sl Sg,Cm l,Br B ad [10]]):=by
 refine Zo 33 Tryz.func46 fun E w0 w h=>?_
 refine Qs (ZN [Ii n,Ii g] 34 h fun k1 w h=>ZN [Ii 0,Ii 0,Ii 0,Ii 0,Ii 0,Ii 0] 46 h fun k2 w h=>ZP .nilIface (Qm (ZP (Pp tb) (ZG h (Gla 0 [Ii n,Ii g] 1) (ZC [2,3] (F0 ad tb nb n g ps gs vl vg T Sl Sg hl hr ha) h fun w h=>?_)))))
 have h:=(h.pkr [4]).ndOpen hk
 refine ZP (.tuple #[Pp nb,.nilIface]) (ZP (Pp nb) (ZP .nilIface (ZP (Pp nb) (ZP .nilIface (Qu (ZP .nilIface (ZP (.bool false) (Fs (ZP (Pp nb) (ZP (Pp nb) (ZP (Pp nb) (ZG h (Gla 0 [Ii ki,Ii si,Ii li,Ii ch,Ii un,Ii ug] 0) (ZN [Ii 0,Ii 0,Ii 0,Ii 0,Ii 0,Ii 0] 46 h fun k3 w h=>ZSs [Ii ki,Ii si,Ii li,Ii ch,Ii un,Ii ug] 0 rfl h fun w h=>Qu (ZP (Pp nb) (ZP (Pp nb) (ZP (Pt nb 6) (ZG h (Gl 6 (Pp q.db) 1) (ZP (.bool true) (Qg (Ah (ZP (Pp nb) (ZP (Pp nb) (ZP (Pt nb 6) (ZG h (Gl 6 (Pp q.db) 1) (ZC [2] (Xi q) h fun w h=>ZP (Pt k3 1) (ZS 1 [Ii q.size] [Ii ki,Ii q.size,Ii li,Ii ch,Ii un,Ii ug] 1 rfl h fun w h=>Qm (ZG h (Gla 0 [Ii ki,Ii q.size,Ii li,Ii ch,Ii un,Ii ug] 1) (ZSs [Ii ki,Ii q.size,Ii li,Ii ch,Ii un,Ii ug] 6 rfl h fun w h=>ZP .nilIface (Qr ?_)))))))))))))))))))))))))))))
 have h:=(h.pkr [2,0,1]).ndBack (N:=(⟨nb,ki,si,li,ch,un,ug,some q⟩:ND)) hk
 refine B5 [.agg #[Ii ki,Ii q.size,Ii li,Ii ch,Ii un,Ii ug],.nilIface] [2,0,1] h (by kernel_rfl) (Du 0 [Ii ki,Ii q.size,Ii li,Ii ch,Ii un,Ii ug] (.agg #[Ii ki,Ii q.size,Ii li,Ii ch,Ii un,Ii ug]) 4 rfl (by kernel_rfl) (Ei (by kernel_rfl) Dr)) ?_
 exact ⟨rfl,rfl⟩
theorem Xm (tb:Nat) (ps:List (Option Nat)) (gs:List Int) (vl vg:Value) (T:TypeId) (Sl Sg:Nat→Prop) (l:List (Option ND)) (hl:ps.length=gs.length) (hr:∀ x∈gs,0≤x∧x≤1000000) (n g:Int) (ha:Bk ps gs n g=none):Au Tryz.prog 73 #[Pp tb,Hg n g] [B1 tb ps gs vl vg T Sl Sg,Cm l,Br B ad [10]] (fun u L=>u=.tuple #[.pointer none,Ag ad 10]∧L=[B1 tb ps gs vl vg T Sl Sg,Cm l,Br B ad [10]]):=by
 refine Zo 27 Tryz.func73 fun E w0 w h=>?_
 exact Qs (ZN [Ii n,Ii g] 34 h fun k1 w h=>ZP (.pointer none) (ZP .nilIface (Qm (ZP (Pp tb) (ZG h (Gla 0 [Ii n,Ii g] 0) (ZC [1,2] (Np ad tb n g ps gs vl vg T Sl Sg hl hr ha) h fun w h=>ZP (.tuple #[.pointer none,Ag ad 10]) (ZP (.pointer none) (ZP (Ag ad 10) (ZP (.pointer none) (ZP (Ag ad 10) (Qn (Aa (Av (Qs (ZP (Ag ad 10) (ZP (.bool true) (ZP (.bool true) (Qg (Qs (ZP (Ag ad 10) (ZP (.pointer none) (ZP (Ag ad 10) (Qr (B7 (Ar (ZR [.pointer none,Ag ad 10] [0,2,0] h ⟨rfl,rfl⟩))))))))))))))))))))))))))
theorem Xk (tb:Nat) (ps:List (Option Nat)) (gs:List Int) (vl vg:Value) (T:TypeId) (Sl Sg:Nat→Prop) (l:List (Option ND)) (hl:ps.length=gs.length) (hr:∀ x∈gs,0≤x∧x≤1000000) (n g:Int) (k nb:Nat) (kd si li ch un ug:Int) (hk:l[k]?=some (some (⟨nb,kd,si,li,ch,un,ug,none⟩:ND))) (ha:Bk ps gs n g=some nb):Au Tryz.prog 73 #[Pp tb,Hg n g] [B1 tb ps gs vl vg T Sl Sg,Cm l,Br B ad [10],Br B ad [8]] (fun u L=>u=.tuple #[.pointer none,Ag ad 8]∧L=[B1 tb ps gs vl vg T Sl Sg,Cm l,Br B ad [10],Br B ad [8]]):=by
 refine Zo 27 Tryz.func73 fun E w0 w h=>?_
 refine Qs (ZN [Ii n,Ii g] 34 h fun k1 w h=>ZP (.pointer none) (ZP .nilIface (Qm (ZP (Pp tb) (ZG h (Gla 0 [Ii n,Ii g] 0) (ZC [1,2] (F0 ad tb nb n g ps gs vl vg T Sl Sg hl hr ha) h fun w h=>?_))))))
 have h:=(h.pkr [3]).ndOpen hk
 refine ZP (.tuple #[Pp nb,.nilIface]) (ZP (Pp nb) (ZP .nilIface (ZP (Pp nb) (ZP .nilIface (Qn (Aa (Av (Qs (ZP .nilIface (ZP (.bool false) (ZP (.bool false) (Qf (Qs (ZP (Pp nb) (ZP (Pp nb) (ZP (Pt nb 6) (ZG h (Gl 6 (.pointer none) 0) (ZP (.bool true) (ZP (.bool true) (Qg (Aa (Ds 3 [6] h fun w h=>Dq 0 2 [6] rfl h (Gr 0 (Ag ad 8) 0 rfl (Ff (c:=8) (by decide) rfl)) (Dp 1 1 (.pointer none) [6] h (Dp 2 3 (Ag ad 8) [6] h (Dd (Ai (Hv (B7 (Ar ?_)))))))))))))))))))))))))))))
 have h:=h.ndBack (N:=(⟨nb,kd,si,li,ch,un,ug,none⟩:ND)) hk
 exact ZR [.pointer none,Ag ad 8] [1,0,0,1] h ⟨rfl,rfl⟩
theorem Es (tb:Nat) (ps:List (Option Nat)) (gs:List Int) (vl vg:Value) (T:TypeId) (Sl Sg:Nat→Prop) (l:List (Option ND)) (hl:ps.length=gs.length) (hr:∀ x∈gs,0≤x∧x≤1000000) (n g:Int) (k nb:Nat) (kd si li ch un ug:Int) (q:DQ) (hk:l[k]?=some (some (⟨nb,kd,si,li,ch,un,ug,some q⟩:ND))) (ha:Bk ps gs n g=some nb):Au Tryz.prog 73 #[Pp tb,Hg n g] [B1 tb ps gs vl vg T Sl Sg,Cm l,Br B ad [10]] (fun u L=>u=.tuple #[Pp q.db,.nilIface]∧L=[B1 tb ps gs vl vg T Sl Sg,Cm l,Br B ad [10]]):=by
 refine Zo 27 Tryz.func73 fun E w0 w h=>?_
 refine Qs (ZN [Ii n,Ii g] 34 h fun k1 w h=>ZP (.pointer none) (ZP .nilIface (Qm (ZP (Pp tb) (ZG h (Gla 0 [Ii n,Ii g] 0) (ZC [1,2] (F0 ad tb nb n g ps gs vl vg T Sl Sg hl hr ha) h fun w h=>?_))))))
 have h:=(h.pkr [3]).ndOpen hk
 refine ZP (.tuple #[Pp nb,.nilIface]) (ZP (Pp nb) (ZP .nilIface (ZP (Pp nb) (ZP .nilIface (Qn (Aa (Av (Qs (ZP .nilIface (ZP (.bool false) (ZP (.bool false) (Qf (Qs (ZP (Pp nb) (ZP (Pp nb) (ZP (Pt nb 6) (ZG h (Gl 6 (Pp q.db) 0) (ZP (.bool false) (ZP (.bool false) (Qf (B6 ?_)))))))))))))))))))))
 refine Cb (Ai ?_)
 refine Qs (ZP (Pp nb) (ZP (Pp nb) (ZP (Pt nb 6) (ZG h (Gl 6 (Pp q.db) 0) (ZP (Pp q.db) (ZP .nilIface (Qr ?_)))))))
 have h:=h.ndBack (N:=(⟨nb,kd,si,li,ch,un,ug,some q⟩:ND)) hk
 exact ZR [Pp q.db,.nilIface] [1,0,0] h ⟨rfl,rfl⟩
end
theorem Y5 {B:Nat} (ad:Nat→Addr) (c:Nat) (code:Int) (w:World) (he:J9 B ad w) (hc:c≤15) (hcode:(c:Int)=code) :
    Calls Tryz.prog 18 #[Ag ad c,.int .i64 code] w fun e w'=>e=.returned (.bool true)∧Chg Nil w w':=by
  by_cases h0:c=0
  · subst h0
    have hb:((0:Int)==code)=true:=by simp;omega
    rw [Nj]
    clear hcode
    go_enter Tryz.func18,Tryz.ntmps18
    go_wp2_with fail
    refine (Uh _).mono ?_
    rintro e w1 ⟨rfl,rfl⟩
    go_wp2_with fail
    go_ret
    exact ⟨rfl,Chg.refl _ _⟩
  · have hb:((c:Int)==code)=true:=by simp;omega
    have HE:=Lib.hid he
    rw [O8 h0]
    clear hcode he
    go_enter Tryz.func18,Tryz.ntmps18
    go_wp2_with fail
    refine (Ud ad c w HE.out (by omega) hc).mono ?_
    rintro e w1 ⟨rfl,hc1⟩
    go_wp2_with fail
    go_ret
    exact ⟨rfl,hc1⟩
theorem Bm {B:Nat} (ad:Nat→Addr) (tb:Nat) (ps:List (Option Nat)) (gs:List Int) (vl vg:Value) (T:TypeId) (Sl Sg:Nat→Prop) (l:List (Option ND)) (hl:ps.length=gs.length) (hr:∀ x∈gs,0≤x∧x≤1000000) (n g:Int) (k:Nat) (N:ND) (hlk:l[k]?=some (some N)) (ha:Bk ps gs n g=some N.nb) :
    Au Tryz.prog 46 #[Pp tb,Hg n g] [B1 tb ps gs vl vg T Sl Sg,Cm l,Br B ad [10]] fun u L=>u=.tuple #[.agg #[Ii N.kind,Ii (Am N),Ii N.links,Ii N.change,Ii N.upn,Ii N.upg],.nilIface]∧L=[B1 tb ps gs vl vg T Sl Sg,Cm l,Br B ad [10]]:=by
  obtain ⟨nb,ki,si,li,ch,un,ug,dq⟩:=N
  cases dq with
  | none=>exact Xc ad tb ps gs vl vg T Sl Sg l hl hr n g k nb ki si li ch un ug hlk ha
  | some q=>exact Wh ad tb ps gs vl vg T Sl Sg l hl hr n g k nb ki si li ch un ug q hlk ha
theorem A7 {B:Nat} (ad:Nat→Addr) (b most tb dm pm:Nat) (ps:List (Option Nat)) (gs:List Int) (vl vg:Value) (T:TypeId) (Sl Sg:Nat→Prop) (l:List (Option ND)) (ds:List DN) (pn:List ((Int×Int)×Int)) (hl:ps.length=gs.length) (hr:∀ x∈gs,0≤x∧x≤1000000) (n g:Int) (k:Nat) (N:ND) (hlk:l[k]?=some (some N)) (ha:Bk ps gs n g=some N.nb) (j:Nat) (d:DN) (hj:ds[j]?=some d) (hdh:d.h=(n,g)) (hdd:(ds.map (·.h)).Nodup)  : Au Tryz.prog 50 #[Pp b,Hg n g] [Rb b tb most dm pm,B1 tb ps gs vl vg T Sl Sg,Cm l,Ci true dm hk (ds.map Bt),Br B ad [10]] (fun u L=>u=.tuple #[.map (some d.mb),.nilIface]∧L=[Rb b tb most dm pm,B1 tb ps gs vl vg T Sl Sg,Cm l,Ci true dm hk (ds.map Bt),Br B ad [10]]):=by
 refine Zo 33 Tryz.func50 fun E w0 w h=>?_
 refine Qs (ZN [Ii n,Ii g] 34 h fun k1 w h=>ZP (.map none) (ZP .nilIface (Qn (Aa (Aa (Ds 12 [0,0] h fun w h=>Dp 0 528 (Pp b) [0,0] h (Dp 1 529 (Pp b) [0,0] h (Dp 2 531 (Pp b) [0,0] h (Dq 3 535 [0,0] rfl h (Gl 0 (Pp tb) 1) (Dq 4 527 [0,0] rfl h (Gla 0 [Ii n,Ii g] 0) ?_))))))))))
 refine A1 [5,9] (by kernel_rfl) rfl ?_
 refine Di #[Pp tb,Hg n g] [2,2,3] [3,3] rfl (by kernel_rfl) (Bm ad tb ps gs vl vg T Sl Sg l hl hr n g k N hlk ha) (fun _=>by kernel_rfl) h ?_ ?_
 rintro v_ L_ w ⟨rfl,rfl⟩ h
 refine ⟨by kernel_rfl,?_⟩
 refine Dp 6 575 (.tuple #[.agg #[Ii N.kind,Ii (Am N),Ii N.links,Ii N.change,Ii N.upn,Ii N.upg],.nilIface]) [3,3] h (Dp 7 895 (.agg #[Ii N.kind,Ii (Am N),Ii N.links,Ii N.change,Ii N.upn,Ii N.upg]) [3,3] h (Dp 8 1791 .nilIface [3,3] h ?_))
 refine A1 [9] (by kernel_rfl) rfl ?_
 refine Ch [4,4] rfl (by kernel_rfl) (fun b=>Pp b) [Ii 0,Ii 0,Ii 0,Ii 0,Ii 0,Ii 0] 46 (fun _=>by kernel_rfl) h ?_ ?_
 intro k2 w h;refine ⟨by kernel_rfl,?_⟩
 exact As 10 [4,4] 0 [Ii N.kind,Ii (Am N),Ii N.links,Ii N.change,Ii N.upn,Ii N.upg] [Ii N.kind,Ii (Am N),Ii N.links,Ii N.change,Ii N.upn,Ii N.upg] 0 rfl h fun w h=>Dp 11 2047 .nilIface [4,4] h (Dd (Ai (Qs (ZP .nilIface (ZP (.bool false) (Qf (Kn (Aa (Ds 11 [4,4,4] h fun w h=>Dp 0 16 (Pp b) [4,4,4] h (Dp 1 17 (Pp b) [4,4,4] h (Dp 2 19 (Pt b 4) [4,4,4] h (Dq 3 23 [4,4,4] rfl h (Gl 4 (.map (some dm)) 1) (Dq 4 15 [4,4,4] rfl h (Gla 0 [Ii n,Ii g] 0) (Dq 5 31 [4,4,4] rfl h (A4 (v':=.tuple #[.map (some d.mb),.bool true]) (Gkd (kv:=ds.map Bt) true (n,g) 2 rfl) (by rw [show Af (ds.map Bt) (n,g)=_ from hdh▸C1 hdd hj];rfl)) (Dp 6 63 (.tuple #[.map (some d.mb),.bool true]) [4,4,4] h (Dp 7 383 (.map (some d.mb)) [4,4,4] h (Dp 8 767 (.bool true) [4,4,4] h (Dp 9 511 (.map (some d.mb)) [4,4,4] h (Dp 10 1023 (.bool true) [4,4,4] h (Dd (Ai (Qt (ZP (.bool true) (ZP (.bool false) (Fs (ZP (.map (some d.mb)) (ZP (.map (some d.mb)) (ZP .nilIface (Qr (ZR [.map (some d.mb),.nilIface] [5,1,1,3,1] h ⟨rfl,rfl⟩))))))))))))))))))))))))))))))
 exact Ba
 refine Ch [1,1] rfl (by kernel_rfl) (fun b=>Pp b) [Ii 0,Ii 0,Ii 0,Ii 0,Ii 0,Ii 0] 46 (fun _=>by kernel_rfl) h ?_ ?_
 intro k3 w h;refine ⟨by kernel_rfl,?_⟩
 refine Ad 5 [3,3,4] [4,4] (Bm ad tb ps gs vl vg T Sl Sg l hl hr n g k N hlk ha) h ?_
 rintro v_ L_ w ⟨rfl,rfl⟩ h
 refine ⟨by kernel_rfl,?_⟩
 exact Dp 6 575 (.tuple #[.agg #[Ii N.kind,Ii (Am N),Ii N.links,Ii N.change,Ii N.upn,Ii N.upg],.nilIface]) [4,4] h (Dp 7 895 (.agg #[Ii N.kind,Ii (Am N),Ii N.links,Ii N.change,Ii N.upn,Ii N.upg]) [4,4] h (Dp 8 1791 .nilIface [4,4] h (As 10 [4,4] 0 [Ii N.kind,Ii (Am N),Ii N.links,Ii N.change,Ii N.upn,Ii N.upg] [Ii N.kind,Ii (Am N),Ii N.links,Ii N.change,Ii N.upn,Ii N.upg] 3 rfl h fun w h=>Dp 11 2047 .nilIface [4,4] h (Dd (Ai (Qs (ZP .nilIface (ZP (.bool false) (Qf (Kn (Aa (Ds 11 [4,4,4] h fun w h=>Dp 0 16 (Pp b) [4,4,4] h (Dp 1 17 (Pp b) [4,4,4] h (Dp 2 19 (Pt b 4) [4,4,4] h (Dq 3 23 [4,4,4] rfl h (Gl 4 (.map (some dm)) 1) (Dq 4 15 [4,4,4] rfl h (Gla 0 [Ii n,Ii g] 0) (Dq 5 31 [4,4,4] rfl h (A4 (v':=.tuple #[.map (some d.mb),.bool true]) (Gkd (kv:=ds.map Bt) true (n,g) 2 rfl) (by rw [show Af (ds.map Bt) (n,g)=_ from hdh▸C1 hdd hj];rfl)) (Dp 6 63 (.tuple #[.map (some d.mb),.bool true]) [4,4,4] h (Dp 7 383 (.map (some d.mb)) [4,4,4] h (Dp 8 767 (.bool true) [4,4,4] h (Dp 9 511 (.map (some d.mb)) [4,4,4] h (Dp 10 1023 (.bool true) [4,4,4] h (Dd (Ai (Qt (ZP (.bool true) (ZP (.bool false) (Fs (ZP (.map (some d.mb)) (ZP (.map (some d.mb)) (ZP .nilIface (Qr (ZR [.map (some d.mb),.nilIface] [5,0,0,3,0] h ⟨rfl,rfl⟩)))))))))))))))))))))))))))))))))
 exact Ba
theorem A5 {B:Nat} (ad:Nat→Addr) (s:ByteArray) (hs:s.size≤9223372036854775807) (hok:A0 s):Au Tryz.prog 53 #[.string s] [Br B ad [4]] fun u L=>u=.nilIface∧L=[Br B ad [4]]:=
  (Ri ad s hs).mono fun u L h=>by
    rcases h with ⟨_,h1,h2⟩|⟨h0,_⟩
    · exact ⟨h1,h2⟩
    · exact absurd hok h0
theorem Cd {B:Nat} (ad:Nat→Addr) (b most tb dm pm:Nat) (ps:List (Option Nat)) (gs:List Int) (vl vg:Value) (T:TypeId) (Sl Sg:Nat→Prop) (l:List (Option ND)) (ds:List DN) (pn:List ((Int×Int)×Int)) (hl:ps.length=gs.length) (hr:∀ x∈gs,0≤x∧x≤1000000) (n g:Int) (k:Nat) (N:ND) (hlk:l[k]?=some (some N)) (ha:Bk ps gs n g=some N.nb) (j:Nat) (d:DN) (hj:ds[j]?=some d) (hdh:d.h=(n,g)) (hdd:(ds.map (·.h)).Nodup) (s:ByteArray) (hs:s.size≤9223372036854775807) (hok:A0 s)  : Au Tryz.prog 48 #[Pp b,Hg n g,.string s] [Rb b tb most dm pm,B1 tb ps gs vl vg T Sl Sg,Cm l,Ci true dm hk (ds.map Bt),Br B ad [10],Br B ad [4]] (fun u L=>u=.tuple #[.map (some d.mb),.nilIface]∧L=[Rb b tb most dm pm,B1 tb ps gs vl vg T Sl Sg,Cm l,Ci true dm hk (ds.map Bt),Br B ad [10],Br B ad [4]]):=by
 refine Zo 19 Tryz.func48 fun E w0 w h=>?_
 exact Qs (ZN [Ii n,Ii g] 34 h fun k1 w h=>ZP (.map none) (ZP .nilIface (Qm (ZP (Pp b) (ZG h (Gla 0 [Ii n,Ii g] 0) (ZC [1,1,1,1,1] (A7 ad b most tb dm pm ps gs vl vg T Sl Sg l ds pn hl hr n g k N hlk ha j d hj hdh hdd) h fun w h=>ZP (.tuple #[.map (some d.mb),.nilIface]) (ZP (.map (some d.mb)) (ZP .nilIface (ZP (.map (some d.mb)) (ZP .nilIface (Qu (ZP .nilIface (ZP (.bool false) (Fs (ZP (.map (some d.mb)) (ZP (.string s) (ZC [6] (A5 ad s hs hok) h fun w h=>ZP (.map (some d.mb)) (ZP .nilIface (Qr (ZR [.map (some d.mb),.nilIface] [1,1,1,1,1,0] h ⟨rfl,rfl⟩))))))))))))))))))))
def Ao (N:ND) (m:Int):ND:={ N with kind:=N.kind,size:=Am N,links:=N.links+m,upn:=N.upn,upg:=N.upg }
def Ae (N:ND):ND:={ N with change:=N.change+1 }
def keepN (N:ND) (a0 a1 a2 a4 a5:Int):ND:={ N with kind:=a0,size:=a1,links:=a2,upn:=a4,upg:=a5 }
theorem Rj {ps:List (Option Nat)} {gs:List Int} {k nb:Nat} {x:Int} (h1:k<ps.length) (h2:k<gs.length):Bk (ps.set k (some nb)) (gs.set k (x+1)) (k:Int) x=some nb:=by
  rw [Hp (p:=some nb) (x:=x+1) (List.getElem?_set_self h1) (List.getElem?_set_self h2)]
  simp
theorem Yo {ps:List (Option Nat)} {gs:List Int} {k i nb:Nat} {p:Option Nat} {y g:Int} (h:Bk ps gs (i:Int) g=some nb) (hn:k≠i):Bk (ps.set k p) (gs.set k y) (i:Int) g=some nb:=by
  have hl:i<ps.length∧i<gs.length:=by
    unfold Bk at h
    split at h
    · cases h
    · rename_i hb
      refine ⟨by omega,?_⟩
      simp only [Int.toNat_natCast] at h
      split at h
      · rename_i h1 h2;exact (List.getElem?_eq_some_iff.1 h2).1
      · cases h
  rw [← h,Hp (List.getElem?_eq_getElem hl.1) (List.getElem?_eq_getElem hl.2),Hp (p:=ps[i]) (x:=gs[i]) (by rw [List.getElem?_set_ne hn,List.getElem?_eq_getElem hl.1]) (by rw [List.getElem?_set_ne hn,List.getElem?_eq_getElem hl.2])]
theorem A3 {α:Type} {l:List α} {k i:Nat} {x y:α} (h:l[i]?=some y) (hn:k≠i):(l.set k x)[i]?=some y:=by rw [List.getElem?_set_ne hn,h]
theorem C0 {α:Type} {l:List α} {k:Nat} {x:α} (h:k<l.length):(l.set k x)[k]?=some x:=List.getElem?_set_self h
theorem Cz {α:Type} {l:List α} {k:Nat} {x:α} (h:l[k]?=some x):k<l.length:=(List.getElem?_eq_some_iff.1 h).1
theorem Xy {gs:List Int} {k:Nat} {x:Int} (hr:∀ y∈gs,0≤y∧y≤1000000) (hx:gs[k]?=some x) (hb:x≤1000):∀ y∈gs.set k (x+1),0≤y∧y≤1000000:=fun y hy=>by
  rcases List.mem_or_eq_of_mem_set hy with hy|rfl
  · exact hr y hy
  · have:=hr x (List.mem_of_getElem? hx);omega
theorem Yd {α β:Type} {l:List α} {m:List β} {k j:Nat} {x:α} {y:β} (h:l.length=m.length):(l.set k x).length=(m.set j y).length:=by simpa using h
theorem Da {B:Nat} (ad:Nat→Addr) (b most tb dm pm:Nat) (ps:List (Option Nat)) (gs:List Int) (vl vg:Value) (T:TypeId) (Sl Sg:Nat→Prop) (l:List (Option ND)) (ds:List DN) (pn:List ((Int×Int)×Int)) (hl:ps.length=gs.length) (hr:∀ x∈gs,0≤x∧x≤1000000) (n g:Int) (k:Nat) (N:ND) (hlk:l[k]?=some (some N)) (ha:Bk ps gs n g=some N.nb) (m:Int) (hm:-1≤m∧m≤1) (hli:0≤N.links∧N.links≤1000000)  : Au Tryz.prog 58 #[Pp b,Hg n g,Ii m] [Rb b tb most dm pm,B1 tb ps gs vl vg T Sl Sg,Cm l,Br B ad [10]] (fun u L=>L=[Rb b tb most dm pm,B1 tb ps gs vl vg T Sl Sg,Cm (l.set k (some (Ao N m))),Br B ad [10]]):=by
 refine Zo 26 Tryz.func58 fun E w0 w h=>?_
 refine Qs (ZN [Ii n,Ii g] 34 h fun k1 w h=>Qn (Aa (Ds 12 [0,0] h fun w h=>Dp 0 528 (Pp b) [0,0] h (Dp 1 529 (Pp b) [0,0] h (Dp 2 531 (Pp b) [0,0] h (Dq 3 535 [0,0] rfl h (Gl 0 (Pp tb) 1) (Dq 4 527 [0,0] rfl h (Gla 0 [Ii n,Ii g] 0) ?_)))))))
 refine A1 [5,9] (by kernel_rfl) rfl ?_
 refine Di #[Pp tb,Hg n g] [2,2,2] [3,3] rfl (by kernel_rfl) (Bm ad tb ps gs vl vg T Sl Sg l hl hr n g k N hlk ha) (fun _=>by kernel_rfl) h ?_ ?_
 rintro v_ L_ w ⟨rfl,rfl⟩ h
 refine ⟨by kernel_rfl,?_⟩
 refine Dp 6 575 (.tuple #[.agg #[Ii N.kind,Ii (Am N),Ii N.links,Ii N.change,Ii N.upn,Ii N.upg],.nilIface]) [3,3] h (Dp 7 895 (.agg #[Ii N.kind,Ii (Am N),Ii N.links,Ii N.change,Ii N.upn,Ii N.upg]) [3,3] h (Dp 8 1791 .nilIface [3,3] h ?_))
 refine A1 [9] (by kernel_rfl) rfl ?_
 refine Ch [4,4] rfl (by kernel_rfl) (fun b=>Pp b) [Ii 0,Ii 0,Ii 0,Ii 0,Ii 0,Ii 0] 46 (fun _=>by kernel_rfl) h ?_ ?_
 intro k2 w h;refine ⟨by kernel_rfl,?_⟩
 refine As 10 [4,4] 0 [Ii N.kind,Ii (Am N),Ii N.links,Ii N.change,Ii N.upn,Ii N.upg] [Ii N.kind,Ii (Am N),Ii N.links,Ii N.change,Ii N.upn,Ii N.upg] 0 rfl h fun w h=>Dp 11 2047 .nilIface [4,4] h (Dd (Ai (Qs (ZP (Pt k2 2) (ZG h (Gl 2 (Ii N.links) 0) (ZP (Ii m) (ZG h (Gw (N.links+m)) (ZP (Pt k2 2) (ZS 2 [Ii (N.links+m)] [Ii N.kind,Ii (Am N),Ii (N.links+m),Ii N.change,Ii N.upn,Ii N.upg] 0 rfl h fun w h=>Qn (Ds 7 [0,3,3] h fun w h=>Dp 0 48 (Pp b) [0,3,3] h (Dp 1 49 (Pp b) [0,3,3] h (Dp 2 51 (Pp b) [0,3,3] h (Dq 3 55 [0,3,3] rfl h (Gl 0 (Pp tb) 2) (Dq 4 47 [0,3,3] rfl h (Gla 0 [Ii n,Ii g] 1) (Dq 5 31 [0,3,3] rfl h (Gla 0 [Ii N.kind,Ii (Am N),Ii (N.links+m),Ii N.change,Ii N.upn,Ii N.upg] 0) ?_)))))))))))))))
 refine Ad 6 [1,1,1] [3,3,3] (Gs ad tb ps gs vl vg T Sl Sg l hl hr n g k N hlk ha N.kind (Am N) (N.links+m) N.change N.upn N.upg) h ?_
 rintro _ L_ w rfl h
 refine ⟨by kernel_rfl,?_⟩
 exact Dd (ZR [] [5,0,0,0] h rfl)
 exact Ba
 refine Ch [1,1] rfl (by kernel_rfl) (fun b=>Pp b) [Ii 0,Ii 0,Ii 0,Ii 0,Ii 0,Ii 0] 46 (fun _=>by kernel_rfl) h ?_ ?_
 intro k3 w h;refine ⟨by kernel_rfl,?_⟩
 refine Ad 5 [3,3,3] [4,4] (Bm ad tb ps gs vl vg T Sl Sg l hl hr n g k N hlk ha) h ?_
 rintro v_ L_ w ⟨rfl,rfl⟩ h
 refine ⟨by kernel_rfl,?_⟩
 refine Dp 6 575 (.tuple #[.agg #[Ii N.kind,Ii (Am N),Ii N.links,Ii N.change,Ii N.upn,Ii N.upg],.nilIface]) [4,4] h (Dp 7 895 (.agg #[Ii N.kind,Ii (Am N),Ii N.links,Ii N.change,Ii N.upn,Ii N.upg]) [4,4] h (Dp 8 1791 .nilIface [4,4] h (As 10 [4,4] 0 [Ii N.kind,Ii (Am N),Ii N.links,Ii N.change,Ii N.upn,Ii N.upg] [Ii N.kind,Ii (Am N),Ii N.links,Ii N.change,Ii N.upn,Ii N.upg] 3 rfl h fun w h=>Dp 11 2047 .nilIface [4,4] h (Dd (Ai (Qs (ZP (Pt k3 2) (ZG h (Gl 2 (Ii N.links) 3) (ZP (Ii m) (ZG h (Gw (N.links+m)) (ZP (Pt k3 2) (ZS 2 [Ii (N.links+m)] [Ii N.kind,Ii (Am N),Ii (N.links+m),Ii N.change,Ii N.upn,Ii N.upg] 3 rfl h fun w h=>Qn (Ds 7 [3,3,3] h fun w h=>Dp 0 48 (Pp b) [3,3,3] h (Dp 1 49 (Pp b) [3,3,3] h (Dp 2 51 (Pp b) [3,3,3] h (Dq 3 55 [3,3,3] rfl h (Gl 0 (Pp tb) 2) (Dq 4 47 [3,3,3] rfl h (Gla 0 [Ii n,Ii g] 1) (Dq 5 31 [3,3,3] rfl h (Gla 0 [Ii N.kind,Ii (Am N),Ii (N.links+m),Ii N.change,Ii N.upn,Ii N.upg] 0) ?_))))))))))))))))))
 refine Ad 6 [0,0,0] [3,3,3] (Gs ad tb ps gs vl vg T Sl Sg l hl hr n g k N hlk ha N.kind (Am N) (N.links+m) N.change N.upn N.upg) h ?_
 rintro _ L_ w rfl h
 refine ⟨by kernel_rfl,?_⟩
 exact Dd (ZR [] [5,0,0,0] h rfl)
 exact Ba
theorem Zq (b most tb dm pm:Nat)  : Au Tryz.prog 13 #[Pp b] [Rb b tb most dm pm] (fun u L=>u=Hg 0 0∧L=[Rb b tb most dm pm]):=by
 refine Zo 6 Tryz.func13 fun E w0 w h=>?_
 refine Qs (ZN [Ii 0,Ii 0] 34 h fun k1 w h=>Qm (ZP (Pp b) (ZP (Pp b) (ZP (Pt b 2) (ZG h (Gla 2 [Ii 0,Ii 0] 1) (ZSs [Ii 0,Ii 0] 0 rfl h fun w h=>Qr ?_))))))
 refine B5 [Hg 0 0] [1] h (by kernel_rfl) (Du 0 [Ii 0,Ii 0] (Hg 0 0) 0 rfl (by kernel_rfl) Dr) ?_
 exact ⟨rfl,rfl⟩
theorem W4 (b most tb dm pm:Nat) (ps:List (Option Nat)) (gs:List Int) (vl vg:Value) (T:TypeId) (Sl Sg:Nat→Prop) (hlen:ps.length≤300)  : Au Tryz.prog 15 #[Pp b] [Rb b tb most dm pm,B1 tb ps gs vl vg T Sl Sg] (fun u L=>u=Ii (Fj ps:Nat)∧L=[Rb b tb most dm pm,B1 tb ps gs vl vg T Sl Sg]):=by
 refine Zo 7 Tryz.func15 fun E w0 w h=>?_
 exact Qs (ZP (Ii 0) (Qm (ZP (Pp b) (ZP (Pp b) (ZP (Pp b) (ZG h (Gl 0 (Pp tb) 0) (ZC [1] (Qi tb ps gs vl vg T Sl Sg hlen) h fun w h=>ZP (Ii (Fj ps:Nat)) (Qr (ZR [Ii (Fj ps:Nat)] [1,0] h ⟨rfl,rfl⟩)))))))))
section
variable {B:Nat} (ad:Nat→Addr) (b most tb dm pm:Nat) (ps:List (Option Nat)) (gs:List Int) (vl vg:Value) (T:TypeId) (Sl Sg:Nat→Prop) (l:List (Option ND)) (ds:List DN) (pn:List ((Int×Int)×Int)) (hl:ps.length=gs.length) (hr:∀ x∈gs,0≤x∧x≤1000000) (n g:Int) (k:Nat) (N:ND) (hlk:l[k]?=some (some N)) (ha:Bk ps gs n g=some N.nb) (j:Nat) (d:DN) (hj:ds[j]?=some d) (hdh:d.h=(n,g)) (hdd:(ds.map (·.h)).Nodup) (s:ByteArray) (hs:s.size≤9223372036854775807) (hok:A0 s)
include B ad b most tb dm pm ps gs vl vg T Sl Sg l ds pn hl hr n g k N hlk ha j d hj hdh hdd s hs hok
theorem Gx (x:Int×Int) (hx:Af d.es s=some x):Au Tryz.prog 17 #[Pp b,Hg n g,.string s] [Rb b tb most dm pm,B1 tb ps gs vl vg T Sl Sg,Cm l,Ci true dm hk (ds.map Bt),Eh ds,Br B ad [10],Br B ad [4]] (fun u L=>u=.tuple #[Hg x.1 x.2,.nilIface]∧L=[Rb b tb most dm pm,B1 tb ps gs vl vg T Sl Sg,Cm l,Ci true dm hk (ds.map Bt),Eh ds,Br B ad [10],Br B ad [4]]):=by
 refine Zo 31 Tryz.func17 fun E w0 w h=>?_
 refine Qs (ZN [Ii n,Ii g] 34 h fun k1 w h=>ZN [Ii 0,Ii 0] 34 h fun k2 w h=>ZP .nilIface (Qm (ZP (Pp b) (ZG h (Gla 0 [Ii n,Ii g] 1) (ZP (.string s) (ZC [2,2,2,2,3,3] (Cd ad b most tb dm pm ps gs vl vg T Sl Sg l ds pn hl hr n g k N hlk ha j d hj hdh hdd s hs hok) h fun w h=>?_))))))
 have h:=(h.pkr [8]).dirOpen hj
 refine ZP (.tuple #[.map (some d.mb),.nilIface]) (ZP (.map (some d.mb)) (ZP .nilIface (ZP (.map (some d.mb)) (ZP .nilIface (Qu (ZP .nilIface (ZP (.bool false) (Fs (ZP (.map (some d.mb)) (ZP (.string s) (ZG h (A4 (v':=.tuple #[Hg x.1 x.2,.bool true]) (Gks (kv:=d.es.map Bd) true s 0 rfl) (by rw [B9 hx];rfl)) (ZP (.tuple #[Hg x.1 x.2,.bool true]) (ZP (Hg x.1 x.2) (ZP (.bool true) (ZN [Ii 0,Ii 0] 34 h fun k3 w h=>ZSs [Ii x.1,Ii x.2] 0 rfl h fun w h=>ZP (.bool true) (Qu (ZP (.bool true) (ZP (.bool false) (Fs (ZG h (Gla 0 [Ii x.1,Ii x.2] 0) (ZSs [Ii x.1,Ii x.2] 9 rfl h fun w h=>ZP .nilIface (Qr ?_))))))))))))))))))))))
 have h:=(h.pkr [1,1]).dirBack (d:=d) hj
 refine B5 [Hg x.1 x.2,.nilIface] [2,2,2,2,0,1,1] h (by kernel_rfl) (Du 0 [Ii x.1,Ii x.2] (Hg x.1 x.2) 8 rfl (by kernel_rfl) (Ei (by kernel_rfl) Dr)) ?_
 exact ⟨rfl,rfl⟩
theorem N1 (hx:Af d.es s=none) (kind:Int) (hki:kind=1∨kind=2) (hfew:60≤d.es.length):Au Tryz.prog 28 #[Pp b,Hg n g,.string s,Ii kind] [Rb b tb most dm pm,B1 tb ps gs vl vg T Sl Sg,Cm l,Ci true dm hk (ds.map Bt),Eh ds,Br B ad [10],Br B ad [4],Br B ad [9]] (fun u L=>u=.tuple #[Hg 0 0,Ag ad 9]∧L=[Rb b tb most dm pm,B1 tb ps gs vl vg T Sl Sg,Cm l,Ci true dm hk (ds.map Bt),Eh ds,Br B ad [10],Br B ad [4],Br B ad [9]]):=by
 refine Zo 94 Tryz.func28 fun E w0 w h=>?_
 refine Qs (ZN [Ii n,Ii g] 34 h fun k1 w h=>ZN [Ii 0,Ii 0] 34 h fun k2 w h=>ZP .nilIface (Qm (ZP (Pp b) (ZG h (Gla 0 [Ii n,Ii g] 1) (ZP (.string s) (ZC [2,2,2,2,3,3] (Cd ad b most tb dm pm ps gs vl vg T Sl Sg l ds pn hl hr n g k N hlk ha j d hj hdh hdd s hs hok) h fun w h=>?_))))))
 have h:=(h.pkr [8]).dirOpen hj
 refine ZP (.tuple #[.map (some d.mb),.nilIface]) (ZP (.map (some d.mb)) (ZP .nilIface (ZP (.map (some d.mb)) (ZP .nilIface (Qm (ZP (.map (some d.mb)) (ZP (.string s) (ZG h (A4 (v':=.tuple #[Hg 0 0,.bool false]) (Gks (kv:=d.es.map Bd) true s 0 rfl) (by rw [Ed hx];rfl)) (ZP (.tuple #[Hg 0 0,.bool false]) (ZP (Hg 0 0) (ZP (.bool false) (ZN [Ii 0,Ii 0] 34 h fun k3 w h=>ZSs [Ii 0,Ii 0] 0 rfl h fun w h=>ZP (.bool false) (Qn (Aa (Av (Qs (ZP .nilIface (ZP (.bool false) (ZP (.bool false) (Qf (Qs (ZP (Ii kind) ?_))))))))))))))))))))))
 obtain ⟨b4,hb4⟩:=nmB (!(decide (kind=1)))
 refine ZB hb4 (ZP (.bool b4) (ZM1 (v:=Ii kind) b4 h (fun hB=>by subst hB;exact Gp (Ii kind)) ?_))
 obtain ⟨b5,hb5⟩:=nmB (!(decide (kind=2)))
 refine ZM1 (v:=.bool b5) b4 h (fun hB=>by subst hB;exact by subst hb5;exact Az (v:=.bool (!(decide (kind=2)))) fun _=>by kernel_rfl) ?_
 obtain ⟨b6,hb6⟩:=nmB (b4&&b5)
 refine ZBc b4 hb6 (ZP (.bool b6) (Qn (Zi (b6) (fun hc7=>?_) fun hc7=>?_)))
 have q8:=hb6.symm.trans hc7
 have q9:=aL q8
 have q10:=aR q8
 have q11:=hb4.symm.trans q9
 have q12:(decide (kind=1))=false:=by simpa using q11
 have q12:=dcF q12
 have q13:=hb5.symm.trans q10
 have q14:(decide (kind=2))=false:=by simpa using q13
 have q14:=dcF q14
 exfalso;revert hc7;subst hb6;subst hb5;subst hb4;simp;omega
 have q15:=hb6.symm.trans hc7
 refine Qs (ZP (.bool false) (ZP (.bool false) (Qf (Qs (ZP (.map (some d.mb)) (ZG h (E3 (K:=9) (E:=34) (by kernel_rfl) 1 rfl) (ZP (.bool (decide (((d.es.map Bd).length:Int)≥60))) (ZP (.bool (decide (((d.es.map Bd).length:Int)≥60))) (Qn (Zd (((d.es.map Bd).length:Int)≥60) (fun hc16=>?_) fun hc16=>?_))))))))))
 refine Aa (Ds 4 [11] h fun w h=>Dp 0 2 (Hg 0 0) [11] h (Dq 1 5 [11] rfl h (Gr 0 (Ag ad 9) 0 rfl (Ff (c:=9) (by decide) rfl)) (As 2 [11] 0 [Ii 0,Ii 0] [Ii 0,Ii 0] 9 rfl h fun w h=>Dp 3 7 (Ag ad 9) [11] h (Dd (Ai (Hv (B7 (Ar ?_))))))))
 have h:=(h.pkr [1,1]).dirBack (d:=d) hj
 refine B5 [Hg 0 0,Ag ad 9] [2,2,2,2,0,1,1,3] h (by kernel_rfl) (Du 0 [Ii 0,Ii 0] (Hg 0 0) 8 rfl (by kernel_rfl) (Ei (by kernel_rfl) Dr)) ?_
 exact ⟨rfl,rfl⟩
 exfalso;revert hc16;simp;omega
theorem Sr (hx:Af d.es s=none) (hfew:d.es.length<60) (hnk:n=(k:Int)) (kf:Nat) (x:Int) (hf:F2 ps=some kf) (hxx:gs[kf]?=some x) (hx1:x≤1000) (hlen:ps.length≤300) (hll:l.length=ps.length) (hkk:kf≠k) (hch:0≤N.change∧N.change≤1000000):Au Tryz.prog 28 #[Pp b,Hg n g,.string s,Ii 1] [Rb b tb most dm pm,B1 tb ps gs vl vg T Sl Sg,Cm l,Ci true dm hk (ds.map Bt),Eh ds,Br B ad [10],Br B ad [4]] (fun u L=>∃ nb db,u=.tuple #[Hg kf x,.nilIface]∧L=[Rb b tb most dm pm,B1 tb (ps.set kf (some nb)) (gs.set kf (x+1)) vl vg T Sl Sg,Cm (((l.set kf (some (Cs nb 1 (some (Hs db))))).set kf (some (Ao (Cs nb 1 (some (Hs db))) 1))).set k (some (Ae N))),Ci true dm hk ((ds.set j { d with es:=Ay d.es s ((kf:Int),x) }).map Bt),Eh (ds.set j { d with es:=Ay d.es s ((kf:Int),x) }),Br B ad [10],Br B ad [4]]):=by
 refine Zo 94 Tryz.func28 fun E w0 w h=>?_
 refine Qs (ZN [Ii n,Ii g] 34 h fun k1 w h=>ZN [Ii 0,Ii 0] 34 h fun k2 w h=>ZP .nilIface (Qm (ZP (Pp b) (ZG h (Gla 0 [Ii n,Ii g] 1) (ZP (.string s) (ZC [2,2,2,2,3,3] (Cd ad b most tb dm pm ps gs vl vg T Sl Sg l ds pn hl hr n g k N hlk ha j d hj hdh hdd s hs hok) h fun w h=>?_))))))
 have h:=(h.pkr [8]).dirOpen hj
 refine ZP (.tuple #[.map (some d.mb),.nilIface]) (ZP (.map (some d.mb)) (ZP .nilIface (ZP (.map (some d.mb)) (ZP .nilIface (Qm (ZP (.map (some d.mb)) (ZP (.string s) (ZG h (A4 (v':=.tuple #[Hg 0 0,.bool false]) (Gks (kv:=d.es.map Bd) true s 0 rfl) (by rw [Ed hx];rfl)) (ZP (.tuple #[Hg 0 0,.bool false]) (ZP (Hg 0 0) (ZP (.bool false) (ZN [Ii 0,Ii 0] 34 h fun k3 w h=>ZSs [Ii 0,Ii 0] 0 rfl h fun w h=>ZP (.bool false) (Qn (Aa (Av (Qs (ZP .nilIface (ZP (.bool false) (ZP (.bool false) (Qf (Qs (ZP (Ii 1) (ZP (.bool false) (ZP (.bool false) (Zx (Zx (ZP (.bool false) (ZP (.bool false) (Qf (Qs (ZP (.bool false) (ZP (.bool false) (Qf (Qs (ZP (.map (some d.mb)) (ZG h (E3 (K:=9) (E:=34) (by kernel_rfl) 1 rfl) (ZP (.bool (decide (((d.es.map Bd).length:Int)≥60))) (ZP (.bool (decide (((d.es.map Bd).length:Int)≥60))) (Qn (Zd (((d.es.map Bd).length:Int)≥60) (fun hc4=>?_) fun hc4=>?_))))))))))))))))))))))))))))))))))))))))
 exfalso;revert hc4;simp;omega
 refine B6 ?_
 refine Cb (Ai ?_)
 refine Qs (ZP (Pp b) (ZP (Pp b) (ZP (Pp b) (ZG h (Gl 0 (Pp tb) 3) (ZP (Ii 1) ?_)))))
 refine ZD [4,4] (Tb tb kf x ps gs vl vg T Sl Sg l hlen hl hf hxx (by have:=hr x (List.mem_of_getElem? hxx);omega)) h ?_;rintro v_ L_ w ⟨nb5,db6,rfl,rfl⟩ h
 have hkfl:=Cz hxx
 have hkl:=Cz hlk
 have hx0:=hr x (List.mem_of_getElem? hxx)
 have hl2:=Yd (x:=some nb5) (y:=x+1) (k:=kf) (j:=kf) hl
 have hr2:=Xy hr hxx hx1
 have ha2:Bk (ps.set kf (some nb5)) (gs.set kf (x+1)) (kf:Int) x=some nb5:=Rj (by omega) hkfl
 have haN:Bk (ps.set kf (some nb5)) (gs.set kf (x+1)) n g=some N.nb:=by rw [hnk] at ha ⊢;exact Yo ha hkk
 refine ZP (.tuple #[Hg kf x,.nilIface]) (ZP (Hg kf x) (ZP .nilIface (ZN [Ii 0,Ii 0] 34 h fun k7 w h=>ZSs [Ii kf,Ii x] 0 rfl h fun w h=>ZP .nilIface (Qu (ZP .nilIface (ZP (.bool false) (Fs (ZP (.map (some d.mb)) (ZP (.string s) (ZG h (Gla 0 [Ii kf,Ii x] 0) ?_))))))))))
 refine Fn rfl (K:=9) (E:=34) (Co (by kernel_rfl)) s (Hg kf x) (by kernel_rfl) h 4 rfl ?_;intro w h
 refine Qu (ZP (Ii 1) (ZP (.bool false) (Qf (Ah (ZP (Pp b) (ZG h (Gla 0 [Ii kf,Ii x] 0) ?_))))))
 refine ZD [6,1,1,5] (Da ad b most tb dm pm (ps.set kf (some nb5)) (gs.set kf (x+1)) vl vg T Sl Sg (l.set kf (some (Cs nb5 1 (some (Hs db6))))) ds pn hl2 hr2 (kf:Int) x kf (Cs nb5 1 (some (Hs db6))) (C0 (by first|omega|(simp;omega))) ha2 1 (by omega) (by first|assumption|(constructor<;>first|omega|(simp [Ao,keepN,Cs,Ae]<;>omega)))) h ?_;rintro _ L_ w rfl h
 refine Qn (Aa (Ds 6 [0,10] h fun w h=>Dp 0 16 (Pp b) [0,10] h (Dp 1 17 (Pp b) [0,10] h (Dp 2 19 (Pp b) [0,10] h (Dq 3 23 [0,10] rfl h (Gl 0 (Pp tb) 0) (Dq 4 15 [0,10] rfl h (Gla 0 [Ii n,Ii g] 1) ?_))))))
 refine Ad 5 [1,1,1] [3,10] (Bq ad tb (ps.set kf (some nb5)) (gs.set kf (x+1)) vl vg T Sl Sg ((l.set kf (some (Cs nb5 1 (some (Hs db6))))).set kf (some (Ao (Cs nb5 1 (some (Hs db6))) 1))) hl2 hr2 n g k N (A3 (A3 hlk (by omega)) (by omega)) haN (by first|assumption|(constructor<;>first|omega|(simp [Ao,keepN,Cs,Ae]<;>omega)))) h ?_
 rintro v_ L_ w ⟨rfl,rfl⟩ h
 refine ⟨by kernel_rfl,?_⟩
 refine Dd (Ai (Qs (ZG h (Gla 0 [Ii kf,Ii x] 4) (ZSs [Ii kf,Ii x] 10 rfl h fun w h=>ZP .nilIface (Qr ?_)))))
 rw [show Ay (d.es.map Bd) s (Hg kf x)=(Ay d.es s ((kf:Int),x)).map Bd from Gi s ((kf:Int),x) d.es] at h
 have h:=(h.pkr [6,6]).dirClose { d with es:=Ay d.es s ((kf:Int),x) }
 try unfold Ra at h
 rw [← Bx (d':={ d with es:=Ay d.es s ((kf:Int),x) }) hj rfl rfl] at h
 refine B5 [Hg kf x,.nilIface] [4,1,1,4,0,0,2] h (by kernel_rfl) (Du 0 [Ii kf,Ii x] (Hg kf x) 9 rfl (by kernel_rfl) (Ei (by kernel_rfl) Dr)) ?_
 exact ⟨_,_,rfl,rfl⟩
theorem S3 (hx:Af d.es s=none) (hfew:d.es.length<60) (hnk:n=(k:Int)) (kf:Nat) (x:Int) (hf:F2 ps=some kf) (hxx:gs[kf]?=some x) (hx1:x≤1000) (hlen:ps.length≤300) (hll:l.length=ps.length) (hkk:kf≠k) (hch:0≤N.change∧N.change≤1000000) (hnh:∀ d∈ds,d.h≠((kf:Int),x)) (hli:0≤N.links∧N.links≤1000000):Au Tryz.prog 28 #[Pp b,Hg n g,.string s,Ii 2] [Rb b tb most dm pm,B1 tb ps gs vl vg T Sl Sg,Cm l,Ci true dm hk (ds.map Bt),Eh ds,Br B ad [10],Br B ad [4]] (fun u L=>∃ nb mb2,u=.tuple #[Hg kf x,.nilIface]∧L=[Rb b tb most dm pm,B1 tb (ps.set kf (some nb)) (gs.set kf (x+1)) vl vg T Sl Sg,Cm ((((l.set kf (some (Cs nb 2 none))).set kf (some (keepN (Cs nb 2 none) 2 0 2 n g))).set k (some (Ao N 1))).set k (some (Ae (Ao N 1)))),Ci true dm hk ((ds.set j { d with es:=Ay d.es s ((kf:Int),x) }++[(⟨((kf:Int),x),mb2,[]⟩:DN)]).map Bt),Eh (ds.set j { d with es:=Ay d.es s ((kf:Int),x) }++[(⟨((kf:Int),x),mb2,[]⟩:DN)]),Br B ad [10],Br B ad [4]]):=by
 refine Zo 94 Tryz.func28 fun E w0 w h=>?_
 refine Qs (ZN [Ii n,Ii g] 34 h fun k1 w h=>ZN [Ii 0,Ii 0] 34 h fun k2 w h=>ZP .nilIface (Qm (ZP (Pp b) (ZG h (Gla 0 [Ii n,Ii g] 1) (ZP (.string s) (ZC [2,2,2,2,3,3] (Cd ad b most tb dm pm ps gs vl vg T Sl Sg l ds pn hl hr n g k N hlk ha j d hj hdh hdd s hs hok) h fun w h=>?_))))))
 have h:=(h.pkr [8]).dirOpen hj
 refine ZP (.tuple #[.map (some d.mb),.nilIface]) (ZP (.map (some d.mb)) (ZP .nilIface (ZP (.map (some d.mb)) (ZP .nilIface (Qm (ZP (.map (some d.mb)) (ZP (.string s) (ZG h (A4 (v':=.tuple #[Hg 0 0,.bool false]) (Gks (kv:=d.es.map Bd) true s 0 rfl) (by rw [Ed hx];rfl)) (ZP (.tuple #[Hg 0 0,.bool false]) (ZP (Hg 0 0) (ZP (.bool false) (ZN [Ii 0,Ii 0] 34 h fun k3 w h=>ZSs [Ii 0,Ii 0] 0 rfl h fun w h=>ZP (.bool false) (Qn (Aa (Av (Qs (ZP .nilIface (ZP (.bool false) (ZP (.bool false) (Qf (Qs (ZP (Ii 2) (ZP (.bool true) (ZP (.bool true) (ZP (Ii 2) (ZP (.bool false) (ZP (.bool false) (ZP (.bool false) (Qf (Qs (ZP (.bool false) (ZP (.bool false) (Qf (Qs (ZP (.map (some d.mb)) (ZG h (E3 (K:=9) (E:=34) (by kernel_rfl) 1 rfl) (ZP (.bool (decide (((d.es.map Bd).length:Int)≥60))) (ZP (.bool (decide (((d.es.map Bd).length:Int)≥60))) (Qn (Zd (((d.es.map Bd).length:Int)≥60) (fun hc4=>?_) fun hc4=>?_))))))))))))))))))))))))))))))))))))))))
 exfalso;revert hc4;simp;omega
 refine B6 ?_
 refine Cb (Ai ?_)
 refine Qs (ZP (Pp b) (ZP (Pp b) (ZP (Pp b) (ZG h (Gl 0 (Pp tb) 3) (ZP (Ii 2) ?_)))))
 refine ZD [4,4] (Mt tb kf x ps gs vl vg T Sl Sg l hlen hl hf hxx (by have:=hr x (List.mem_of_getElem? hxx);omega)) h ?_;rintro v_ L_ w ⟨nb5,rfl,rfl⟩ h
 have hkfl:=Cz hxx
 have hkl:=Cz hlk
 have hx0:=hr x (List.mem_of_getElem? hxx)
 have hl2:=Yd (x:=some nb5) (y:=x+1) (k:=kf) (j:=kf) hl
 have hr2:=Xy hr hxx hx1
 have ha2:Bk (ps.set kf (some nb5)) (gs.set kf (x+1)) (kf:Int) x=some nb5:=Rj (by omega) hkfl
 have haN:Bk (ps.set kf (some nb5)) (gs.set kf (x+1)) n g=some N.nb:=by rw [hnk] at ha ⊢;exact Yo ha hkk
 refine ZP (.tuple #[Hg kf x,.nilIface]) (ZP (Hg kf x) (ZP .nilIface (ZN [Ii 0,Ii 0] 34 h fun k7 w h=>ZSs [Ii kf,Ii x] 0 rfl h fun w h=>ZP .nilIface (Qu (ZP .nilIface (ZP (.bool false) (Fs (ZP (.map (some d.mb)) (ZP (.string s) (ZG h (Gla 0 [Ii kf,Ii x] 0) ?_))))))))))
 refine Fn rfl (K:=9) (E:=34) (Co (by kernel_rfl)) s (Hg kf x) (by kernel_rfl) h 4 rfl ?_;intro w h
 refine Qu (ZP (Ii 2) (ZP (.bool true) (Qg (Aa (Ds 7 [0,5] h fun w h=>Dp 0 48 (Pp b) [0,5] h (Dp 1 49 (Pp b) [0,5] h (Dp 2 51 (Pt b 4) [0,5] h (Dq 3 55 [0,5] rfl h (Gl 4 (.map (some dm)) 1) (Dq 4 47 [0,5] rfl h (Gla 0 [Ii kf,Ii x] 0) ?_)))))))))
 refine A1 [5] (by kernel_rfl) rfl ?_
 refine Yn [1,6] rfl (by kernel_rfl) sk (fun _=>by kernel_rfl) h ?_ ?_
 intro k8 w h;refine ⟨by kernel_rfl,?_⟩
 refine A1 [6] (by kernel_rfl) rfl ?_
 refine Yf [1,6] rfl (by kernel_rfl) (K:=34) (E:=82) Dk ((kf:Int),x) (.map (some k8)) (by kernel_rfl) h 8 rfl ?_ ?_
 intro w h;refine ⟨by kernel_rfl,?_⟩
 refine Dd (Ai (Aa (Ds 9 [1,6,10] h fun w h=>Dp 0 240 (Pp b) [1,6,10] h (Dp 1 241 (Pp b) [1,6,10] h (Dp 2 243 (Pp b) [1,6,10] h (Dq 3 247 [1,6,10] rfl h (Gl 0 (Pp tb) 1) (Dq 4 239 [1,6,10] rfl h (Gla 0 [Ii kf,Ii x] 0) (Dp 5 95 (Ii 2) [1,6,10] h (Dq 6 63 [1,6,10] rfl h (Gla 0 [Ii n,Ii g] 2) (Dp 7 127 (.agg #[Ii 2,Ii 0,Ii 2,Ii 0,Ii n,Ii g]) [1,6,10] h ?_))))))))))
 refine Ad 8 [2,2,7] [4,7,10] (Gs ad tb (ps.set kf (some nb5)) (gs.set kf (x+1)) vl vg T Sl Sg (l.set kf (some (Cs nb5 2 none))) hl2 hr2 (kf:Int) x kf (Cs nb5 2 none) (C0 (by first|omega|(simp;omega))) ha2 2 0 2 0 n g) h ?_
 rintro _ L_ w rfl h
 refine ⟨by kernel_rfl,?_⟩
 refine Dd (Ai (Ah (ZP (Pp b) (ZG h (Gla 0 [Ii n,Ii g] 12) ?_))))
 refine ZD [8,0,0,0] (Da ad b most tb dm pm (ps.set kf (some nb5)) (gs.set kf (x+1)) vl vg T Sl Sg ((l.set kf (some (Cs nb5 2 none))).set kf (some (keepN (Cs nb5 2 none) 2 0 2 n g))) ds pn hl2 hr2 n g k N (A3 (A3 hlk (by omega)) (by omega)) haN 1 (by omega) (by first|assumption|(constructor<;>first|omega|(simp [Ao,keepN,Cs,Ae]<;>omega)))) h ?_;rintro _ L_ w rfl h
 refine Qn (Aa (Ds 6 [0,11] h fun w h=>Dp 0 16 (Pp b) [0,11] h (Dp 1 17 (Pp b) [0,11] h (Dp 2 19 (Pp b) [0,11] h (Dq 3 23 [0,11] rfl h (Gl 0 (Pp tb) 0) (Dq 4 15 [0,11] rfl h (Gla 0 [Ii n,Ii g] 1) ?_))))))
 refine Ad 5 [1,1,1] [3,11] (Bq ad tb (ps.set kf (some nb5)) (gs.set kf (x+1)) vl vg T Sl Sg (((l.set kf (some (Cs nb5 2 none))).set kf (some (keepN (Cs nb5 2 none) 2 0 2 n g))).set k (some (Ao N 1))) hl2 hr2 n g k (Ao N 1) (C0 (by first|omega|(simp;omega))) haN (by first|assumption|(constructor<;>first|omega|(simp [Ao,keepN,Cs,Ae]<;>omega)))) h ?_
 rintro v_ L_ w ⟨rfl,rfl⟩ h
 refine ⟨by kernel_rfl,?_⟩
 refine Dd (Ai (Qs (ZG h (Gla 0 [Ii kf,Ii x] 5) (ZSs [Ii kf,Ii x] 11 rfl h fun w h=>ZP .nilIface (Qr ?_)))))
 rw [show Ay (d.es.map Bd) s (Hg kf x)=(Ay d.es s ((kf:Int),x)).map Bd from Gi s ((kf:Int),x) d.es] at h
 have h:=(h.pkr [7,7]).dirClose { d with es:=Ay d.es s ((kf:Int),x) }
 try unfold Ra at h
 rw [← Bx (d':={ d with es:=Ay d.es s ((kf:Int),x) }) hj rfl rfl] at h
 have h:=(h.pkr [5]).dirAdd ⟨((kf:Int),x),k8,[]⟩
 rw [X4 (es:=[]) (fun d2 hd2=>by rcases List.mem_or_eq_of_mem_set hd2 with hd2|rfl;exact hnh d2 hd2;exact hnh d (List.mem_of_getElem? hj))] at h
 refine B5 [Hg kf x,.nilIface] [4,1,1,4,0,0,2] h (by kernel_rfl) (Du 0 [Ii kf,Ii x] (Hg kf x) 9 rfl (by kernel_rfl) (Ei (by kernel_rfl) Dr)) ?_
 exact ⟨_,_,rfl,rfl⟩
 exact Ba
 exact Ba
theorem Wq (hx:Af d.es s=none) (ni gi:Int) (ki:Nat) (Ni:ND) (hlki:l[ki]?=some (some Ni)) (hai:Bk ps gs ni gi=some Ni.nb) (hkd:Ni.kind=1) (hfew:d.es.length<60) (hli:0≤Ni.links∧Ni.links<8) (hki:ki≠k) (hch:0≤N.change∧N.change≤1000000) (hci:0≤Ni.change∧Ni.change≤1000000):Au Tryz.prog 33 #[Pp b,Hg ni gi,Hg n g,.string s] [Rb b tb most dm pm,B1 tb ps gs vl vg T Sl Sg,Cm l,Ci true dm hk (ds.map Bt),Eh ds,Br B ad [10],Br B ad [4]] (fun u L=>u=.nilIface∧L=[Rb b tb most dm pm,B1 tb ps gs vl vg T Sl Sg,Cm (((l.set ki (some (Ao Ni 1))).set ki (some (Ae (Ao Ni 1)))).set k (some (Ae N))),Ci true dm hk ((ds.set j { d with es:=Ay d.es s (ni,gi) }).map Bt),Eh (ds.set j { d with es:=Ay d.es s (ni,gi) }),Br B ad [10],Br B ad [4]]):=by
 have hkl:=Cz hlk
 have hkil:=Cz hlki
 refine Zo 75 Tryz.func33 fun E w0 w h=>?_
 refine Qs (ZN [Ii ni,Ii gi] 34 h fun k1 w h=>ZN [Ii n,Ii g] 34 h fun k2 w h=>ZP .nilIface (Qn (Aa (Ds 12 [1,1] h fun w h=>Dp 0 528 (Pp b) [1,1] h (Dp 1 529 (Pp b) [1,1] h (Dp 2 531 (Pp b) [1,1] h (Dq 3 535 [1,1] rfl h (Gl 0 (Pp tb) 1) (Dq 4 527 [1,1] rfl h (Gla 0 [Ii ni,Ii gi] 0) ?_))))))))
 refine A1 [5,9] (by kernel_rfl) rfl ?_
 refine Di #[Pp tb,Hg ni gi] [3,3,5] [4,4] rfl (by kernel_rfl) (Bm ad tb ps gs vl vg T Sl Sg l hl hr ni gi ki Ni hlki hai) (fun _=>by kernel_rfl) h ?_ ?_
 rintro v_ L_ w ⟨rfl,rfl⟩ h
 refine ⟨by kernel_rfl,?_⟩
 refine Dp 6 575 (.tuple #[.agg #[Ii Ni.kind,Ii (Am Ni),Ii Ni.links,Ii Ni.change,Ii Ni.upn,Ii Ni.upg],.nilIface]) [4,4] h (Dp 7 895 (.agg #[Ii Ni.kind,Ii (Am Ni),Ii Ni.links,Ii Ni.change,Ii Ni.upn,Ii Ni.upg]) [4,4] h (Dp 8 1791 .nilIface [4,4] h ?_))
 refine A1 [9] (by kernel_rfl) rfl ?_
 refine Ch [5,5] rfl (by kernel_rfl) (fun b=>Pp b) [Ii 0,Ii 0,Ii 0,Ii 0,Ii 0,Ii 0] 46 (fun _=>by kernel_rfl) h ?_ ?_
 intro k3 w h;refine ⟨by kernel_rfl,?_⟩
 refine As 10 [5,5] 0 [Ii Ni.kind,Ii (Am Ni),Ii Ni.links,Ii Ni.change,Ii Ni.upn,Ii Ni.upg] [Ii Ni.kind,Ii (Am Ni),Ii Ni.links,Ii Ni.change,Ii Ni.upn,Ii Ni.upg] 0 rfl h fun w h=>Dp 11 2047 .nilIface [5,5] h (Dd (Ai (Qt (ZP .nilIface (ZP (.bool false) (Fs (ZP (Pp b) (ZG h (Gla 0 [Ii n,Ii g] 4) (ZP (.string s) (ZC [6,1,1,4,1,4] (Cd ad b most tb dm pm ps gs vl vg T Sl Sg l ds pn hl hr n g k N hlk ha j d hj hdh hdd s hs hok) h fun w h=>?_))))))))))
 have h:=(h.pkr [9]).dirOpen hj
 refine ZP (.tuple #[.map (some d.mb),.nilIface]) (ZP (.map (some d.mb)) (ZP .nilIface (ZP (.map (some d.mb)) (ZP .nilIface (Qm (ZP (.map (some d.mb)) (ZP (.string s) (ZG h (A4 (v':=.tuple #[Hg 0 0,.bool false]) (Gks (kv:=d.es.map Bd) true s 0 rfl) (by rw [Ed hx];rfl)) (ZP (.tuple #[Hg 0 0,.bool false]) (ZP (Hg 0 0) (ZP (.bool false) (ZN [Ii 0,Ii 0] 34 h fun k4 w h=>ZSs [Ii 0,Ii 0] 0 rfl h fun w h=>ZP (.bool false) (Qn (Aa (Av (Qs (ZP .nilIface (ZP (.bool false) (ZP (.bool false) (Qf (Qs (ZP (Pp k3) (ZG h (Gl 0 (Ii Ni.kind) 9) (ZP (.bool (decide (Ni.kind=2))) (ZP (.bool (decide (Ni.kind=2))) (Qn (Zd (Ni.kind=2) (fun hc5=>?_) fun hc5=>?_)))))))))))))))))))))))))))
 exfalso;revert hc5;simp;omega
 refine Qs (ZP (.bool false) (ZP (.bool false) (Qf (Qs (ZP (.map (some d.mb)) (ZG h (E3 (K:=9) (E:=34) (by kernel_rfl) 1 rfl) ?_))))))
 obtain ⟨b6,hb6⟩:=nmB (decide (((d.es.map Bd).length:Int)≥60))
 refine ZB hb6 (ZP (.bool b6) (ZM0 (v:=Pt k3 2) b6 h (fun hB=>by subst hB;exact Gp (Pt k3 2)) (ZM0 (v:=Ii Ni.links) b6 h (fun hB=>by subst hB;exact Gl 2 (Ii Ni.links) 9) ?_)))
 obtain ⟨b7,hb7⟩:=nmB (decide (Ni.links≥8))
 refine ZM0 (v:=.bool b7) b6 h (fun hB=>by subst hB;exact by subst hb7;exact Az (v:=.bool (decide (Ni.links≥8))) fun _=>by kernel_rfl) ?_
 obtain ⟨b8,hb8⟩:=nmB (b6||b7)
 refine ZBc b6 hb8 (ZP (.bool b8) (Qn (Zi (b8) (fun hc9=>?_) fun hc9=>?_)))
 have q10:=hb8.symm.trans hc9
 have q11:((((d.es.map Bd).length:Int)≥60)∨(Ni.links≥8)):=by subst hb7;subst hb6;revert q10;first|(simp;done)|(simp;omega)
 exfalso;revert hc9;subst hb8;subst hb7;subst hb6;simp;omega
 have q12:=hb8.symm.trans hc9
 have q13:=oL q12
 have q14:=oR q12
 have q15:=hb6.symm.trans q13
 have q15:=dcF q15
 have q16:=hb7.symm.trans q14
 have q16:=dcF q16
 refine B6 ?_
 refine Cb (Ai ?_)
 refine Qs (ZP (.map (some d.mb)) (ZP (.string s) (ZG h (Gla 0 [Ii ni,Ii gi] 11) ?_)))
 refine Fn rfl (K:=9) (E:=34) (Co (by kernel_rfl)) s (Hg ni gi) (by kernel_rfl) h 1 rfl ?_;intro w h
 refine Qm (ZP (Pp b) (ZG h (Gla 0 [Ii ni,Ii gi] 11) ?_))
 refine ZD [3,3,3,4] (Da ad b most tb dm pm ps gs vl vg T Sl Sg l ds pn hl hr ni gi ki Ni hlki hai 1 (by omega) (by first|assumption|(constructor<;>first|omega|(simp [Ao,keepN,Cs,Ae]<;>omega)))) h ?_;rintro _ L_ w rfl h
 refine Qn (Aa (Ds 6 [0,10] h fun w h=>Dp 0 16 (Pp b) [0,10] h (Dp 1 17 (Pp b) [0,10] h (Dp 2 19 (Pp b) [0,10] h (Dq 3 23 [0,10] rfl h (Gl 0 (Pp tb) 0) (Dq 4 15 [0,10] rfl h (Gla 0 [Ii ni,Ii gi] 1) ?_))))))
 refine Ad 5 [1,1,1] [3,10] (Bq ad tb ps gs vl vg T Sl Sg (l.set ki (some (Ao Ni 1))) hl hr ni gi ki (Ao Ni 1) (C0 (by first|omega|(simp;omega))) hai (by first|assumption|(constructor<;>first|omega|(simp [Ao,keepN,Cs,Ae]<;>omega)))) h ?_
 rintro v_ L_ w ⟨rfl,rfl⟩ h
 refine ⟨by kernel_rfl,?_⟩
 refine Dd (Ai (Aa (Ds 6 [3,9] h fun w h=>Dp 0 16 (Pp b) [3,9] h (Dp 1 17 (Pp b) [3,9] h (Dp 2 19 (Pp b) [3,9] h (Dq 3 23 [3,9] rfl h (Gl 0 (Pp tb) 0) (Dq 4 15 [3,9] rfl h (Gla 0 [Ii n,Ii g] 1) ?_)))))))
 refine Ad 5 [0,0,0] [3,9] (Bq ad tb ps gs vl vg T Sl Sg ((l.set ki (some (Ao Ni 1))).set ki (some (Ae (Ao Ni 1)))) hl hr n g k N (A3 (A3 hlk (by omega)) (by omega)) ha (by first|assumption|(constructor<;>first|omega|(simp [Ao,keepN,Cs,Ae]<;>omega)))) h ?_
 rintro v_ L_ w ⟨rfl,rfl⟩ h
 refine ⟨by kernel_rfl,?_⟩
 refine Dd (Ai (Qs (ZP .nilIface (Qr ?_))))
 rw [show Ay (d.es.map Bd) s (Hg ni gi)=(Ay d.es s (ni,gi)).map Bd from Gi s (ni,gi) d.es] at h
 have h:=(h.pkr [5,5]).dirClose { d with es:=Ay d.es s (ni,gi) }
 try unfold Ra at h
 rw [← Bx (d':={ d with es:=Ay d.es s (ni,gi) }) hj rfl rfl] at h
 exact ZR [.nilIface] [4,1,1,3,0,0,1] h ⟨rfl,rfl⟩
 exact Ba
 refine Ch [2,2] rfl (by kernel_rfl) (fun b=>Pp b) [Ii 0,Ii 0,Ii 0,Ii 0,Ii 0,Ii 0] 46 (fun _=>by kernel_rfl) h ?_ ?_
 intro k17 w h;refine ⟨by kernel_rfl,?_⟩
 refine Ad 5 [4,4,6] [5,5] (Bm ad tb ps gs vl vg T Sl Sg l hl hr ni gi ki Ni hlki hai) h ?_
 rintro v_ L_ w ⟨rfl,rfl⟩ h
 refine ⟨by kernel_rfl,?_⟩
 refine Dp 6 575 (.tuple #[.agg #[Ii Ni.kind,Ii (Am Ni),Ii Ni.links,Ii Ni.change,Ii Ni.upn,Ii Ni.upg],.nilIface]) [5,5] h (Dp 7 895 (.agg #[Ii Ni.kind,Ii (Am Ni),Ii Ni.links,Ii Ni.change,Ii Ni.upn,Ii Ni.upg]) [5,5] h (Dp 8 1791 .nilIface [5,5] h (As 10 [5,5] 0 [Ii Ni.kind,Ii (Am Ni),Ii Ni.links,Ii Ni.change,Ii Ni.upn,Ii Ni.upg] [Ii Ni.kind,Ii (Am Ni),Ii Ni.links,Ii Ni.change,Ii Ni.upn,Ii Ni.upg] 3 rfl h fun w h=>Dp 11 2047 .nilIface [5,5] h (Dd (Ai (Qt (ZP .nilIface (ZP (.bool false) (Fs (ZP (Pp b) (ZG h (Gla 0 [Ii n,Ii g] 4) (ZP (.string s) (ZC [6,0,0,4,0,4] (Cd ad b most tb dm pm ps gs vl vg T Sl Sg l ds pn hl hr n g k N hlk ha j d hj hdh hdd s hs hok) h fun w h=>?_)))))))))))))
 have h:=(h.pkr [9]).dirOpen hj
 refine ZP (.tuple #[.map (some d.mb),.nilIface]) (ZP (.map (some d.mb)) (ZP .nilIface (ZP (.map (some d.mb)) (ZP .nilIface (Qm (ZP (.map (some d.mb)) (ZP (.string s) (ZG h (A4 (v':=.tuple #[Hg 0 0,.bool false]) (Gks (kv:=d.es.map Bd) true s 0 rfl) (by rw [Ed hx];rfl)) (ZP (.tuple #[Hg 0 0,.bool false]) (ZP (Hg 0 0) (ZP (.bool false) (ZN [Ii 0,Ii 0] 34 h fun k18 w h=>ZSs [Ii 0,Ii 0] 0 rfl h fun w h=>ZP (.bool false) (Qn (Aa (Av (Qs (ZP .nilIface (ZP (.bool false) (ZP (.bool false) (Qf (Qs (ZP (Pp k17) (ZG h (Gl 0 (Ii Ni.kind) 9) (ZP (.bool (decide (Ni.kind=2))) (ZP (.bool (decide (Ni.kind=2))) (Qn (Zd (Ni.kind=2) (fun hc19=>?_) fun hc19=>?_)))))))))))))))))))))))))))
 exfalso;revert hc19;simp;omega
 refine Qs (ZP (.bool false) (ZP (.bool false) (Qf (Qs (ZP (.map (some d.mb)) (ZG h (E3 (K:=9) (E:=34) (by kernel_rfl) 1 rfl) ?_))))))
 obtain ⟨b20,hb20⟩:=nmB (decide (((d.es.map Bd).length:Int)≥60))
 refine ZB hb20 (ZP (.bool b20) (ZM0 (v:=Pt k17 2) b20 h (fun hB=>by subst hB;exact Gp (Pt k17 2)) (ZM0 (v:=Ii Ni.links) b20 h (fun hB=>by subst hB;exact Gl 2 (Ii Ni.links) 9) ?_)))
 obtain ⟨b21,hb21⟩:=nmB (decide (Ni.links≥8))
 refine ZM0 (v:=.bool b21) b20 h (fun hB=>by subst hB;exact by subst hb21;exact Az (v:=.bool (decide (Ni.links≥8))) fun _=>by kernel_rfl) ?_
 obtain ⟨b22,hb22⟩:=nmB (b20||b21)
 refine ZBc b20 hb22 (ZP (.bool b22) (Qn (Zi (b22) (fun hc23=>?_) fun hc23=>?_)))
 have q24:=hb22.symm.trans hc23
 have q25:((((d.es.map Bd).length:Int)≥60)∨(Ni.links≥8)):=by subst hb21;subst hb20;revert q24;first|(simp;done)|(simp;omega)
 exfalso;revert hc23;subst hb22;subst hb21;subst hb20;simp;omega
 have q26:=hb22.symm.trans hc23
 have q27:=oL q26
 have q28:=oR q26
 have q29:=hb20.symm.trans q27
 have q29:=dcF q29
 have q30:=hb21.symm.trans q28
 have q30:=dcF q30
 refine B6 ?_
 refine Cb (Ai ?_)
 refine Qs (ZP (.map (some d.mb)) (ZP (.string s) (ZG h (Gla 0 [Ii ni,Ii gi] 11) ?_)))
 refine Fn rfl (K:=9) (E:=34) (Co (by kernel_rfl)) s (Hg ni gi) (by kernel_rfl) h 1 rfl ?_;intro w h
 refine Qm (ZP (Pp b) (ZG h (Gla 0 [Ii ni,Ii gi] 11) ?_))
 refine ZD [3,3,3,4] (Da ad b most tb dm pm ps gs vl vg T Sl Sg l ds pn hl hr ni gi ki Ni hlki hai 1 (by omega) (by first|assumption|(constructor<;>first|omega|(simp [Ao,keepN,Cs,Ae]<;>omega)))) h ?_;rintro _ L_ w rfl h
 refine Qn (Aa (Ds 6 [0,10] h fun w h=>Dp 0 16 (Pp b) [0,10] h (Dp 1 17 (Pp b) [0,10] h (Dp 2 19 (Pp b) [0,10] h (Dq 3 23 [0,10] rfl h (Gl 0 (Pp tb) 0) (Dq 4 15 [0,10] rfl h (Gla 0 [Ii ni,Ii gi] 1) ?_))))))
 refine Ad 5 [1,1,1] [3,10] (Bq ad tb ps gs vl vg T Sl Sg (l.set ki (some (Ao Ni 1))) hl hr ni gi ki (Ao Ni 1) (C0 (by first|omega|(simp;omega))) hai (by first|assumption|(constructor<;>first|omega|(simp [Ao,keepN,Cs,Ae]<;>omega)))) h ?_
 rintro v_ L_ w ⟨rfl,rfl⟩ h
 refine ⟨by kernel_rfl,?_⟩
 refine Dd (Ai (Aa (Ds 6 [3,9] h fun w h=>Dp 0 16 (Pp b) [3,9] h (Dp 1 17 (Pp b) [3,9] h (Dp 2 19 (Pp b) [3,9] h (Dq 3 23 [3,9] rfl h (Gl 0 (Pp tb) 0) (Dq 4 15 [3,9] rfl h (Gla 0 [Ii n,Ii g] 1) ?_)))))))
 refine Ad 5 [0,0,0] [3,9] (Bq ad tb ps gs vl vg T Sl Sg ((l.set ki (some (Ao Ni 1))).set ki (some (Ae (Ao Ni 1)))) hl hr n g k N (A3 (A3 hlk (by omega)) (by omega)) ha (by first|assumption|(constructor<;>first|omega|(simp [Ao,keepN,Cs,Ae]<;>omega)))) h ?_
 rintro v_ L_ w ⟨rfl,rfl⟩ h
 refine ⟨by kernel_rfl,?_⟩
 refine Dd (Ai (Qs (ZP .nilIface (Qr ?_))))
 rw [show Ay (d.es.map Bd) s (Hg ni gi)=(Ay d.es s (ni,gi)).map Bd from Gi s (ni,gi) d.es] at h
 have h:=(h.pkr [5,5]).dirClose { d with es:=Ay d.es s (ni,gi) }
 try unfold Ra at h
 rw [← Bx (d':={ d with es:=Ay d.es s (ni,gi) }) hj rfl rfl] at h
 exact ZR [.nilIface] [4,1,1,3,0,0,1] h ⟨rfl,rfl⟩
 exact Ba
theorem Qw (hx:Af d.es s=none) (ni gi:Int) (ki:Nat) (Ni:ND) (hlki:l[ki]?=some (some Ni)) (hai:Bk ps gs ni gi=some Ni.nb) (hkd:Ni.kind=1) (hli:8≤Ni.links):Au Tryz.prog 33 #[Pp b,Hg ni gi,Hg n g,.string s] [Rb b tb most dm pm,B1 tb ps gs vl vg T Sl Sg,Cm l,Ci true dm hk (ds.map Bt),Eh ds,Br B ad [10],Br B ad [4],Br B ad [9]] (fun u L=>u=Ag ad 9∧L=[Rb b tb most dm pm,B1 tb ps gs vl vg T Sl Sg,Cm l,Ci true dm hk (ds.map Bt),Eh ds,Br B ad [10],Br B ad [4],Br B ad [9]]):=by
 refine Zo 75 Tryz.func33 fun E w0 w h=>?_
 refine Qs (ZN [Ii ni,Ii gi] 34 h fun k1 w h=>ZN [Ii n,Ii g] 34 h fun k2 w h=>ZP .nilIface (Qn (Aa (Ds 12 [1,1] h fun w h=>Dp 0 528 (Pp b) [1,1] h (Dp 1 529 (Pp b) [1,1] h (Dp 2 531 (Pp b) [1,1] h (Dq 3 535 [1,1] rfl h (Gl 0 (Pp tb) 1) (Dq 4 527 [1,1] rfl h (Gla 0 [Ii ni,Ii gi] 0) ?_))))))))
 refine A1 [5,9] (by kernel_rfl) rfl ?_
 refine Di #[Pp tb,Hg ni gi] [3,3,5] [4,4] rfl (by kernel_rfl) (Bm ad tb ps gs vl vg T Sl Sg l hl hr ni gi ki Ni hlki hai) (fun _=>by kernel_rfl) h ?_ ?_
 rintro v_ L_ w ⟨rfl,rfl⟩ h
 refine ⟨by kernel_rfl,?_⟩
 refine Dp 6 575 (.tuple #[.agg #[Ii Ni.kind,Ii (Am Ni),Ii Ni.links,Ii Ni.change,Ii Ni.upn,Ii Ni.upg],.nilIface]) [4,4] h (Dp 7 895 (.agg #[Ii Ni.kind,Ii (Am Ni),Ii Ni.links,Ii Ni.change,Ii Ni.upn,Ii Ni.upg]) [4,4] h (Dp 8 1791 .nilIface [4,4] h ?_))
 refine A1 [9] (by kernel_rfl) rfl ?_
 refine Ch [5,5] rfl (by kernel_rfl) (fun b=>Pp b) [Ii 0,Ii 0,Ii 0,Ii 0,Ii 0,Ii 0] 46 (fun _=>by kernel_rfl) h ?_ ?_
 intro k3 w h;refine ⟨by kernel_rfl,?_⟩
 refine As 10 [5,5] 0 [Ii Ni.kind,Ii (Am Ni),Ii Ni.links,Ii Ni.change,Ii Ni.upn,Ii Ni.upg] [Ii Ni.kind,Ii (Am Ni),Ii Ni.links,Ii Ni.change,Ii Ni.upn,Ii Ni.upg] 0 rfl h fun w h=>Dp 11 2047 .nilIface [5,5] h (Dd (Ai (Qt (ZP .nilIface (ZP (.bool false) (Fs (ZP (Pp b) (ZG h (Gla 0 [Ii n,Ii g] 4) (ZP (.string s) (ZC [6,1,1,4,1,4] (Cd ad b most tb dm pm ps gs vl vg T Sl Sg l ds pn hl hr n g k N hlk ha j d hj hdh hdd s hs hok) h fun w h=>?_))))))))))
 have h:=(h.pkr [9]).dirOpen hj
 refine ZP (.tuple #[.map (some d.mb),.nilIface]) (ZP (.map (some d.mb)) (ZP .nilIface (ZP (.map (some d.mb)) (ZP .nilIface (Qm (ZP (.map (some d.mb)) (ZP (.string s) (ZG h (A4 (v':=.tuple #[Hg 0 0,.bool false]) (Gks (kv:=d.es.map Bd) true s 0 rfl) (by rw [Ed hx];rfl)) (ZP (.tuple #[Hg 0 0,.bool false]) (ZP (Hg 0 0) (ZP (.bool false) (ZN [Ii 0,Ii 0] 34 h fun k4 w h=>ZSs [Ii 0,Ii 0] 0 rfl h fun w h=>ZP (.bool false) (Qn (Aa (Av (Qs (ZP .nilIface (ZP (.bool false) (ZP (.bool false) (Qf (Qs (ZP (Pp k3) (ZG h (Gl 0 (Ii Ni.kind) 9) (ZP (.bool (decide (Ni.kind=2))) (ZP (.bool (decide (Ni.kind=2))) (Qn (Zd (Ni.kind=2) (fun hc5=>?_) fun hc5=>?_)))))))))))))))))))))))))))
 exfalso;revert hc5;simp;omega
 refine Qs (ZP (.bool false) (ZP (.bool false) (Qf (Qs (ZP (.map (some d.mb)) (ZG h (E3 (K:=9) (E:=34) (by kernel_rfl) 1 rfl) ?_))))))
 obtain ⟨b6,hb6⟩:=nmB (decide (((d.es.map Bd).length:Int)≥60))
 refine ZB hb6 (ZP (.bool b6) (ZM0 (v:=Pt k3 2) b6 h (fun hB=>by subst hB;exact Gp (Pt k3 2)) (ZM0 (v:=Ii Ni.links) b6 h (fun hB=>by subst hB;exact Gl 2 (Ii Ni.links) 9) ?_)))
 obtain ⟨b7,hb7⟩:=nmB (decide (Ni.links≥8))
 refine ZM0 (v:=.bool b7) b6 h (fun hB=>by subst hB;exact by subst hb7;exact Az (v:=.bool (decide (Ni.links≥8))) fun _=>by kernel_rfl) ?_
 obtain ⟨b8,hb8⟩:=nmB (b6||b7)
 refine ZBc b6 hb8 (ZP (.bool b8) (Qn (Zi (b8) (fun hc9=>?_) fun hc9=>?_)))
 have q10:=hb8.symm.trans hc9
 have q11:((((d.es.map Bd).length:Int)≥60)∨(Ni.links≥8)):=by subst hb7;subst hb6;revert q10;first|(simp;done)|(simp;omega)
 refine Qs (ZG h (Gr 0 (Ag ad 9) 12 rfl (Ff (c:=9) (by decide) rfl)) (ZP (Ag ad 9) (Qr (B7 (Ar ?_)))))
 have h:=(h.pkr [1,1]).dirBack (d:=d) hj
 exact ZR [Ag ad 9] [2,2,2,2,0,1,1,4] h ⟨rfl,rfl⟩
 have q12:=hb8.symm.trans hc9
 have q13:=oL q12
 have q14:=oR q12
 have q15:=hb6.symm.trans q13
 have q15:=dcF q15
 have q16:=hb7.symm.trans q14
 have q16:=dcF q16
 exfalso;revert hc9;subst hb8;subst hb7;subst hb6;simp;omega
 exact Ba
 refine Ch [2,2] rfl (by kernel_rfl) (fun b=>Pp b) [Ii 0,Ii 0,Ii 0,Ii 0,Ii 0,Ii 0] 46 (fun _=>by kernel_rfl) h ?_ ?_
 intro k17 w h;refine ⟨by kernel_rfl,?_⟩
 refine Ad 5 [4,4,6] [5,5] (Bm ad tb ps gs vl vg T Sl Sg l hl hr ni gi ki Ni hlki hai) h ?_
 rintro v_ L_ w ⟨rfl,rfl⟩ h
 refine ⟨by kernel_rfl,?_⟩
 refine Dp 6 575 (.tuple #[.agg #[Ii Ni.kind,Ii (Am Ni),Ii Ni.links,Ii Ni.change,Ii Ni.upn,Ii Ni.upg],.nilIface]) [5,5] h (Dp 7 895 (.agg #[Ii Ni.kind,Ii (Am Ni),Ii Ni.links,Ii Ni.change,Ii Ni.upn,Ii Ni.upg]) [5,5] h (Dp 8 1791 .nilIface [5,5] h (As 10 [5,5] 0 [Ii Ni.kind,Ii (Am Ni),Ii Ni.links,Ii Ni.change,Ii Ni.upn,Ii Ni.upg] [Ii Ni.kind,Ii (Am Ni),Ii Ni.links,Ii Ni.change,Ii Ni.upn,Ii Ni.upg] 3 rfl h fun w h=>Dp 11 2047 .nilIface [5,5] h (Dd (Ai (Qt (ZP .nilIface (ZP (.bool false) (Fs (ZP (Pp b) (ZG h (Gla 0 [Ii n,Ii g] 4) (ZP (.string s) (ZC [6,0,0,4,0,4] (Cd ad b most tb dm pm ps gs vl vg T Sl Sg l ds pn hl hr n g k N hlk ha j d hj hdh hdd s hs hok) h fun w h=>?_)))))))))))))
 have h:=(h.pkr [9]).dirOpen hj
 refine ZP (.tuple #[.map (some d.mb),.nilIface]) (ZP (.map (some d.mb)) (ZP .nilIface (ZP (.map (some d.mb)) (ZP .nilIface (Qm (ZP (.map (some d.mb)) (ZP (.string s) (ZG h (A4 (v':=.tuple #[Hg 0 0,.bool false]) (Gks (kv:=d.es.map Bd) true s 0 rfl) (by rw [Ed hx];rfl)) (ZP (.tuple #[Hg 0 0,.bool false]) (ZP (Hg 0 0) (ZP (.bool false) (ZN [Ii 0,Ii 0] 34 h fun k18 w h=>ZSs [Ii 0,Ii 0] 0 rfl h fun w h=>ZP (.bool false) (Qn (Aa (Av (Qs (ZP .nilIface (ZP (.bool false) (ZP (.bool false) (Qf (Qs (ZP (Pp k17) (ZG h (Gl 0 (Ii Ni.kind) 9) (ZP (.bool (decide (Ni.kind=2))) (ZP (.bool (decide (Ni.kind=2))) (Qn (Zd (Ni.kind=2) (fun hc19=>?_) fun hc19=>?_)))))))))))))))))))))))))))
 exfalso;revert hc19;simp;omega
 refine Qs (ZP (.bool false) (ZP (.bool false) (Qf (Qs (ZP (.map (some d.mb)) (ZG h (E3 (K:=9) (E:=34) (by kernel_rfl) 1 rfl) ?_))))))
 obtain ⟨b20,hb20⟩:=nmB (decide (((d.es.map Bd).length:Int)≥60))
 refine ZB hb20 (ZP (.bool b20) (ZM0 (v:=Pt k17 2) b20 h (fun hB=>by subst hB;exact Gp (Pt k17 2)) (ZM0 (v:=Ii Ni.links) b20 h (fun hB=>by subst hB;exact Gl 2 (Ii Ni.links) 9) ?_)))
 obtain ⟨b21,hb21⟩:=nmB (decide (Ni.links≥8))
 refine ZM0 (v:=.bool b21) b20 h (fun hB=>by subst hB;exact by subst hb21;exact Az (v:=.bool (decide (Ni.links≥8))) fun _=>by kernel_rfl) ?_
 obtain ⟨b22,hb22⟩:=nmB (b20||b21)
 refine ZBc b20 hb22 (ZP (.bool b22) (Qn (Zi (b22) (fun hc23=>?_) fun hc23=>?_)))
 have q24:=hb22.symm.trans hc23
 have q25:((((d.es.map Bd).length:Int)≥60)∨(Ni.links≥8)):=by subst hb21;subst hb20;revert q24;first|(simp;done)|(simp;omega)
 refine Qs (ZG h (Gr 0 (Ag ad 9) 12 rfl (Ff (c:=9) (by decide) rfl)) (ZP (Ag ad 9) (Qr (B7 (Ar ?_)))))
 have h:=(h.pkr [1,1]).dirBack (d:=d) hj
 exact ZR [Ag ad 9] [2,2,2,2,0,1,1,4] h ⟨rfl,rfl⟩
 have q26:=hb22.symm.trans hc23
 have q27:=oL q26
 have q28:=oR q26
 have q29:=hb20.symm.trans q27
 have q29:=dcF q29
 have q30:=hb21.symm.trans q28
 have q30:=dcF q30
 exfalso;revert hc23;subst hb22;subst hb21;subst hb20;simp;omega
 exact Ba
end
theorem Fu (h:Int×Int):∀ pn:List ((Int×Int)×Int),Af (pn.map Cw) h=(Af pn h).map fun v=>Ii v
  | []=>rfl
  | p::r=>by
    rw [List.map_cons];unfold Af
    by_cases c:h=p.1
    · rw [if_pos (show h=(Cw p).1 from c),if_pos c];rfl
    · rw [if_neg (show ¬h=(Cw p).1 from c),if_neg c];exact Fu h r
section
variable {B:Nat} (ad:Nat→Addr) (b most tb dm pm:Nat) (ps:List (Option Nat)) (gs:List Int) (vl vg:Value) (T:TypeId) (Sl Sg:Nat→Prop) (l:List (Option ND)) (ds:List DN) (pn:List ((Int×Int)×Int)) (hl:ps.length=gs.length) (hr:∀ x∈gs,0≤x∧x≤1000000) (k:Nat) (g:Int) (N:ND) (hlk:l[k]?=some (some N)) (ha:Bk ps gs (k:Int) g=some N.nb) (hkp:k<ps.length)
include B ad b most tb dm pm ps gs vl vg T Sl Sg l ds pn hl hr k g N hlk ha hkp
theorem Ik (h0:N.links=0∧(Af pn ((k:Int),g)).getD 0=0):Au Tryz.prog 79 #[Pp b,Hg k g] [Rb b tb most dm pm,B1 tb ps gs vl vg T Sl Sg,Cm l,Ci true pm hk (pn.map Cw),Br B ad [10]] (fun u L=>L=[Rb b tb most dm pm,B1 tb (ps.set k none) gs vl vg T Sl Sg,Cm (l.set k none),Ci true pm hk (pn.map Cw),Br B ad [10]]):=by
 refine Zo 31 Tryz.func79 fun E w0 w h=>?_
 refine Qs (ZN [Ii k,Ii g] 34 h fun k1 w h=>Qn (Aa (Ds 12 [0,0] h fun w h=>Dp 0 528 (Pp b) [0,0] h (Dp 1 529 (Pp b) [0,0] h (Dp 2 531 (Pp b) [0,0] h (Dq 3 535 [0,0] rfl h (Gl 0 (Pp tb) 1) (Dq 4 527 [0,0] rfl h (Gla 0 [Ii k,Ii g] 0) ?_)))))))
 refine A1 [5,9] (by kernel_rfl) rfl ?_
 refine Di #[Pp tb,Hg k g] [2,2,3] [3,3] rfl (by kernel_rfl) (Bm ad tb ps gs vl vg T Sl Sg l hl hr (k:Int) g k N hlk ha) (fun _=>by kernel_rfl) h ?_ ?_
 rintro v_ L_ w ⟨rfl,rfl⟩ h
 refine ⟨by kernel_rfl,?_⟩
 refine Dp 6 575 (.tuple #[.agg #[Ii N.kind,Ii (Am N),Ii N.links,Ii N.change,Ii N.upn,Ii N.upg],.nilIface]) [3,3] h (Dp 7 895 (.agg #[Ii N.kind,Ii (Am N),Ii N.links,Ii N.change,Ii N.upn,Ii N.upg]) [3,3] h (Dp 8 1791 .nilIface [3,3] h ?_))
 refine A1 [9] (by kernel_rfl) rfl ?_
 refine Ch [4,4] rfl (by kernel_rfl) (fun b=>Pp b) [Ii 0,Ii 0,Ii 0,Ii 0,Ii 0,Ii 0] 46 (fun _=>by kernel_rfl) h ?_ ?_
 intro k2 w h;refine ⟨by kernel_rfl,?_⟩
 refine As 10 [4,4] 0 [Ii N.kind,Ii (Am N),Ii N.links,Ii N.change,Ii N.upn,Ii N.upg] [Ii N.kind,Ii (Am N),Ii N.links,Ii N.change,Ii N.upn,Ii N.upg] 0 rfl h fun w h=>Dp 11 2047 .nilIface [4,4] h (Dd (Ai (Aa (Ds 12 [0,3,3,3] h fun w h=>Dp 0 0 (Pt k2 2) [0,3,3,3] h (Dq 1 1 [0,3,3,3] rfl h (Gl 2 (Ii N.links) 0) ?_)))))
 obtain ⟨b3,hb3⟩:=nmB (decide (N.links=0))
 refine Dq (v:=.bool b3) 2 3 [0,3,3,3] rfl h (by subst hb3;exact Az (v:=.bool (decide (N.links=0))) fun _=>by kernel_rfl) (Dp 3 7 (.bool b3) [0,3,3,3] h ?_)
 refine Cq 4 271 [0,3,3,3] rfl (by kernel_rfl) (Bz B3) (ym1 (v:=Pp b) b3 (by cases b3<;>kernel_rfl) (fun hB=>by subst hB;exact Az (v:=Pp b) fun _=>by kernel_rfl)) h (by kernel_rfl) ?_
 refine Cq 5 287 [0,3,3,3] rfl (by kernel_rfl) (Bz B3) (ym1 (v:=Pp b) b3 (by cases b3<;>kernel_rfl) (fun hB=>by subst hB;exact Az (v:=Pp b) fun _=>by kernel_rfl)) h (by kernel_rfl) ?_
 refine Cq 6 319 [0,3,3,3] rfl (by kernel_rfl) (Bz B3) (ym1 (v:=Pt b 5) b3 (by cases b3<;>kernel_rfl) (fun hB=>by subst hB;exact Az (v:=Pt b 5) fun _=>by kernel_rfl)) h (by kernel_rfl) ?_
 refine Cq 7 383 [0,3,3,3] rfl (by kernel_rfl) (Bz B3) (ym1 (v:=.map (some pm)) b3 (by cases b3<;>kernel_rfl) (fun hB=>by subst hB;exact Je 5 [.map (some pm)] (.map (some pm)) (by kernel_rfl) 2 rfl)) h (by kernel_rfl) ?_
 refine Cq 8 255 [0,3,3,3] rfl (by kernel_rfl) (Bz B3) (ym1 (v:=Hg k g) b3 (by cases b3<;>kernel_rfl) (fun hB=>by subst hB;exact Je 0 [Ii k,Ii g] (Hg k g) (by kernel_rfl) 1 rfl)) h (by kernel_rfl) ?_
 refine Cq 9 511 [0,3,3,3] rfl (by kernel_rfl) (Bz B3) (ym1 (v:=Ii ((Af pn ((k:Int),g)).getD 0)) b3 (by cases b3<;>kernel_rfl) (fun hB=>by subst hB;exact A4 (v':=Ii ((Af pn ((k:Int),g)).getD 0)) (H7 (K:=34) (E:=3) (z:=(Ii 0)) (kv:=(pn.map Cw)) (ok:=false) Dk ((k:Int),g) (by kernel_rfl) (fun _=>by kernel_rfl) 3 rfl) (by rw [Fu];cases Af pn ((k:Int),g)<;>rfl))) h (by kernel_rfl) ?_
 obtain ⟨b4,hb4⟩:=nmB (decide ((Af pn ((k:Int),g)).getD 0=0))
 refine Cq 10 1023 [0,3,3,3] rfl (by kernel_rfl) (Bz B3) (ym1 (v:=.bool b4) b3 (by cases b3<;>kernel_rfl) (fun hB=>by subst hB;exact by subst hb4;exact Az (v:=.bool (decide ((Af pn ((k:Int),g)).getD 0=0))) fun _=>by kernel_rfl)) h (by kernel_rfl) ?_
 obtain ⟨b5,hb5⟩:=nmB (b3&&b4)
 refine Dq (v:=.bool b5) 11 2047 [0,3,3,3] rfl h (by subst hb5;exact Az (v:=.bool (b3&&b4)) fun _=>by cases b3<;>kernel_rfl) (Dd (Ai (Zi (b5) (fun hc6=>?_) fun hc6=>?_)))
 have q7:=hb5.symm.trans hc6
 have q8:=aL q7
 have q9:=aR q7
 have q10:=hb3.symm.trans q8
 have q10:=dcT q10
 have q11:=hb4.symm.trans q9
 have q11:=dcT q11
 refine Ds 6 [4,4] h fun w h=>Dp 0 16 (Pp b) [4,4] h (Dp 1 17 (Pp b) [4,4] h (Dp 2 19 (Pp b) [4,4] h (Dq 3 23 [4,4] rfl h (Gl 0 (Pp tb) 1) (Dq 4 15 [4,4] rfl h (Gla 0 [Ii k,Ii g] 0) ?_))))
 refine Ad 5 [1,1,1] [4,4] (Ju ad tb k N.nb g ps gs vl vg T Sl Sg l hl hr hkp ha) h ?_
 rintro v_ L_ w ⟨rfl,rfl⟩ h
 refine ⟨by kernel_rfl,?_⟩
 exact Dd (ZR [] [5,0,0,3,0] h rfl)
 have q12:=hb5.symm.trans hc6
 exfalso;revert hc6;subst hb5;subst hb4;subst hb3;simp;omega
 exact Ba
 refine Ch [1,1] rfl (by kernel_rfl) (fun b=>Pp b) [Ii 0,Ii 0,Ii 0,Ii 0,Ii 0,Ii 0] 46 (fun _=>by kernel_rfl) h ?_ ?_
 intro k13 w h;refine ⟨by kernel_rfl,?_⟩
 refine Ad 5 [3,3,4] [4,4] (Bm ad tb ps gs vl vg T Sl Sg l hl hr (k:Int) g k N hlk ha) h ?_
 rintro v_ L_ w ⟨rfl,rfl⟩ h
 refine ⟨by kernel_rfl,?_⟩
 refine Dp 6 575 (.tuple #[.agg #[Ii N.kind,Ii (Am N),Ii N.links,Ii N.change,Ii N.upn,Ii N.upg],.nilIface]) [4,4] h (Dp 7 895 (.agg #[Ii N.kind,Ii (Am N),Ii N.links,Ii N.change,Ii N.upn,Ii N.upg]) [4,4] h (Dp 8 1791 .nilIface [4,4] h (As 10 [4,4] 0 [Ii N.kind,Ii (Am N),Ii N.links,Ii N.change,Ii N.upn,Ii N.upg] [Ii N.kind,Ii (Am N),Ii N.links,Ii N.change,Ii N.upn,Ii N.upg] 3 rfl h fun w h=>Dp 11 2047 .nilIface [4,4] h (Dd (Ai (Aa (Ds 12 [3,3,3,3] h fun w h=>Dp 0 0 (Pt k13 2) [3,3,3,3] h (Dq 1 1 [3,3,3,3] rfl h (Gl 2 (Ii N.links) 0) ?_))))))))
 obtain ⟨b14,hb14⟩:=nmB (decide (N.links=0))
 refine Dq (v:=.bool b14) 2 3 [3,3,3,3] rfl h (by subst hb14;exact Az (v:=.bool (decide (N.links=0))) fun _=>by kernel_rfl) (Dp 3 7 (.bool b14) [3,3,3,3] h ?_)
 refine Cq 4 271 [3,3,3,3] rfl (by kernel_rfl) (Bz B3) (ym1 (v:=Pp b) b14 (by cases b14<;>kernel_rfl) (fun hB=>by subst hB;exact Az (v:=Pp b) fun _=>by kernel_rfl)) h (by kernel_rfl) ?_
 refine Cq 5 287 [3,3,3,3] rfl (by kernel_rfl) (Bz B3) (ym1 (v:=Pp b) b14 (by cases b14<;>kernel_rfl) (fun hB=>by subst hB;exact Az (v:=Pp b) fun _=>by kernel_rfl)) h (by kernel_rfl) ?_
 refine Cq 6 319 [3,3,3,3] rfl (by kernel_rfl) (Bz B3) (ym1 (v:=Pt b 5) b14 (by cases b14<;>kernel_rfl) (fun hB=>by subst hB;exact Az (v:=Pt b 5) fun _=>by kernel_rfl)) h (by kernel_rfl) ?_
 refine Cq 7 383 [3,3,3,3] rfl (by kernel_rfl) (Bz B3) (ym1 (v:=.map (some pm)) b14 (by cases b14<;>kernel_rfl) (fun hB=>by subst hB;exact Je 5 [.map (some pm)] (.map (some pm)) (by kernel_rfl) 2 rfl)) h (by kernel_rfl) ?_
 refine Cq 8 255 [3,3,3,3] rfl (by kernel_rfl) (Bz B3) (ym1 (v:=Hg k g) b14 (by cases b14<;>kernel_rfl) (fun hB=>by subst hB;exact Je 0 [Ii k,Ii g] (Hg k g) (by kernel_rfl) 1 rfl)) h (by kernel_rfl) ?_
 refine Cq 9 511 [3,3,3,3] rfl (by kernel_rfl) (Bz B3) (ym1 (v:=Ii ((Af pn ((k:Int),g)).getD 0)) b14 (by cases b14<;>kernel_rfl) (fun hB=>by subst hB;exact A4 (v':=Ii ((Af pn ((k:Int),g)).getD 0)) (H7 (K:=34) (E:=3) (z:=(Ii 0)) (kv:=(pn.map Cw)) (ok:=false) Dk ((k:Int),g) (by kernel_rfl) (fun _=>by kernel_rfl) 3 rfl) (by rw [Fu];cases Af pn ((k:Int),g)<;>rfl))) h (by kernel_rfl) ?_
 obtain ⟨b15,hb15⟩:=nmB (decide ((Af pn ((k:Int),g)).getD 0=0))
 refine Cq 10 1023 [3,3,3,3] rfl (by kernel_rfl) (Bz B3) (ym1 (v:=.bool b15) b14 (by cases b14<;>kernel_rfl) (fun hB=>by subst hB;exact by subst hb15;exact Az (v:=.bool (decide ((Af pn ((k:Int),g)).getD 0=0))) fun _=>by kernel_rfl)) h (by kernel_rfl) ?_
 obtain ⟨b16,hb16⟩:=nmB (b14&&b15)
 refine Dq (v:=.bool b16) 11 2047 [3,3,3,3] rfl h (by subst hb16;exact Az (v:=.bool (b14&&b15)) fun _=>by cases b14<;>kernel_rfl) (Dd (Ai (Zi (b16) (fun hc17=>?_) fun hc17=>?_)))
 have q18:=hb16.symm.trans hc17
 have q19:=aL q18
 have q20:=aR q18
 have q21:=hb14.symm.trans q19
 have q21:=dcT q21
 have q22:=hb15.symm.trans q20
 have q22:=dcT q22
 refine Ds 6 [4,4] h fun w h=>Dp 0 16 (Pp b) [4,4] h (Dp 1 17 (Pp b) [4,4] h (Dp 2 19 (Pp b) [4,4] h (Dq 3 23 [4,4] rfl h (Gl 0 (Pp tb) 1) (Dq 4 15 [4,4] rfl h (Gla 0 [Ii k,Ii g] 0) ?_))))
 refine Ad 5 [0,0,0] [4,4] (Ju ad tb k N.nb g ps gs vl vg T Sl Sg l hl hr hkp ha) h ?_
 rintro v_ L_ w ⟨rfl,rfl⟩ h
 refine ⟨by kernel_rfl,?_⟩
 exact Dd (ZR [] [5,0,0,3,0] h rfl)
 have q23:=hb16.symm.trans hc17
 exfalso;revert hc17;subst hb16;subst hb15;subst hb14;simp;omega
 exact Ba
theorem H8 (h0:¬(N.links=0∧(Af pn ((k:Int),g)).getD 0=0)):Au Tryz.prog 79 #[Pp b,Hg k g] [Rb b tb most dm pm,B1 tb ps gs vl vg T Sl Sg,Cm l,Ci true pm hk (pn.map Cw),Br B ad [10]] (fun u L=>L=[Rb b tb most dm pm,B1 tb ps gs vl vg T Sl Sg,Cm l,Ci true pm hk (pn.map Cw),Br B ad [10]]):=by
 refine Zo 31 Tryz.func79 fun E w0 w h=>?_
 refine Qs (ZN [Ii k,Ii g] 34 h fun k1 w h=>Qn (Aa (Ds 12 [0,0] h fun w h=>Dp 0 528 (Pp b) [0,0] h (Dp 1 529 (Pp b) [0,0] h (Dp 2 531 (Pp b) [0,0] h (Dq 3 535 [0,0] rfl h (Gl 0 (Pp tb) 1) (Dq 4 527 [0,0] rfl h (Gla 0 [Ii k,Ii g] 0) ?_)))))))
 refine A1 [5,9] (by kernel_rfl) rfl ?_
 refine Di #[Pp tb,Hg k g] [2,2,3] [3,3] rfl (by kernel_rfl) (Bm ad tb ps gs vl vg T Sl Sg l hl hr (k:Int) g k N hlk ha) (fun _=>by kernel_rfl) h ?_ ?_
 rintro v_ L_ w ⟨rfl,rfl⟩ h
 refine ⟨by kernel_rfl,?_⟩
 refine Dp 6 575 (.tuple #[.agg #[Ii N.kind,Ii (Am N),Ii N.links,Ii N.change,Ii N.upn,Ii N.upg],.nilIface]) [3,3] h (Dp 7 895 (.agg #[Ii N.kind,Ii (Am N),Ii N.links,Ii N.change,Ii N.upn,Ii N.upg]) [3,3] h (Dp 8 1791 .nilIface [3,3] h ?_))
 refine A1 [9] (by kernel_rfl) rfl ?_
 refine Ch [4,4] rfl (by kernel_rfl) (fun b=>Pp b) [Ii 0,Ii 0,Ii 0,Ii 0,Ii 0,Ii 0] 46 (fun _=>by kernel_rfl) h ?_ ?_
 intro k2 w h;refine ⟨by kernel_rfl,?_⟩
 refine As 10 [4,4] 0 [Ii N.kind,Ii (Am N),Ii N.links,Ii N.change,Ii N.upn,Ii N.upg] [Ii N.kind,Ii (Am N),Ii N.links,Ii N.change,Ii N.upn,Ii N.upg] 0 rfl h fun w h=>Dp 11 2047 .nilIface [4,4] h (Dd (Ai (Aa (Ds 12 [0,3,3,3] h fun w h=>Dp 0 0 (Pt k2 2) [0,3,3,3] h (Dq 1 1 [0,3,3,3] rfl h (Gl 2 (Ii N.links) 0) ?_)))))
 obtain ⟨b3,hb3⟩:=nmB (decide (N.links=0))
 refine Dq (v:=.bool b3) 2 3 [0,3,3,3] rfl h (by subst hb3;exact Az (v:=.bool (decide (N.links=0))) fun _=>by kernel_rfl) (Dp 3 7 (.bool b3) [0,3,3,3] h ?_)
 refine Cq 4 271 [0,3,3,3] rfl (by kernel_rfl) (Bz B3) (ym1 (v:=Pp b) b3 (by cases b3<;>kernel_rfl) (fun hB=>by subst hB;exact Az (v:=Pp b) fun _=>by kernel_rfl)) h (by kernel_rfl) ?_
 refine Cq 5 287 [0,3,3,3] rfl (by kernel_rfl) (Bz B3) (ym1 (v:=Pp b) b3 (by cases b3<;>kernel_rfl) (fun hB=>by subst hB;exact Az (v:=Pp b) fun _=>by kernel_rfl)) h (by kernel_rfl) ?_
 refine Cq 6 319 [0,3,3,3] rfl (by kernel_rfl) (Bz B3) (ym1 (v:=Pt b 5) b3 (by cases b3<;>kernel_rfl) (fun hB=>by subst hB;exact Az (v:=Pt b 5) fun _=>by kernel_rfl)) h (by kernel_rfl) ?_
 refine Cq 7 383 [0,3,3,3] rfl (by kernel_rfl) (Bz B3) (ym1 (v:=.map (some pm)) b3 (by cases b3<;>kernel_rfl) (fun hB=>by subst hB;exact Je 5 [.map (some pm)] (.map (some pm)) (by kernel_rfl) 2 rfl)) h (by kernel_rfl) ?_
 refine Cq 8 255 [0,3,3,3] rfl (by kernel_rfl) (Bz B3) (ym1 (v:=Hg k g) b3 (by cases b3<;>kernel_rfl) (fun hB=>by subst hB;exact Je 0 [Ii k,Ii g] (Hg k g) (by kernel_rfl) 1 rfl)) h (by kernel_rfl) ?_
 refine Cq 9 511 [0,3,3,3] rfl (by kernel_rfl) (Bz B3) (ym1 (v:=Ii ((Af pn ((k:Int),g)).getD 0)) b3 (by cases b3<;>kernel_rfl) (fun hB=>by subst hB;exact A4 (v':=Ii ((Af pn ((k:Int),g)).getD 0)) (H7 (K:=34) (E:=3) (z:=(Ii 0)) (kv:=(pn.map Cw)) (ok:=false) Dk ((k:Int),g) (by kernel_rfl) (fun _=>by kernel_rfl) 3 rfl) (by rw [Fu];cases Af pn ((k:Int),g)<;>rfl))) h (by kernel_rfl) ?_
 obtain ⟨b4,hb4⟩:=nmB (decide ((Af pn ((k:Int),g)).getD 0=0))
 refine Cq 10 1023 [0,3,3,3] rfl (by kernel_rfl) (Bz B3) (ym1 (v:=.bool b4) b3 (by cases b3<;>kernel_rfl) (fun hB=>by subst hB;exact by subst hb4;exact Az (v:=.bool (decide ((Af pn ((k:Int),g)).getD 0=0))) fun _=>by kernel_rfl)) h (by kernel_rfl) ?_
 obtain ⟨b5,hb5⟩:=nmB (b3&&b4)
 refine Dq (v:=.bool b5) 11 2047 [0,3,3,3] rfl h (by subst hb5;exact Az (v:=.bool (b3&&b4)) fun _=>by cases b3<;>kernel_rfl) (Dd (Ai (Zi (b5) (fun hc6=>?_) fun hc6=>?_)))
 have q7:=hb5.symm.trans hc6
 have q8:=aL q7
 have q9:=aR q7
 have q10:=hb3.symm.trans q8
 have q10:=dcT q10
 have q11:=hb4.symm.trans q9
 have q11:=dcT q11
 exfalso;revert hc6;subst hb5;subst hb4;subst hb3;simp;omega
 have q12:=hb5.symm.trans hc6
 exact B6 (ZR [] [5,1,1,3,1] h rfl)
 exact Ba
 refine Ch [1,1] rfl (by kernel_rfl) (fun b=>Pp b) [Ii 0,Ii 0,Ii 0,Ii 0,Ii 0,Ii 0] 46 (fun _=>by kernel_rfl) h ?_ ?_
 intro k13 w h;refine ⟨by kernel_rfl,?_⟩
 refine Ad 5 [3,3,4] [4,4] (Bm ad tb ps gs vl vg T Sl Sg l hl hr (k:Int) g k N hlk ha) h ?_
 rintro v_ L_ w ⟨rfl,rfl⟩ h
 refine ⟨by kernel_rfl,?_⟩
 refine Dp 6 575 (.tuple #[.agg #[Ii N.kind,Ii (Am N),Ii N.links,Ii N.change,Ii N.upn,Ii N.upg],.nilIface]) [4,4] h (Dp 7 895 (.agg #[Ii N.kind,Ii (Am N),Ii N.links,Ii N.change,Ii N.upn,Ii N.upg]) [4,4] h (Dp 8 1791 .nilIface [4,4] h (As 10 [4,4] 0 [Ii N.kind,Ii (Am N),Ii N.links,Ii N.change,Ii N.upn,Ii N.upg] [Ii N.kind,Ii (Am N),Ii N.links,Ii N.change,Ii N.upn,Ii N.upg] 3 rfl h fun w h=>Dp 11 2047 .nilIface [4,4] h (Dd (Ai (Aa (Ds 12 [3,3,3,3] h fun w h=>Dp 0 0 (Pt k13 2) [3,3,3,3] h (Dq 1 1 [3,3,3,3] rfl h (Gl 2 (Ii N.links) 0) ?_))))))))
 obtain ⟨b14,hb14⟩:=nmB (decide (N.links=0))
 refine Dq (v:=.bool b14) 2 3 [3,3,3,3] rfl h (by subst hb14;exact Az (v:=.bool (decide (N.links=0))) fun _=>by kernel_rfl) (Dp 3 7 (.bool b14) [3,3,3,3] h ?_)
 refine Cq 4 271 [3,3,3,3] rfl (by kernel_rfl) (Bz B3) (ym1 (v:=Pp b) b14 (by cases b14<;>kernel_rfl) (fun hB=>by subst hB;exact Az (v:=Pp b) fun _=>by kernel_rfl)) h (by kernel_rfl) ?_
 refine Cq 5 287 [3,3,3,3] rfl (by kernel_rfl) (Bz B3) (ym1 (v:=Pp b) b14 (by cases b14<;>kernel_rfl) (fun hB=>by subst hB;exact Az (v:=Pp b) fun _=>by kernel_rfl)) h (by kernel_rfl) ?_
 refine Cq 6 319 [3,3,3,3] rfl (by kernel_rfl) (Bz B3) (ym1 (v:=Pt b 5) b14 (by cases b14<;>kernel_rfl) (fun hB=>by subst hB;exact Az (v:=Pt b 5) fun _=>by kernel_rfl)) h (by kernel_rfl) ?_
 refine Cq 7 383 [3,3,3,3] rfl (by kernel_rfl) (Bz B3) (ym1 (v:=.map (some pm)) b14 (by cases b14<;>kernel_rfl) (fun hB=>by subst hB;exact Je 5 [.map (some pm)] (.map (some pm)) (by kernel_rfl) 2 rfl)) h (by kernel_rfl) ?_
 refine Cq 8 255 [3,3,3,3] rfl (by kernel_rfl) (Bz B3) (ym1 (v:=Hg k g) b14 (by cases b14<;>kernel_rfl) (fun hB=>by subst hB;exact Je 0 [Ii k,Ii g] (Hg k g) (by kernel_rfl) 1 rfl)) h (by kernel_rfl) ?_
 refine Cq 9 511 [3,3,3,3] rfl (by kernel_rfl) (Bz B3) (ym1 (v:=Ii ((Af pn ((k:Int),g)).getD 0)) b14 (by cases b14<;>kernel_rfl) (fun hB=>by subst hB;exact A4 (v':=Ii ((Af pn ((k:Int),g)).getD 0)) (H7 (K:=34) (E:=3) (z:=(Ii 0)) (kv:=(pn.map Cw)) (ok:=false) Dk ((k:Int),g) (by kernel_rfl) (fun _=>by kernel_rfl) 3 rfl) (by rw [Fu];cases Af pn ((k:Int),g)<;>rfl))) h (by kernel_rfl) ?_
 obtain ⟨b15,hb15⟩:=nmB (decide ((Af pn ((k:Int),g)).getD 0=0))
 refine Cq 10 1023 [3,3,3,3] rfl (by kernel_rfl) (Bz B3) (ym1 (v:=.bool b15) b14 (by cases b14<;>kernel_rfl) (fun hB=>by subst hB;exact by subst hb15;exact Az (v:=.bool (decide ((Af pn ((k:Int),g)).getD 0=0))) fun _=>by kernel_rfl)) h (by kernel_rfl) ?_
 obtain ⟨b16,hb16⟩:=nmB (b14&&b15)
 refine Dq (v:=.bool b16) 11 2047 [3,3,3,3] rfl h (by subst hb16;exact Az (v:=.bool (b14&&b15)) fun _=>by cases b14<;>kernel_rfl) (Dd (Ai (Zi (b16) (fun hc17=>?_) fun hc17=>?_)))
 have q18:=hb16.symm.trans hc17
 have q19:=aL q18
 have q20:=aR q18
 have q21:=hb14.symm.trans q19
 have q21:=dcT q21
 have q22:=hb15.symm.trans q20
 have q22:=dcT q22
 exfalso;revert hc17;subst hb16;subst hb15;subst hb14;simp;omega
 have q23:=hb16.symm.trans hc17
 exact B6 (ZR [] [5,0,0,3,0] h rfl)
 exact Ba
end
def inC (n:Int):List Value:=[Ii n]
theorem Of (n:Int):(inC n).length=1:=rfl
theorem Ad1 {x:Hdl} {n g:Int} (h:¬(x.1=n∧x.2=g)):x≠(n,g):=fun e=>h ⟨congrArg Prod.fst e,congrArg Prod.snd e⟩
theorem Yu {α:Type} {l:List α} {k:Nat} {x:α} {p:α→Prop} (hn:∀ i y,i<k→l[i]?=some y→p y) (hx:l[k]?=some x) (hp:p x):∀ i y,i<k+1→l[i]?=some y→p y:=fun i y hi hy=>by
  by_cases e:i=k
  · subst e;rw [hx] at hy;cases hy;exact hp
  · exact hn i y (by omega) hy
theorem S6 {α:Type} {l:List α} {k:Nat} {p:α→Prop} (hn:∀ i y,i<k→l[i]?=some y→p y) (hk:l.length≤k):∀ y∈l,p y:=fun y hy=>by
  obtain ⟨i,hi⟩:=List.getElem?_of_mem hy
  exact hn i y (by have:=(List.getElem?_eq_some_iff.1 hi).1;omega) hi
theorem Mm (b:Nat) (mst:Int) (vl vt:Value) (L:List RN) (n g:Int) (hl:L.length≤100000)  : Au Tryz.prog 61 #[Pp b,Hg n g] [Rt b mst vl vt,rRL vl L] (fun u L'=>(∃ (j:Nat) (N:RN),L[j]?=some N∧N.a.h=(n,g)∧u=Pp N.nb∧L'=[Rt b mst vl vt,rRL vl L])∨((∀ N∈L,N.a.h≠(n,g))∧u=.pointer none∧L'=[Rt b mst vl vt,rRL vl L])):=by
 refine Zo 32 Tryz.func61 fun E w0 w h=>?_
 refine Qs (ZN [Ii n,Ii g] 34 h fun k1 w h=>ZP (.pointer none) (Qu (ZP (Ii 0) (Qn (Av ?_)))))
 refine ZL (X:=Nat×(Nat→Value)) [(4,4),(6,33)] (fun ⟨i,J0⟩=>[(5,Ii i)]) (fun ⟨i,J0⟩=>J0) (fun ⟨i,J0⟩=>[Rh k1 n g,Rt b mst vl vt,rRL vl L]) (fun ⟨i,J0⟩=>i≤L.length∧∀ k y,k<i→L[k]?=some y→y.a.h≠(n,g)) (fun ⟨i,J0⟩=>L.length - i) (fun j=>⟨0,j⟩) ⟨by omega,fun k y hk=>by omega⟩ [0,0,0] h ?_
 rintro ⟨i,J0⟩ w hG h
 obtain ⟨hi0,hno⟩:i≤L.length∧∀ k y,k<i→L[k]?=some y→y.a.h≠(n,g):=hG
 refine Qt (ZP (Ii i) (ZP (Pp b) (ZP (Pp b) (ZP (Pt b 1) (ZG h (Gl 1 (vl) 1) (ZG h (Dh 88 (by kernel_rfl) 2 rfl Df) (ZP (.bool (decide ((i:Int)<(L.length:Int)))) (Qn (Zd ((i:Int)<(L.length:Int)) (fun hc2=>?_) fun hc2=>?_)))))))))
 refine Kn (Aa (Av (Aa (Ds 12 [0,0,0] h fun w h=>Dp 0 1040 (Pp b) [0,0,0] h (Dp 1 1041 (Pp b) [0,0,0] h (Dp 2 1043 (Pt b 1) [0,0,0] h (Dq 3 1047 [0,0,0] rfl h (Gl 1 (vl) 1) (Dp 4 1039 (Ii i) [0,0,0] h ?_))))))))
 have hi3:i<L.length:=by omega
 obtain ⟨x4,hx5⟩:∃ x,L[i]?=some x:=⟨_,List.getElem?_eq_getElem hi3⟩
 refine Dq (v:=Pt (Dg vl) (B0 vl+i*1)) 5 1055 [0,0,0] rfl h (Dn (k:=1) 88 i rfl (by kernel_rfl) hi3 2 rfl Df) (Dq 6 1087 [0,0,0] rfl h (Gr (B0 vl+i*1) (Pp x4.nb) 2 rfl (K3 Df Gy hx5 (by kernel_rfl))) (Dp 7 1151 (Pp x4.nb) [0,0,0] h (Dp 8 1279 (Pp x4.nb) [0,0,0] h (Dq 9 1535 [0,0,0] rfl h (Gra 0 [Ii x4.a.h.1,Ii x4.a.h.2] 2 rfl (Cc hx5 0 (by kernel_rfl))) (Dq 10 1023 [0,0,0] rfl h (Gla 0 [Ii n,Ii g] 0) (Dq (v:=.bool ((decide (x4.a.h.1=n))&&(decide (x4.a.h.2=g)))) 11 2047 [0,0,0] rfl h (Fm (n1:=x4.a.h.1) (g1:=x4.a.h.2) (n2:=n) (g2:=g) (by kernel_rfl)) (Dd (Ai (Zh (x4.a.h.1=n) (x4.a.h.2=g) (fun hc6 q7 q8=>?_) fun hc6 q9=>?_)))))))))
 exact Qs (ZP (Pp b) (ZP (Pp b) (ZP (Pt b 1) (ZG h (Gl 1 (vl) 1) (ZP (Ii i) (ZG h (Dn (k:=1) 88 i rfl (by kernel_rfl) hi3 2 rfl Df) (ZG h (Gr (B0 vl+i*1) (Pp x4.nb) 2 rfl (K3 Df Gy hx5 (by kernel_rfl))) (ZP (Pp x4.nb) (Qr (B7 (Ar (Li (B7 (Ar (ZR [Pp x4.nb] [1,1] h (.inl ⟨i,_,hx5,Prod.ext (by omega) (by omega),rfl,rfl⟩))))))))))))))))
 refine B6 ?_
 refine Cb (Ai ?_)
 refine Ah (ZP (Ii i) (ZG h (A4 (v:=Ii (IntKind.i64.wrap ((i:Int)+1))) (v':=Ii ((i+1:Nat):Int)) (Az fun _=>by kernel_rfl) (wr (by omega))) (ZP (Ii ((i+1:Nat):Int)) (Cu ?_))))
 have hQ10:((i+1)≤L.length∧∀ k y,k<(i+1)→L[k]?=some y→y.a.h≠(n,g))∧(L.length - (i+1))<(L.length - i):=⟨⟨by omega,Yu (p:=fun y:RN=>y.a.h≠(n,g)) hno hx5 (Ad1 (by omega))⟩,by omega⟩
 refine Bn (fun j=>⟨(i+1),j⟩) hQ10 (by kernel_rfl) [0,0,0] (by kernel_rfl) h
 exact C9 (D3 (Ek (Ea (Ai (Qs (ZP (.pointer none) (Qr (ZR [.pointer none] [1,1] h (.inr ⟨S6 hno (by omega),rfl,rfl⟩)))))))))
theorem O2 {L:List RN} (hn:(L.map fun N=>N.a.h).Nodup) {i j:Nat} {N M:RN} (hi:L[i]?=some N) (hj:L[j]?=some M) (e:N.a.h=M.a.h):i=j:=by
  have hp:=List.pairwise_iff_getElem.1 hn
  obtain ⟨hi1,hi2⟩:=List.getElem?_eq_some_iff.1 hi
  obtain ⟨hj1,hj2⟩:=List.getElem?_eq_some_iff.1 hj
  rcases Nat.lt_trichotomy i j with hl|hl|hl
  · exact (hp i j (by simpa using hi1) (by simpa using hj1) hl (by simp only [List.getElem_map,hi2,hj2,e])).elim
  · exact hl
  · exact (hp j i (by simpa using hj1) (by simpa using hi1) hl (by simp only [List.getElem_map,hi2,hj2,e])).elim
theorem Cr (b:Nat) (mst:Int) (vl vt:Value) (L:List RN) (hl:L.length≤100000) (hn:(L.map fun N=>N.a.h).Nodup) (j:Nat) (N:RN) (hx:L[j]?=some N) (n g:Int) (hh:N.a.h=(n,g)):Au Tryz.prog 61 #[Pp b,Hg n g] [Rt b mst vl vt,rRL vl L] fun u L'=>u=Pp N.nb∧L'=[Rt b mst vl vt,rRL vl L]:=
  (Mm b mst vl vt L n g hl).mono fun u L' h=>by
    rcases h with ⟨i,M,hi,hM,h2⟩|⟨hno,_⟩
    · have:=O2 hn hi hx (hM.trans hh.symm)
      subst this
      rw [hx] at hi;cases hi
      exact h2
    · exact (hno N (List.mem_of_getElem? hx) hh).elim
theorem Aj {L:List RN} (hn:(L.map fun N=>N.a.h).Nodup) {j:Nat} {N:RN} (hx:L[j]?=some N) {h:Hdl} (hh:N.a.h=h):Bs (L.map RN.a) h=some N.a:=by
  unfold Bs
  rw [List.find?_map]
  have:L.find? ((fun M:AN=>M.h==h)∘RN.a)=some N:=by
    rw [List.find?_eq_some_iff_getElem]
    obtain ⟨hj,e⟩:=List.getElem?_eq_some_iff.1 hx
    refine ⟨by simp [hh],j,hj,e,fun k hk=>?_⟩
    simp only [Function.comp,Bool.not_eq_true',beq_eq_false_iff_ne,ne_eq]
    intro e2
    have:=O2 hn (List.getElem?_eq_getElem (by omega:k<L.length)) hx (e2.trans hh.symm)
    omega
  rw [this];rfl
theorem Fa {L:List RN} {h:Hdl} (hno:∀ N∈L,N.a.h≠h):Bs (L.map RN.a) h=none:=by
  unfold Bs
  rw [List.find?_eq_none]
  intro x hx
  obtain ⟨N,hN,rfl⟩:=List.mem_map.1 hx
  simp [hno N hN]
theorem Fz (b:Nat) (mst:Int) (vl vt:Value) (L:List RN) (n g:Int) (hl:L.length≤100000)  : Au Tryz.prog 59 #[Pp b,Hg n g] [Rt b mst vl vt,rRL vl L] (fun u L'=>((∀ N∈L,N.a.h≠(n,g))∧u=Ii 10∧L'=[Rt b mst vl vt,rRL vl L])∨(∃ (j:Nat) (N:RN),L[j]?=some N∧N.a.h=(n,g)∧¬N.a.kind=2∧u=Ii 7∧L'=[Rt b mst vl vt,rRL vl L])∨(∃ (j:Nat) (N:RN),L[j]?=some N∧N.a.h=(n,g)∧N.a.kind=2∧u=Ii 0∧L'=[Rt b mst vl vt,rRL vl L])):=by
 refine Zo 14 Tryz.func59 fun E w0 w h=>?_
 refine Qs (ZN [Ii n,Ii g] 34 h fun k1 w h=>ZP (Ii 0) (Qm (ZP (Pp b) (ZG h (Gla 0 [Ii n,Ii g] 0) ?_))))
 refine ZD [1,1] (Mm b mst vl vt L n g (by omega)) h ?_;rintro v_ L_ w (⟨j2,N3,hx4,hh5,rfl,rfl⟩|⟨hno6,rfl,rfl⟩) h
 refine ZP (Pp N3.nb) (Qu (ZP (Pp N3.nb) (ZP (.bool false) (Ft (ZP (Pp N3.nb) (ZP (Pp N3.nb) (ZP (Pt N3.nb 2) (ZG h (Gr 2 (Ii N3.a.kind) 1 rfl (Cc hx4 2 (by kernel_rfl))) (ZP (.bool (!(decide (N3.a.kind=2)))) (Qn (Zi (!(decide (N3.a.kind=2))) (fun hc7=>?_) fun hc7=>?_)))))))))))
 have q8:(decide (N3.a.kind=2))=false:=by simpa using hc7
 have q8:=dcF q8
 exact Qs (ZP (Ii 7) (Qr (Ar (ZR [Ii 7] [0,0] h (.inr (.inl ⟨j2,N3,hx4,hh5,by omega,rfl,rfl⟩))))))
 have q9:(decide (N3.a.kind=2))=true:=by simpa using hc7
 have q9:=dcT q9
 exact Ks (ZP (Ii 0) (Qr (ZR [Ii 0] [0,0] h (.inr (.inr ⟨j2,N3,hx4,hh5,by omega,rfl,rfl⟩)))))
 exact ZP (.pointer none) (Qu (ZP (.pointer none) (ZP (.bool true) (Qg (Qs (ZP (Ii 10) (Qr (Ar (ZR [Ii 10] [0,0] h (.inl ⟨hno6,rfl,rfl⟩))))))))))
theorem Jg (b:Nat) (mst:Int) (vl vt:Value) (L:List RN) (n g:Int) (hl:L.length≤100000)  : Au Tryz.prog 75 #[Pp b,Hg n g] [Rt b mst vl vt,rRL vl L] (fun u L'=>((∀ N∈L,N.a.h≠(n,g))∧u=Ii 10∧L'=[Rt b mst vl vt,rRL vl L])∨(∃ (j:Nat) (N:RN),L[j]?=some N∧N.a.h=(n,g)∧¬N.a.kind=1∧u=Ii 8∧L'=[Rt b mst vl vt,rRL vl L])∨(∃ (j:Nat) (N:RN),L[j]?=some N∧N.a.h=(n,g)∧N.a.kind=1∧u=Ii 0∧L'=[Rt b mst vl vt,rRL vl L])):=by
 refine Zo 14 Tryz.func75 fun E w0 w h=>?_
 refine Qs (ZN [Ii n,Ii g] 34 h fun k1 w h=>ZP (Ii 0) (Qm (ZP (Pp b) (ZG h (Gla 0 [Ii n,Ii g] 0) ?_))))
 refine ZD [1,1] (Mm b mst vl vt L n g (by omega)) h ?_;rintro v_ L_ w (⟨j2,N3,hx4,hh5,rfl,rfl⟩|⟨hno6,rfl,rfl⟩) h
 refine ZP (Pp N3.nb) (Qu (ZP (Pp N3.nb) (ZP (.bool false) (Ft (ZP (Pp N3.nb) (ZP (Pp N3.nb) (ZP (Pt N3.nb 2) (ZG h (Gr 2 (Ii N3.a.kind) 1 rfl (Cc hx4 2 (by kernel_rfl))) (ZP (.bool (!(decide (N3.a.kind=1)))) (Qn (Zi (!(decide (N3.a.kind=1))) (fun hc7=>?_) fun hc7=>?_)))))))))))
 have q8:(decide (N3.a.kind=1))=false:=by simpa using hc7
 have q8:=dcF q8
 exact Qs (ZP (Ii 8) (Qr (Ar (ZR [Ii 8] [0,0] h (.inr (.inl ⟨j2,N3,hx4,hh5,by omega,rfl,rfl⟩))))))
 have q9:(decide (N3.a.kind=1))=true:=by simpa using hc7
 have q9:=dcT q9
 exact Ks (ZP (Ii 0) (Qr (ZR [Ii 0] [0,0] h (.inr (.inr ⟨j2,N3,hx4,hh5,by omega,rfl,rfl⟩)))))
 exact ZP (.pointer none) (Qu (ZP (.pointer none) (ZP (.bool true) (Qg (Qs (ZP (Ii 10) (Qr (Ar (ZR [Ii 10] [0,0] h (.inl ⟨hno6,rfl,rfl⟩))))))))))
theorem Ev (vl:Value) (L:List RN) (j:Nat) (N:RN) (hx:L[j]?=some N) (nm:ByteArray) (hl:N.a.es.length≤1000)  : Au Tryz.prog 62 #[Pp N.nb,.string nm] [rRL vl L] (fun u L'=>(∃ (i:Nat) (e:Bj),N.a.es[i]?=some e∧e.1=nm∧u=Ii i∧L'=[rRL vl L])∨((∀ e∈N.a.es,e.1≠nm)∧u=Ii (-1)∧L'=[rRL vl L])):=by
 refine Zo 24 Tryz.func62 fun E w0 w h=>?_
 refine Qs (ZP (Ii 0) (Qu (ZP (Ii 0) (Qn (Av ?_)))))
 refine ZL (X:=Nat×(Nat→Value)) [(4,4),(6,25)] (fun ⟨i,J0⟩=>[(5,Ii i)]) (fun ⟨i,J0⟩=>J0) (fun ⟨i,J0⟩=>[rRL vl L]) (fun ⟨i,J0⟩=>i≤N.a.es.length∧∀ k y,k<i→N.a.es[k]?=some y→y.1≠nm) (fun ⟨i,J0⟩=>N.a.es.length - i) (fun j=>⟨0,j⟩) ⟨by omega,fun k y hk=>by omega⟩ [0] h ?_
 rintro ⟨i,J0⟩ w hG h
 obtain ⟨hi0,hno⟩:i≤N.a.es.length∧∀ k y,k<i→N.a.es[k]?=some y→y.1≠nm:=hG
 refine Qt (ZP (Ii i) (ZP (Pp N.nb) (ZP (Pp N.nb) (ZP (Pt N.nb 6) (ZG h (Gr 6 N.ve 0 rfl (Cc hx 6 (by kernel_rfl))) (ZG h (Dh 107 (by kernel_rfl) 0 rfl (Bo hx)) (ZP (.bool (decide ((i:Int)<(N.a.es.length:Int)))) (Qn (Zd ((i:Int)<(N.a.es.length:Int)) (fun hc1=>?_) fun hc1=>?_)))))))))
 refine Kn (Aa (Av (Qs (ZP (Pp N.nb) (ZP (Pp N.nb) (ZP (Pt N.nb 6) (ZG h (Gr 6 N.ve 0 rfl (Cc hx 6 (by kernel_rfl))) (ZP (Ii i) ?_))))))))
 have hi2:i<N.a.es.length:=by omega
 obtain ⟨x3,hx4⟩:∃ x,N.a.es[i]?=some x:=⟨_,List.getElem?_eq_getElem hi2⟩
 refine ZG h (Dn (k:=3) 107 i rfl (by kernel_rfl) hi2 0 rfl (Bo hx)) (ZP (Pt (Dg N.ve) (B0 N.ve+i*3)) (ZG h (Gr (B0 N.ve+i*3) (.string x3.1) 0 rfl (K3 (Bo hx) D0 hx4 (by kernel_rfl))) (ZP (.string nm) (ZG h (A4 (v:=.bool (x3.1.toList==nm.toList)) (v':=.bool (decide (x3.1=nm))) (Az fun _=>by kernel_rfl) Qv) (Qn (Zd (x3.1=nm) (fun hc5=>?_) fun hc5=>?_))))))
 exact Qs (ZP (Ii i) (ZP (Ii i) (Qr (B7 (Ar (Li (B7 (Ar (ZR [Ii i] [0] h (.inl ⟨i,_,hx4,by assumption,rfl,rfl⟩))))))))))
 refine B6 ?_
 refine Cb (Ai ?_)
 refine Ah (ZP (Ii i) (ZG h (A4 (v:=Ii (IntKind.i64.wrap ((i:Int)+1))) (v':=Ii ((i+1:Nat):Int)) (Az fun _=>by kernel_rfl) (wr (by omega))) (ZP (Ii ((i+1:Nat):Int)) (Cu ?_))))
 have hQ6:((i+1)≤N.a.es.length∧∀ k y,k<(i+1)→N.a.es[k]?=some y→y.1≠nm)∧(N.a.es.length - (i+1))<(N.a.es.length - i):=⟨⟨by omega,Yu (p:=fun y:Bj=>y.1≠nm) hno hx4 (by assumption)⟩,by omega⟩
 refine Bn (fun j=>⟨(i+1),j⟩) hQ6 (by kernel_rfl) [0] (by kernel_rfl) h
 exact C9 (D3 (Ek (Ea (Ai (Qs (ZP (Ii (-1)) (Qr (ZR [Ii (-1)] [0] h (.inr ⟨S6 hno (by omega),rfl,rfl⟩)))))))))
section
open Go.RowKit Go.MapKept
section
variable {P:Program} {a:Act} {w w0:World} {E:Ent} {L:List Res} {dst:Option Tmp} {x y:Operand} {T T2 ty:TypeId} {pos:String} {after:Array Edge} {g:Option (Nat×Bool)}
end
end
theorem M1 {es:List Bj} {k:Nat} {x:Bj} (p:Bj→Bool) (hx:es[k]?=some x):(es.take (k+1)).countP p=(es.take k).countP p+if p x then 1 else 0:=by
  rw [List.take_add_one,hx,List.countP_append];simp [List.countP_cons]
theorem Acf {L:List RN} {k:Nat} {M:RN} (f:RN→Nat) (hx:L[k]?=some M):((L.take (k+1)).map f).sum=((L.take k).map f).sum+f M:=by
  rw [List.take_add_one,hx,List.map_append,List.sum_append];simp
theorem Agx (L:List RN) (h:Hdl):Be (L.map RN.a) h=(L.map fun M=>F1 M.a.es h).sum:=by unfold Be;rw [List.map_map];rfl
theorem Un {L:List RN} (hn:(L.map fun N=>N.a.h).Nodup) {j:Nat} {K:RN} (hx:L[j]?=some K) {h:Hdl} (hh:K.a.h=h):Bg (L.map RN.a) h=decide (K.a.kind=2):=by unfold Bg;rw [Aj hn hx hh]
theorem up_at {L:List RN} {i:Nat} {M:RN} (hx:L[i]?=some M) {h:Hdl} {k:Nat} {e:Bj} (he:M.a.es[k]?=some e) (hh:e.2=h) (hno:∀ q y,q<i→L[q]?=some y→∀ e∈y.a.es,e.2≠h):upA (L.map RN.a) h=M.a.h:=by
  unfold upA
  rw [List.find?_map]
  have:L.find? ((fun M:AN=>M.es.any fun e=>e.2==h)∘RN.a)=some M:=by
    rw [List.find?_eq_some_iff_getElem]
    obtain ⟨hj,q⟩:=List.getElem?_eq_some_iff.1 hx
    refine ⟨?_,i,hj,q,fun k hk=>?_⟩
    · simp only [Function.comp,List.any_eq_true,beq_iff_eq];exact ⟨e,List.mem_of_getElem? he,hh⟩
    · simp only [Function.comp,Bool.not_eq_true',List.any_eq_false,beq_iff_eq]
      exact hno k _ hk (List.getElem?_eq_getElem (by omega))
  rw [this];rfl
theorem up_no {L:List RN} {h:Hdl} (hno:∀ y∈L,∀ e∈y.a.es,e.2≠h):upA (L.map RN.a) h=h:=by
  unfold upA
  have:(L.map RN.a).find? (fun M=>M.es.any fun e=>e.2==h)=none:=by
    rw [List.find?_eq_none]
    intro x hx
    obtain ⟨N,hN,rfl⟩:=List.mem_map.1 hx
    simp only [List.any_eq_true,beq_iff_eq,not_exists,not_and]
    exact hno N hN
  rw [this]
theorem Eb {A:List AN} {N:AN} (h:N.kind=2):Dv A N=2+((N.es.countP fun e=>Bg A e.2:Nat):Int):=if_pos h
theorem De {A:List AN} {N:AN} (h:¬N.kind=2):Dv A N=(Be A N.h:Int):=if_neg h
theorem Xd (es:List Bj) (p:Bj→Bool):es.countP p≤es.length:=List.countP_le_length
theorem Agu {L:List RN} {f:RN→Nat} {c:Nat} (h:∀ M∈L,f M≤c):(L.map f).sum≤L.length*c:=by
  induction L with
  | nil=>simp
  | cons x L ih=>
    have:=h x (by simp)
    have:=ih fun M hM=>h M (by simp [hM])
    simp only [List.map_cons,List.sum_cons,List.length_cons,Nat.succ_mul];omega
theorem Aec {α:Type} {l:List α} {k:Nat} {x:α} (h:x∈l.take k):x∈l:=List.mem_of_mem_take h
theorem Nt (b:Nat) (mst:Int) (vl vt:Value) (L:List RN) (hl:L.length≤400) (hnod:(L.map fun N=>N.a.h).Nodup) (hent:∀ M∈L,∀ e∈M.a.es,∃ K∈L,K.a.h=e.2) (hfew:∀ M∈L,M.a.es.length≤100) (j:Nat) (N:RN) (hx:L[j]?=some N)  : Au Tryz.prog 69 #[Pp b,Pp N.nb] [Rt b mst vl vt,rRL vl L] (fun u L'=>u=Ii (Dv (L.map RN.a) N.a)∧L'=[Rt b mst vl vt,rRL vl L]):=by
 have hfN:=hfew N (List.mem_of_getElem? hx)
 refine Zo 85 Tryz.func69 fun E w0 w h=>?_
 refine Qs (ZP (Ii 0) (Qu (ZP (Pp N.nb) (ZP (Pp N.nb) (ZP (Pt N.nb 2) (ZG h (Gr 2 (Ii N.a.kind) 1 rfl (Cc hx 2 (by kernel_rfl))) (ZP (.bool (decide (N.a.kind=2))) (Qn (Zd (N.a.kind=2) (fun hc1=>?_) fun hc1=>?_)))))))))
 refine Qs (ZP (Ii 2) (Qu (ZP (Ii 0) (Qn (Av ?_)))))
 refine ZL (X:=Nat×Nat×(Nat→Value)) [(15,39)] (fun ⟨i1,m1,J0⟩=>[(5,Ii m1),(6,Ii i1)]) (fun ⟨i1,m1,J0⟩=>J0) (fun ⟨i1,m1,J0⟩=>[Rt b mst vl vt,rRL vl L]) (fun ⟨i1,m1,J0⟩=>i1≤N.a.es.length∧m1=2+(N.a.es.take i1).countP (fun e=>Bg (L.map RN.a) e.2)) (fun ⟨i1,m1,J0⟩=>N.a.es.length - i1) (fun j=>⟨0,2,j⟩) ⟨by omega,rfl⟩ [0,0] h ?_
 rintro ⟨i1,m1,J0⟩ w hG h
 obtain ⟨hi1,hm⟩:i1≤N.a.es.length∧m1=2+(N.a.es.take i1).countP (fun e=>Bg (L.map RN.a) e.2):=hG
 have hmb:=Xd (N.a.es.take i1) (fun e=>Bg (L.map RN.a) e.2)
 rw [List.length_take] at hmb
 refine Qt (ZP (Ii i1) (ZP (Pp N.nb) (ZP (Pp N.nb) (ZP (Pt N.nb 6) (ZG h (Gr 6 N.ve 1 rfl (Cc hx 6 (by kernel_rfl))) (ZG h (Dh 107 (by kernel_rfl) 1 rfl (Bo hx)) (ZP (.bool (decide ((i1:Int)<(N.a.es.length:Int)))) (Qn (Zd ((i1:Int)<(N.a.es.length:Int)) (fun hc2=>?_) fun hc2=>?_)))))))))
 refine Kn (Aa (Av (Qs (ZP (Pp b) (ZP (Pp N.nb) (ZP (Pp N.nb) (ZP (Pt N.nb 6) (ZG h (Gr 6 N.ve 1 rfl (Cc hx 6 (by kernel_rfl))) (ZP (Ii i1) ?_)))))))))
 have hi3:i1<N.a.es.length:=by omega
 obtain ⟨x4,hx5⟩:∃ x,N.a.es[i1]?=some x:=⟨_,List.getElem?_eq_getElem hi3⟩
 refine ZG h (Dn (k:=3) 107 i1 rfl (by kernel_rfl) hi3 1 rfl (Bo hx)) (ZP (Pt (Dg N.ve) (B0 N.ve+i1*3+1)) (ZG h (Gra (B0 N.ve+i1*3+1) [Ii x4.2.1,Ii x4.2.2] 1 rfl (rdS (Bo hx) D0 hx5 1 (by kernel_rfl))) ?_))
 obtain ⟨K6,hK7,hKh8⟩:=hent N (List.mem_of_getElem? hx) x4 (List.mem_of_getElem? hx5)
 obtain ⟨jK9,hjK10⟩:=List.getElem?_of_mem hK7
 refine ZC [0,0] (Cr b mst vl vt L (by omega) hnod jK9 K6 hjK10 x4.2.1 x4.2.2 hKh8) h fun w h=>ZP (Pp K6.nb) (ZP (Pt K6.nb 2) (ZG h (Gr 2 (Ii K6.a.kind) 1 rfl (Cc hjK10 2 (by kernel_rfl))) (ZP (.bool (decide (K6.a.kind=2))) (Qn (Zd (K6.a.kind=2) (fun hc11=>?_) fun hc11=>?_)))))
 have hT:Bg (L.map RN.a) x4.2=true:=by rw [Un hnod hjK10 hKh8];exact decide_eq_true (by omega)
 refine Ah (ZP (Ii m1) (ZG h (A4 (v:=Ii (IntKind.i64.wrap ((m1:Int)+1))) (v':=Ii ((m1+1:Nat):Int)) (Az fun _=>by kernel_rfl) (wr (by omega))) (ZP (Ii ((m1+1:Nat):Int)) (Cu ?_))))
 refine Cb (Ai ?_)
 refine Ah (ZP (Ii i1) (ZG h (A4 (v:=Ii (IntKind.i64.wrap ((i1:Int)+1))) (v':=Ii ((i1+1:Nat):Int)) (Az fun _=>by kernel_rfl) (wr (by omega))) (ZP (Ii ((i1+1:Nat):Int)) (Cu ?_))))
 have hQ12:((i1+1)≤N.a.es.length∧(m1+1)=2+(N.a.es.take (i1+1)).countP (fun e=>Bg (L.map RN.a) e.2))∧(N.a.es.length - (i1+1))<(N.a.es.length - i1):=⟨⟨by omega,by (rw [M1 _ hx5,hm,hT])<;>(simp<;>try omega)⟩,by omega⟩
 refine Bn (fun j=>⟨(i1+1),m1+1,j⟩) hQ12 (by kernel_rfl) [0,0] (by kernel_rfl) h
 have hT:Bg (L.map RN.a) x4.2=false:=by rw [Un hnod hjK10 hKh8];exact decide_eq_false (by omega)
 refine B6 ?_
 refine Cb (Ai ?_)
 refine Ah (ZP (Ii i1) (ZG h (A4 (v:=Ii (IntKind.i64.wrap ((i1:Int)+1))) (v':=Ii ((i1+1:Nat):Int)) (Az fun _=>by kernel_rfl) (wr (by omega))) (ZP (Ii ((i1+1:Nat):Int)) (Cu ?_))))
 have hQ13:((i1+1)≤N.a.es.length∧m1=2+(N.a.es.take (i1+1)).countP (fun e=>Bg (L.map RN.a) e.2))∧(N.a.es.length - (i1+1))<(N.a.es.length - i1):=⟨⟨by omega,by (rw [M1 _ hx5,hm,hT])<;>(simp<;>try omega)⟩,by omega⟩
 refine Bn (fun j=>⟨(i1+1),m1,j⟩) hQ13 (by kernel_rfl) [0,0] (by kernel_rfl) h
 refine C9 (D3 (Ek (Ea (Ai (Qs (ZP (Ii m1) (ZP (Ii m1) (Qr (Ar (ZR [Ii m1] [0,0] h ?_))))))))))
 rw [Eb (by omega)]
 rw [List.take_of_length_le (by omega)] at hm
 exact ⟨by show Value.int _ _=_;congr 1;omega,rfl⟩
 refine Ks (ZP (Ii 0) (Qu (ZP (Ii 0) (Qn (Av ?_)))))
 refine ZL (X:=Nat×Nat×(Nat→Value)) [(9,9),(41,85)] (fun ⟨i2,m2,J1⟩=>[(7,Ii m2),(8,Ii i2)]) (fun ⟨i2,m2,J1⟩=>J1) (fun ⟨i2,m2,J1⟩=>[Rt b mst vl vt,rRL vl L]) (fun ⟨i2,m2,J1⟩=>i2≤L.length∧m2=((L.take i2).map fun M=>F1 M.a.es N.a.h).sum) (fun ⟨i2,m2,J1⟩=>L.length - i2) (fun j=>⟨0,0,j⟩) ⟨by omega,rfl⟩ [0,0] h ?_
 rintro ⟨i2,m2,J1⟩ w hG h
 obtain ⟨hi2,hm⟩:i2≤L.length∧m2=((L.take i2).map fun M=>F1 M.a.es N.a.h).sum:=hG
 have hmb:m2≤40000:=by have h1:=Agu (L:=L.take i2) (f:=fun M=>F1 M.a.es N.a.h) (c:=100) (fun M hM=>Nat.le_trans (Xd _ _) (hfew M (Aec hM)));rw [List.length_take] at h1;have:min i2 L.length*100≤400*100:=Nat.mul_le_mul_right _ (by omega);omega
 refine Qt (ZP (Ii i2) (ZP (Pp b) (ZP (Pp b) (ZP (Pt b 1) (ZG h (Gl 1 (vl) 0) (ZG h (Dh 88 (by kernel_rfl) 1 rfl Df) (ZP (.bool (decide ((i2:Int)<(L.length:Int)))) (Qn (Zd ((i2:Int)<(L.length:Int)) (fun hc14=>?_) fun hc14=>?_)))))))))
 refine Kn (Aa (Av (Qs (ZP (Ii 0) (Qn (Av ?_))))))
 have hi15:i2<L.length:=by omega
 obtain ⟨x16,hx17⟩:∃ x,L[i2]?=some x:=⟨_,List.getElem?_eq_getElem hi15⟩
 have hfX:=hfew x16 (List.mem_of_getElem? hx17)
 refine ZL (X:=Nat×Nat×(Nat→Value)) [(50,85)] (fun ⟨kq,m3,J2⟩=>[(7,Ii m3),(9,Ii kq)]) (fun ⟨kq,m3,J2⟩=>J2) (fun ⟨kq,m3,J2⟩=>[Rt b mst vl vt,rRL vl L]) (fun ⟨kq,m3,J2⟩=>kq≤x16.a.es.length∧m3=m2+F1 (x16.a.es.take kq) N.a.h) (fun ⟨kq,m3,J2⟩=>x16.a.es.length - kq) (fun j=>⟨0,m2,j⟩) ⟨by omega,rfl⟩ [0,0] h ?_
 rintro ⟨kq,m3,J2⟩ w hG h
 obtain ⟨hkq,hm3⟩:kq≤x16.a.es.length∧m3=m2+F1 (x16.a.es.take kq) N.a.h:=hG
 have hm3b:F1 (x16.a.es.take kq) N.a.h≤_:=Xd _ _
 rw [List.length_take] at hm3b
 refine Qt (ZP (Ii kq) (ZP (Pp b) (ZP (Pp b) (ZP (Pt b 1) (ZG h (Gl 1 (vl) 0) (ZP (Ii i2) (ZG h (Dn (k:=1) 88 i2 rfl (by kernel_rfl) hi15 1 rfl Df) (ZG h (Gr (B0 vl+i2*1) (Pp x16.nb) 1 rfl (K3 Df Gy hx17 (by kernel_rfl))) (ZP (Pp x16.nb) (ZP (Pt x16.nb 6) (ZG h (Gr 6 x16.ve 1 rfl (Cc hx17 6 (by kernel_rfl))) (ZG h (Dh 107 (by kernel_rfl) 1 rfl (Bo hx17)) (ZP (.bool (decide ((kq:Int)<(x16.a.es.length:Int)))) (Qn (Zd ((kq:Int)<(x16.a.es.length:Int)) (fun hc18=>?_) fun hc18=>?_)))))))))))))))
 refine Kn (Aa (Av (Aa (Ds 19 [0,0] h fun w h=>Dp 0 246800 (Pp b) [0,0] h (Dp 1 246801 (Pp b) [0,0] h (Dp 2 246803 (Pt b 1) [0,0] h (Dq 3 246807 [0,0] rfl h (Gl 1 (vl) 0) (Dp 4 246799 (Ii i2) [0,0] h (Dq (v:=Pt (Dg vl) (B0 vl+i2*1)) 5 246815 [0,0] rfl h (Dn (k:=1) 88 i2 rfl (by kernel_rfl) hi15 1 rfl Df) (Dq 6 246847 [0,0] rfl h (Gr (B0 vl+i2*1) (Pp x16.nb) 1 rfl (K3 Df Gy hx17 (by kernel_rfl))) (Dp 7 246911 (Pp x16.nb) [0,0] h (Dp 8 247039 (Pt x16.nb 6) [0,0] h (Dq 9 247295 [0,0] rfl h (Gr 6 x16.ve 1 rfl (Cc hx17 6 (by kernel_rfl))) (Dp 10 246783 (Ii kq) [0,0] h ?_))))))))))))))
 have hi19:kq<x16.a.es.length:=by omega
 obtain ⟨x20,hx21⟩:∃ x,x16.a.es[kq]?=some x:=⟨_,List.getElem?_eq_getElem hi19⟩
 refine Dq (v:=Pt (Dg x16.ve) (B0 x16.ve+kq*3)) 11 247807 [0,0] rfl h (Dn (k:=3) 107 kq rfl (by kernel_rfl) hi19 1 rfl (Bo hx17)) (Dp 12 249855 (Pt (Dg x16.ve) (B0 x16.ve+kq*3+1)) [0,0] h (Dq 13 253951 [0,0] rfl h (Gra (B0 x16.ve+kq*3+1) [Ii x20.2.1,Ii x20.2.2] 1 rfl (rdS (Bo hx17) D0 hx21 1 (by kernel_rfl))) (Dp 14 16383 (Pp N.nb) [0,0] h (Dp 15 32767 (Pp N.nb) [0,0] h (Dp 16 65535 (Pp N.nb) [0,0] h (Dq 17 131071 [0,0] rfl h (Gra 0 [Ii N.a.h.1,Ii N.a.h.2] 1 rfl (Cc hx 0 (by kernel_rfl))) (Dq (v:=.bool ((decide (x20.2.1=N.a.h.1))&&(decide (x20.2.2=N.a.h.2)))) 18 262143 [0,0] rfl h (Fm (n1:=x20.2.1) (g1:=x20.2.2) (n2:=N.a.h.1) (g2:=N.a.h.2) (by kernel_rfl)) (Dd (Ai (Zh (x20.2.1=N.a.h.1) (x20.2.2=N.a.h.2) (fun hc22 q23 q24=>?_) fun hc22 q26=>?_))))))))))
 have hT:(x20.2==N.a.h)=true:=beq_iff_eq.2 (Prod.ext (by omega) (by omega))
 refine Ah (ZP (Ii m3) (ZG h (A4 (v:=Ii (IntKind.i64.wrap ((m3:Int)+1))) (v':=Ii ((m3+1:Nat):Int)) (Az fun _=>by kernel_rfl) (wr (by omega))) (ZP (Ii ((m3+1:Nat):Int)) (Cu ?_))))
 refine Cb (Ai ?_)
 refine Ah (ZP (Ii kq) (ZG h (A4 (v:=Ii (IntKind.i64.wrap ((kq:Int)+1))) (v':=Ii ((kq+1:Nat):Int)) (Az fun _=>by kernel_rfl) (wr (by omega))) (ZP (Ii ((kq+1:Nat):Int)) (Cu ?_))))
 have hQ25:((kq+1)≤x16.a.es.length∧(m3+1)=m2+F1 (x16.a.es.take (kq+1)) N.a.h)∧(x16.a.es.length - (kq+1))<(x16.a.es.length - kq):=⟨⟨by omega,by unfold F1 at hm3 ⊢;(rw [M1 _ hx21,hm3,hT])<;>(simp<;>try omega)⟩,by omega⟩
 refine Bn (fun j=>⟨(kq+1),m3+1,j⟩) hQ25 (by kernel_rfl) [0,0] (by kernel_rfl) h
 have hT:(x20.2==N.a.h)=false:=beq_eq_false_iff_ne.2 (fun e=>by have e1:=congrArg Prod.fst e;have e2:=congrArg Prod.snd e;omega)
 refine B6 ?_
 refine Cb (Ai ?_)
 refine Ah (ZP (Ii kq) (ZG h (A4 (v:=Ii (IntKind.i64.wrap ((kq:Int)+1))) (v':=Ii ((kq+1:Nat):Int)) (Az fun _=>by kernel_rfl) (wr (by omega))) (ZP (Ii ((kq+1:Nat):Int)) (Cu ?_))))
 have hQ27:((kq+1)≤x16.a.es.length∧m3=m2+F1 (x16.a.es.take (kq+1)) N.a.h)∧(x16.a.es.length - (kq+1))<(x16.a.es.length - kq):=⟨⟨by omega,by unfold F1 at hm3 ⊢;(rw [M1 _ hx21,hm3,hT])<;>(simp<;>try omega)⟩,by omega⟩
 refine Bn (fun j=>⟨(kq+1),m3,j⟩) hQ27 (by kernel_rfl) [0,0] (by kernel_rfl) h
 refine C9 (D3 (Ek (Ea (Cb (Ai (Ah (ZP (Ii i2) (ZG h (A4 (v:=Ii (IntKind.i64.wrap ((i2:Int)+1))) (v':=Ii ((i2+1:Nat):Int)) (Az fun _=>by kernel_rfl) (wr (by omega))) (ZP (Ii ((i2+1:Nat):Int)) (Cu ?_))))))))))
 have hQ28:((i2+1)≤L.length∧m3=((L.take (i2+1)).map fun M=>F1 M.a.es N.a.h).sum)∧(L.length - (i2+1))<(L.length - i2):=⟨⟨by omega,by rw [Acf _ hx17,← hm,hm3,List.take_of_length_le (by omega)]<;>rfl⟩,by omega⟩
 refine Bn (fun j=>⟨(i2+1),m3,j⟩) hQ28 (by kernel_rfl) [0,0] (by kernel_rfl) h
 refine C9 (D3 (Ek (Ea (Ai (Qs (ZP (Ii m2) (ZP (Ii m2) (Qr (ZR [Ii m2] [0,0] h ?_)))))))))
 rw [De (by omega),Agx]
 rw [List.take_of_length_le (by omega)] at hm
 exact ⟨by show Value.int _ _=_;rw [hm],rfl⟩
theorem Up (b:Nat) (mst:Int) (vl vt:Value) (L:List RN) (hl:L.length≤400) (hfew:∀ M∈L,M.a.es.length≤100) (n g:Int)  : Au Tryz.prog 72 #[Pp b,Hg n g] [Rt b mst vl vt,rRL vl L] (fun u L'=>u=.agg #[Ii (upA (L.map RN.a) (n,g)).1,Ii (upA (L.map RN.a) (n,g)).2]∧L'=[Rt b mst vl vt,rRL vl L]):=by
 refine Zo 56 Tryz.func72 fun E w0 w h=>?_
 refine Qs (ZN [Ii n,Ii g] 34 h fun k1 w h=>ZN [Ii 0,Ii 0] 34 h fun k2 w h=>Qu (ZP (Ii 0) (Qn (Av ?_))))
 refine ZL (X:=Nat×(Nat→Value)) [(6,56)] (fun ⟨i2,J0⟩=>[(5,Ii i2)]) (fun ⟨i2,J0⟩=>J0) (fun ⟨i2,J0⟩=>[Rh k2 0 0,Rh k1 n g,Rt b mst vl vt,rRL vl L]) (fun ⟨i2,J0⟩=>i2≤L.length∧∀ q y,q<i2→L[q]?=some y→∀ e∈y.a.es,e.2≠(n,g)) (fun ⟨i2,J0⟩=>L.length - i2) (fun j=>⟨0,j⟩) ⟨by omega,fun q y hq=>by omega⟩ [0,0,0,0] h ?_
 rintro ⟨i2,J0⟩ w hG h
 obtain ⟨hi2,hno⟩:i2≤L.length∧∀ q y,q<i2→L[q]?=some y→∀ e∈y.a.es,e.2≠(n,g):=hG
 refine Qt (ZP (Ii i2) (ZP (Pp b) (ZP (Pp b) (ZP (Pt b 1) (ZG h (Gl 1 (vl) 2) (ZG h (Dh 88 (by kernel_rfl) 3 rfl Df) (ZP (.bool (decide ((i2:Int)<(L.length:Int)))) (Qn (Zd ((i2:Int)<(L.length:Int)) (fun hc3=>?_) fun hc3=>?_)))))))))
 refine Kn (Aa (Av (Qs (ZP (Ii 0) (Qn (Av ?_))))))
 have hi4:i2<L.length:=by omega
 obtain ⟨x5,hx6⟩:∃ x,L[i2]?=some x:=⟨_,List.getElem?_eq_getElem hi4⟩
 have hfX:=hfew x5 (List.mem_of_getElem? hx6)
 refine ZL (X:=Nat×(Nat→Value)) [(16,56)] (fun ⟨kq,J1⟩=>[(6,Ii kq)]) (fun ⟨kq,J1⟩=>J1) (fun ⟨kq,J1⟩=>[Rh k2 0 0,Rh k1 n g,Rt b mst vl vt,rRL vl L]) (fun ⟨kq,J1⟩=>kq≤x5.a.es.length∧∀ q y,q<kq→x5.a.es[q]?=some y→y.2≠(n,g)) (fun ⟨kq,J1⟩=>x5.a.es.length - kq) (fun j=>⟨0,j⟩) ⟨by omega,fun q y hq=>by omega⟩ [0,0,0,0] h ?_
 rintro ⟨kq,J1⟩ w hG h
 obtain ⟨hkq,hno2⟩:kq≤x5.a.es.length∧∀ q y,q<kq→x5.a.es[q]?=some y→y.2≠(n,g):=hG
 refine Qt (ZP (Ii kq) (ZP (Pp b) (ZP (Pp b) (ZP (Pt b 1) (ZG h (Gl 1 (vl) 2) (ZP (Ii i2) (ZG h (Dn (k:=1) 88 i2 rfl (by kernel_rfl) hi4 3 rfl Df) (ZG h (Gr (B0 vl+i2*1) (Pp x5.nb) 3 rfl (K3 Df Gy hx6 (by kernel_rfl))) (ZP (Pp x5.nb) (ZP (Pt x5.nb 6) (ZG h (Gr 6 x5.ve 3 rfl (Cc hx6 6 (by kernel_rfl))) (ZG h (Dh 107 (by kernel_rfl) 3 rfl (Bo hx6)) (ZP (.bool (decide ((kq:Int)<(x5.a.es.length:Int)))) (Qn (Zd ((kq:Int)<(x5.a.es.length:Int)) (fun hc7=>?_) fun hc7=>?_)))))))))))))))
 refine Kn (Aa (Av (Aa (Ds 16 [1,1,1] h fun w h=>Dp 0 17424 (Pp b) [1,1,1] h (Dp 1 17425 (Pp b) [1,1,1] h (Dp 2 17427 (Pt b 1) [1,1,1] h (Dq 3 17431 [1,1,1] rfl h (Gl 1 (vl) 1) (Dp 4 17423 (Ii i2) [1,1,1] h (Dq (v:=Pt (Dg vl) (B0 vl+i2*1)) 5 17439 [1,1,1] rfl h (Dn (k:=1) 88 i2 rfl (by kernel_rfl) hi4 2 rfl Df) (Dq 6 17471 [1,1,1] rfl h (Gr (B0 vl+i2*1) (Pp x5.nb) 2 rfl (K3 Df Gy hx6 (by kernel_rfl))) (Dp 7 17535 (Pp x5.nb) [1,1,1] h (Dp 8 17663 (Pt x5.nb 6) [1,1,1] h (Dq 9 17919 [1,1,1] rfl h (Gr 6 x5.ve 2 rfl (Cc hx6 6 (by kernel_rfl))) (Dp 10 17407 (Ii kq) [1,1,1] h ?_))))))))))))))
 have hi8:kq<x5.a.es.length:=by omega
 obtain ⟨x9,hx10⟩:∃ x,x5.a.es[kq]?=some x:=⟨_,List.getElem?_eq_getElem hi8⟩
 refine Dq (v:=Pt (Dg x5.ve) (B0 x5.ve+kq*3)) 11 18431 [1,1,1] rfl h (Dn (k:=3) 107 kq rfl (by kernel_rfl) hi8 2 rfl (Bo hx6)) (Dp 12 20479 (Pt (Dg x5.ve) (B0 x5.ve+kq*3+1)) [1,1,1] h (Dq 13 24575 [1,1,1] rfl h (Gra (B0 x5.ve+kq*3+1) [Ii x9.2.1,Ii x9.2.2] 2 rfl (rdS (Bo hx6) D0 hx10 1 (by kernel_rfl))) (Dq 14 16383 [1,1,1] rfl h (Gla 0 [Ii n,Ii g] 0) (Dq (v:=.bool ((decide (x9.2.1=n))&&(decide (x9.2.2=g)))) 15 32767 [1,1,1] rfl h (Fm (n1:=x9.2.1) (g1:=x9.2.2) (n2:=n) (g2:=g) (by kernel_rfl)) (Dd (Ai (Zh (x9.2.1=n) (x9.2.2=g) (fun hc11 q12 q13=>?_) fun hc11 q14=>?_)))))))
 refine Qs (ZP (Pp b) (ZP (Pp b) (ZP (Pt b 1) (ZG h (Gl 1 (vl) 2) (ZP (Ii i2) (ZG h (Dn (k:=1) 88 i2 rfl (by kernel_rfl) hi4 3 rfl Df) (ZG h (Gr (B0 vl+i2*1) (Pp x5.nb) 3 rfl (K3 Df Gy hx6 (by kernel_rfl))) (ZP (Pp x5.nb) (ZP (Pp x5.nb) (ZG h (Gra 0 [Ii x5.a.h.1,Ii x5.a.h.2] 3 rfl (Cc hx6 0 (by kernel_rfl))) (ZSs [Ii x5.a.h.1,Ii x5.a.h.2] 0 rfl h fun w h=>Qr (B7 (Ar (Li (B7 (B7 (Ar (Li (B7 (Ar ?_))))))))))))))))))))
 refine B5 [Hg x5.a.h.1 x5.a.h.2] [2,2] h (by kernel_rfl) (Du 0 [Ii x5.a.h.1,Ii x5.a.h.2] (Hg x5.a.h.1 x5.a.h.2) 0 rfl (by kernel_rfl) Dr) ?_
 rw [up_at hx6 hx10 (Prod.ext (by omega) (by omega)) hno]
 exact ⟨rfl,rfl⟩
 refine B6 ?_
 refine Cb (Ai ?_)
 refine Ah (ZP (Ii kq) (ZG h (A4 (v:=Ii (IntKind.i64.wrap ((kq:Int)+1))) (v':=Ii ((kq+1:Nat):Int)) (Az fun _=>by kernel_rfl) (wr (by omega))) (ZP (Ii ((kq+1:Nat):Int)) (Cu ?_))))
 have hQ15:((kq+1)≤x5.a.es.length∧∀ q y,q<(kq+1)→x5.a.es[q]?=some y→y.2≠(n,g))∧(x5.a.es.length - (kq+1))<(x5.a.es.length - kq):=⟨⟨by omega,Yu (p:=fun y:Bj=>y.2≠(n,g)) hno2 hx10 (Ad1 (by omega))⟩,by omega⟩
 refine Bn (fun j=>⟨(kq+1),j⟩) hQ15 (by kernel_rfl) [0,0,0,0] (by kernel_rfl) h
 refine C9 (D3 (Ek (Ea (Cb (Ai (Ah (ZP (Ii i2) (ZG h (A4 (v:=Ii (IntKind.i64.wrap ((i2:Int)+1))) (v':=Ii ((i2+1:Nat):Int)) (Az fun _=>by kernel_rfl) (wr (by omega))) (ZP (Ii ((i2+1:Nat):Int)) (Cu ?_))))))))))
 have hQ16:((i2+1)≤L.length∧∀ q y,q<(i2+1)→L[q]?=some y→∀ e∈y.a.es,e.2≠(n,g))∧(L.length - (i2+1))<(L.length - i2):=⟨⟨by omega,Yu (p:=fun y:RN=>∀ e∈y.a.es,e.2≠(n,g)) hno hx6 (S6 hno2 (by omega))⟩,by omega⟩
 refine Bn (fun j=>⟨(i2+1),j⟩) hQ16 (by kernel_rfl) [0,0,0,0] (by kernel_rfl) h
 refine C9 (D3 (Ek (Ea (Ai (Qs (ZG h (Gla 0 [Ii n,Ii g] 1) (ZSs [Ii n,Ii g] 0 rfl h fun w h=>Qr ?_)))))))
 refine B5 [Hg n g] [2,2] h (by kernel_rfl) (Du 0 [Ii n,Ii g] (Hg n g) 0 rfl (by kernel_rfl) Dr) ?_
 rw [up_no (S6 hno (by omega))]
 exact ⟨rfl,rfl⟩
theorem Gq (vl:Value) (L:List RN) (j:Nat) (N:RN) (hx:L[j]?=some N) (nm:ByteArray) (n g:Int) (hl:N.a.es.length≤1000)  : Au Tryz.prog 68 #[Pp N.nb,.string nm,Hg n g] [rRL vl L] (fun u L'=>∃ v',L'=[rRL vl (L.set j (⟨N.nb,N.vh,v',⟨N.a.h,N.a.kind,N.a.change,N.a.s,N.a.holes,Bi nm (n,g) N.a.es,N.a.pins⟩⟩:RN))]):=by
 refine Zo 57 Tryz.func68 fun E w0 w h=>?_
 refine Qs (ZN [Ii n,Ii g] 34 h fun k1 w h=>Qm (ZP (.slice none 0 0) (Qm (ZP (.bool false) (Qu (ZP (Ii 0) (Qn (Av ?_))))))))
 have h:=h.nilRows 107 3 e3C
 refine ZL (X:=Nat×Bool×List Bj×Value×(Nat→Value)) [(9,47)] (fun ⟨i,done,out,vo,J0⟩=>[(6,vo),(7,.bool done),(8,Ii i)]) (fun ⟨i,done,out,vo,J0⟩=>J0) (fun ⟨i,done,out,vo,J0⟩=>[A8 true vo 107 3 e3C out,Rh k1 n g,rRL vl L]) (fun ⟨i,done,out,vo,J0⟩=>i≤N.a.es.length∧(done,out)=Lt nm (n,g) (N.a.es.take i)∧out.length≤2*i) (fun ⟨i,done,out,vo,J0⟩=>N.a.es.length - i) (fun j=>⟨0,false,[],(.slice none 0 0),j⟩) ⟨by omega,rfl,by simp⟩ [0,0,0] h ?_
 rintro ⟨i,done,out,vo,J0⟩ w hG h
 obtain ⟨hi0,ho,hol⟩:i≤N.a.es.length∧(done,out)=Lt nm (n,g) (N.a.es.take i)∧out.length≤2*i:=hG
 refine Qt (ZP (Ii i) (ZP (Pp N.nb) (ZP (Pp N.nb) (ZP (Pt N.nb 6) (ZG h (Gr 6 N.ve 2 rfl (Cc hx 6 (by kernel_rfl))) (ZG h (Dh 107 (by kernel_rfl) 2 rfl (Bo hx)) (ZP (.bool (decide ((i:Int)<(N.a.es.length:Int)))) (Qn (Zd ((i:Int)<(N.a.es.length:Int)) (fun hc2=>?_) fun hc2=>?_)))))))))
 refine Kn (Aa (Av (Qt (ZP (.bool done) ?_))))
 obtain ⟨b3,hb3⟩:=nmB (!done)
 refine ZB hb3 (ZP (.bool b3) (ZM1 (v:=.string nm) b3 h (fun hB=>by subst hB;exact Gp (.string nm)) (ZM1 (v:=Pp N.nb) b3 h (fun hB=>by subst hB;exact Gp (Pp N.nb)) (ZM1 (v:=Pp N.nb) b3 h (fun hB=>by subst hB;exact Gp (Pp N.nb)) (ZM1 (v:=Pt N.nb 6) b3 h (fun hB=>by subst hB;exact Gp (Pt N.nb 6)) (ZM1 (v:=N.ve) b3 h (fun hB=>by subst hB;exact Gr 6 N.ve 2 rfl (Cc hx 6 (by kernel_rfl))) (ZM1 (v:=Ii i) b3 h (fun hB=>by subst hB;exact Gp (Ii i)) ?_)))))))
 have hi4:i<N.a.es.length:=by omega
 obtain ⟨x5,hx6⟩:∃ x,N.a.es[i]?=some x:=⟨_,List.getElem?_eq_getElem hi4⟩
 refine ZM1 (v:=Pt (Dg N.ve) (B0 N.ve+i*3)) b3 h (fun hB=>by subst hB;exact Dn (k:=3) 107 i rfl (by kernel_rfl) hi4 2 rfl (Bo hx)) (ZM1 (v:=Pt (Dg N.ve) (B0 N.ve+i*3)) b3 h (fun hB=>by subst hB;exact Gp (Pt (Dg N.ve) (B0 N.ve+i*3))) (ZM1 (v:=.string x5.1) b3 h (fun hB=>by subst hB;exact Gr (B0 N.ve+i*3) (.string x5.1) 2 rfl (K3 (Bo hx) D0 hx6 (by kernel_rfl))) ?_))
 obtain ⟨b7,hb7⟩:=nmB (Lx nm x5.1)
 refine ZM1 (v:=.bool b7) b3 h (fun hB=>by subst hB;exact by subst hb7;exact Az (v:=.bool (Lx nm x5.1)) fun _=>by kernel_rfl) ?_
 obtain ⟨b8,hb8⟩:=nmB (b3&&b7)
 refine ZBc b3 hb8 (Qn ?_)
 have hT:(!done&&Lx nm x5.1)=b8:=by subst hb8 hb7 hb3;rfl
 refine Zi (b8) (fun hc9=>?_) fun hc9=>?_
 have q10:=hb8.symm.trans hc9
 have q11:=aL q10
 have q12:=aR q10
 have q13:=hb3.symm.trans q11
 have q14:done=false:=by simpa using q13
 have q15:=hb7.symm.trans q12
 rw [hc9] at hT
 refine Qs (ZP vo (ZP (.string nm) (ZG h (Gla 0 [Ii n,Ii g] 1) (ZP (.agg #[.string nm,Ii n,Ii g]) ?_))))
 refine Gm rfl (fun b=>.slice (some ⟨b,0,none⟩) 1 1) [.string nm,Ii n,Ii g] 107 (fun _=>by kernel_rfl) h ?_;intro k16 w h
 refine Hc (b:=k16) (o:=0) rfl 1 (nm,n,g) (by kernel_rfl) h 1 rfl 0 rfl (Fb 0 (by kernel_rfl)) (by (try simp only [List.length_append,List.length_cons,List.length_nil,List.length_map]);omega) ?_;intro v17 w h
 refine ZP v17 (Qn (Ah (ZP (.bool true) (Qn (Ah (ZP v17 (ZP (Pp N.nb) (ZP (Pp N.nb) (ZP (Pt N.nb 6) (ZG h (Gr 6 N.ve 3 rfl (Cc hx 6 (by kernel_rfl))) (ZP (Ii i) (ZG h (Dn (k:=3) 107 i rfl (by kernel_rfl) hi4 3 rfl (Bo hx)) (ZG h (Gra (B0 N.ve+i*3) [.string x5.1,Ii x5.2.1,Ii x5.2.2] 3 rfl (K3 (Bo hx) D0 hx6 (by kernel_rfl))) ?_)))))))))))))
 refine Gm rfl (fun b=>.slice (some ⟨b,0,none⟩) 1 1) [.string x5.1,Ii x5.2.1,Ii x5.2.2] 107 (fun _=>by kernel_rfl) h ?_;intro k18 w h
 refine Hc (b:=k18) (o:=0) rfl 1 x5 (by kernel_rfl) h 2 rfl 0 rfl (Fb 0 (by kernel_rfl)) (by (try simp only [List.length_append,List.length_cons,List.length_nil,List.length_map]);omega) ?_;intro v19 w h
 refine ZP v19 (Cu ?_)
 refine Cb (Ai ?_)
 refine Ah (ZP (Ii i) (ZG h (A4 (v:=Ii (IntKind.i64.wrap ((i:Int)+1))) (v':=Ii ((i+1:Nat):Int)) (Az fun _=>by kernel_rfl) (wr (by omega))) (ZP (Ii ((i+1:Nat):Int)) (Cu ?_))))
 have hQ20:((i+1)≤N.a.es.length∧(true,(out++[(nm,n,g)]++[x5]))=Lt nm (n,g) (N.a.es.take (i+1))∧(out++[(nm,n,g)]++[x5]).length≤2*(i+1))∧(N.a.es.length - (i+1))<(N.a.es.length - i):=⟨⟨by omega,by rw [Rp hx6,← ho];unfold C6;rw [if_pos hT],by (try simp only [List.length_append,List.length_cons,List.length_nil]);omega⟩,by omega⟩
 refine Bn (fun j=>⟨(i+1),true,out++[(nm,n,g)]++[x5],v19,j⟩) hQ20 (by kernel_rfl) [2,2,2] (by kernel_rfl) h
 have q21:=hb8.symm.trans hc9
 rw [hc9] at hT
 refine Kn (Ah (ZP vo (ZP (Pp N.nb) (ZP (Pp N.nb) (ZP (Pt N.nb 6) (ZG h (Gr 6 N.ve 2 rfl (Cc hx 6 (by kernel_rfl))) (ZP (Ii i) (ZG h (Dn (k:=3) 107 i rfl (by kernel_rfl) hi4 2 rfl (Bo hx)) (ZG h (Gra (B0 N.ve+i*3) [.string x5.1,Ii x5.2.1,Ii x5.2.2] 2 rfl (K3 (Bo hx) D0 hx6 (by kernel_rfl))) ?_)))))))))
 refine Gm rfl (fun b=>.slice (some ⟨b,0,none⟩) 1 1) [.string x5.1,Ii x5.2.1,Ii x5.2.2] 107 (fun _=>by kernel_rfl) h ?_;intro k22 w h
 refine Hc (b:=k22) (o:=0) rfl 1 x5 (by kernel_rfl) h 1 rfl 0 rfl (Fb 0 (by kernel_rfl)) (by (try simp only [List.length_append,List.length_cons,List.length_nil,List.length_map]);omega) ?_;intro v23 w h
 refine ZP v23 (Cu ?_)
 refine Cb (Ai ?_)
 refine Ah (ZP (Ii i) (ZG h (A4 (v:=Ii (IntKind.i64.wrap ((i:Int)+1))) (v':=Ii ((i+1:Nat):Int)) (Az fun _=>by kernel_rfl) (wr (by omega))) (ZP (Ii ((i+1:Nat):Int)) (Cu ?_))))
 have hQ24:((i+1)≤N.a.es.length∧(done,(out++[x5]))=Lt nm (n,g) (N.a.es.take (i+1))∧(out++[x5]).length≤2*(i+1))∧(N.a.es.length - (i+1))<(N.a.es.length - i):=⟨⟨by omega,by rw [Rp hx6,← ho];unfold C6;rw [if_neg (by rw [hT];exact Bool.false_ne_true)],by (try simp only [List.length_append,List.length_cons,List.length_nil]);omega⟩,by omega⟩
 refine Bn (fun j=>⟨(i+1),done,out++[x5],v23,j⟩) hQ24 (by kernel_rfl) [1,1,1] (by kernel_rfl) h
 refine C9 (D3 (Ek (Ea (Ai (Qt (ZP (.bool done) (ZP (.bool (!done)) (Qn (Zi (!done) (fun hc25=>?_) fun hc25=>?_)))))))))
 have q26:done=false:=by simpa using hc25
 refine Ah (ZP vo (ZP (.string nm) (ZG h (Gla 0 [Ii n,Ii g] 1) (ZP (.agg #[.string nm,Ii n,Ii g]) ?_))))
 refine Gm rfl (fun b=>.slice (some ⟨b,0,none⟩) 1 1) [.string nm,Ii n,Ii g] 107 (fun _=>by kernel_rfl) h ?_;intro k27 w h
 refine Hc (b:=k27) (o:=0) rfl 1 (nm,n,g) (by kernel_rfl) h 1 rfl 0 rfl (Fb 0 (by kernel_rfl)) (by (try simp only [List.length_append,List.length_cons,List.length_nil,List.length_map]);omega) ?_;intro v28 w h
 refine ZP v28 (Qn (Ah (ZP (Pp N.nb) (ZP v28 (ZP (Pp N.nb) (ZP (Pt N.nb 6) ?_))))))
 have h:=(h.pkr [3]).rtOpen hx
 refine Jh rfl (h.slv 6 rfl) 6 [Ii N.a.h.1,Ii N.a.h.2,Ii N.a.kind,Ii N.a.change,.string N.a.s,N.vh,v28,Ii N.a.pins] h 0 rfl (by kernel_rfl) ?_;intro w h
 refine Cu ?_
 have h:=Own.rtClose hx (Rx N v28 (out++[(nm,n,g)])) rfl (h.pkr [0,0,4,1,1])
 refine ZR [] [0] h ?_
 rw [List.take_of_length_le (by omega)] at ho
 have hE:Bi nm (n,g) N.a.es=out++[(nm,n,g)]:=by unfold Bi;rw [← ho];exact if_neg (by simp_all)
 exact ⟨v28,by rw [hE];rfl⟩
 have q29:done=true:=by simpa using hc25
 refine Kn (Ah (ZP (Pp N.nb) (ZP vo (ZP (Pp N.nb) (ZP (Pt N.nb 6) ?_)))))
 have h:=(h.pkr [2]).rtOpen hx
 refine Jh rfl (h.slv 5 rfl) 6 [Ii N.a.h.1,Ii N.a.h.2,Ii N.a.kind,Ii N.a.change,.string N.a.s,N.vh,vo,Ii N.a.pins] h 0 rfl (by kernel_rfl) ?_;intro w h
 refine Cu ?_
 have h:=Own.rtClose hx (Rx N vo out) rfl (h.pkr [0,0,3,1,1])
 refine ZR [] [0] h ?_
 rw [List.take_of_length_le (by omega)] at ho
 have hE:Bi nm (n,g) N.a.es=out:=by unfold Bi;rw [← ho];exact if_pos (by simp_all)
 exact ⟨vo,by rw [hE];rfl⟩
theorem Fy (vl:Value) (L:List RN) (j:Nat) (N:RN) (hx:L[j]?=some N) (k:Nat) (hl:N.a.es.length≤1000) (hk:k<N.a.es.length)  : Au Tryz.prog 70 #[Pp N.nb,Ii k] [rRL vl L] (fun u L'=>∃ v',L'=[rRL vl (L.set j (⟨N.nb,N.vh,v',⟨N.a.h,N.a.kind,N.a.change,N.a.s,N.a.holes,N.a.es.eraseIdx k,N.a.pins⟩⟩:RN))]):=by
 refine Zo 23 Tryz.func70 fun E w0 w h=>?_
 refine Qs (ZP (.slice none 0 0) (Qm (ZP (.slice none 0 0) (ZP (Pp N.nb) (ZP (Pp N.nb) (ZP (Pt N.nb 6) (ZG h (Gr 6 N.ve 0 rfl (Cc hx 6 (by kernel_rfl))) (ZP (Ii k) (ZG h (Wx (v:=N.ve) (d:=107) (k:=3) (LV:=none) (HV:=(some (Ii k))) 0 k (by kernel_rfl) rfl (bnd rfl) (by first|omega|(simp;omega)) (by first|omega|(simp;omega)) 0 rfl (Bo hx)) ?_)))))))))
 have h:=h.nilRows 107 3 e3C
 refine Yq rfl 0 k (by kernel_rfl) D0 (fun _=>rfl) (by omega) (by omega) h 0 rfl 1 rfl (Bo hx) (by (try simp only [List.length_append,List.length_cons,List.length_nil,List.length_take,List.length_drop]);omega) ?_;intro v1 w h
 refine ZP v1 (Qn (Ah (ZP (Pp N.nb) (ZP v1 (ZP (Pp N.nb) (ZP (Pp N.nb) (ZP (Pt N.nb 6) (ZG h (Gr 6 N.ve 1 rfl (Cc hx 6 (by kernel_rfl))) (ZP (Ii k) (ZG h (A4 (v:=Ii (IntKind.i64.wrap ((k:Int)+1))) (v':=Ii ((k+1:Nat):Int)) (Az fun _=>by kernel_rfl) (wr (by omega))) (ZG h (Wx (v:=N.ve) (d:=107) (k:=3) (LV:=(some (Ii ((k+1:Nat):Int)))) (HV:=none) (k+1) N.a.es.length (by kernel_rfl) (bnd rfl) rfl (by first|omega|(simp;omega)) (by first|omega|(simp;omega)) 1 rfl (Bo hx)) ?_)))))))))))
 refine Yq rfl (k+1) N.a.es.length (by kernel_rfl) D0 (fun _=>rfl) (by omega) (by omega) h 0 rfl 1 rfl (Bo hx) (by (try simp only [List.length_append,List.length_cons,List.length_nil,List.length_take,List.length_drop]);omega) ?_;intro v2 w h
 refine ZP (Pp N.nb) (ZP (Pt N.nb 6) ?_)
 have h:=(h.pkr [1]).rtOpen hx
 refine Jh rfl (h.slv 5 rfl) 6 [Ii N.a.h.1,Ii N.a.h.2,Ii N.a.kind,Ii N.a.change,.string N.a.s,N.vh,v2,Ii N.a.pins] h 0 rfl (by kernel_rfl) ?_;intro w h
 refine Cu ?_
 have h:=Own.rtClose hx (Rx N v2 ([]++(N.a.es.take k).drop 0++(N.a.es.take N.a.es.length).drop (k+1))) rfl (h.pkr [0,0,3,1,1])
 refine ZR [] [0] h ?_
 have hE:N.a.es.eraseIdx k=[]++(N.a.es.take k).drop 0++(N.a.es.take N.a.es.length).drop (k+1):=by rw [List.eraseIdx_eq_take_drop_succ];simp
 exact ⟨v2,by rw [hE];rfl⟩
structure Dm (A:List AN) (c:Int):Prop where
  len:A.length≤300
  nod:(A.map (·.h)).Nodup
  ent:∀ M∈A,∀ e∈M.es,∃ K∈A,K.h=e.2
  few:∀ M∈A,M.es.length≤60
  nms:∀ M∈A,(M.es.map (·.1)).Nodup
  rng:∀ M∈A,0≤M.change∧M.change≤c∧0≤M.pins∧M.pins≤c
theorem Dm.mono {A:List AN} {c d:Int} (h:Dm A c) (hc:c≤d):Dm A d:=⟨h.len,h.nod,h.ent,h.few,h.nms,fun M hM=>by have:=h.rng M hM;omega⟩
theorem Dm.hl {L:List RN} {c:Int} (h:Dm (L.map RN.a) c):L.length≤300:=by have:=h.len;simpa using this
theorem Dm.hnod {L:List RN} {c:Int} (h:Dm (L.map RN.a) c):(L.map fun N=>N.a.h).Nodup:=by
  have:=h.nod
  rw [List.map_map] at this
  exact this
theorem Dm.hent {L:List RN} {c:Int} (h:Dm (L.map RN.a) c):∀ M∈L,∀ e∈M.a.es,∃ K∈L,K.a.h=e.2:=fun M hM e he=>by
  obtain ⟨K,hK,e2⟩:=h.ent M.a (List.mem_map.2 ⟨M,hM,rfl⟩) e he
  obtain ⟨K',hK',rfl⟩:=List.mem_map.1 hK
  exact ⟨K',hK',e2⟩
theorem Dm.hfew {L:List RN} {c:Int} (h:Dm (L.map RN.a) c):∀ M∈L,M.a.es.length≤100:=fun M hM=>by have:=h.few M.a (List.mem_map.2 ⟨M,hM,rfl⟩);omega
theorem Dm.at_few {L:List RN} {c:Int} (h:Dm (L.map RN.a) c) {j:Nat} {N:RN} (hx:L[j]?=some N):N.a.es.length≤60:=h.few N.a (List.mem_map.2 ⟨N,List.mem_of_getElem? hx,rfl⟩)
theorem Dm.at_nms {L:List RN} {c:Int} (h:Dm (L.map RN.a) c) {j:Nat} {N:RN} (hx:L[j]?=some N):(N.a.es.map (·.1)).Nodup:=h.nms N.a (List.mem_map.2 ⟨N,List.mem_of_getElem? hx,rfl⟩)
theorem Dm.at_rng {L:List RN} {c:Int} (h:Dm (L.map RN.a) c) {j:Nat} {N:RN} (hx:L[j]?=some N):0≤N.a.change∧N.a.change≤c∧0≤N.a.pins∧N.a.pins≤c:=h.rng N.a (List.mem_map.2 ⟨N,List.mem_of_getElem? hx,rfl⟩)
def Eg (es:List Bj) (nm:ByteArray):Option Hdl:=(es.find? fun e=>decide (e.1=nm)).map (·.2)
theorem Gb {es:List Bj} {nm:ByteArray} (h:∀ e∈es,e.1≠nm):Eg es nm=none:=by
  unfold Eg
  have:es.find? (fun e=>decide (e.1=nm))=none:=by
    rw [List.find?_eq_none]
    intro e he
    simp [h e he]
  rw [this];rfl
theorem Vo {es:List Bj} (hn:(es.map (·.1)).Nodup) {i j:Nat} {e f:Bj} (hi:es[i]?=some e) (hj:es[j]?=some f) (h:e.1=f.1):i=j:=by
  have hp:=List.pairwise_iff_getElem.1 hn
  obtain ⟨hi1,hi2⟩:=List.getElem?_eq_some_iff.1 hi
  obtain ⟨hj1,hj2⟩:=List.getElem?_eq_some_iff.1 hj
  rcases Nat.lt_trichotomy i j with hl|hl|hl
  · exact (hp i j (by simpa using hi1) (by simpa using hj1) hl (by simp only [List.getElem_map,hi2,hj2,h])).elim
  · exact hl
  · exact (hp j i (by simpa using hj1) (by simpa using hi1) hl (by simp only [List.getElem_map,hi2,hj2,h])).elim
theorem Bu {es:List Bj} (hn:(es.map (·.1)).Nodup) {i:Nat} {e:Bj} (he:es[i]?=some e) {nm:ByteArray} (h:e.1=nm):Eg es nm=some e.2:=by
  unfold Eg
  have:es.find? (fun e=>decide (e.1=nm))=some e:=by
    rw [List.find?_eq_some_iff_getElem]
    obtain ⟨hj,q⟩:=List.getElem?_eq_some_iff.1 he
    refine ⟨by simp [h],i,hj,q,fun k hk=>?_⟩
    simp only [Bool.not_eq_true',decide_eq_false_iff_not]
    intro e2
    have:=Vo hn (List.getElem?_eq_getElem (by omega:k<es.length)) he (e2.trans h.symm)
    omega
  rw [this];rfl
theorem Py {es:List Bj} (hn:(es.map (·.1)).Nodup) {i:Nat} {e:Bj} (he:es[i]?=some e) {nm:ByteArray} (h:e.1=nm):es.eraseIdx i=es.filter fun x=>!decide (x.1=nm):=by
  obtain ⟨hi,q⟩:=List.getElem?_eq_some_iff.1 he
  have e1:es=es.take i++es[i]::es.drop (i+1):=by rw [List.getElem_cons_drop,List.take_append_drop]
  rw [List.eraseIdx_eq_take_drop_succ]
  conv=>rhs;rw [e1]
  rw [List.filter_append,List.filter_cons,if_neg (by rw [q];simp [h])]
  have h1:(es.take i).filter (fun x=>!decide (x.1=nm))=es.take i:=by
    rw [List.filter_eq_self]
    intro x hx
    obtain ⟨j,hj⟩:=List.getElem?_of_mem hx
    rw [List.getElem?_take] at hj
    split at hj
    · rename_i hji
      simp only [Bool.not_eq_true',decide_eq_false_iff_not]
      intro e2
      have:=Vo hn hj he (e2.trans h.symm)
      omega
    · cases hj
  have h2:(es.drop (i+1)).filter (fun x=>!decide (x.1=nm))=es.drop (i+1):=by
    rw [List.filter_eq_self]
    intro x hx
    obtain ⟨j,hj⟩:=List.getElem?_of_mem hx
    rw [List.getElem?_drop] at hj
    simp only [Bool.not_eq_true',decide_eq_false_iff_not]
    intro e2
    have:=Vo hn hj he (e2.trans h.symm)
    omega
  rw [h1,h2]
def Cx (A:List AN) (h:Hdl) (f:AN→AN):List AN:=A.map fun N=>if N.h==h then f N else N
def Ap (A:List AN) (h:Hdl):List AN:=Cx A h fun N=>⟨N.h,N.kind,N.change+1,N.s,N.holes,N.es,N.pins⟩
def Ax (A:List AN) (h:Hdl) (nm:ByteArray) (x:Hdl):List AN:=Cx A h fun N=>⟨N.h,N.kind,N.change,N.s,N.holes,Bi nm x N.es,N.pins⟩
def Al (A:List AN) (h:Hdl) (nm:ByteArray):List AN:=Cx A h fun N=>⟨N.h,N.kind,N.change,N.s,N.holes,N.es.filter fun x=>!decide (x.1=nm),N.pins⟩
def G4 (A:List AN) (h:Hdl) (d:Int):List AN:=Cx A h fun N=>⟨N.h,N.kind,N.change,N.s,N.holes,N.es,N.pins+d⟩
def Ej (A:List AN) (N:AN):Bool:=decide (N.kind=2)||(decide (N.pins>0)||decide (Dv A N>0))
def Gj (A:List AN):List AN:=A.filter (Ej A)
def Ex (A:List AN) (h:Hdl):List AN:=A.filter fun N=>!(N.h==h)
def C5 (A:List AN) (h:Hdl):List AN:=match Bs A h with|some N=>if N.kind=2 then Ex A h else Gj (Ap A h)|none=>A
theorem C7 {L:List RN} (hn:(L.map fun N=>N.a.h).Nodup) {j:Nat} {N:RN} (hx:L[j]?=some N) {h:Hdl} (hh:N.a.h=h) {N':RN} {f:AN→AN} (hf:N'.a=f N.a):(L.set j N').map RN.a=Cx (L.map RN.a) h f:=by
  unfold Cx
  apply List.ext_getElem?
  intro i
  rw [List.map_set,List.getElem?_map,List.getElem?_set]
  by_cases e:j=i
  · subst e
    rw [if_pos rfl,List.getElem?_map,hx]
    have hl:=(List.getElem?_eq_some_iff.1 hx).1
    simp [hl,hh,hf]
  · rw [if_neg e,List.getElem?_map]
    cases hi:L[i]? with
    | none=>rfl
    | some M=>
      simp only [Option.map_some]
      have:M.a.h≠h:=fun e2=>e (O2 hn hx hi (hh.trans e2.symm))
      simp [this]
def Ab (A:List AN) (h:Hdl) (nm:ByteArray):Hdl×Nat:=
  match Bs A h with
  | none=>((0,0),10)
  | some N=>if N.kind=2 then (if Hy nm=0 then (match Eg N.es nm with|some x=>(x,0)|none=>((0,0),5)) else ((0,0),4)) else ((0,0),7)
section
variable {A:List AN} {h:Hdl} {nm:ByteArray} {N:AN}
theorem Afr (h1:Bs A h=none):Ab A h nm=((0,0),10):=by unfold Ab;rw [h1]
theorem Aex (h1:Bs A h=some N) (h2:¬N.kind=2):Ab A h nm=((0,0),7):=by unfold Ab;rw [h1];exact if_neg h2
theorem Afe (h1:Bs A h=some N) (h2:N.kind=2) (h3:¬A0 nm):Ab A h nm=((0,0),4):=by unfold Ab;rw [h1];simp only [if_pos h2];rw [C3 h3];rfl
theorem tL_no (h1:Bs A h=some N) (h2:N.kind=2) (h3:A0 nm) (h4:Eg N.es nm=none):Ab A h nm=((0,0),5):=by unfold Ab;rw [h1];simp only [if_pos h2];rw [Bf h3,h4];rfl
theorem Afb (h1:Bs A h=some N) (h2:N.kind=2) (h3:A0 nm) {x:Hdl} (h4:Eg N.es nm=some x):Ab A h nm=(x,0):=by unfold Ab;rw [h1];simp only [if_pos h2];rw [Bf h3,h4];rfl
end
theorem Tl {L:List RN} {p:RN→Bool}:(L.filter p).Sublist L:=List.filter_sublist
theorem Hk {L:List RN} {k:Nat} {x:RN} {p:RN→Bool} (hx:L[k]?=some x):(L.take (k+1)).filter p=(L.take k).filter p++if p x then [x] else []:=by
  rw [List.take_add_one,hx,List.filter_append]
  cases h:p x<;>simp [h]
theorem Own.rlFilter {w0 w:World} {E:Ent} {M:List Res} {L L':List RN} {vl vo:Value} (h:Own w0 E (A8 true vo 88 1 ptB (L'.map RN.nb)::rRL vl L::M) w) (hs:L'.Sublist L):Own w0 E (rRL vo L'::M) w:=by
  have h1:Own w0 E (rRL vl L::A8 true vo 88 1 ptB (L'.map RN.nb)::M) w:=h.perm (List.Perm.swap _ _ _)
  have h2:=h1.rlOpen.pick1
  have h3:=h2.rnSub hs
  exact Own.rlClose (h3.perm (List.Perm.swap _ _ _))
theorem Pu {L:List RN} {p:AN→Bool}:(L.filter fun N=>p N.a).map RN.a=(L.map RN.a).filter p:=by rw [List.filter_map];rfl
theorem Vq {x:Hdl} {n g:Int}:(x==(n,g))=(decide (x.1=n)&&decide (x.2=g)):=by
  obtain ⟨x1,x2⟩:=x
  by_cases c1:x1=n<;>by_cases c2:x2=g<;>simp [c1,c2]
theorem Dm.setN {L:List RN} {c:Int} (hok:Dm (L.map RN.a) c) {j:Nat} {N N':RN} (hx:L[j]?=some N) (h1:N'.a.h=N.a.h) (h2:∀ e∈N'.a.es,∃ K∈L.map RN.a,K.h=e.2) (h3:N'.a.es.length≤60) (h4:(N'.a.es.map (·.1)).Nodup) (h5:0≤N'.a.change∧N'.a.change≤c∧0≤N'.a.pins∧N'.a.pins≤c):Dm ((L.set j N').map RN.a) c:=by
  have hj:=(List.getElem?_eq_some_iff.1 hx).1
  have hmem:∀ M∈(L.set j N').map RN.a,M=N'.a∨M∈L.map RN.a:=fun M hM=>by
    obtain ⟨K,hK,rfl⟩:=List.mem_map.1 hM
    rcases List.mem_or_eq_of_mem_set hK with hK|rfl
    · exact .inr (List.mem_map.2 ⟨K,hK,rfl⟩)
    · exact .inl rfl
  have hhs:((L.set j N').map RN.a).map (·.h)=(L.map RN.a).map (·.h):=by
    rw [List.map_map,List.map_map,List.map_set]
    refine H9 _ _ _ ?_
    rw [List.getElem?_map,hx]
    simp [h1]
  have hex:∀ x:Hdl,(∃ K∈L.map RN.a,K.h=x)→∃ K∈(L.set j N').map RN.a,K.h=x:=fun x ⟨K,hK,e⟩=>by
    have:x∈((L.set j N').map RN.a).map (·.h):=by rw [hhs,← e];exact List.mem_map.2 ⟨K,hK,rfl⟩
    obtain ⟨K',hK',e'⟩:=List.mem_map.1 this
    exact ⟨K',hK',e'⟩
  refine ⟨by have:=hok.len;simpa using this,by rw [hhs];exact hok.nod,fun M hM e he=>?_,fun M hM=>?_,fun M hM=>?_,fun M hM=>?_⟩
  · rcases hmem M hM with rfl|hM
    · exact hex _ (h2 e he)
    · exact hex _ (hok.ent M hM e he)
  · rcases hmem M hM with rfl|hM
    · exact h3
    · exact hok.few M hM
  · rcases hmem M hM with rfl|hM
    · exact h4
    · exact hok.nms M hM
  · rcases hmem M hM with rfl|hM
    · exact h5
    · exact hok.rng M hM
theorem Dm.setC {L:List RN} {c:Int} (hok:Dm (L.map RN.a) c) {j:Nat} {N N':RN} (hx:L[j]?=some N) (h1:N'.a.h=N.a.h) (h2:N'.a.es=N.a.es) (h5:0≤N'.a.change∧N'.a.change≤c∧0≤N'.a.pins∧N'.a.pins≤c):Dm ((L.set j N').map RN.a) c:=by
  have hm:N.a∈L.map RN.a:=List.mem_map.2 ⟨N,List.mem_of_getElem? hx,rfl⟩
  exact hok.setN hx h1 (by rw [h2];exact hok.ent N.a hm) (by rw [h2];exact hok.few N.a hm) (by rw [h2];exact hok.nms N.a hm) h5
section
variable (b:Nat) (mst:Int) (vl vt:Value) (L:List RN) (c:Int) (hc:c≤999999) (hok:Dm (L.map RN.a) c)
include b mst vl vt L c hc hok
theorem H0 (n g:Int) (nm:ByteArray) (hnz:nm.size≤100000):Au Tryz.prog 22 #[Pp b,Hg n g,.string nm] [Rt b mst vl vt,rRL vl L] (fun u L'=>u=.tuple #[.agg #[Ii (Ab (L.map RN.a) (n,g) nm).1.1,Ii (Ab (L.map RN.a) (n,g) nm).1.2],Ii ((Ab (L.map RN.a) (n,g) nm).2:Nat)]∧L'=[Rt b mst vl vt,rRL vl L]):=by
 have hl:=hok.hl
 have hnod:=hok.hnod
 have hent:=hok.hent
 have hfew:=hok.hfew
 refine Zo 36 Tryz.func22 fun E w0 w h=>?_
 refine Qs (ZN [Ii n,Ii g] 34 h fun k1 w h=>ZN [Ii 0,Ii 0] 34 h fun k2 w h=>ZP (Ii 0) (Qm (ZP (Pp b) (ZG h (Gla 0 [Ii n,Ii g] 1) ?_))))
 refine ZD [2,2] (Fz b mst vl vt L n g (by omega)) h ?_;rintro v_ L_ w (⟨hno8,rfl,rfl⟩|⟨j3,N4,hx5,hh6,hkd7,rfl,rfl⟩|⟨j3,N4,hx5,hh6,hkd7,rfl,rfl⟩) h
 refine ZP (Ii 10) (Qu (ZP (Ii 10) (ZP (.bool false) (Ft (ZP (Ii 10) (ZP (.bool true) (Qg (Qs (ZP (Hg 0 0) (ZP (Ii 10) (ZSs [Ii 0,Ii 0] 2 rfl h fun w h=>ZP (Ii 10) (Qr (Ar ?_)))))))))))))
 refine B5 [Hg 0 0,Ii 10] [0,0] h (by kernel_rfl) (Du 0 [Ii 0,Ii 0] (Hg 0 0) 2 rfl (by kernel_rfl) (Ei (by kernel_rfl) Dr)) ?_
 rw [Afr (Fa hno8)]
 exact ⟨rfl,rfl⟩
 refine ZP (Ii 7) (Qu (ZP (Ii 7) (ZP (.bool false) (Ft (ZP (Ii 7) (ZP (.bool true) (Qg (Qs (ZP (Hg 0 0) (ZP (Ii 7) (ZSs [Ii 0,Ii 0] 2 rfl h fun w h=>ZP (Ii 7) (Qr (Ar ?_)))))))))))))
 refine B5 [Hg 0 0,Ii 7] [0,0] h (by kernel_rfl) (Du 0 [Ii 0,Ii 0] (Hg 0 0) 2 rfl (by kernel_rfl) (Ei (by kernel_rfl) Dr)) ?_
 rw [Aex (Aj hnod hx5 hh6) hkd7]
 exact ⟨rfl,rfl⟩
 refine ZP (Ii 0) (Qu (ZP (Ii 0) (ZP (.bool true) (Qg (Ah (ZP (.string nm) ?_))))))
 refine ZD [] (Et nm (by omega)) h ?_;rintro v_ L_ w (⟨hnm9,rfl,rfl⟩|⟨hnm9,rfl,rfl⟩) h
 refine ZP (Ii 0) (Qu (ZP (Ii 0) (ZP (.bool false) (Fs (ZP (Pp b) (ZG h (Gla 0 [Ii n,Ii g] 3) (ZC [0,0] (Cr b mst vl vt L (by omega) hnod j3 N4 hx5 n g hh6) h fun w h=>ZP (Pp N4.nb) (Qm (ZP (Pp N4.nb) (ZP (.string nm) ?_))))))))))
 refine ZD [1] (Ev vl L j3 N4 hx5 nm (by have:=hok.at_few hx5;omega)) h ?_;rintro v_ L_ w (⟨iq10,eq11,he12,hen13,rfl,rfl⟩|⟨hno14,rfl,rfl⟩) h
 have hfliq10:=(List.getElem?_eq_some_iff.1 he12).1
 refine ZP (Ii iq10) (Qu (ZP (Ii iq10) (ZP (.bool (decide ((iq10:Int)<0))) (Qn (Zd ((iq10:Int)<0) (fun hc15=>?_) fun hc15=>?_)))))
 exfalso;omega
 refine Ks (ZP (Pp N4.nb) (ZP (Pp N4.nb) (ZP (Pt N4.nb 6) (ZG h (Gr 6 N4.ve 0 rfl (Cc hx5 6 (by kernel_rfl))) (ZP (Ii iq10) (ZG h (Dn (k:=3) 107 iq10 rfl (by kernel_rfl) (List.getElem?_eq_some_iff.1 he12).1 0 rfl (Bo hx5)) (ZP (Pt (Dg N4.ve) (B0 N4.ve+iq10*3+1)) (ZG h (Gra (B0 N4.ve+iq10*3+1) [Ii eq11.2.1,Ii eq11.2.2] 0 rfl (rdS (Bo hx5) D0 he12 1 (by kernel_rfl))) (ZSs [Ii eq11.2.1,Ii eq11.2.2] 2 rfl h fun w h=>ZP (Ii 0) (Qr ?_))))))))))
 refine B5 [Hg eq11.2.1 eq11.2.2,Ii 0] [1,0] h (by kernel_rfl) (Du 0 [Ii eq11.2.1,Ii eq11.2.2] (Hg eq11.2.1 eq11.2.2) 2 rfl (by kernel_rfl) (Ei (by kernel_rfl) Dr)) ?_
 rw [Afb (Aj hnod hx5 hh6) hkd7 hnm9 (Bu (hok.at_nms hx5) he12 hen13)]
 exact ⟨rfl,rfl⟩
 refine ZP (Ii (-1)) (Qu (ZP (Ii (-1)) (ZP (.bool true) (Qg (Qs (ZP (Hg 0 0) (ZSs [Ii 0,Ii 0] 2 rfl h fun w h=>ZP (Ii 5) (Qr (Ar ?_)))))))))
 refine B5 [Hg 0 0,Ii 5] [1,0] h (by kernel_rfl) (Du 0 [Ii 0,Ii 0] (Hg 0 0) 2 rfl (by kernel_rfl) (Ei (by kernel_rfl) Dr)) ?_
 rw [tL_no (Aj hnod hx5 hh6) hkd7 hnm9 (Gb hno14)]
 exact ⟨rfl,rfl⟩
 refine ZP (Ii 4) (Qu (ZP (Ii 4) (ZP (.bool true) (Qg (Qs (ZP (Hg 0 0) (ZP (Ii 4) (ZSs [Ii 0,Ii 0] 2 rfl h fun w h=>ZP (Ii 4) (Qr (Ar ?_))))))))))
 refine B5 [Hg 0 0,Ii 4] [0,0] h (by kernel_rfl) (Du 0 [Ii 0,Ii 0] (Hg 0 0) 2 rfl (by kernel_rfl) (Ei (by kernel_rfl) Dr)) ?_
 rw [Afe (Aj hnod hx5 hh6) hkd7 hnm9]
 exact ⟨rfl,rfl⟩
theorem Nk:Au Tryz.prog 80 #[Pp b] [Rt b mst vl vt,rRL vl L] (fun u L'=>∃ v',L'=[Rt b mst v' vt,rRL v' (L.filter (fun N=>Ej (L.map RN.a) N.a))]):=by
 have hl:=hok.hl
 have hnod:=hok.hnod
 have hent:=hok.hent
 have hfew:=hok.hfew
 refine Zo 46 Tryz.func80 fun E w0 w h=>?_
 refine Qs (ZP (.slice none 0 0) (Qu (ZP (Ii 0) (Qn (Av ?_)))))
 have h:=h.nilRows 88 1 ptB
 refine ZL (X:=Nat×List Nat×Value×(Nat→Value)) [(4,42)] (fun ⟨i,ob,vo,J0⟩=>[(2,vo),(3,Ii i)]) (fun ⟨i,ob,vo,J0⟩=>J0) (fun ⟨i,ob,vo,J0⟩=>[A8 true vo 88 1 ptB ob,Rt b mst vl vt,rRL vl L]) (fun ⟨i,ob,vo,J0⟩=>i≤L.length∧ob=((L.take i).filter (fun N=>Ej (L.map RN.a) N.a)).map RN.nb) (fun ⟨i,ob,vo,J0⟩=>L.length - i) (fun j=>⟨0,[],(.slice none 0 0),j⟩) ⟨by omega,rfl⟩ [0,0,0] h ?_
 rintro ⟨i,ob,vo,J0⟩ w hG h
 obtain ⟨hi0,ho⟩:i≤L.length∧ob=((L.take i).filter (fun N=>Ej (L.map RN.a) N.a)).map RN.nb:=hG
 have hol:ob.length≤1000:=by rw [ho,List.length_map];have:=List.length_filter_le (fun N=>Ej (L.map RN.a) N.a) (L.take i);rw [List.length_take] at this;omega
 refine Qt (ZP (Ii i) (ZP (Pp b) (ZP (Pp b) (ZP (Pt b 1) (ZG h (Gl 1 (vl) 1) (ZG h (Dh 88 (by kernel_rfl) 2 rfl Df) (ZP (.bool (decide ((i:Int)<(L.length:Int)))) (Qn (Zd ((i:Int)<(L.length:Int)) (fun hc1=>?_) fun hc1=>?_)))))))))
 refine Kn (Aa (Av (Qs (ZP (Pp b) (ZP (Pp b) (ZP (Pt b 1) (ZG h (Gl 1 (vl) 1) (ZP (Ii i) ?_))))))))
 have hi2:i<L.length:=by omega
 obtain ⟨x3,hx4⟩:∃ x,L[i]?=some x:=⟨_,List.getElem?_eq_getElem hi2⟩
 refine ZG h (Dn (k:=1) 88 i rfl (by kernel_rfl) hi2 2 rfl Df) (ZG h (Gr (B0 vl+i*1) (Pp x3.nb) 2 rfl (K3 Df Gy hx4 (by kernel_rfl))) (ZP (Pp x3.nb) (Qm (ZP (Pp x3.nb) (ZP (Pp x3.nb) (ZP (Pt x3.nb 2) (ZG h (Gr 2 (Ii x3.a.kind) 2 rfl (Cc hx4 2 (by kernel_rfl))) ?_)))))))
 obtain ⟨b5,hb5⟩:=nmB (decide (x3.a.kind=2))
 refine ZB hb5 (ZP (.bool b5) ?_)
 rcases Bool.eq_false_or_eq_true b5 with hc6|hc6
 subst hc6
 have q7:=hb5.symm
 have q7:=dcT q7
 refine Zx (Zx (Zx (Zx (Zx (ZP (.bool true) (ZP (.bool true) (Zx (Zx (Zx (Zx (ZP (.bool true) (Qg (Ah (ZP vo (ZP (Pp x3.nb) ?_)))))))))))))))
 refine Gm rfl (fun b=>.slice (some ⟨b,0,none⟩) 1 1) [Pp x3.nb] 88 (fun _=>by kernel_rfl) h ?_;intro k8 w h
 refine Hc (b:=k8) (o:=0) rfl 1 x3.nb (by kernel_rfl) h 1 rfl 0 rfl (Fb 0 (by kernel_rfl)) (by (try simp only [List.length_append,List.length_cons,List.length_nil,List.length_map]);omega) ?_;intro v9 w h
 refine ZP v9 (Cu ?_)
 refine Cb (Ai ?_)
 refine Ah (ZP (Ii i) (ZG h (A4 (v:=Ii (IntKind.i64.wrap ((i:Int)+1))) (v':=Ii ((i+1:Nat):Int)) (Az fun _=>by kernel_rfl) (wr (by omega))) (ZP (Ii ((i+1:Nat):Int)) (Cu ?_))))
 have hT:Ej (L.map RN.a) x3.a=true:=by unfold Ej;by_cases c1:x3.a.kind=2<;>by_cases c2:x3.a.pins>0<;>by_cases c3:Dv (L.map RN.a) x3.a>0<;>simp [c1,c2,c3]<;>omega
 have hQ10:((i+1)≤L.length∧(ob++[x3.nb])=((L.take (i+1)).filter (fun N=>Ej (L.map RN.a) N.a)).map RN.nb)∧(L.length - (i+1))<(L.length - i):=⟨⟨by omega,by rw [Hk hx4,hT,ho];simp⟩,by omega⟩
 refine Bn (fun j=>⟨(i+1),ob++[x3.nb],v9,j⟩) hQ10 (by kernel_rfl) [1,1,1] (by kernel_rfl) h
 subst hc6
 have q11:=hb5.symm
 have q11:=dcF q11
 refine ZP (Pp x3.nb) (ZP (Pp x3.nb) (ZP (Pt x3.nb 7) (ZG h (Gr 7 (Ii x3.a.pins) 2 rfl (Cc hx4 7 (by kernel_rfl))) ?_)))
 obtain ⟨b12,hb12⟩:=nmB (decide (x3.a.pins>0))
 refine ZB hb12 (ZP (.bool b12) (ZP (.bool b12) ?_))
 rcases Bool.eq_false_or_eq_true b12 with hc13|hc13
 subst hc13
 have q14:=hb12.symm
 have q14:=dcT q14
 refine Zx (Zx (Zx (Zx (ZP (.bool true) (Qg (Ah (ZP vo (ZP (Pp x3.nb) ?_))))))))
 refine Gm rfl (fun b=>.slice (some ⟨b,0,none⟩) 1 1) [Pp x3.nb] 88 (fun _=>by kernel_rfl) h ?_;intro k15 w h
 refine Hc (b:=k15) (o:=0) rfl 1 x3.nb (by kernel_rfl) h 1 rfl 0 rfl (Fb 0 (by kernel_rfl)) (by (try simp only [List.length_append,List.length_cons,List.length_nil,List.length_map]);omega) ?_;intro v16 w h
 refine ZP v16 (Cu ?_)
 refine Cb (Ai ?_)
 refine Ah (ZP (Ii i) (ZG h (A4 (v:=Ii (IntKind.i64.wrap ((i:Int)+1))) (v':=Ii ((i+1:Nat):Int)) (Az fun _=>by kernel_rfl) (wr (by omega))) (ZP (Ii ((i+1:Nat):Int)) (Cu ?_))))
 have hT:Ej (L.map RN.a) x3.a=true:=by unfold Ej;by_cases c1:x3.a.kind=2<;>by_cases c2:x3.a.pins>0<;>by_cases c3:Dv (L.map RN.a) x3.a>0<;>simp [c1,c2,c3]<;>omega
 have hQ17:((i+1)≤L.length∧(ob++[x3.nb])=((L.take (i+1)).filter (fun N=>Ej (L.map RN.a) N.a)).map RN.nb)∧(L.length - (i+1))<(L.length - i):=⟨⟨by omega,by rw [Hk hx4,hT,ho];simp⟩,by omega⟩
 refine Bn (fun j=>⟨(i+1),ob++[x3.nb],v16,j⟩) hQ17 (by kernel_rfl) [1,1,1] (by kernel_rfl) h
 subst hc13
 have q18:=hb12.symm
 have q18:=dcF q18
 refine ZP (Pp b) (ZP (Pp x3.nb) (ZC [1,1] (Nt b mst vl vt L (by omega) hnod hent hfew i x3 hx4) h fun w h=>?_))
 obtain ⟨b19,hb19⟩:=nmB (decide (Dv (L.map RN.a) x3.a>0))
 refine ZB hb19 (ZP (.bool b19) (Qn (Zi (b19) (fun hc20=>?_) fun hc20=>?_)))
 have q21:=hb19.symm.trans hc20
 have q21:=dcT q21
 refine Ah (ZP vo (ZP (Pp x3.nb) ?_))
 refine Gm rfl (fun b=>.slice (some ⟨b,0,none⟩) 1 1) [Pp x3.nb] 88 (fun _=>by kernel_rfl) h ?_;intro k22 w h
 refine Hc (b:=k22) (o:=0) rfl 1 x3.nb (by kernel_rfl) h 3 rfl 0 rfl (Fb 0 (by kernel_rfl)) (by (try simp only [List.length_append,List.length_cons,List.length_nil,List.length_map]);omega) ?_;intro v23 w h
 refine ZP v23 (Cu ?_)
 refine Cb (Ai ?_)
 refine Ah (ZP (Ii i) (ZG h (A4 (v:=Ii (IntKind.i64.wrap ((i:Int)+1))) (v':=Ii ((i+1:Nat):Int)) (Az fun _=>by kernel_rfl) (wr (by omega))) (ZP (Ii ((i+1:Nat):Int)) (Cu ?_))))
 have hT:Ej (L.map RN.a) x3.a=true:=by unfold Ej;by_cases c1:x3.a.kind=2<;>by_cases c2:x3.a.pins>0<;>by_cases c3:Dv (L.map RN.a) x3.a>0<;>simp [c1,c2,c3]<;>omega
 have hQ24:((i+1)≤L.length∧(ob++[x3.nb])=((L.take (i+1)).filter (fun N=>Ej (L.map RN.a) N.a)).map RN.nb)∧(L.length - (i+1))<(L.length - i):=⟨⟨by omega,by rw [Hk hx4,hT,ho];simp⟩,by omega⟩
 refine Bn (fun j=>⟨(i+1),ob++[x3.nb],v23,j⟩) hQ24 (by kernel_rfl) [3,1,1] (by kernel_rfl) h
 have q25:=hb19.symm.trans hc20
 have q25:=dcF q25
 refine B6 ?_
 refine Cb (Ai ?_)
 refine Ah (ZP (Ii i) (ZG h (A4 (v:=Ii (IntKind.i64.wrap ((i:Int)+1))) (v':=Ii ((i+1:Nat):Int)) (Az fun _=>by kernel_rfl) (wr (by omega))) (ZP (Ii ((i+1:Nat):Int)) (Cu ?_))))
 have hT:Ej (L.map RN.a) x3.a=false:=by unfold Ej;by_cases c1:x3.a.kind=2<;>by_cases c2:x3.a.pins>0<;>by_cases c3:Dv (L.map RN.a) x3.a>0<;>simp [c1,c2,c3]<;>omega
 have hQ26:((i+1)≤L.length∧ob=((L.take (i+1)).filter (fun N=>Ej (L.map RN.a) N.a)).map RN.nb)∧(L.length - (i+1))<(L.length - i):=⟨⟨by omega,by rw [Hk hx4,hT,ho];simp⟩,by omega⟩
 refine Bn (fun j=>⟨(i+1),ob,vo,j⟩) hQ26 (by kernel_rfl) [2,0,0] (by kernel_rfl) h
 refine C9 (D3 (Ek (Ea (Ai (Ah (ZP (Pp b) (ZP vo (ZP (Pp b) (ZP (Pt b 1) ?_)))))))))
 refine Jh rfl (h.slv 0 rfl) 1 [Ii mst,vo,vt] h 1 rfl (by kernel_rfl) ?_;intro w h
 refine Cu ?_
 have h:=h.pkr [0,1]
 rw [List.take_of_length_le (by omega)] at ho
 subst ho
 have h:=Own.rlFilter (L':=L.filter (fun N=>Ej (L.map RN.a) N.a)) h Tl
 exact ZR [] [1,0] h ⟨_,rfl⟩
theorem V3 (n g:Int):Au Tryz.prog 93 #[Pp b,Hg n g] [Rt b mst vl vt,rRL vl L] (fun u L'=>∃ v',L'=[Rt b mst v' vt,rRL v' (L.filter (fun N=>!(N.a.h==(n,g))))]):=by
 have hl:=hok.hl
 have hnod:=hok.hnod
 have hent:=hok.hent
 have hfew:=hok.hfew
 refine Zo 39 Tryz.func93 fun E w0 w h=>?_
 refine Qs (ZN [Ii n,Ii g] 34 h fun k1 w h=>Qm (ZP (.slice none 0 0) (Qu (ZP (Ii 0) (Qn (Av ?_))))))
 have h:=h.nilRows 88 1 ptB
 refine ZL (X:=Nat×List Nat×Value×(Nat→Value)) [(6,36)] (fun ⟨i,ob,vo,J0⟩=>[(4,vo),(5,Ii i)]) (fun ⟨i,ob,vo,J0⟩=>J0) (fun ⟨i,ob,vo,J0⟩=>[A8 true vo 88 1 ptB ob,Rh k1 n g,Rt b mst vl vt,rRL vl L]) (fun ⟨i,ob,vo,J0⟩=>i≤L.length∧ob=((L.take i).filter (fun N=>!(N.a.h==(n,g)))).map RN.nb) (fun ⟨i,ob,vo,J0⟩=>L.length - i) (fun j=>⟨0,[],(.slice none 0 0),j⟩) ⟨by omega,rfl⟩ [0,0,0,0] h ?_
 rintro ⟨i,ob,vo,J0⟩ w hG h
 obtain ⟨hi0,ho⟩:i≤L.length∧ob=((L.take i).filter (fun N=>!(N.a.h==(n,g)))).map RN.nb:=hG
 have hol:ob.length≤1000:=by rw [ho,List.length_map];have:=List.length_filter_le (fun N=>!(N.a.h==(n,g))) (L.take i);rw [List.length_take] at this;omega
 refine Qt (ZP (Ii i) (ZP (Pp b) (ZP (Pp b) (ZP (Pt b 1) (ZG h (Gl 1 (vl) 2) (ZG h (Dh 88 (by kernel_rfl) 3 rfl Df) (ZP (.bool (decide ((i:Int)<(L.length:Int)))) (Qn (Zd ((i:Int)<(L.length:Int)) (fun hc2=>?_) fun hc2=>?_)))))))))
 refine Kn (Aa (Av (Aa (Ds 12 [1,1,1] h fun w h=>Dp 0 1040 (Pp b) [1,1,1] h (Dp 1 1041 (Pp b) [1,1,1] h (Dp 2 1043 (Pt b 1) [1,1,1] h (Dq 3 1047 [1,1,1] rfl h (Gl 1 (vl) 1) (Dp 4 1039 (Ii i) [1,1,1] h ?_))))))))
 have hi3:i<L.length:=by omega
 obtain ⟨x4,hx5⟩:∃ x,L[i]?=some x:=⟨_,List.getElem?_eq_getElem hi3⟩
 refine Dq (v:=Pt (Dg vl) (B0 vl+i*1)) 5 1055 [1,1,1] rfl h (Dn (k:=1) 88 i rfl (by kernel_rfl) hi3 2 rfl Df) (Dq 6 1087 [1,1,1] rfl h (Gr (B0 vl+i*1) (Pp x4.nb) 2 rfl (K3 Df Gy hx5 (by kernel_rfl))) (Dp 7 1151 (Pp x4.nb) [1,1,1] h (Dp 8 1279 (Pp x4.nb) [1,1,1] h (Dq 9 1535 [1,1,1] rfl h (Gra 0 [Ii x4.a.h.1,Ii x4.a.h.2] 2 rfl (Cc hx5 0 (by kernel_rfl))) (Dq 10 1023 [1,1,1] rfl h (Gla 0 [Ii n,Ii g] 0) (Dq (v:=.bool (!((decide (x4.a.h.1=n))&&(decide (x4.a.h.2=g))))) 11 2047 [1,1,1] rfl h (Ez (n1:=x4.a.h.1) (g1:=x4.a.h.2) (n2:=n) (g2:=g) (by kernel_rfl)) (Dd (Ai (Zi (!((decide (x4.a.h.1=n))&&(decide (x4.a.h.2=g)))) (fun hc6=>?_) fun hc6=>?_)))))))))
 have q7:=nT hc6
 have q8:=ndA q7
 refine Ah (ZP vo (ZP (Pp b) (ZP (Pp b) (ZP (Pt b 1) (ZG h (Gl 1 (vl) 2) (ZP (Ii i) (ZG h (Dn (k:=1) 88 i rfl (by kernel_rfl) hi3 3 rfl Df) (ZG h (Gr (B0 vl+i*1) (Pp x4.nb) 3 rfl (K3 Df Gy hx5 (by kernel_rfl))) ?_))))))))
 refine Gm rfl (fun b=>.slice (some ⟨b,0,none⟩) 1 1) [Pp x4.nb] 88 (fun _=>by kernel_rfl) h ?_;intro k9 w h
 refine Hc (b:=k9) (o:=0) rfl 1 x4.nb (by kernel_rfl) h 1 rfl 0 rfl (Fb 0 (by kernel_rfl)) (by (try simp only [List.length_append,List.length_cons,List.length_nil,List.length_map]);omega) ?_;intro v10 w h
 refine ZP v10 (Cu ?_)
 refine Cb (Ai ?_)
 refine Ah (ZP (Ii i) (ZG h (A4 (v:=Ii (IntKind.i64.wrap ((i:Int)+1))) (v':=Ii ((i+1:Nat):Int)) (Az fun _=>by kernel_rfl) (wr (by omega))) (ZP (Ii ((i+1:Nat):Int)) (Cu ?_))))
 have hT:(!(x4.a.h==(n,g)))=true:=by rw [Vq];by_cases c1:x4.a.h.1=n<;>by_cases c2:x4.a.h.2=g<;>simp [c1,c2]<;>omega
 have hQ11:((i+1)≤L.length∧(ob++[x4.nb])=((L.take (i+1)).filter (fun N=>!(N.a.h==(n,g)))).map RN.nb)∧(L.length - (i+1))<(L.length - i):=⟨⟨by omega,by rw [Hk hx5,hT,ho];simp⟩,by omega⟩
 refine Bn (fun j=>⟨(i+1),ob++[x4.nb],v10,j⟩) hQ11 (by kernel_rfl) [1,1,1,1] (by kernel_rfl) h
 have q12:=nF hc6
 have q13:=aL q12
 have q14:=aR q12
 have q13:=dcT q13
 have q14:=dcT q14
 refine B6 ?_
 refine Cb (Ai ?_)
 refine Ah (ZP (Ii i) (ZG h (A4 (v:=Ii (IntKind.i64.wrap ((i:Int)+1))) (v':=Ii ((i+1:Nat):Int)) (Az fun _=>by kernel_rfl) (wr (by omega))) (ZP (Ii ((i+1:Nat):Int)) (Cu ?_))))
 have hT:(!(x4.a.h==(n,g)))=false:=by rw [Vq];by_cases c1:x4.a.h.1=n<;>by_cases c2:x4.a.h.2=g<;>simp [c1,c2]<;>omega
 have hQ15:((i+1)≤L.length∧ob=((L.take (i+1)).filter (fun N=>!(N.a.h==(n,g)))).map RN.nb)∧(L.length - (i+1))<(L.length - i):=⟨⟨by omega,by rw [Hk hx5,hT,ho];simp⟩,by omega⟩
 refine Bn (fun j=>⟨(i+1),ob,vo,j⟩) hQ15 (by kernel_rfl) [0,0,0,0] (by kernel_rfl) h
 refine C9 (D3 (Ek (Ea (Ai (Ah (ZP (Pp b) (ZP vo (ZP (Pp b) (ZP (Pt b 1) ?_)))))))))
 refine Jh rfl (h.slv 0 rfl) 1 [Ii mst,vo,vt] h 2 rfl (by kernel_rfl) ?_;intro w h
 refine Cu ?_
 have h:=h.pkr [0,2]
 rw [List.take_of_length_le (by omega)] at ho
 subst ho
 have h:=Own.rlFilter (L':=L.filter (fun N=>!(N.a.h==(n,g)))) h Tl
 exact ZR [] [2,0] h ⟨_,rfl⟩
end
def C8 (h:Hdl) (kind:Int):AN:=⟨h,kind,0,⟨#[]⟩,[],[],0⟩
def Ey (A:List AN) (k:Nat):Bool:=A.any fun N=>decide (N.h.1=(k:Int))
def Ig (most:Nat) (A:List AN):Option Nat:=(List.range most).find? fun k=>!Ey A k
theorem Adk {most:Nat} {A:List AN} {k:Nat} (hk:k<most) (hu:Ey A k=false) (hno:∀ q,q<k→Ey A q=true):Ig most A=some k:=by
  unfold Ig
  rw [List.find?_eq_some_iff_getElem]
  refine ⟨by simp [hu],k,by simpa using hk,by simp,fun q hq=>?_⟩
  simp [hno q hq]
theorem Acw {most:Nat} {A:List AN} (hno:∀ q,q<most→Ey A q=true):Ig most A=none:=by
  unfold Ig
  rw [List.find?_eq_none]
  intro k hk
  simp [hno k (List.mem_range.1 hk)]
def Aw (ts:List Int) (k:Nat):Int:=ts.getD k 0
def By (most:Nat) (A:List AN) (h:Hdl) (nm:ByteArray) (kind:Int):Option Nat×Nat:=
  match Bs A h with
  | none=>(none,10)
  | some D=>if D.kind=2 then (if Hy nm=0 then (if kind=1∨kind=2 then (match Eg D.es nm with
      | some _=>(none,6)
      | none=>if 60≤D.es.length then (none,9) else match Ig most A with|none=>(none,9)|some k=>(some k,0)) else (none,3)) else (none,4)) else (none,7)
section
variable {most:Nat} {A:List AN} {h:Hdl} {nm:ByteArray} {kind:Int} {D:AN}
theorem Ys (h1:Bs A h=none):By most A h nm kind=(none,10):=by unfold By;rw [h1]
theorem Yz (h1:Bs A h=some D) (h2:¬D.kind=2):By most A h nm kind=(none,7):=by unfold By;rw [h1];exact if_neg h2
theorem X5 (h1:Bs A h=some D) (h2:D.kind=2) (h3:¬A0 nm):By most A h nm kind=(none,4):=by unfold By;rw [h1];simp only [if_pos h2];rw [C3 h3];rfl
theorem Yg (h1:Bs A h=some D) (h2:D.kind=2) (h3:A0 nm) (h4:¬(kind=1∨kind=2)):By most A h nm kind=(none,3):=by unfold By;rw [h1];simp only [if_pos h2];rw [Bf h3];simp only [if_neg h4,if_true]
theorem Agb (h1:Bs A h=some D) (h2:D.kind=2) (h3:A0 nm) (h4:kind=1∨kind=2) {x:Hdl} (h5:Eg D.es nm=some x):By most A h nm kind=(none,6):=by unfold By;rw [h1];simp only [if_pos h2];rw [Bf h3,h5];simp only [if_pos h4,if_true]
theorem Yk (h1:Bs A h=some D) (h2:D.kind=2) (h3:A0 nm) (h4:kind=1∨kind=2) (h5:Eg D.es nm=none) (h6:60≤D.es.length):By most A h nm kind=(none,9):=by unfold By;rw [h1];simp only [if_pos h2];rw [Bf h3,h5];simp only [if_pos h4,if_true,if_pos h6]
theorem Ad3 (h1:Bs A h=some D) (h2:D.kind=2) (h3:A0 nm) (h4:kind=1∨kind=2) (h5:Eg D.es nm=none) (h6:¬60≤D.es.length) (h7:Ig most A=none):By most A h nm kind=(none,9):=by unfold By;rw [h1];simp only [if_pos h2];rw [Bf h3,h5,h7];simp only [if_pos h4,if_true,if_neg h6]
theorem Adv (h1:Bs A h=some D) (h2:D.kind=2) (h3:A0 nm) (h4:kind=1∨kind=2) (h5:Eg D.es nm=none) (h6:¬60≤D.es.length) {k:Nat} (h7:Ig most A=some k):By most A h nm kind=(some k,0):=by unfold By;rw [h1];simp only [if_pos h2];rw [Bf h3,h5,h7];simp only [if_pos h4,if_true,if_neg h6]
end
def Gd (A:List AN) (ts:List Int) (h:Hdl) (nm:ByteArray) (kind:Int) (k:Nat):List AN:=Ap (Ax (A++[C8 ((k:Int),Aw ts k) kind]) h nm ((k:Int),Aw ts k)) h
def Cy (A:List AN) (x d:Hdl) (nm:ByteArray):Nat:=
  match Bs A x with
  | none=>10
  | some X=>match Bs A d with
    | none=>10
    | some D=>if D.kind=2 then (if Hy nm=0 then (if X.kind=2 then 8 else match Eg D.es nm with
        | some _=>6
        | none=>if 60≤D.es.length∨8≤Dv A X then 9 else 0) else 4) else 7
section
variable {A:List AN} {x d:Hdl} {nm:ByteArray} {X D:AN}
theorem tK_x (h1:Bs A x=none):Cy A x d nm=10:=by unfold Cy;rw [h1]
theorem tK_d (h0:Bs A x=some X) (h1:Bs A d=none):Cy A x d nm=10:=by unfold Cy;rw [h0];simp only;rw [h1]
theorem Y3 (h0:Bs A x=some X) (h1:Bs A d=some D) (h2:¬D.kind=2):Cy A x d nm=7:=by unfold Cy;rw [h0];simp only;rw [h1];exact if_neg h2
theorem Xv (h0:Bs A x=some X) (h1:Bs A d=some D) (h2:D.kind=2) (h3:¬A0 nm):Cy A x d nm=4:=by unfold Cy;rw [h0];simp only;rw [h1];simp only [if_pos h2];rw [C3 h3];rfl
theorem Adj (h0:Bs A x=some X) (h1:Bs A d=some D) (h2:D.kind=2) (h3:A0 nm) (h4:X.kind=2):Cy A x d nm=8:=by unfold Cy;rw [h0];simp only;rw [h1];simp only [if_pos h2];rw [Bf h3];simp only [if_pos h4,if_true]
theorem Af4 (h0:Bs A x=some X) (h1:Bs A d=some D) (h2:D.kind=2) (h3:A0 nm) (h4:¬X.kind=2) {y:Hdl} (h5:Eg D.es nm=some y):Cy A x d nm=6:=by unfold Cy;rw [h0];simp only;rw [h1];simp only [if_pos h2];rw [Bf h3,h5];simp only [if_neg h4,if_true]
theorem Od (h0:Bs A x=some X) (h1:Bs A d=some D) (h2:D.kind=2) (h3:A0 nm) (h4:¬X.kind=2) (h5:Eg D.es nm=none) (h6:60≤D.es.length∨8≤Dv A X):Cy A x d nm=9:=by unfold Cy;rw [h0];simp only;rw [h1];simp only [if_pos h2];rw [Bf h3,h5];simp only [if_neg h4,if_true,if_pos h6]
theorem Afz (h0:Bs A x=some X) (h1:Bs A d=some D) (h2:D.kind=2) (h3:A0 nm) (h4:¬X.kind=2) (h5:Eg D.es nm=none) (h6:¬(60≤D.es.length∨8≤Dv A X)):Cy A x d nm=0:=by unfold Cy;rw [h0];simp only;rw [h1];simp only [if_pos h2];rw [Bf h3,h5];simp only [if_neg h4,if_true,if_neg h6]
end
def Lo (A:List AN) (x d:Hdl) (nm:ByteArray):List AN:=Ap (Ap (Ax A d nm x) d) x
def Cf (A:List AN) (d:Hdl) (nm:ByteArray):Nat:=
  if (Ab A d nm).2=0 then (match Bs A (Ab A d nm).1 with|some N=>if 0<N.es.length then 11 else 0|none=>0) else (Ab A d nm).2
def Dz (A:List AN) (d:Hdl) (nm:ByteArray):List AN:=C5 (Ap (Al A d nm) d) (Ab A d nm).1
def El (A:List AN) (h:Hdl):Nat:=match Bs A h with|none=>10|some N=>if N.kind=1 then 0 else 8
theorem X0 {A:List AN} {h:Hdl} (h1:Bs A h=none):El A h=10:=by unfold El;rw [h1]
theorem Ab6 {A:List AN} {h:Hdl} {N:AN} (h1:Bs A h=some N) (h2:¬N.kind=1):El A h=8:=by unfold El;rw [h1];exact if_neg h2
theorem Agd {A:List AN} {h:Hdl} {N:AN} (h1:Bs A h=some N) (h2:N.kind=1):El A h=0:=by unfold El;rw [h1];exact if_pos h2
def Cj (A:List AN) (h:Hdl):Nat:=match Bs A h with|none=>10|some N=>if N.kind=1 then (if N.pins=0 then 5 else 0) else 8
theorem Xe {L:List RN} {j:Nat} {N K X:RN} (hx:L[j]?=some N) (hK:K∈L) (hne:K≠N):K∈L.set j X:=by
  obtain ⟨i,hi⟩:=List.getElem?_of_mem hK
  refine List.mem_of_getElem? (i:=i) ?_
  rw [List.getElem?_set_ne (fun e=>by subst e;rw [hx] at hi;exact hne (Option.some.inj hi).symm)]
  exact hi
theorem Lu (b:Nat) (mst:Int) (vl vt:Value) (L:List RN) (c:Int) (hc:c≤990000) (hok:Dm (L.map RN.a) c) (j:Nat) (N:RN) (hx:L[j]?=some N) (n g:Int) (hh:N.a.h=(n,g))  : Au Tryz.prog 71 #[Pp b,Hg n g] [Rt b mst vl vt,rRL vl L] (fun u L'=>∃ v' L2,L2.map RN.a=C5 (L.map RN.a) (n,g)∧(∀ K∈L,K.a.kind=2→K.a.h≠(n,g)→K∈L2)∧L'=[Rt b mst v' vt,rRL v' L2]):=by
 have hl:=hok.hl
 have hnod:=hok.hnod
 have hent:=hok.hent
 have hfew:=hok.hfew
 have hrg:=hok.at_rng hx
 refine Zo 23 Tryz.func71 fun E w0 w h=>?_
 refine Qs (ZN [Ii n,Ii g] 34 h fun k1 w h=>Qm (ZP (Pp b) (ZG h (Gla 0 [Ii n,Ii g] 0) (ZC [1,1] (Cr b mst vl vt L (by omega) hnod j N hx n g hh) h fun w h=>ZP (Pp N.nb) (Qu (ZP (Pp N.nb) (ZP (Pp N.nb) (ZP (Pt N.nb 2) (ZG h (Gr 2 (Ii N.a.kind) 1 rfl (Cc hx 2 (by kernel_rfl))) (ZP (.bool (decide (N.a.kind=2))) (Qn (Zd (N.a.kind=2) (fun hc2=>?_) fun hc2=>?_))))))))))))
 refine Qs (ZP (Pp b) (ZG h (Gla 0 [Ii n,Ii g] 2) ?_))
 refine ZD [0,0] (V3 b mst vl vt L c (by omega) hok n g) h ?_;rintro u4 L_ w ⟨v3,rfl⟩ h
 refine Qr (Ar (ZR [] [0,0] h ?_))
 refine ⟨_,_,?_,fun K hK _ hne=>List.mem_filter.2 ⟨hK,by simp [hne]⟩,rfl⟩
 rw [Pu (p:=fun N=>!(N.h==(n,g)))]
 unfold C5
 rw [Aj hnod hx hh]
 simp only [if_pos (show N.a.kind=2 by omega)]
 rfl
 refine Ks (ZP (Pp N.nb) (ZP (Pp N.nb) (ZP (Pt N.nb 3) (ZG h (Gr 3 (Ii N.a.change) 1 rfl (Cc hx 3 (by kernel_rfl))) (ZG h (Gw (N.a.change+1)) (ZP (Pp N.nb) (ZP (Pt N.nb 3) ?_)))))))
 refine Fc rfl (b:=N.nb) 3 [Ii (N.a.change+1)] h 1 rfl (by kernel_rfl) (L3 hx 3 [Ii (N.a.change+1)] (Rw N N.ve (N.a.change+1) N.a.es) (Nat.le_of_ble_eq_true (by kernel_rfl)) (by kernel_rfl) rfl rfl rfl rfl rfl) ?_;intro w h
 have hx5:=Ce (Rw N N.ve (N.a.change+1) N.a.es) hx
 refine Qn (Ah (ZP (Pp b) ?_))
 refine ZD [0,0] (Nk b mst vl vt (L.set j (Rw N N.ve (N.a.change+1) N.a.es)) (c+1) (by omega) ((hok.mono (d:=c+1) (by omega)).setC (N':=(Rw N N.ve (N.a.change+1) N.a.es)) hx rfl rfl (by have:=hok.at_rng hx;exact ⟨by show 0≤N.a.change+1;omega,by show N.a.change+1≤c+1;omega,by show 0≤N.a.pins;omega,by show N.a.pins≤c+1;omega⟩))) h ?_;rintro u7 L_ w ⟨v6,rfl⟩ h
 refine Cu (ZR [] [0,0] h ?_)
 refine ⟨_,_,?_,fun K hK hk hne=>List.mem_filter.2 ⟨Xe hx hK (fun e=>hne (by rw [e];exact hh)),by unfold Ej;simp [hk]⟩,rfl⟩
 have hS:(L.set j (Rw N N.ve (N.a.change+1) N.a.es)).map RN.a=Ap (L.map RN.a) (n,g):=C7 hnod hx hh rfl
 rw [Pu (p:=Ej ((L.set j (Rw N N.ve (N.a.change+1) N.a.es)).map RN.a)),hS]
 unfold C5
 rw [Aj hnod hx hh]
 simp only [if_neg (show ¬N.a.kind=2 by omega)]
 rfl
theorem Own.rlAdd {w0 w:World} {E:Ent} {M:List Res} {L:List RN} {v:Value} (N':RN) (h:Own w0 E (F4 N'::rnH N'::rnE N'::I3 L::A8 true v 88 1 ptB (L.map RN.nb++[N'.nb])::M) w):Own w0 E (rRL v (L++[N'])::M) w:=by
  have h1:=h.rnAdd N'
  have e:L.map RN.nb++[N'.nb]=(L++[N']).map RN.nb:=by rw [List.map_append];rfl
  rw [e] at h1
  exact Own.rlClose (h1.perm (List.Perm.swap _ _ _))
theorem Lf {L:List RN} (hn:(L.map fun N=>N.a.h).Nodup) {j:Nat} {N N':RN} (hx:L[j]?=some N) (h:N'.a.h=N.a.h):((L.set j N').map fun N=>N.a.h).Nodup:=by
  rw [List.map_set,h,H9 _ j N.a.h (by rw [List.getElem?_map,hx];rfl)];exact hn
theorem Aew {L:List RN} (hn:(L.map fun N=>N.a.h).Nodup) {k:Nat} (hu:Ey (L.map RN.a) k=false) {N':RN} (h:N'.a.h.1=(k:Int)):((L++[N']).map fun N=>N.a.h).Nodup:=by
  rw [List.map_append]
  refine List.nodup_append.2 ⟨hn,by simp,fun a ha b hb e=>?_⟩
  obtain ⟨M,hM,rfl⟩:=List.mem_map.1 ha
  simp only [List.map_cons,List.map_nil,List.mem_singleton] at hb
  unfold Ey at hu
  rw [List.any_eq_false] at hu
  exact hu M.a (List.mem_map.2 ⟨M,hM,rfl⟩) (decide_eq_true (by rw [e,hb];exact h))
theorem Q7 {L:List RN} {i:Nat} {x:RN} (k:Nat) (hx:L[i]?=some x):Ey ((L.take (i+1)).map RN.a) k=(Ey ((L.take i).map RN.a) k||decide (x.a.h.1=(k:Int))):=by
  unfold Ey
  rw [List.take_add_one,hx,List.map_append,List.any_append];simp
theorem Iq {ts:List Int} {k:Nat} {x:Int} (hx:ts[k]?=some x):Aw ts k=x:=by unfold Aw;rw [List.getD_eq_getElem?_getD,hx];rfl
theorem Ml (b most:Nat) (vl vt:Value) (ts:List Int) (L:List RN) (c:Int) (hc:c≤900000) (hok:Dm (L.map RN.a) c) (hts:ts.length=most) (htr:∀ x∈ts,0≤x∧x≤1000000) (hm:most≤300) (n g:Int) (nm:ByteArray) (kind:Int) (hnz:nm.size≤100000)  : Au Tryz.prog 32 #[Pp b,Hg n g,.string nm,Ii kind] [Rt b most vl vt,A8 true vt 3 1 inC ts,rRL vl L] (fun u L'=>(∃ e:Nat,By most (L.map RN.a) (n,g) nm kind=(none,e)∧u=.tuple #[Hg 0 0,Ii e]∧L'=[Rt b most vl vt,A8 true vt 3 1 inC ts,rRL vl L])∨(∃ (kq:Nat) (v':Value) (L2:List RN),By most (L.map RN.a) (n,g) nm kind=(some kq,0)∧L2.map RN.a=Gd (L.map RN.a) ts (n,g) nm kind kq∧u=.tuple #[Hg kq (Aw ts kq),Ii 0]∧L'=[Rt b most v' vt,A8 true vt 3 1 inC (ts.set kq (Aw ts kq+1)),rRL v' L2])):=by
 have hl:=hok.hl
 have hnod:=hok.hnod
 have hent:=hok.hent
 have hfew:=hok.hfew
 refine Zo 122 Tryz.func32 fun E w0 w h=>?_
 refine Qs (ZN [Ii n,Ii g] 34 h fun k1 w h=>ZN [Ii 0,Ii 0] 34 h fun k2 w h=>ZP (Ii 0) (Qm (ZP (Pp b) (ZG h (Gla 0 [Ii n,Ii g] 1) ?_))))
 refine ZD [2,3] (Fz b (most:Int) vl vt L n g (by omega)) h ?_;rintro v_ L_ w (⟨hno8,rfl,rfl⟩|⟨j3,N4,hx5,hh6,hkd7,rfl,rfl⟩|⟨j3,N4,hx5,hh6,hkd7,rfl,rfl⟩) h
 refine ZP (Ii 10) (Qu (ZP (Ii 10) (ZP (.bool false) (Ft (ZP (Ii 10) (ZP (.bool true) (Qg (Qs (ZP (Hg 0 0) (ZP (Ii 10) (ZSs [Ii 0,Ii 0] 2 rfl h fun w h=>ZP (Ii 10) (Qr (Ar ?_)))))))))))))
 refine B5 [Hg 0 0,Ii 10] [0,3,0] h (by kernel_rfl) (Du 0 [Ii 0,Ii 0] (Hg 0 0) 2 rfl (by kernel_rfl) (Ei (by kernel_rfl) Dr)) ?_
 exact .inl ⟨10,Ys (Fa hno8),rfl,rfl⟩
 refine ZP (Ii 7) (Qu (ZP (Ii 7) (ZP (.bool false) (Ft (ZP (Ii 7) (ZP (.bool true) (Qg (Qs (ZP (Hg 0 0) (ZP (Ii 7) (ZSs [Ii 0,Ii 0] 2 rfl h fun w h=>ZP (Ii 7) (Qr (Ar ?_)))))))))))))
 refine B5 [Hg 0 0,Ii 7] [0,3,0] h (by kernel_rfl) (Du 0 [Ii 0,Ii 0] (Hg 0 0) 2 rfl (by kernel_rfl) (Ei (by kernel_rfl) Dr)) ?_
 exact .inl ⟨7,Yz (Aj hnod hx5 hh6) hkd7,rfl,rfl⟩
 refine ZP (Ii 0) (Qu (ZP (Ii 0) (ZP (.bool true) (Qg (Ah (ZP (.string nm) ?_))))))
 refine ZD [] (Et nm (by omega)) h ?_;rintro v_ L_ w (⟨hnm9,rfl,rfl⟩|⟨hnm9,rfl,rfl⟩) h
 refine ZP (Ii 0) (Qu (ZP (Ii 0) (ZP (.bool false) (Ft (ZP (Ii kind) ?_)))))
 obtain ⟨b10,hb10⟩:=nmB (!(decide (kind=1)))
 refine ZB hb10 (ZP (.bool b10) (ZM1 (v:=Ii kind) b10 h (fun hB=>by subst hB;exact Gp (Ii kind)) ?_))
 obtain ⟨b11,hb11⟩:=nmB (!(decide (kind=2)))
 refine ZM1 (v:=.bool b11) b10 h (fun hB=>by subst hB;exact by subst hb11;exact Az (v:=.bool (!(decide (kind=2)))) fun _=>by kernel_rfl) ?_
 obtain ⟨b12,hb12⟩:=nmB (b10&&b11)
 refine ZBc b10 hb12 (Qn (Zi (b12) (fun hc13=>?_) fun hc13=>?_))
 have q14:=hb12.symm.trans hc13
 have q15:=aL q14
 have q16:=aR q14
 have q17:=hb10.symm.trans q15
 have q18:(decide (kind=1))=false:=by simpa using q17
 have q18:=dcF q18
 have q19:=hb11.symm.trans q16
 have q20:(decide (kind=2))=false:=by simpa using q19
 have q20:=dcF q20
 have hkd:¬(kind=1∨kind=2):=by subst hb12 hb11 hb10;revert hc13;by_cases c1:kind=1<;>by_cases c2:kind=2<;>simp [c1,c2]
 refine Qs (ZP (Hg 0 0) (ZSs [Ii 0,Ii 0] 2 rfl h fun w h=>ZP (Ii 3) (Qr (Ar ?_))))
 refine B5 [Hg 0 0,Ii 3] [0,3,0] h (by kernel_rfl) (Du 0 [Ii 0,Ii 0] (Hg 0 0) 2 rfl (by kernel_rfl) (Ei (by kernel_rfl) Dr)) ?_
 exact .inl ⟨3,Yg (Aj hnod hx5 hh6) hkd7 hnm9 hkd,rfl,rfl⟩
 have q21:=hb12.symm.trans hc13
 have hkd:(kind=1∨kind=2):=by subst hb12 hb11 hb10;revert hc13;by_cases c1:kind=1<;>by_cases c2:kind=2<;>simp [c1,c2]
 refine Ks (ZP (Pp b) (ZG h (Gla 0 [Ii n,Ii g] 3) (ZC [0,0] (Cr b (most:Int) vl vt L (by omega) hnod j3 N4 hx5 n g hh6) h fun w h=>ZP (Pp N4.nb) (Qu (ZP (Pp N4.nb) (ZP (.string nm) ?_))))))
 refine ZD [1] (Ev vl L j3 N4 hx5 nm (by have:=hok.at_few hx5;omega)) h ?_;rintro v_ L_ w (⟨iq22,eq23,he24,hen25,rfl,rfl⟩|⟨hno26,rfl,rfl⟩) h
 have hfliq22:=(List.getElem?_eq_some_iff.1 he24).1
 refine ZP (.bool (decide ((iq22:Int)≥0))) (Qn (Zd ((iq22:Int)≥0) (fun hc27=>?_) fun hc27=>?_))
 refine Qs (ZP (Hg 0 0) (ZSs [Ii 0,Ii 0] 2 rfl h fun w h=>ZP (Ii 6) (Qr (Ar ?_))))
 refine B5 [Hg 0 0,Ii 6] [1,3,0] h (by kernel_rfl) (Du 0 [Ii 0,Ii 0] (Hg 0 0) 2 rfl (by kernel_rfl) (Ei (by kernel_rfl) Dr)) ?_
 exact .inl ⟨6,Agb (Aj hnod hx5 hh6) hkd7 hnm9 hkd (Bu (hok.at_nms hx5) he24 hen25),rfl,rfl⟩
 exfalso;omega
 refine ZP (.bool false) (Ft (ZP (Pp N4.nb) (ZP (Pp N4.nb) (ZP (Pt N4.nb 6) (ZG h (Gr 6 N4.ve 0 rfl (Cc hx5 6 (by kernel_rfl))) (ZG h (Dh 107 (by kernel_rfl) 0 rfl (Bo hx5)) (ZP (.bool (decide ((N4.a.es.length:Int)≥60))) (Qn (Zd ((N4.a.es.length:Int)≥60) (fun hc28=>?_) fun hc28=>?_)))))))))
 refine Qs (ZP (Hg 0 0) (ZSs [Ii 0,Ii 0] 2 rfl h fun w h=>ZP (Ii 9) (Qr (Ar ?_))))
 refine B5 [Hg 0 0,Ii 9] [1,3,0] h (by kernel_rfl) (Du 0 [Ii 0,Ii 0] (Hg 0 0) 2 rfl (by kernel_rfl) (Ei (by kernel_rfl) Dr)) ?_
 exact .inl ⟨9,Yk (Aj hnod hx5 hh6) hkd7 hnm9 hkd (Gb hno26) (by omega),rfl,rfl⟩
 refine Kw (ZP (Ii 0) (Qn (Av ?_)))
 refine ZL (X:=Nat×(Nat→Value)) [(9,9),(13,16),(50,124)] (fun ⟨kq,J0⟩=>[(12,Ii kq)]) (fun ⟨kq,J0⟩=>J0) (fun ⟨kq,J0⟩=>[rRL vl L,Rt b most vl vt,Rh k2 0 0,Rh k1 n g,A8 true vt 3 1 inC ts]) (fun ⟨kq,J0⟩=>kq≤most∧∀ q,q<kq→Ey (L.map RN.a) q=true) (fun ⟨kq,J0⟩=>most - kq) (fun j=>⟨0,j⟩) ⟨by omega,fun q hq=>by omega⟩ [0,0,0,0,0] h ?_
 rintro ⟨kq,J0⟩ w hG h
 obtain ⟨hkq,hno⟩:kq≤most∧∀ q,q<kq→Ey (L.map RN.a) q=true:=hG
 refine Qt (ZP (Ii kq) (ZP (Pp b) (ZP (Pp b) (ZP (Pp b) (ZG h (Gl 0 (Ii most) 1) (ZP (.bool (decide ((kq:Int)<(most:Int)))) (Qn (Zd ((kq:Int)<(most:Int)) (fun hc29=>?_) fun hc29=>?_))))))))
 refine Kn (Aa (Av (Qs (ZP (.bool false) (Qu (ZP (Ii 0) (Qn (Av ?_))))))))
 refine ZL (X:=Nat×Bool×(Nat→Value)) [(58,79)] (fun ⟨iu,ub,J1⟩=>[(13,.bool ub),(14,Ii iu)]) (fun ⟨iu,ub,J1⟩=>J1) (fun ⟨iu,ub,J1⟩=>[rRL vl L,Rt b most vl vt,Rh k2 0 0,Rh k1 n g,A8 true vt 3 1 inC ts]) (fun ⟨iu,ub,J1⟩=>iu≤L.length∧ub=Ey ((L.take iu).map RN.a) kq) (fun ⟨iu,ub,J1⟩=>L.length - iu) (fun j=>⟨0,false,j⟩) ⟨by omega,rfl⟩ [0,0,0,0,0] h ?_
 rintro ⟨iu,ub,J1⟩ w hG h
 obtain ⟨hiu,hub⟩:iu≤L.length∧ub=Ey ((L.take iu).map RN.a) kq:=hG
 refine Qt (ZP (Ii iu) (ZP (Pp b) (ZP (Pp b) (ZP (Pt b 1) (ZG h (Gl 1 (vl) 1) (ZG h (Dh 88 (by kernel_rfl) 0 rfl Df) (ZP (.bool (decide ((iu:Int)<(L.length:Int)))) (Qn (Zd ((iu:Int)<(L.length:Int)) (fun hc30=>?_) fun hc30=>?_)))))))))
 refine Kn (Aa (Av (Qs (ZP (Pp b) (ZP (Pp b) (ZP (Pt b 1) (ZG h (Gl 1 (vl) 1) (ZP (Ii iu) ?_))))))))
 have hi31:iu<L.length:=by omega
 obtain ⟨x32,hx33⟩:∃ x,L[iu]?=some x:=⟨_,List.getElem?_eq_getElem hi31⟩
 refine ZG h (Dn (k:=1) 88 iu rfl (by kernel_rfl) hi31 0 rfl Df) (ZG h (Gr (B0 vl+iu*1) (Pp x32.nb) 0 rfl (K3 Df Gy hx33 (by kernel_rfl))) (ZP (Pp x32.nb) (ZP (Pp x32.nb) (ZP (Pp x32.nb) (ZG h (Gr 0 (Ii x32.a.h.1) 0 rfl (Cc hx33 0 (by kernel_rfl))) (ZP (Ii kq) (ZP (.bool (decide (x32.a.h.1=(kq:Int)))) (Qn (Zd (x32.a.h.1=(kq:Int)) (fun hc34=>?_) fun hc34=>?_)))))))))
 refine Ah (ZP (.bool true) (Cu ?_))
 refine Cb (Ai ?_)
 refine Ah (ZP (Ii iu) (ZG h (A4 (v:=Ii (IntKind.i64.wrap ((iu:Int)+1))) (v':=Ii ((iu+1:Nat):Int)) (Az fun _=>by kernel_rfl) (wr (by omega))) (ZP (Ii ((iu+1:Nat):Int)) (Cu ?_))))
 have hQ35:((iu+1)≤L.length∧true=Ey ((L.take (iu+1)).map RN.a) kq)∧(L.length - (iu+1))<(L.length - iu):=⟨⟨by omega,by rw [Q7 kq hx33,← hub,decide_eq_true (by omega)];simp⟩,by omega⟩
 refine Bn (fun j=>⟨(iu+1),true,j⟩) hQ35 (by kernel_rfl) [0,0,0,0,0] (by kernel_rfl) h
 refine B6 ?_
 refine Cb (Ai ?_)
 refine Ah (ZP (Ii iu) (ZG h (A4 (v:=Ii (IntKind.i64.wrap ((iu:Int)+1))) (v':=Ii ((iu+1:Nat):Int)) (Az fun _=>by kernel_rfl) (wr (by omega))) (ZP (Ii ((iu+1:Nat):Int)) (Cu ?_))))
 have hQ36:((iu+1)≤L.length∧ub=Ey ((L.take (iu+1)).map RN.a) kq)∧(L.length - (iu+1))<(L.length - iu):=⟨⟨by omega,by rw [Q7 kq hx33,← hub,decide_eq_false (by omega)];simp⟩,by omega⟩
 refine Bn (fun j=>⟨(iu+1),ub,j⟩) hQ36 (by kernel_rfl) [0,0,0,0,0] (by kernel_rfl) h
 refine C9 (D3 (Ek (Ea (Ai (Qt (ZP (.bool ub) (Qn (Zi (ub) (fun hc37=>?_) fun hc37=>?_))))))))
 have hus:Ey (L.map RN.a) kq=true:=by rw [List.take_of_length_le (by omega)] at hub;rw [← hub];exact hc37
 refine C9 (D3 (Ea (Ai (Ah (ZP (Ii kq) (ZG h (A4 (v:=Ii (IntKind.i64.wrap ((kq:Int)+1))) (v':=Ii ((kq+1:Nat):Int)) (Az fun _=>by kernel_rfl) (wr (by omega))) (ZP (Ii ((kq+1:Nat):Int)) (Cu ?_))))))))
 have hQ38:((kq+1)≤most∧∀ q,q<(kq+1)→Ey (L.map RN.a) q=true)∧(most - (kq+1))<(most - kq):=⟨⟨by omega,fun q hq=>by by_cases e:q=kq;(subst e;exact hus);exact hno q (by omega)⟩,by omega⟩
 refine Bn (fun j=>⟨(kq+1),j⟩) hQ38 (by kernel_rfl) [0,0,0,0,0] (by kernel_rfl) h
 have hus:Ey (L.map RN.a) kq=false:=by rw [List.take_of_length_le (by omega)] at hub;rw [← hub];exact hc37
 refine Ks (ZP (Ii kq) (ZP (Pp b) (ZP (Pp b) (ZP (Pt b 2) (ZG h (Gl 2 (vt) 1) (ZP (Ii kq) ?_))))))
 have hi39:kq<ts.length:=by omega
 obtain ⟨x40,hx41⟩:∃ x,ts[kq]?=some x:=⟨_,List.getElem?_eq_getElem hi39⟩
 have htb:=htr x40 (List.mem_of_getElem? hx41)
 refine ZG h (Lk kq (by kernel_rfl) hi39 4 rfl) (ZG h (Gr (B0 vt+kq*1) (Ii x40) 4 rfl (L6 Of hx41 (by kernel_rfl))) (ZP (Hg kq x40) (ZN [Ii 0,Ii 0] 34 h fun k42 w h=>ZSs [Ii kq,Ii x40] 0 rfl h fun w h=>Qm ?_)))
 have h:=(h.pkr [1]).rlOpen
 refine ZP (Pp b) (ZP (Pp b) (ZP (Pt b 2) (ZG h (Gl 2 (vt) 3) (ZP (Ii kq) (ZG h (Lk kq (by kernel_rfl) hi39 6 rfl) (ZG h (Gr (B0 vt+kq*1) (Ii x40) 6 rfl (L6 Of hx41 (by kernel_rfl))) (ZG h (Gw (x40+1)) (ZG h (Lk kq (by kernel_rfl) hi39 6 rfl) ?_))))))))
 refine Fc rfl (b:=Dg vt) (B0 vt+kq*1) [Ii (x40+1)] h 6 rfl (by kernel_rfl) (Ym Of hx41 0 (x40+1) (by kernel_rfl) (by kernel_rfl)) ?_;intro w h
 refine Qn (Aa (Ds 11 [2,2] h fun w h=>Dp 0 496 (Pp b) [2,2] h (Dp 1 497 (Pp b) [2,2] h (Dp 2 499 (Pt b 1) [2,2] h (Dq 3 503 [2,2] rfl h (Gl 1 (vl) 1) (Dq 4 47 [2,2] rfl h (Gla 0 [Ii kq,Ii x40] 0) (Dp 5 31 (Ii kind) [2,2] h (Dp 6 63 (.agg #[Ii kq,Ii x40,Ii kind,Ii 0,.string (⟨#[]⟩:ByteArray),.slice none 0 0,.slice none 0 0,Ii 0]) [2,2] h ?_))))))))
 refine A1 [7] (by kernel_rfl) rfl ?_
 refine Ch [3,3] rfl (by kernel_rfl) (fun b=>Pp b) [Ii kq,Ii x40,Ii kind,Ii 0,.string (⟨#[]⟩:ByteArray),.slice none 0 0,.slice none 0 0,Ii 0] 93 (fun _=>by kernel_rfl) h ?_ ?_
 intro k43 w h;refine ⟨by kernel_rfl,?_⟩
 refine A1 [8] (by kernel_rfl) rfl ?_
 refine Ch [4,4] rfl (by kernel_rfl) (fun b=>.slice (some ⟨b,0,none⟩) 1 1) [Pp k43] 88 (fun _=>by kernel_rfl) h ?_ ?_
 intro k44 w h;refine ⟨by kernel_rfl,?_⟩
 refine A1 [9] (by kernel_rfl) rfl ?_
 refine Adg (b:=k44) (o:=0) [4,4] rfl (by kernel_rfl) 1 k43 (by kernel_rfl) h 2 rfl 0 rfl (Fb 0 (by kernel_rfl)) (by (try simp only [List.length_append,List.length_cons,List.length_nil,List.length_map]);omega) ?_ ?_
 intro v45 w h;refine ⟨by kernel_rfl,?_⟩
 refine Dp 10 1023 v45 [4,4] h (Dd (Ai (Qs (ZP (Pp b) (ZP v45 (ZP (Pp b) (ZP (Pt b 1) ?_)))))))
 refine Jh rfl (h.slv 2 rfl) 1 [Ii most,v45,vt] h 5 rfl (by kernel_rfl) ?_;intro w h
 refine Qm ?_
 have h:=((h.nilRows 107 3 e3C).nilRows 4 1 hlC).pkr [3,0,0,2,1]
 have htx:Aw ts kq=x40:=Iq hx41
 have h:=Own.rlAdd (L:=L) (⟨k43,.slice none 0 0,.slice none 0 0,C8 ((kq:Int),x40) kind⟩:RN) h
 have hx46:(L++[(⟨k43,.slice none 0 0,.slice none 0 0,C8 ((kq:Int),x40) kind⟩:RN)])[j3]?=some N4:=by rw [List.getElem?_append_left (List.getElem?_eq_some_iff.1 hx5).1];exact hx5
 have hrg:=hok.at_rng hx5
 refine ZP (Pp N4.nb) (ZP (.string nm) (ZG h (Gla 0 [Ii kq,Ii x40] 2) ?_))
 refine ZD [0] (Gq v45 (L++[(⟨k43,.slice none 0 0,.slice none 0 0,C8 ((kq:Int),x40) kind⟩:RN)]) j3 N4 hx46 nm (kq:Int) x40 (by have:=hok.at_few hx5;omega)) h ?_;rintro u48 L_ w ⟨v47,rfl⟩ h
 have hx49:=Ce (Rx N4 v47 (Bi nm ((kq:Int),x40) N4.a.es)) hx46
 refine Qm (ZP (Pp N4.nb) (ZP (Pp N4.nb) (ZP (Pt N4.nb 3) (ZG h (Gr 3 (Ii N4.a.change) 0 rfl (Cc hx49 3 (by kernel_rfl))) (ZG h (Gw (N4.a.change+1)) (ZP (Pp N4.nb) (ZP (Pt N4.nb 3) ?_)))))))
 refine Fc rfl (b:=N4.nb) 3 [Ii (N4.a.change+1)] h 0 rfl (by kernel_rfl) (L3 hx49 3 [Ii (N4.a.change+1)] (Rw N4 v47 (N4.a.change+1) (Bi nm ((kq:Int),x40) N4.a.es)) (Nat.le_of_ble_eq_true (by kernel_rfl)) (by kernel_rfl) rfl rfl rfl rfl rfl) ?_;intro w h
 have hx50:=Ce (Rw N4 v47 (N4.a.change+1) (Bi nm ((kq:Int),x40) N4.a.es)) hx49
 refine Qm (ZG h (Gla 0 [Ii kq,Ii x40] 2) (ZSs [Ii kq,Ii x40] 4 rfl h fun w h=>ZP (Ii 0) (Qr (B7 (Ar (Li (B7 (Ar ?_))))))))
 refine B5 [Hg kq x40,Ii 0] [3,5,0] h (by kernel_rfl) (Du 0 [Ii kq,Ii x40] (Hg kq x40) 4 rfl (by kernel_rfl) (Ei (by kernel_rfl) Dr)) ?_
 have hnA:=Aew hnod hus (N':=(⟨k43,.slice none 0 0,.slice none 0 0,C8 ((kq:Int),x40) kind⟩:RN)) rfl
 have hT1:((L++[(⟨k43,.slice none 0 0,.slice none 0 0,C8 ((kq:Int),x40) kind⟩:RN)]).set j3 (Rx N4 v47 (Bi nm ((kq:Int),x40) N4.a.es))).map RN.a=Ax ((L++[(⟨k43,.slice none 0 0,.slice none 0 0,C8 ((kq:Int),x40) kind⟩:RN)]).map RN.a) (n,g) nm ((kq:Int),x40):=C7 hnA hx46 hh6 rfl
 have hnB:=Lf hnA hx46 (N':=(Rx N4 v47 (Bi nm ((kq:Int),x40) N4.a.es))) rfl
 have hT2:(((L++[(⟨k43,.slice none 0 0,.slice none 0 0,C8 ((kq:Int),x40) kind⟩:RN)]).set j3 (Rx N4 v47 (Bi nm ((kq:Int),x40) N4.a.es))).set j3 (Rw N4 v47 (N4.a.change+1) (Bi nm ((kq:Int),x40) N4.a.es))).map RN.a=Ap (((L++[(⟨k43,.slice none 0 0,.slice none 0 0,C8 ((kq:Int),x40) kind⟩:RN)]).set j3 (Rx N4 v47 (Bi nm ((kq:Int),x40) N4.a.es))).map RN.a) (n,g):=C7 hnB hx49 hh6 rfl
 refine .inr ⟨kq,v45,((L++[(⟨k43,.slice none 0 0,.slice none 0 0,C8 ((kq:Int),x40) kind⟩:RN)]).set j3 (Rx N4 v47 (Bi nm ((kq:Int),x40) N4.a.es))).set j3 (Rw N4 v47 (N4.a.change+1) (Bi nm ((kq:Int),x40) N4.a.es)),Adv (Aj hnod hx5 hh6) hkd7 hnm9 hkd (Gb hno26) (by omega) (Adk (by omega) hus hno),?_,?_,?_⟩
 · rw [hT2,hT1,List.map_append,← htx];rfl
 · rw [htx];rfl
 · rw [htx];rfl
 exact Ba
 exact Ba
 exact Ba
 refine C9 (D3 (Ek (Ea (Ai (Qs (ZP (Hg 0 0) (ZSs [Ii 0,Ii 0] 2 rfl h fun w h=>ZP (Ii 9) (Qr ?_))))))))
 refine B5 [Hg 0 0,Ii 9] [1,3,0] h (by kernel_rfl) (Du 0 [Ii 0,Ii 0] (Hg 0 0) 2 rfl (by kernel_rfl) (Ei (by kernel_rfl) Dr)) ?_
 exact .inl ⟨9,Ad3 (Aj hnod hx5 hh6) hkd7 hnm9 hkd (Gb hno26) (by omega) (Acw fun q hq=>hno q (by omega)),rfl,rfl⟩
 refine ZP (Ii 4) (Qu (ZP (Ii 4) (ZP (.bool true) (Qg (Qs (ZP (Hg 0 0) (ZP (Ii 4) (ZSs [Ii 0,Ii 0] 2 rfl h fun w h=>ZP (Ii 4) (Qr (Ar ?_))))))))))
 refine B5 [Hg 0 0,Ii 4] [0,3,0] h (by kernel_rfl) (Du 0 [Ii 0,Ii 0] (Hg 0 0) 2 rfl (by kernel_rfl) (Ei (by kernel_rfl) Dr)) ?_
 exact .inl ⟨4,X5 (Aj hnod hx5 hh6) hkd7 hnm9,rfl,rfl⟩
theorem Afq {L:List RN} {i j:Nat} {M N:RN} (h1:L[i]?=some M) (h2:L[j]?=some N) (h:M.a.kind≠N.a.kind):i≠j:=fun e=>by
  subst e;rw [h1] at h2;cases h2;exact h rfl
theorem M5 {es:List Bj} {i:Nat} {e:Bj} (h:e∈es.eraseIdx i):e∈es:=(List.eraseIdx_sublist es i).subset h
theorem Dm.leave {L:List RN} {c:Int} (hok:Dm (L.map RN.a) c) {j:Nat} {N:RN} (hx:L[j]?=some N) (i:Nat) (v:Value):Dm ((L.set j (Rx N v (N.a.es.eraseIdx i))).map RN.a) c:=by
  have hm:N.a∈L.map RN.a:=List.mem_map.2 ⟨N,List.mem_of_getElem? hx,rfl⟩
  exact hok.setN hx rfl (fun e he=>hok.ent N.a hm e (M5 he)) (Nat.le_trans (List.eraseIdx_sublist _ _).length_le (hok.few N.a hm)) (((List.eraseIdx_sublist N.a.es i).map (·.1)).nodup (hok.nms N.a hm)) (hok.rng N.a hm)
theorem Dm.touch {L:List RN} {c:Int} (hok:Dm (L.map RN.a) c) {j:Nat} {N N':RN} (hx:L[j]?=some N) (h:N'.a=⟨N.a.h,N.a.kind,N.a.change+1,N.a.s,N.a.holes,N.a.es,N.a.pins⟩):Dm ((L.set j N').map RN.a) (c+1):=by
  have hr:=hok.at_rng hx
  exact (hok.mono (d:=c+1) (by omega)).setC hx (by rw [h]) (by rw [h]) (by rw [h];exact ⟨by show 0≤N.a.change+1;omega,by show N.a.change+1≤c+1;omega,by show 0≤N.a.pins;omega,by show N.a.pins≤c+1;omega⟩)
theorem Hi {L:List RN} {c:Int} (hok:Dm (L.map RN.a) c) {j:Nat} {N:RN} (hx:L[j]?=some N) {h:Hdl} (hh:N.a.h=h) {i:Nat} {e:Bj} (he:N.a.es[i]?=some e) {nm:ByteArray} (hn:e.1=nm) (v:Value):(L.set j (Rx N v (N.a.es.eraseIdx i))).map RN.a=Al (L.map RN.a) h nm:=
  C7 hok.hnod hx hh (by show (⟨N.a.h,N.a.kind,N.a.change,N.a.s,N.a.holes,N.a.es.eraseIdx i,N.a.pins⟩:AN)=_;rw [Py (hok.at_nms hx) he hn])
theorem Afn {L:List RN} {c:Int} (hok:Dm (L.map RN.a) c) {h:Hdl} {nm:ByteArray} (he:(Ab (L.map RN.a) h nm).2=0):∃ (j:Nat) (N:RN) (i:Nat) (e:Bj) (jK:Nat) (K:RN),L[j]?=some N∧N.a.h=h∧N.a.es[i]?=some e∧e.1=nm∧e.2=(Ab (L.map RN.a) h nm).1∧L[jK]?=some K∧K.a.h=(Ab (L.map RN.a) h nm).1:=by
  unfold Ab at he ⊢
  split at he
  · exact absurd he (by decide)
  · rename_i M hM
    split at he
    · rename_i hkd
      split at he
      · rename_i hnm
        split at he
        · rename_i x hx
          obtain ⟨A,hA,rfl⟩:∃ N∈L,N.a=M:=by
            unfold Bs at hM
            exact List.mem_map.1 (List.mem_of_find?_eq_some hM)
          have hAh:A.a.h=h:=by
            have:=List.find?_some hM
            simpa using this
          obtain ⟨j,hj⟩:=List.getElem?_of_mem hA
          unfold Eg at hx
          obtain ⟨e,he1,rfl⟩:=Option.map_eq_some_iff.1 hx
          obtain ⟨i,hi⟩:=List.getElem?_of_mem (List.mem_of_find?_eq_some he1)
          have hen:e.1=nm:=by have:=List.find?_some he1;simpa using this
          obtain ⟨K,hK,hKh⟩:=hok.hent A hA e (List.mem_of_find?_eq_some he1)
          obtain ⟨jK,hjK⟩:=List.getElem?_of_mem hK
          have hS:(if A.a.kind=2 then if Hy nm=0 then ((e.2,0):Hdl×Nat) else ((0,0),4) else ((0,0),7))=(e.2,0):=by rw [if_pos hkd,if_pos hnm]
          exact ⟨j,A,i,e,jK,K,hj,hAh,hi,hen,(congrArg Prod.fst hS).symm,hjK,hKh.trans (congrArg Prod.fst hS).symm⟩
        · exact absurd he (by decide)
      · exact absurd he (by decide)
    · exact absurd he (by decide)
theorem Xj {L:List RN} {j k:Nat} {N N' K:RN} (hx:L[j]?=some N) (h1:N'.a.h=N.a.h) (hk:L[k]?=some K) {x:Hdl} (hK:K.a.h=x):∃ K',(L.set j N')[k]?=some K'∧K'.a.h=x:=by
  by_cases e:j=k
  · subst e;rw [hx] at hk;cases hk
    exact ⟨N',List.getElem?_set_self (List.getElem?_eq_some_iff.1 hx).1,h1.trans hK⟩
  · exact ⟨K,by rw [List.getElem?_set_ne e];exact hk,hK⟩
section
variable (b:Nat) (mst:Int) (vl vt:Value) (L:List RN) (c:Int) (hc:c≤900000) (hok:Dm (L.map RN.a) c)
include b mst vl vt L c hc hok
theorem W6 (n g m f:Int) (nm:ByteArray) (hnz:nm.size≤100000):Au Tryz.prog 34 #[Pp b,Hg n g,Hg m f,.string nm] [Rt b mst vl vt,rRL vl L] (fun u L'=>∃ L2:List RN,L2.map RN.a=(if Cy (L.map RN.a) (n,g) (m,f) nm=0 then Lo (L.map RN.a) (n,g) (m,f) nm else (L.map RN.a))∧u=Ii ((Cy (L.map RN.a) (n,g) (m,f) nm:Nat):Int)∧L'=[Rt b mst vl vt,rRL vl L2]):=by
 have hl:=hok.hl
 have hnod:=hok.hnod
 have hent:=hok.hent
 have hfew:=hok.hfew
 refine Zo 65 Tryz.func34 fun E w0 w h=>?_
 refine Qs (ZN [Ii n,Ii g] 34 h fun k1 w h=>ZN [Ii m,Ii f] 34 h fun k2 w h=>ZP (Ii 0) (Qm (ZP (Pp b) (ZG h (Gla 0 [Ii n,Ii g] 1) ?_))))
 refine ZD [2,2] (Mm b mst vl vt L n g (by omega)) h ?_;rintro v_ L_ w (⟨j3,N4,hx5,hh6,rfl,rfl⟩|⟨hno7,rfl,rfl⟩) h
 refine ZP (Pp N4.nb) (Qu (ZP (Pp N4.nb) (ZP (.bool false) (Fs (ZP (Pp b) (ZG h (Gla 0 [Ii m,Ii f] 2) ?_))))))
 refine ZD [0,0] (Fz b mst vl vt L m f (by omega)) h ?_;rintro v_ L_ w (⟨hno13,rfl,rfl⟩|⟨j8,N9,hx10,hh11,hkd12,rfl,rfl⟩|⟨j8,N9,hx10,hh11,hkd12,rfl,rfl⟩) h
 refine ZP (Ii 10) (Qu (ZP (Ii 10) (ZP (.bool false) (Ft (ZP (Ii 10) (ZP (.bool true) (Qg (Qs (ZP (Ii 10) (ZP (Ii 10) (Qr (Ar (ZR [Ii 10] [0,0] h ?_)))))))))))))
 have hT:=tK_d (A:=L.map RN.a) (x:=(n,g)) (d:=(m,f)) (nm:=nm) (Aj hnod hx5 hh6) (Fa hno13)
 exact ⟨L,by rw [hT];rfl,by rw [hT];rfl,rfl⟩
 refine ZP (Ii 7) (Qu (ZP (Ii 7) (ZP (.bool false) (Ft (ZP (Ii 7) (ZP (.bool true) (Qg (Qs (ZP (Ii 7) (ZP (Ii 7) (Qr (Ar (ZR [Ii 7] [0,0] h ?_)))))))))))))
 have hT:=Y3 (A:=L.map RN.a) (x:=(n,g)) (d:=(m,f)) (nm:=nm) (Aj hnod hx5 hh6) (Aj hnod hx10 hh11) hkd12
 exact ⟨L,by rw [hT];rfl,by rw [hT];rfl,rfl⟩
 refine ZP (Ii 0) (Qu (ZP (Ii 0) (ZP (.bool true) (Qg (Ah (ZP (.string nm) ?_))))))
 refine ZD [] (Et nm (by omega)) h ?_;rintro v_ L_ w (⟨hnm14,rfl,rfl⟩|⟨hnm14,rfl,rfl⟩) h
 refine ZP (Ii 0) (Qu (ZP (Ii 0) (ZP (.bool false) (Ft (ZP (Pp N4.nb) (ZP (Pp N4.nb) (ZP (Pt N4.nb 2) (ZG h (Gr 2 (Ii N4.a.kind) 1 rfl (Cc hx5 2 (by kernel_rfl))) (ZP (.bool (decide (N4.a.kind=2))) (Qn (Zd (N4.a.kind=2) (fun hc15=>?_) fun hc15=>?_)))))))))))
 refine Qs (ZP (Ii 8) (Qr (Ar (ZR [Ii 8] [0,0] h ?_))))
 have hT:=Adj (A:=L.map RN.a) (x:=(n,g)) (d:=(m,f)) (nm:=nm) (Aj hnod hx5 hh6) (Aj hnod hx10 hh11) hkd12 hnm14 (by omega)
 exact ⟨L,by rw [hT];rfl,by rw [hT];rfl,rfl⟩
 refine Ks (ZP (Pp b) (ZG h (Gla 0 [Ii m,Ii f] 2) (ZC [0,0] (Cr b mst vl vt L (by omega) hnod j8 N9 hx10 m f hh11) h fun w h=>ZP (Pp N9.nb) (Qu (ZP (Pp N9.nb) (ZP (.string nm) ?_))))))
 refine ZD [1] (Ev vl L j8 N9 hx10 nm (by have:=hok.at_few hx10;omega)) h ?_;rintro v_ L_ w (⟨iq16,eq17,he18,hen19,rfl,rfl⟩|⟨hno20,rfl,rfl⟩) h
 have hfliq16:=(List.getElem?_eq_some_iff.1 he18).1
 refine ZP (.bool (decide ((iq16:Int)≥0))) (Qn (Zd ((iq16:Int)≥0) (fun hc21=>?_) fun hc21=>?_))
 refine Qs (ZP (Ii 6) (Qr (Ar (ZR [Ii 6] [1,0] h ?_))))
 have hT:=Af4 (A:=L.map RN.a) (x:=(n,g)) (d:=(m,f)) (nm:=nm) (Aj hnod hx5 hh6) (Aj hnod hx10 hh11) hkd12 hnm14 (by omega) (Bu (hok.at_nms hx10) he18 hen19)
 exact ⟨L,by rw [hT];rfl,by rw [hT];rfl,rfl⟩
 exfalso;omega
 refine ZP (.bool false) (Ft (ZP (Pp N9.nb) (ZP (Pp N9.nb) (ZP (Pt N9.nb 6) (ZG h (Gr 6 N9.ve 0 rfl (Cc hx10 6 (by kernel_rfl))) (ZG h (Dh 107 (by kernel_rfl) 0 rfl (Bo hx10)) ?_))))))
 obtain ⟨b22,hb22⟩:=nmB (decide ((N9.a.es.length:Int)≥60))
 refine ZB hb22 (ZP (.bool b22) (ZM0 (v:=Pp b) b22 h (fun hB=>by subst hB;exact Gp (Pp b)) (ZM0 (v:=Pp N4.nb) b22 h (fun hB=>by subst hB;exact Gp (Pp N4.nb)) ?_)))
 rcases Bool.eq_false_or_eq_true b22 with hc23|hc23
 subst hc23
 have q24:=hb22.symm
 have q24:=dcT q24
 refine Zx (Zx (ZP (.bool true) (Qg (Qs (ZP (Ii 9) (Qr (Ar (ZR [Ii 9] [1,0] h ?_))))))))
 have hT:=Od (A:=L.map RN.a) (x:=(n,g)) (d:=(m,f)) (nm:=nm) (Aj hnod hx5 hh6) (Aj hnod hx10 hh11) hkd12 hnm14 (by omega) (Gb hno20) (by omega)
 exact ⟨L,by rw [hT];rfl,by rw [hT];rfl,rfl⟩
 subst hc23
 have q25:=hb22.symm
 have q25:=dcF q25
 refine ZC [1,0] (Nt b mst vl vt L (by omega) hnod hent hfew j3 N4 hx5) h fun w h=>?_
 obtain ⟨b26,hb26⟩:=nmB (decide (Dv (L.map RN.a) N4.a≥8))
 refine ZB hb26 (ZP (.bool b26) (Qn (Zi (b26) (fun hc27=>?_) fun hc27=>?_)))
 have q28:=hb26.symm.trans hc27
 have q28:=dcT q28
 refine Qs (ZP (Ii 9) (Qr (Ar (ZR [Ii 9] [0,0] h ?_))))
 have hT:=Od (A:=L.map RN.a) (x:=(n,g)) (d:=(m,f)) (nm:=nm) (Aj hnod hx5 hh6) (Aj hnod hx10 hh11) hkd12 hnm14 (by omega) (Gb hno20) (by omega)
 exact ⟨L,by rw [hT];rfl,by rw [hT];rfl,rfl⟩
 have q29:=hb26.symm.trans hc27
 have q29:=dcF q29
 refine Ks ?_
 have hne:=Afq hx5 hx10 (by omega)
 have hrX:=hok.at_rng hx5
 have hrD:=hok.at_rng hx10
 refine ZP (Pp N9.nb) (ZP (.string nm) (ZG h (Gla 0 [Ii n,Ii g] 3) ?_))
 refine ZD [1] (Gq vl L j8 N9 hx10 nm n g (by have:=hok.at_few hx10;omega)) h ?_;rintro u31 L_ w ⟨v30,rfl⟩ h
 have hx32:=Ce (Rx N9 v30 (Bi nm (n,g) N9.a.es)) hx10
 have hx33:(L.set j8 (Rx N9 v30 (Bi nm (n,g) N9.a.es)))[j3]?=some N4:=by rw [List.getElem?_set_ne (Ne.symm hne)];exact hx5
 refine Qm (ZP (Pp N9.nb) (ZP (Pp N9.nb) (ZP (Pt N9.nb 3) (ZG h (Gr 3 (Ii N9.a.change) 0 rfl (Cc hx32 3 (by kernel_rfl))) (ZG h (Gw (N9.a.change+1)) (ZP (Pp N9.nb) (ZP (Pt N9.nb 3) ?_)))))))
 refine Fc rfl (b:=N9.nb) 3 [Ii (N9.a.change+1)] h 0 rfl (by kernel_rfl) (L3 hx32 3 [Ii (N9.a.change+1)] (Rw N9 v30 (N9.a.change+1) (Bi nm (n,g) N9.a.es)) (Nat.le_of_ble_eq_true (by kernel_rfl)) (by kernel_rfl) rfl rfl rfl rfl rfl) ?_;intro w h
 have hx34:=Ce (Rw N9 v30 (N9.a.change+1) (Bi nm (n,g) N9.a.es)) hx32
 have hx35:((L.set j8 (Rx N9 v30 (Bi nm (n,g) N9.a.es))).set j8 (Rw N9 v30 (N9.a.change+1) (Bi nm (n,g) N9.a.es)))[j3]?=some N4:=by rw [List.getElem?_set_ne (Ne.symm hne)];exact hx33
 refine Qm (ZP (Pp N4.nb) (ZP (Pp N4.nb) (ZP (Pt N4.nb 3) (ZG h (Gr 3 (Ii N4.a.change) 0 rfl (Cc hx35 3 (by kernel_rfl))) (ZG h (Gw (N4.a.change+1)) (ZP (Pp N4.nb) (ZP (Pt N4.nb 3) ?_)))))))
 refine Fc rfl (b:=N4.nb) 3 [Ii (N4.a.change+1)] h 0 rfl (by kernel_rfl) (L3 hx35 3 [Ii (N4.a.change+1)] (Rw N4 N4.ve (N4.a.change+1) N4.a.es) (Nat.le_of_ble_eq_true (by kernel_rfl)) (by kernel_rfl) rfl rfl rfl rfl rfl) ?_;intro w h
 have hx36:=Ce (Rw N4 N4.ve (N4.a.change+1) N4.a.es) hx35
 have hx37:(((L.set j8 (Rx N9 v30 (Bi nm (n,g) N9.a.es))).set j8 (Rw N9 v30 (N9.a.change+1) (Bi nm (n,g) N9.a.es))).set j3 (Rw N4 N4.ve (N4.a.change+1) N4.a.es))[j8]?=some (Rw N9 v30 (N9.a.change+1) (Bi nm (n,g) N9.a.es)):=by rw [List.getElem?_set_ne hne];exact hx34
 refine Qm (ZP (Ii 0) (Qr (ZR [Ii 0] [1,0] h ?_)))
 have hT:=Afz (A:=L.map RN.a) (x:=(n,g)) (d:=(m,f)) (nm:=nm) (Aj hnod hx5 hh6) (Aj hnod hx10 hh11) hkd12 hnm14 (by omega) (Gb hno20) (by omega)
 have h1:(L.set j8 (Rx N9 v30 (Bi nm (n,g) N9.a.es))).map RN.a=Ax (L.map RN.a) (m,f) nm (n,g):=C7 hnod hx10 hh11 rfl
 have hn1:=Lf hnod hx10 (N':=(Rx N9 v30 (Bi nm (n,g) N9.a.es))) rfl
 have hy1:(L.set j8 (Rx N9 v30 (Bi nm (n,g) N9.a.es)))[j8]?=some (Rx N9 v30 (Bi nm (n,g) N9.a.es)):=List.getElem?_set_self (List.getElem?_eq_some_iff.1 hx10).1
 have h2:((L.set j8 (Rx N9 v30 (Bi nm (n,g) N9.a.es))).set j8 (Rw N9 v30 (N9.a.change+1) (Bi nm (n,g) N9.a.es))).map RN.a=Ap ((L.set j8 (Rx N9 v30 (Bi nm (n,g) N9.a.es))).map RN.a) (m,f):=C7 hn1 hy1 hh11 rfl
 have hn2:=Lf hn1 hy1 (N':=(Rw N9 v30 (N9.a.change+1) (Bi nm (n,g) N9.a.es))) rfl
 have hz:((L.set j8 (Rx N9 v30 (Bi nm (n,g) N9.a.es))).set j8 (Rw N9 v30 (N9.a.change+1) (Bi nm (n,g) N9.a.es)))[j3]?=some N4:=by rw [List.getElem?_set_ne (Ne.symm hne),List.getElem?_set_ne (Ne.symm hne)];exact hx5
 have h3:(((L.set j8 (Rx N9 v30 (Bi nm (n,g) N9.a.es))).set j8 (Rw N9 v30 (N9.a.change+1) (Bi nm (n,g) N9.a.es))).set j3 (Rw N4 N4.ve (N4.a.change+1) N4.a.es)).map RN.a=Ap (((L.set j8 (Rx N9 v30 (Bi nm (n,g) N9.a.es))).set j8 (Rw N9 v30 (N9.a.change+1) (Bi nm (n,g) N9.a.es))).map RN.a) (n,g):=C7 hn2 hz hh6 rfl
 exact ⟨((L.set j8 (Rx N9 v30 (Bi nm (n,g) N9.a.es))).set j8 (Rw N9 v30 (N9.a.change+1) (Bi nm (n,g) N9.a.es))).set j3 (Rw N4 N4.ve (N4.a.change+1) N4.a.es),by rw [hT,h3,h2,h1];rfl,by rw [hT];rfl,rfl⟩
 refine ZP (Ii 4) (Qu (ZP (Ii 4) (ZP (.bool true) (Qg (Qs (ZP (Ii 4) (ZP (Ii 4) (Qr (Ar (ZR [Ii 4] [0,0] h ?_))))))))))
 have hT:=Xv (A:=L.map RN.a) (x:=(n,g)) (d:=(m,f)) (nm:=nm) (Aj hnod hx5 hh6) (Aj hnod hx10 hh11) hkd12 hnm14
 exact ⟨L,by rw [hT];rfl,by rw [hT];rfl,rfl⟩
 refine ZP (.pointer none) (Qu (ZP (.pointer none) (ZP (.bool true) (Qg (Qs (ZP (Ii 10) (Qr (Ar (ZR [Ii 10] [0,0] h ?_)))))))))
 have hT:=tK_x (A:=L.map RN.a) (x:=(n,g)) (d:=(m,f)) (nm:=nm) (Fa hno7)
 exact ⟨L,by rw [hT];rfl,by rw [hT];rfl,rfl⟩
theorem Sk (n g:Int) (nm:ByteArray) (hnz:nm.size≤100000):Au Tryz.prog 36 #[Pp b,Hg n g,.string nm] [Rt b mst vl vt,rRL vl L] (fun u L'=>∃ (v':Value) (L2:List RN),L2.map RN.a=(if Cf (L.map RN.a) (n,g) nm=0 then Dz (L.map RN.a) (n,g) nm else (L.map RN.a))∧u=Ii ((Cf (L.map RN.a) (n,g) nm:Nat):Int)∧L'=[Rt b mst v' vt,rRL v' L2]):=by
 have hl:=hok.hl
 have hnod:=hok.hnod
 have hent:=hok.hent
 have hfew:=hok.hfew
 refine Zo 43 Tryz.func36 fun E w0 w h=>?_
 refine Qs (ZN [Ii n,Ii g] 34 h fun k1 w h=>ZP (Ii 0) (Qm (ZP (Pp b) (ZG h (Gla 0 [Ii n,Ii g] 0) (ZP (.string nm) (ZC [1,1] (H0 b mst vl vt L c (by omega) hok n g nm (by omega)) h fun w h=>ZP (.tuple #[.agg #[Ii ((Ab (L.map RN.a) (n,g) nm).1.1),Ii ((Ab (L.map RN.a) (n,g) nm).1.2)],Ii ((Ab (L.map RN.a) (n,g) nm).2:Int)]) (ZP (.agg #[Ii ((Ab (L.map RN.a) (n,g) nm).1.1),Ii ((Ab (L.map RN.a) (n,g) nm).1.2)]) (ZP (Ii ((Ab (L.map RN.a) (n,g) nm).2:Int)) (ZN [Ii 0,Ii 0] 34 h fun k2 w h=>ZSs [Ii ((Ab (L.map RN.a) (n,g) nm).1.1),Ii ((Ab (L.map RN.a) (n,g) nm).1.2)] 0 rfl h fun w h=>ZP (Ii ((Ab (L.map RN.a) (n,g) nm).2:Int)) (Qu (ZP (Ii ((Ab (L.map RN.a) (n,g) nm).2:Int)) (ZP (.bool (decide (((Ab (L.map RN.a) (n,g) nm).2:Int)>0))) (Qn (Zd (((Ab (L.map RN.a) (n,g) nm).2:Int)>0) (fun hc3=>?_) fun hc3=>?_))))))))))))))
 refine Qs (ZP (Ii ((Ab (L.map RN.a) (n,g) nm).2:Int)) (ZP (Ii ((Ab (L.map RN.a) (n,g) nm).2:Int)) (Qr (Ar (ZR [Ii ((Ab (L.map RN.a) (n,g) nm).2:Int)] [1,1] h ?_)))))
 have hT:Cf (L.map RN.a) (n,g) nm=(Ab (L.map RN.a) (n,g) nm).2:=if_neg (by omega)
 exact ⟨vl,L,by rw [hT];exact (if_neg (by omega)).symm,by rw [hT];rfl,rfl⟩
 obtain ⟨j,N,i,e,jK,K,hx,hh,he,hen,hE,hxK,hKh⟩:=Afn hok (h:=(n,g)) (nm:=nm) (by omega)
 have hrD:=hok.at_rng hx
 refine Kw (ZP (Pp b) (ZG h (Gla 0 [Ii ((Ab (L.map RN.a) (n,g) nm).1.1),Ii ((Ab (L.map RN.a) (n,g) nm).1.2)] 0) (ZC [1,1] (Cr b mst vl vt L (by omega) hnod jK K hxK ((Ab (L.map RN.a) (n,g) nm).1.1) ((Ab (L.map RN.a) (n,g) nm).1.2) hKh) h fun w h=>ZP (Pp K.nb) (ZP (Pt K.nb 6) (ZG h (Gr 6 K.ve 1 rfl (Cc hxK 6 (by kernel_rfl))) (ZG h (Dh 107 (by kernel_rfl) 1 rfl (Bo hxK)) (ZP (.bool (decide ((K.a.es.length:Int)>0))) (Qn (Zd ((K.a.es.length:Int)>0) (fun hc4=>?_) fun hc4=>?_)))))))))
 refine Qs (ZP (Ii 11) (Qr (Ar (ZR [Ii 11] [0,0] h ?_))))
 have hT0:Cf (L.map RN.a) (n,g) nm=if 0<K.a.es.length then 11 else 0:=by unfold Cf;rw [if_pos (by omega),(Aj hnod hxK hKh)]
 rw [if_pos (by omega)] at hT0
 exact ⟨vl,L,by rw [hT0];rfl,by rw [hT0];rfl,rfl⟩
 refine Ks (ZP (Pp b) (ZG h (Gla 0 [Ii n,Ii g] 3) (ZC [0,0] (Cr b mst vl vt L (by omega) hnod j N hx n g hh) h fun w h=>ZP (Pp N.nb) (Qm (ZP (Pp N.nb) (ZP (Pp N.nb) (ZP (.string nm) ?_)))))))
 refine ZD [1] (Ev vl L j N hx nm (by have:=hok.at_few hx;omega)) h ?_;rintro v_ L_ w (⟨iq5,eq6,he7,hen8,rfl,rfl⟩|⟨hno9,rfl,rfl⟩) h
 have hfliq5:=(List.getElem?_eq_some_iff.1 he7).1
 refine ZD [0] (Fy vl L j N hx iq5 (by have:=hok.at_few hx;omega) (by omega)) h ?_;rintro u11 L_ w ⟨v10,rfl⟩ h
 have hx12:=Ce (Rx N v10 (N.a.es.eraseIdx iq5)) hx
 refine Qm (ZP (Pp N.nb) (ZP (Pp N.nb) (ZP (Pt N.nb 3) (ZG h (Gr 3 (Ii N.a.change) 0 rfl (Cc hx12 3 (by kernel_rfl))) (ZG h (Gw (N.a.change+1)) (ZP (Pp N.nb) (ZP (Pt N.nb 3) ?_)))))))
 refine Fc rfl (b:=N.nb) 3 [Ii (N.a.change+1)] h 0 rfl (by kernel_rfl) (L3 hx12 3 [Ii (N.a.change+1)] (Rw N v10 (N.a.change+1) (N.a.es.eraseIdx iq5)) (Nat.le_of_ble_eq_true (by kernel_rfl)) (by kernel_rfl) rfl rfl rfl rfl rfl) ?_;intro w h
 have hx13:=Ce (Rw N v10 (N.a.change+1) (N.a.es.eraseIdx iq5)) hx12
 refine Qm (ZP (Pp b) (ZG h (Gla 0 [Ii ((Ab (L.map RN.a) (n,g) nm).1.1),Ii ((Ab (L.map RN.a) (n,g) nm).1.2)] 2) ?_))
 have hy1:(L.set j (Rx N v10 (N.a.es.eraseIdx iq5)))[j]?=some (Rx N v10 (N.a.es.eraseIdx iq5)):=List.getElem?_set_self (List.getElem?_eq_some_iff.1 hx).1
 obtain ⟨K1,hK1,hKh1⟩:=Xj (N':=(Rx N v10 (N.a.es.eraseIdx iq5))) hx rfl hxK hKh
 obtain ⟨K2,hK2,hKh2⟩:=Xj (N':=(Rw N v10 (N.a.change+1) (N.a.es.eraseIdx iq5))) hy1 rfl hK1 hKh1
 refine ZD [1,0] (Lu b mst vl vt ((L.set j (Rx N v10 (N.a.es.eraseIdx iq5))).set j (Rw N v10 (N.a.change+1) (N.a.es.eraseIdx iq5))) (c+1) (by omega) ((hok.leave hx _ _).touch (List.getElem?_set_self (List.getElem?_eq_some_iff.1 hx).1) rfl) jK K2 hK2 ((Ab (L.map RN.a) (n,g) nm).1.1) ((Ab (L.map RN.a) (n,g) nm).1.2) hKh2) h ?_;rintro u15 L_ w ⟨v14,L16,hA17,hA17K,rfl⟩ h
 refine Qm (ZP (Ii 0) (Qr (ZR [Ii 0] [0,0] h ?_)))
 have hT0:Cf (L.map RN.a) (n,g) nm=if 0<K.a.es.length then 11 else 0:=by unfold Cf;rw [if_pos (by omega),(Aj hnod hxK hKh)]
 rw [if_neg (by omega)] at hT0
 have h1:(L.set j (Rx N v10 (N.a.es.eraseIdx iq5))).map RN.a=Al (L.map RN.a) (n,g) nm:=Hi hok hx hh he7 hen8 _
 have hn1:=Lf hnod hx (N':=(Rx N v10 (N.a.es.eraseIdx iq5))) rfl
 have h2:((L.set j (Rx N v10 (N.a.es.eraseIdx iq5))).set j (Rw N v10 (N.a.change+1) (N.a.es.eraseIdx iq5))).map RN.a=Ap ((L.set j (Rx N v10 (N.a.es.eraseIdx iq5))).map RN.a) (n,g):=C7 hn1 hy1 hh rfl
 exact ⟨v14,L16,by rw [hT0,hA17,h2,h1];rfl,by rw [hT0];rfl,rfl⟩
 exact absurd hen (hno9 e (List.mem_of_getElem? he))
theorem Aaf (n g:Int):Au Tryz.prog 43 #[Pp b,Hg n g] [Rt b mst vl vt,rRL vl L] (fun u L'=>∃ L2:List RN,L2.map RN.a=(if El (L.map RN.a) (n,g)=0 then G4 (L.map RN.a) (n,g) 1 else (L.map RN.a))∧u=Ii ((El (L.map RN.a) (n,g):Nat):Int)∧L'=[Rt b mst vl vt,rRL vl L2]):=by
 have hl:=hok.hl
 have hnod:=hok.hnod
 have hent:=hok.hent
 have hfew:=hok.hfew
 refine Zo 19 Tryz.func43 fun E w0 w h=>?_
 refine Qs (ZN [Ii n,Ii g] 34 h fun k1 w h=>ZP (Ii 0) (Qm (ZP (Pp b) (ZG h (Gla 0 [Ii n,Ii g] 0) ?_))))
 refine ZD [1,1] (Jg b mst vl vt L n g (by omega)) h ?_;rintro v_ L_ w (⟨hno7,rfl,rfl⟩|⟨j2,N3,hx4,hh5,hkd6,rfl,rfl⟩|⟨j2,N3,hx4,hh5,hkd6,rfl,rfl⟩) h
 refine ZP (Ii 10) (Qu (ZP (Ii 10) (ZP (.bool false) (Fs (ZP (Ii 10) (ZP (Ii 10) (Qr (ZR [Ii 10] [0,0] h ?_))))))))
 have hT:=X0 (A:=L.map RN.a) (h:=(n,g)) (Fa hno7)
 exact ⟨L,by rw [hT];rfl,by rw [hT];rfl,rfl⟩
 refine ZP (Ii 8) (Qu (ZP (Ii 8) (ZP (.bool false) (Fs (ZP (Ii 8) (ZP (Ii 8) (Qr (ZR [Ii 8] [0,0] h ?_))))))))
 have hT:=Ab6 (A:=L.map RN.a) (h:=(n,g)) (Aj hnod hx4 hh5) hkd6
 exact ⟨L,by rw [hT];rfl,by rw [hT];rfl,rfl⟩
 refine ZP (Ii 0) (Qu (ZP (Ii 0) (ZP (.bool true) (Qg (Ah ?_)))))
 have hrD:=hok.at_rng hx4
 refine ZP (Pp b) (ZG h (Gla 0 [Ii n,Ii g] 2) (ZC [0,0] (Cr b mst vl vt L (by omega) hnod j2 N3 hx4 n g hh5) h fun w h=>ZP (Pp N3.nb) (ZP (Pt N3.nb 7) (ZG h (Gr 7 (Ii N3.a.pins) 1 rfl (Cc hx4 7 (by kernel_rfl))) (ZG h (Gw (N3.a.pins+1)) (ZP (Pp N3.nb) (ZP (Pt N3.nb 7) ?_)))))))
 refine Fc rfl (b:=N3.nb) 7 [Ii (N3.a.pins+1)] h 1 rfl (by kernel_rfl) (L3 hx4 7 [Ii (N3.a.pins+1)] (⟨N3.nb,N3.vh,N3.ve,⟨N3.a.h,N3.a.kind,N3.a.change,N3.a.s,N3.a.holes,N3.a.es,N3.a.pins+1⟩⟩:RN) (Nat.le_of_ble_eq_true (by kernel_rfl)) (by kernel_rfl) rfl rfl rfl rfl rfl) ?_;intro w h
 have hx8:=Ce (⟨N3.nb,N3.vh,N3.ve,⟨N3.a.h,N3.a.kind,N3.a.change,N3.a.s,N3.a.holes,N3.a.es,N3.a.pins+1⟩⟩:RN) hx4
 refine Qm (ZP (Ii 0) (ZP (Ii 0) (Qr (ZR [Ii 0] [0,0] h ?_))))
 have hT:=Agd (A:=L.map RN.a) (h:=(n,g)) (Aj hnod hx4 hh5) hkd6
 exact ⟨L.set j2 (⟨N3.nb,N3.vh,N3.ve,⟨N3.a.h,N3.a.kind,N3.a.change,N3.a.s,N3.a.holes,N3.a.es,N3.a.pins+1⟩⟩:RN),by rw [hT];exact C7 hnod hx4 hh5 rfl,by rw [hT];rfl,rfl⟩
theorem Ue (n g:Int):Au Tryz.prog 45 #[Pp b,Hg n g] [Rt b mst vl vt,rRL vl L] (fun u L'=>∃ (v':Value) (L2:List RN),L2.map RN.a=(if Cj (L.map RN.a) (n,g)=0 then Gj (G4 (L.map RN.a) (n,g) (-1)) else (L.map RN.a))∧u=Ii ((Cj (L.map RN.a) (n,g):Nat):Int)∧L'=[Rt b mst v' vt,rRL v' L2]):=by
 have hl:=hok.hl
 have hnod:=hok.hnod
 have hent:=hok.hent
 have hfew:=hok.hfew
 refine Zo 28 Tryz.func45 fun E w0 w h=>?_
 refine Qs (ZN [Ii n,Ii g] 34 h fun k1 w h=>ZP (Ii 0) (Qm (ZP (Pp b) (ZG h (Gla 0 [Ii n,Ii g] 0) ?_))))
 refine ZD [1,1] (Jg b mst vl vt L n g (by omega)) h ?_;rintro v_ L_ w (⟨hno7,rfl,rfl⟩|⟨j2,N3,hx4,hh5,hkd6,rfl,rfl⟩|⟨j2,N3,hx4,hh5,hkd6,rfl,rfl⟩) h
 refine ZP (Ii 10) (Qu (ZP (Ii 10) (ZP (.bool true) (Qg (Qs (ZP (Ii 10) (ZP (Ii 10) (Qr (Ar (ZR [Ii 10] [0,0] h ?_))))))))))
 have hT:Cj (L.map RN.a) (n,g)=10:=by unfold Cj;rw [Fa hno7]
 exact ⟨vl,L,by rw [hT];rfl,by rw [hT];rfl,rfl⟩
 refine ZP (Ii 8) (Qu (ZP (Ii 8) (ZP (.bool true) (Qg (Qs (ZP (Ii 8) (ZP (Ii 8) (Qr (Ar (ZR [Ii 8] [0,0] h ?_))))))))))
 have hT:Cj (L.map RN.a) (n,g)=8:=by unfold Cj;rw [Aj hnod hx4 hh5];simp only [if_neg hkd6]
 exact ⟨vl,L,by rw [hT];rfl,by rw [hT];rfl,rfl⟩
 refine ZP (Ii 0) (Qu (ZP (Ii 0) (ZP (.bool false) (Fs ?_))))
 have hrD:=hok.at_rng hx4
 refine ZP (Pp b) (ZG h (Gla 0 [Ii n,Ii g] 2) (ZC [0,0] (Cr b mst vl vt L (by omega) hnod j2 N3 hx4 n g hh5) h fun w h=>ZP (Pp N3.nb) (Qu (ZP (Pp N3.nb) (ZP (Pp N3.nb) (ZP (Pt N3.nb 7) (ZG h (Gr 7 (Ii N3.a.pins) 1 rfl (Cc hx4 7 (by kernel_rfl))) (ZP (.bool (decide (N3.a.pins=0))) (Qn (Zd (N3.a.pins=0) (fun hc8=>?_) fun hc8=>?_))))))))))
 refine Qs (ZP (Ii 5) (Qr (Ar (ZR [Ii 5] [0,0] h ?_))))
 have hT:Cj (L.map RN.a) (n,g)=5:=by unfold Cj;rw [Aj hnod hx4 hh5];simp only [if_pos hkd6,if_pos (show N3.a.pins=0 by omega)]
 exact ⟨vl,L,by rw [hT];rfl,by rw [hT];rfl,rfl⟩
 refine Ks (ZP (Pp N3.nb) (ZP (Pp N3.nb) (ZP (Pt N3.nb 7) (ZG h (Gr 7 (Ii N3.a.pins) 1 rfl (Cc hx4 7 (by kernel_rfl))) (ZG h (Gw (N3.a.pins - 1)) (ZP (Pp N3.nb) (ZP (Pt N3.nb 7) ?_)))))))
 refine Fc rfl (b:=N3.nb) 7 [Ii (N3.a.pins - 1)] h 1 rfl (by kernel_rfl) (L3 hx4 7 [Ii (N3.a.pins - 1)] (⟨N3.nb,N3.vh,N3.ve,⟨N3.a.h,N3.a.kind,N3.a.change,N3.a.s,N3.a.holes,N3.a.es,N3.a.pins - 1⟩⟩:RN) (Nat.le_of_ble_eq_true (by kernel_rfl)) (by kernel_rfl) rfl rfl rfl rfl rfl) ?_;intro w h
 have hx9:=Ce (⟨N3.nb,N3.vh,N3.ve,⟨N3.a.h,N3.a.kind,N3.a.change,N3.a.s,N3.a.holes,N3.a.es,N3.a.pins - 1⟩⟩:RN) hx4
 refine Qm (ZP (Pp b) ?_)
 refine ZD [0,0] (Nk b mst vl vt (L.set j2 (⟨N3.nb,N3.vh,N3.ve,⟨N3.a.h,N3.a.kind,N3.a.change,N3.a.s,N3.a.holes,N3.a.es,N3.a.pins - 1⟩⟩:RN)) c (by omega) (hok.setC (N':=(⟨N3.nb,N3.vh,N3.ve,⟨N3.a.h,N3.a.kind,N3.a.change,N3.a.s,N3.a.holes,N3.a.es,N3.a.pins - 1⟩⟩:RN)) hx4 rfl rfl ⟨by show 0≤N3.a.change;omega,by show N3.a.change≤c;omega,by show 0≤N3.a.pins - 1;omega,by show N3.a.pins - 1≤c;omega⟩)) h ?_;rintro u11 L_ w ⟨v10,rfl⟩ h
 refine Qm (ZP (Ii 0) (Qr (ZR [Ii 0] [0,0] h ?_)))
 have hT:Cj (L.map RN.a) (n,g)=0:=by unfold Cj;rw [Aj hnod hx4 hh5];simp only [if_pos hkd6,if_neg (show ¬N3.a.pins=0 by omega)]
 have hS:(L.set j2 (⟨N3.nb,N3.vh,N3.ve,⟨N3.a.h,N3.a.kind,N3.a.change,N3.a.s,N3.a.holes,N3.a.es,N3.a.pins - 1⟩⟩:RN)).map RN.a=G4 (L.map RN.a) (n,g) (-1):=C7 hnod hx4 hh5 rfl
 refine ⟨v10,(L.set j2 (⟨N3.nb,N3.vh,N3.ve,⟨N3.a.h,N3.a.kind,N3.a.change,N3.a.s,N3.a.holes,N3.a.es,N3.a.pins - 1⟩⟩:RN)).filter (fun N=>Ej ((L.set j2 (⟨N3.nb,N3.vh,N3.ve,⟨N3.a.h,N3.a.kind,N3.a.change,N3.a.s,N3.a.holes,N3.a.es,N3.a.pins - 1⟩⟩:RN)).map RN.a) N.a),?_,by rw [hT];rfl,rfl⟩
 rw [hT,Pu (p:=Ej ((L.set j2 (⟨N3.nb,N3.vh,N3.ve,⟨N3.a.h,N3.a.kind,N3.a.change,N3.a.s,N3.a.holes,N3.a.es,N3.a.pins - 1⟩⟩:RN)).map RN.a)),hS]
 rfl
end
section
variable {P:Program} {w:World} {ops:Array Oper} {rest:List Oper} {o:Oper} {a:Act} {Q:Exit→Act→World→Prop}
end
def Gv (kv:Dy) (j:Nat):UInt8:=((G9 kv (j/64))[j % 64]?).getD 0
def Oa (kv:Dy) (p m:Nat):List UInt8:=(List.range m).map fun i=>Gv kv (p+i)
def Ku (sz:Nat) (p n:Int):Nat:=(max 0 (min n (sz - p))).toNat
def Abs (d:Fo) (p n:Int):ByteArray×Bool×Nat:=
  if p<0∨n<0 then (⟨#[]⟩,false,2) else (⟨(Oa d.kv p.toNat (Ku d.size p n)).toArray⟩,decide ((d.size:Int) - Ku d.size p n≤p),0)
theorem Aco (m:Nat):(Dx (List.replicate m 0)).toArray=Array.replicate m (.int .u8 0):=by
  simp [Dx]
theorem Acd (w:World) (m:Nat) (hm:m≤281474976710656) :
    (Instr.makeSlice 167 (.int .i64 (m:Int)) (.int .i64 (m:Int))).run Tryz.prog w=.ok (.slice (some ⟨w.heap.size,0,none⟩) m m) (w.alloc (.cells (Dx (List.replicate m 0)).toArray 5)):=by
  obtain ⟨i,hi,hz0,hz1,hz2⟩:=info_parts (show (Tryz.prog.info? 5).map (fun i=>(i.zero,i.size,i.bytes))=some (some (.int .u8 0),1,1) by kernel_rfl)
  have h:=run_make (P:=Tryz.prog) w 167 5 i (.int .u8 0) Tryz.underlying167 hi hz0 .i64 .i64 m m (by omega) (by omega) (by rw [hz2];omega) (by omega)
  rw [h]
  have e:madeCells (Value.cells (.int .u8 0)) ((m:Int).toNat*i.size)=(Dx (List.replicate m 0)).toArray:=by
    rw [hz1,Aco]
    apply Array.ext
    · simp [madeCells]
    · intro i h1 h2
      simp [madeCells,Value.cells,Nat.mod_one]
  rw [e];simp
end Go.Proofs.YtpojpkhpddnmjaaGreatDoor
