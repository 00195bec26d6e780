/- Lemmas: part 2. -/
import Derived.Test.YtpojpkhpddnmjaaGreatDoorP1
import Derived.LaidEql
import Derived.Stop.Asserts
import Derived.RowKitTokens
import Derived.Lib.SliceRun
import Derived.Laws.IdiomCopy
import Derived.IntWalk
import Derived.Lib.ConvBytes
import Derived.Deep.RegionHeld3
set_option linter.all false
set_option maxRecDepth 100000
set_option maxHeartbeats 20000000
namespace Go.Proofs.YtpojpkhpddnmjaaGreatDoor
open Go.RowKit
section
open Go.RowKit Go.Extern.Stop Go.Stop Go.Extern
theorem Sm (t:Addr) (w:World):(ReflectliteValue.unpack (.iface 161 (.pointer (some t)))).run Tryz.prog w
    = .ok (.agg #[.pointer (some ⟨16,161,none⟩),.pointer (some ⟨w.heap.size,0,none⟩),.int .u64 150]) (w.alloc (.cells #[.pointer (some t)] 161)):=by kernel_rfl
theorem Yv (a : Addr) (w : World) : (ReflectliteValue.methodAny (ReflectliteValue.valueError "reflectlite.Value.Type" 0) (fun t _ _ _ => ReflectliteType.toType t) #[.agg #[.pointer (some ⟨16, 161, none⟩), .pointer (some a), .int .u64 150]]).run Tryz.prog w
    = .ok (.iface 197 (.agg #[.pointer (some ⟨16,161,none⟩)])) w:=by kernel_rfl
theorem Qd (h : Value) (w : World) : (Go.method 364 197 (.agg #[h]) "Kind").run Tryz.prog w = .ok (141, h) w := by kernel_rfl
theorem Zp (w:World):((ReflectliteType.abiMethod fun t=>(fun a:Nat=>Value.int IntKind.u8 (a:Int)) <$> Rtype.kind t) #[.pointer (some ⟨16,161,none⟩)]).run Tryz.prog w=.ok (.int .u8 22) w:=by kernel_rfl
theorem Aac (w:World):((ReflectliteType.abiMethod fun t=>(fun a:Nat=>Value.int IntKind.u8 (a:Int)) <$> Rtype.kind t) #[.pointer (some ⟨16,127,none⟩)]).run Tryz.prog w=.ok (.int .u8 22) w:=by kernel_rfl
theorem rlm (z:Sem Value) (f:TypeId→Addr→Nat→Nat→Sem Value) (v:Value) :
    ReflectliteValue.method z f #[v]=(do match ← ReflectliteValue.parts v with|none=>z|some (t,a,fl)=>f t a fl (fl % 32)):=rfl
theorem Wr (a:Addr) (w:World):(ReflectliteValue.parts (.agg #[.pointer (some ⟨16,161,none⟩),.pointer (some a),.int .u64 150])).run Tryz.prog w=.ok (some (161,a,150)) w:=by kernel_rfl
theorem Vw (a p:Addr) (W:World) (ha:W.cell? a=some (.pointer (some p))) :
    (ReflectliteValue.method (ReflectliteValue.valueError "reflectlite.Value.IsNil" 0) ReflectliteValue.isNil #[.agg #[.pointer (some ⟨16, 161, none⟩), .pointer (some a), .int .u64 150]]).run Tryz.prog W = .ok (.bool false) W := by
  rw [rlm]
  simp only [Sem.run_bind,Wr,Result.andThen]
  simp [ReflectliteValue.isNil,loadVar,isAgg,underlying,Tryz.underlying161,ha,Result.andThen]
theorem Ql (h : Value) (w : World) : (Go.method 364 197 (.agg #[h]) "Elem").run Tryz.prog w = .ok (155, .agg #[h]) w := by kernel_rfl
theorem Lc (h : Value) (w : World) : (Go.method 364 197 (.agg #[h]) "Implements").run Tryz.prog w = .ok (156, .agg #[h]) w := by kernel_rfl
theorem J3 (h : Value) (w : World) : (Go.method 364 197 (.agg #[h]) "AssignableTo").run Tryz.prog w = .ok (153, .agg #[h]) w := by kernel_rfl
theorem Yw (w:World):(ReflectliteType.method ReflectliteType.elem #[.agg #[.pointer (some ⟨16,161,none⟩)]]).run Tryz.prog w=.ok (.iface 197 (.agg #[.pointer (some ⟨16,127,none⟩)])) w:=by kernel_rfl
theorem Nr (w : World) : (ReflectliteType.relation "Implements" ReflectliteType.implements_ #[.agg #[.pointer (some ⟨16, 127, none⟩)], .iface 197 (.agg #[.pointer (some ⟨16, 27, none⟩)])]).run Tryz.prog w = .ok (.bool true) w := by kernel_rfl
theorem V6 (v:Value) (w:World):(ReflectliteType.typeOf #[.iface 232 v]).run Tryz.prog w=.ok (.iface 197 (.agg #[.pointer (some ⟨16,232,none⟩)])) w:=by kernel_rfl
theorem Ph (w : World) : (ReflectliteType.relation "AssignableTo" ReflectliteType.assignableTo #[.agg #[.pointer (some ⟨16, 232, none⟩)], .iface 197 (.agg #[.pointer (some ⟨16, 127, none⟩)])]).run Tryz.prog w = .ok (.bool false) w := by kernel_rfl
theorem Abj (v:Value) (xT:TypeId) (w:World):(Instr.typeAssert (.iface 232 v) xT 201 true).run Tryz.prog w=.ok (.tuple #[.nilIface,.bool false]) w:=run_typeAssert_lacksB Tryz.underlying201 (by kernel_rfl) (by kernel_rfl) v xT w
theorem Adf (v:Value) (xT:TypeId) (w:World):(Instr.typeAssert (.iface 232 v) xT 208 true).run Tryz.prog w=.ok (.tuple #[.nilIface,.bool false]) w:=run_typeAssert_lacksB Tryz.underlying208 (by kernel_rfl) (by kernel_rfl) v xT w
theorem Mg (v:Value) (xT:TypeId) (w:World):(Instr.typeAssert (.iface 232 v) xT 204 true).run Tryz.prog w=.ok (.tuple #[.nilIface,.bool false]) w:=run_typeAssert_lacksB Tryz.underlying204 (by kernel_rfl) (by kernel_rfl) v xT w
theorem Li (v:Value) (xT:TypeId) (w:World):(Instr.typeAssert (.iface 232 v) xT 206 true).run Tryz.prog w=.ok (.tuple #[.nilIface,.bool false]) w:=run_typeAssert_lacksB Tryz.underlying206 (by kernel_rfl) (by kernel_rfl) v xT w
theorem Le (v:Value) (w:World):(callFunc 101 #[.iface 232 v]).run Tryz.prog w=.ok (.value (.iface 197 (.agg #[.pointer (some ⟨16,232,none⟩)]))) w:=by kernel_rfl
theorem I2 (w:World):(callFunc 154 #[.agg #[.pointer (some ⟨16,232,none⟩)]]).run Tryz.prog w=.ok (.value (.bool true)) w:=by kernel_rfl
theorem Hi (v : Value) (w : World) : (Go.method 364 197 v "Comparable").run Tryz.prog w = .ok (154, v) w := by kernel_rfl
theorem Rq:(Tryz.prog.info? 232).map (·.comparable)=some true:=by kernel_rfl
theorem Rf:(Tryz.prog.info? 253).map (·.size)=some 1:=by kernel_rfl
theorem Afi (x:Value) (t:Addr) (old:Value) (w:World) (hg:w.cell? ⟨15,0,none⟩=some (.iface 197 (.agg #[.pointer (some ⟨16,27,none⟩)]))) (ht0:w.cell? t=some old) (hf0:w.frozen? t=false) :
    Calls Tryz.prog 82 #[.iface 232 x,.iface 161 (.pointer (some t))] w fun ev w'=>ev=.returned (.bool false)∧w'=((w.alloc (.cells #[.pointer (some t)] 161)).alloc (.cells #[.pointer (some ⟨16,161,none⟩),.pointer (some ⟨w.heap.size,0,none⟩),.int .u64 150] 180)).alloc (.cells #[.pointer (some ⟨16,161,none⟩),.pointer (some ⟨w.heap.size,0,none⟩),.int .u64 150] 180):=by
  have h6:=@run_callFunc_extern Tryz.prog 97 _ (fun args=>ReflectliteValue.unpack (args.getD 0 (.tuple #[]))) Tryz.func97 (by kernel_rfl) (by kernel_rfl) (by kernel_rfl) (by kernel_rfl)
  have h7 := @run_callFunc_extern Tryz.prog 98 _ (ReflectliteValue.methodAny (ReflectliteValue.valueError "reflectlite.Value.Type" 0) (fun t _ _ _ => ReflectliteType.toType t)) Tryz.func98 (by kernel_rfl) (by kernel_rfl) (by kernel_rfl) (by kernel_rfl)
  have h8 := @run_callFunc_extern Tryz.prog 99 _ (ReflectliteValue.method (ReflectliteValue.valueError "reflectlite.Value.IsNil" 0) ReflectliteValue.isNil) Tryz.func99 (by kernel_rfl) (by kernel_rfl) (by kernel_rfl) (by kernel_rfl)
  have h27:=@run_callFunc_extern Tryz.prog 141 _ (ReflectliteType.abiMethod fun t=>do pure (.int .u8 (← Rtype.kind t))) Tryz.func141 (by kernel_rfl) (by kernel_rfl) (by kernel_rfl) (by kernel_rfl)
  have h37:=@run_callFunc_extern Tryz.prog 155 _ (ReflectliteType.method ReflectliteType.elem) Tryz.func155 (by kernel_rfl) (by kernel_rfl) (by kernel_rfl) (by kernel_rfl)
  have h38 := @run_callFunc_extern Tryz.prog 156 _ (ReflectliteType.relation "Implements" ReflectliteType.implements_) Tryz.func156 (by kernel_rfl) (by kernel_rfl) (by kernel_rfl) (by kernel_rfl)
  have h10:=@run_callFunc_extern Tryz.prog 101 _ ReflectliteType.typeOf Tryz.func101 (by kernel_rfl) (by kernel_rfl) (by kernel_rfl) (by kernel_rfl)
  have h35 := @run_callFunc_extern Tryz.prog 153 _ (ReflectliteType.relation "AssignableTo" ReflectliteType.assignableTo) Tryz.func153 (by kernel_rfl) (by kernel_rfl) (by kernel_rfl) (by kernel_rfl)
  have h11 := @run_callFunc_extern Tryz.prog 107 _ (ReflectliteValue.method (ReflectliteValue.valueError "reflectlite.Value.Elem" 0) ReflectliteValue.elem) Tryz.func107 (by kernel_rfl) (by kernel_rfl) (by kernel_rfl) (by kernel_rfl)
  have h12:=@run_callFunc_extern Tryz.prog 108 _ ReflectliteValue.set Tryz.func108 (by kernel_rfl) (by kernel_rfl) (by kernel_rfl) (by kernel_rfl)
  have tO:=V6
  have mA:=J3
  have a25:=Ph
  have f6:=Sm
  have f7:=Yv
  have mK:=Qd
  have mE:=Ql
  have mI:=Lc
  have k27:=Zp
  have k25:=Aac
  have e27:=Yw
  have i25:=Nr
  have n8:=Vw ⟨w.heap.size,0,none⟩ t ((w.alloc (.cells #[.pointer (some t)] 161)).alloc (.cells #[.pointer (some ⟨16,161,none⟩),.pointer (some ⟨w.heap.size,0,none⟩),.int .u64 150] 180)) (by simp)
  have hlt:15<w.heap.size:=World.block_lt_of_cell? _ _ hg
  have hg2:((w.alloc (.cells #[.pointer (some t)] 161)).alloc (.cells #[.pointer (some ⟨16,161,none⟩),.pointer (some ⟨w.heap.size,0,none⟩),.int .u64 150] 180)).cell? ⟨15,0,none⟩=some (.iface 197 (.agg #[.pointer (some ⟨16,27,none⟩)])):=by
    rw [World.cell?_alloc_lt _ _ ⟨15,0,none⟩ (by simp;omega),World.cell?_alloc_lt _ _ ⟨15,0,none⟩ hlt];exact hg
  have nA:=Abj
  have nU:=Mg
  have nV:=Li
  go_enter Tryz.func82,Tryz.ntmps82
  go_wp2
  refine wp_loop_rounds 1 ?_
  rw [rounds_succ]
  go_wp2
  go_ret
  exact ⟨rfl,rfl⟩
theorem Ae2 (a:Addr) (w:World) :
    Calls Tryz.prog 83 #[.iface 232 (.pointer (some a)),.iface 232 (.pointer (some a))] w fun e w'=>e=.returned (.bool true)∧w=w':=by
  obtain ⟨i,hi,hcmp⟩:=Option.map_eq_some_iff.1 Rq
  obtain ⟨j,hj,hjs⟩:=Option.map_eq_some_iff.1 Rf
  have tT:=Le
  have cT:=I2
  have mR:=Hi
  have heq:=run_eql_iface_ptr_same (P:=Tryz.prog) w a Tryz.underlying27 Tryz.underlying232 hi hcmp hj
  go_enter Tryz.func83,Tryz.ntmps83
  go_wp2
  refine wp_loop_rounds 1 ?_
  rw [rounds_succ]
  go_wp2
  go_ret
  exact ⟨rfl,rfl⟩
theorem Abn (a b:Addr) (w:World) (hne:a≠b) (ha:∃ x t,w.heap[a.block]?=some (.cells x t (0,0))) (hb:∃ x t,w.heap[b.block]?=some (.cells x t (0,0))) :
    Calls Tryz.prog 83 #[.iface 232 (.pointer (some a)),.iface 232 (.pointer (some b))] w fun e w'=>e=.returned (.bool false)∧w=w':=by
  obtain ⟨ca,ta,ha⟩:=ha
  obtain ⟨cb,tb,hb⟩:=hb
  obtain ⟨i,hi,hcmp⟩:=Option.map_eq_some_iff.1 Rq
  obtain ⟨j,hj,hjs⟩:=Option.map_eq_some_iff.1 Rf
  have tT:=Le
  have cT:=I2
  have mR:=Hi
  have nE:=Adf
  have uE:=Mg
  have vE:=Li
  have heq:=run_eql_iface_ptr_other (P:=Tryz.prog) w Tryz.underlying27 Tryz.underlying232 hi hcmp hj (by rw [hjs];decide) hne ha hb
  clear hb ha
  go_enter Tryz.func83,Tryz.ntmps83
  go_wp2
  refine wp_loop_rounds 1 ?_
  rw [rounds_succ]
  go_wp2
  go_ret
  exact ⟨rfl,rfl⟩
end
def Db:List Nat:=[1,2,3,4,5,6,7,8,9,10,11,12,13,14,15]
structure Lb (B:Nat) (ad:Nat→Addr) (w:World):Prop where
  env:Env B ad Db w
  handle:w.cell? ⟨15,0,none⟩=some (.iface 197 (.agg #[.pointer (some ⟨16,27,none⟩)]))∧15<B
theorem Lb.keep {B:Nat} {ad:Nat→Addr} {S:Nat→Prop} {w w':World} (h:Lb B ad w) (c:Chg S w w') (hS:∀ x,S x→B≤x):Lb B ad w':=
  ⟨h.env.keep c hS,(c.cell (p:=⟨15,0,none⟩) (Nat.lt_of_lt_of_le h.handle.2 h.env.size) (fun s=>by have:=hS _ s;have:=h.handle.2;simp at *;omega)).trans h.handle.1,h.handle.2⟩
theorem Lb.keepN {B:Nat} {ad:Nat→Addr} {w w':World} (h:Lb B ad w) (c:Chg Nil w w'):Lb B ad w':=h.keep c (fun _ f=>f.elim)
theorem Lb.alloc {B:Nat} {ad:Nat→Addr} {w:World} (h:Lb B ad w) (o:Obj):Lb B ad (w.alloc o):=h.keepN ((Chg.refl Nil w).alloc o)
theorem Lb.sub {B:Nat} {ad:Nat→Addr} {ds:List Nat} {w:World} (h:Lb B ad w) (hd:∀ c∈ds,c∈Db):Env B ad ds w:=h.env.sub hd
theorem Aef (x:Value) (t:Addr) (old:Value) (w:World) (hg:w.cell? ⟨15,0,none⟩=some (.iface 197 (.agg #[.pointer (some ⟨16,27,none⟩)])))
    (ht0:w.cell? t=some old) (hf0:w.frozen? t=false) :
    Calls Tryz.prog 82 #[.iface 232 x,.iface 161 (.pointer (some t))] w fun e w'=>e=.returned (.bool false)∧Chg Nil w w':=
  (Afi x t old w hg ht0 hf0).mono fun e w' ⟨he,hw⟩=>⟨he,by subst hw;exact ((((Chg.refl _ _).alloc _).alloc _).alloc _)⟩
theorem Ack (w:World):Calls Tryz.prog 49 #[.nilIface] w fun e w'=>e=.returned (.tuple #[.int .i64 0,.int .i64 (-1)])∧w=w':=by
  go_enter Tryz.func49,Tryz.ntmps49
  go_wp2
  go_ret2
  exact ⟨rfl,rfl⟩
def Code1 (w:World) (sb:Nat) (ad:Nat→Addr) (c:Nat) (at_:Int) (v i:Value) (wr:World):Prop:=
  ∃ k:Nat,k<c∧v=.int .i64 at_∧i=.int .i64 k∧Chg Nil w wr∧∀ j,j<15→wr.cell? ⟨sb,j,none⟩=some (.iface 232 (.pointer (some (ad (j+1)))))
theorem Acs {B:Nat} (ad:Nat→Addr) (c:Nat) (w:World) (he:Lb B ad w) (h0:0<c) (h1:c≤15) :
    Calls Tryz.prog 49 #[.iface 232 (.pointer (some (ad c)))] w fun e w'=>e=.returned (.tuple #[.int .i64 c,.int .i64 (-1)])∧Chg Nil w w':=by
  have HE:=Lib.hid he
  have hnn:=fun W=>run_eql_iface_nil_left (P:=Tryz.prog) W 232 (.pointer (some (ad c))) Tryz.underlying27
  have hh:=he.handle.1
  have hhl:=Nat.lt_of_lt_of_le he.handle.2 he.env.size
  clear he
  go_enter Tryz.func49,Tryz.ntmps49
  go_wp2_with fail
  refine (Aef _ _ (.pointer none) _ ?_ ?_ ?_).mono ?_
  · rw [World.cell?_alloc_lt _ _ _ hhl];exact hh
  · simp
  · simp
  rintro e w1 ⟨rfl,hc1⟩
  have hC1:Chg Nil w w1:=((Chg.refl _ _).alloc _).then hc1
  have hE1:=(HE.out.keepN hC1).env
  obtain ⟨q1,l1⟩:=hE1.get (c:=1) (by decide)
  obtain ⟨q2,l2⟩:=hE1.get (c:=2) (by decide)
  obtain ⟨q3,l3⟩:=hE1.get (c:=3) (by decide)
  obtain ⟨q4,l4⟩:=hE1.get (c:=4) (by decide)
  obtain ⟨q5,l5⟩:=hE1.get (c:=5) (by decide)
  obtain ⟨q6,l6⟩:=hE1.get (c:=6) (by decide)
  obtain ⟨q7,l7⟩:=hE1.get (c:=7) (by decide)
  obtain ⟨q8,l8⟩:=hE1.get (c:=8) (by decide)
  obtain ⟨q9,l9⟩:=hE1.get (c:=9) (by decide)
  obtain ⟨q10,l10⟩:=hE1.get (c:=10) (by decide)
  obtain ⟨q11,l11⟩:=hE1.get (c:=11) (by decide)
  obtain ⟨q12,l12⟩:=hE1.get (c:=12) (by decide)
  obtain ⟨q13,l13⟩:=hE1.get (c:=13) (by decide)
  obtain ⟨q14,l14⟩:=hE1.get (c:=14) (by decide)
  obtain ⟨q15,l15⟩:=hE1.get (c:=15) (by decide)
  simp only [gl] at q1 q2 q3 q4 q5 q6 q7 q8 q9 q10 q11 q12 q13 q14 q15
  clear l1 l2 l3 l4 l5 l6 l7 l8 l9 l10 l11 l12 l13 l14 l15 hE1 hh hhl
  go_wp2_with fail
  clear q1 q2 q3 q4 q5 q6 q7 q8 q9 q10 q11 q12 q13 q14 q15 hnn
  go_loopw [3,33] (fun v i wr=>Code1 w w1.heap.size ad c (-1) v i wr) (fun _ i _=>(15 - intOf i).toNat)
  case atStart=>
    refine ⟨0,h0,rfl,rfl,hC1.alloc _,fun j hj=>?_⟩
    rw [World.cell?_alloc_at _ _ _ _ rfl]
    rcases (show j=0∨j=1∨j=2∨j=3∨j=4∨j=5∨j=6∨j=7∨j=8∨j=9∨j=10∨j=11∨j=12∨j=13∨j=14 by omega) with rfl|rfl|rfl|rfl|rfl|rfl|rfl|rfl|rfl|rfl|rfl|rfl|rfl|rfl|rfl<;>rfl
  case round=>
    rename_i wr _
    obtain ⟨k,hk,rfl,rfl,hC,hcell⟩:=hrel
    have hE:=(HE.out.keepN hC).env
    have hc:=hcell k (by omega)
    have hk15:(k:Int)<15:=by omega
    by_cases hkc:k+1=c
    · have hnum:((k:Int)+1)=(c:Int):=by omega
      have hI:=Ae2 (ad c) wr
      rw [hkc] at hc
      have HN:=Lib.hid hnum
      have HK:=Lib.hid hkc
      have HC:=Lib.hid hcell
      have HI:=Lib.hid hI
      clear hnum hkc hcell hI
      go_wp2_with fail
      refine HI.out.mono ?_
      rintro e w2 ⟨rfl,rfl⟩
      go_wp2_with fail
      go_ret2
      exact ⟨by simp [HN.out],hC⟩
    · obtain ⟨_,r1,_⟩:=hE.row (k+1) (by simp [Db];omega)
      obtain ⟨_,r2,_⟩:=hE.row c (by simp [Db];omega)
      have hI:=Abn (ad c) (ad (k+1)) wr (hE.dist c (by simp [Db];omega) (k+1) (by simp [Db];omega) (fun e=>hkc e.symm)) r2 r1
      have HC:=Lib.hid hcell
      have HI:=Lib.hid hI
      clear hcell hI r1 r2 hE
      go_wp2_with fail
      refine HI.out.mono ?_
      rintro e w2 ⟨rfl,rfl⟩
      go_wp2_with fail
      go_roundw
      case rel=>exact ⟨k+1,by omega,rfl,by go_num,hC,HC.out⟩
      case measure=>simp [intOf];omega
def A4 (B:Nat) (ad:Nat→Addr):Res:=
  ⟨false,fun b=>(∃ c∈Db,b=gl c∨b=(ad c).block)∨b=15,fun w=>Lb B ad w,fun w w' h hs hb=>
    ⟨(Bq B ad Db).stab w w' h.env hs (fun b hb'=>hb b (.inl hb')),by
      rw [World.cell?_of_block (w:=w) (hb 15 (.inr rfl))];exact h.handle.1,h.handle.2⟩,
   fun w b h hb=>by
    rcases hb with hb|rfl
    · exact (Bq B ad Db).alive w b h.env hb
    · exact Nat.lt_of_lt_of_le h.handle.2 h.env.size⟩
theorem Own.addRO {w0 w:World} {E:Ent} {L:List Res} (h:Own w0 E L w) (i:Nat) {r r':Res} (hi:L[i]?=some r) (hw:r.wr=false) (hw':r'.wr=false) (hf:∀ w,r.fact w→r'.fact w) (hs:∀ b,r'.foot b→r.foot b):Own w0 E (r'::L) w:=by
  have hm:=List.mem_of_getElem? hi
  have h1:=h.perm (Hq hi).symm
  have ha:=(List.pairwise_cons.1 h1.apart).1
  refine ⟨h.chg,h.mono,fun s hs'=>?_,List.pairwise_cons.2 ⟨fun s hs' hc b hb hsb=>?_,h.apart⟩,fun s hs' b hb=>?_⟩
  · rcases List.mem_cons.1 hs' with rfl|hs'
    · exact hf w (h.facts r hm)
    · exact h.facts s hs'
  · rcases hc with hc|hc
    · rw [hw'] at hc;cases hc
    · rcases List.mem_cons.1 ((Hq hi).symm.mem_iff.1 hs') with rfl|hs2
      · rw [hw] at hc;cases hc
      · exact ha s hs2 (.inr hc) b (hs b hb) hsb
  · rcases List.mem_cons.1 hs' with rfl|hs'
    · have:=h.may r hm b (hs b hb)
      rw [hw] at this
      rw [hw'];exact this
    · exact h.may s hs' b hb
theorem Own.envSub {w0 w:World} {E:Ent} {L:List Res} {B:Nat} {ad:Nat→Addr} (h:Own w0 E L w) (cs:List Nat) (i:Nat) (hi:L[i]?=some (A4 B ad)) (hc:∀ c∈cs,c∈Db):Own w0 E (Bq B ad cs::L) w:=
  h.addRO i hi rfl rfl (fun w hw=>hw.env.sub hc) (fun b ⟨c,h1,h2⟩=>.inl ⟨c,hc c h1,h2⟩)
theorem Own.eS {w0 w:World} {E:Ent} {L:List Res} {B:Nat} {ad:Nat→Addr} (h:Own w0 E L w) (cs:List Nat) (i:Nat) (hi:L[i]?=some (A4 B ad)) (hc:∀ c∈cs,c∈Db:=by decide):Own w0 E (Bq B ad cs::L) w:=h.envSub cs i hi hc
abbrev Ra (B:Nat) (ad:Nat→Addr) (b tb most dm pm:Nat) (ps:List (Option Nat)) (gs:List Int) (vl vg:Value) (T:TypeId) (Sl Sg:Nat→Prop) (l:List (Option ND)) (ds:List DN) (pn:List ((Int×Int)×Int)):List Res:=
  [Rb b tb most dm pm,B8 tb ps gs vl vg T Sl Sg,Cp l,Cm true dm hk (ds.map Bs),Em ds,Cm true pm hk (pn.map Cy),A4 B ad]
section
variable {a:Act} {w w0:World} {En:Ent} {L:List Res} {dst:Option Tmp} {T:TypeId} {m x:Operand} {ty:TypeId} {pos:String} {after:Array Edge} {g:Option (Nat×Bool)} {r:Nat} {wr:Bool}
theorem Gks {kv:List (ByteArray×Value)} (ok:Bool) (k:ByteArray) (i:Nat) (hi:L[i]?=some (Cm wr r sk kv)) (hx:(a.eval m,a.eval x,Tryz.prog.underlying T)=(.map (some r),sk k,some (.map 9 34)):=by kernel_rfl) :
    Ck Tryz.prog w0 En L ⟨dst,.lookup T m x ok,ty,pos,after,g⟩ a (if ok then .tuple #[(Af kv k).getD (.agg #[.int .i64 0,.int .i64 0]),.bool (Af kv k).isSome] else (Af kv k).getD (.agg #[.int .i64 0,.int .i64 0])):=
  Is (K:=9) (E:=34) (z:=(.agg #[.int .i64 0,.int .i64 0])) (Cs (by kernel_rfl)) k hx (fun _=>by kernel_rfl) i hi
theorem Gkd {kv:List ((Int×Int)×Value)} (ok:Bool) (k:Int×Int) (i:Nat) (hi:L[i]?=some (Cm wr r hk kv)) (hx:(a.eval m,a.eval x,Tryz.prog.underlying T)=(.map (some r),hk k,some (.map 34 82)):=by kernel_rfl) :
    Ck Tryz.prog w0 En L ⟨dst,.lookup T m x ok,ty,pos,after,g⟩ a (if ok then .tuple #[(Af kv k).getD (.map none),.bool (Af kv k).isSome] else (Af kv k).getD (.map none)):=
  Is (K:=34) (E:=82) (z:=(.map none)) Dr k hx (fun _=>by kernel_rfl) i hi
theorem Gkp {kv:List ((Int×Int)×Value)} (ok:Bool) (k:Int×Int) (i:Nat) (hi:L[i]?=some (Cm wr r hk kv)) (hx:(a.eval m,a.eval x,Tryz.prog.underlying T)=(.map (some r),hk k,some (.map 34 3)):=by kernel_rfl) :
    Ck Tryz.prog w0 En L ⟨dst,.lookup T m x ok,ty,pos,after,g⟩ a (if ok then .tuple #[(Af kv k).getD (.int .i64 0),.bool (Af kv k).isSome] else (Af kv k).getD (.int .i64 0)):=
  Is (K:=34) (E:=3) (z:=(.int .i64 0)) Dr k hx (fun _=>by kernel_rfl) i hi
end
theorem S2 {B:Nat} (ad:Nat→Addr) (b:Nat) (kind:Int) (ps:List (Option Nat)) (gs:List Int) (vl vg:Value) (T:TypeId) (Sl Sg:Nat→Prop) (hk:kind=1∨kind=2) (hl:ps.length≤300) (hf:F6 ps=none):Ao Tryz.prog 30 #[.pointer (some ⟨b,0,none⟩),.int .i64 kind] [B8 b ps gs vl vg T Sl Sg,Bq B ad [9]] fun u L=>u=.tuple #[Np 0 0,Ab ad 9]∧L=[B8 b ps gs vl vg T Sl Sg,Bq B ad [9]]:=fun E w0 w ho=>
  (Zy ad b kind ps gs vl vg T Sl Sg w (ho.fact 1 rfl) (ho.fact 0 rfl) hk hl hf).mono fun e w' ⟨he,hc⟩=>⟨_,_,⟨rfl,rfl⟩,he,ho.quiet hc⟩
theorem Jw {B:Nat} (ad:Nat→Addr) (b k nb:Nat) (g:Int) (ps:List (Option Nat)) (gs:List Int) (vl vg:Value) (T:TypeId) (Sl Sg:Nat→Prop) (l:List (Option ND)) (hl:ps.length=gs.length) (hr:∀ x∈gs,0≤x∧x≤1000000) (hk:k<ps.length) (hs:Bl ps gs k g=some nb) :
    Ao Tryz.prog 90 #[.pointer (some ⟨b,0,none⟩),.agg #[.int .i64 (k:Int),.int .i64 g]] [B8 b ps gs vl vg T Sl Sg,Cp l,Bq B ad [10]] fun u L=>u=.nilIface∧L=[B8 b (ps.set k none) gs vl vg T Sl Sg,Cp (l.set k none),Bq B ad [10]]:=fun E w0 w ho=>
  (Ad5 ad b k nb g ps gs vl vg T Sl Sg w (ho.fact 2 rfl) (ho.fact 0 rfl) hl hr hk hs).mono fun e w' ⟨he,hc,ht⟩=>by
    have h1:=ho.upd 0 (r:=B8 b ps gs vl vg T Sl Sg) (r':=B8 b (ps.set k none) gs vl vg T Sl Sg) rfl rfl (hc.mono fun x _ hx=>.inr (.inl hx)) ht fun x hx=>.inl hx
    have h2:Own w0 E (Cp l::[B8 b (ps.set k none) gs vl vg T Sl Sg,Bq B ad [10]]) w':=h1.pick [1,0,0]
    exact ⟨_,_,⟨rfl,rfl⟩,he,(h2.ndFree k).pick [1,0,0]⟩


section
open Go.RowKit Go.Lib
section
variable {α:Type} {enc:α→List Value} {k:Nat} {P:Program}
end
end
section
variable {P:Program} {a:Act} {w w0:World} {E:Ent} {L M:List Res} {K:Act→World→Prop} {Q:Exit→Act→World→Prop} {ops:Array Oper} {rest:List Oper}
variable {dst:Option Tmp} {x y:Operand} {T T2 ty:TypeId} {pos:String} {after:Array Edge} {g:Option (Nat×Bool)} {v:Value} {d k n:Nat} {xs:List Value}
variable {α:Type} {enc:α→List Value} {l:List α}
theorem Own.cut {m:Nat} (he:∀ x,(enc x).length=k) (h:Own w0 E L w) (i:Nat) (hi':L[i]?=some (Bc true v d k enc l)) (hm:m≤l.length):Own w0 E (L.set i (Bc true (L8 k v 0 m) d k enc (l.take m))) w:=by
  have hf:Bd w v d k l.length (l.flatMap enc) (H1 v):=h.fact i hi'
  have hb:H1 (L8 k v 0 m)=H1 v:=by
    obtain ⟨ad,cap,rfl⟩:=hf.shape
    rw [M7]
    cases ad<;>rfl
  refine h.upd i hi' rfl (Chg.refl _ _) ?_ (fun y hy=>.inl (show H1 v y from hb▸hy))
  show Bd w (L8 k v 0 m) d k (l.take m).length ((l.take m).flatMap enc) (H1 (L8 k v 0 m))
  rw [hb]
  have hl:(l.take m).length=m:=by rw [List.length_take,Nat.min_eq_left hm]
  obtain ⟨e,⟨rfl,h2⟩|⟨g,off,cap,cs,rfl,hbk,h2,h3,h4,h5,h6⟩⟩:=hf
  · have h2':l.length=0:=h2
    obtain rfl:m=0:=by omega
    rw [M7]
    exact ⟨by simp,.inl ⟨rfl,by simp⟩⟩
  · rw [M7,hl]
    refine ⟨by rw [Gj enc he,hl],.inr ⟨g,off,cap,cs,rfl,hbk,by omega,h3,h4,fun j u hj=>h5 j u ?_,h6⟩⟩
    have e5:l.flatMap enc=(l.take m).flatMap enc++(l.drop m).flatMap enc:=by rw [← List.flatMap_append,List.take_append_drop]
    rw [e5,List.getElem?_append_left (List.getElem?_eq_some_iff.1 hj).1];exact hj
variable {br:Nat→Bool} {fuel i0:Nat} {listed:Array Bool} {is:List Nat}
end
section
variable {P:Program} {a:Act} {w w0:World} {E:Ent} {L:List Res} {dst:Option Tmp} {x y:Operand} {T ty:TypeId} {pos:String} {after:Array Edge} {g:Option (Nat×Bool)} {u v:Int}
theorem Ab2 (hx:(a.eval x,a.eval y)=(.int .i64 u,.int .i64 v)):Ck P w0 E L ⟨dst,.call { callee:=.builtin .min,args:=#[x,y],argTypes:=#[T,T] },ty,pos,after,g⟩ a (.int .i64 (min u v)):=fun w _=>by
  simp only [Prod.mk.injEq] at hx
  have e:(if v<u then v else u)=min u v:=by split<;>omega
  simp [execOp,resolve,invoke,builtin,hx.1,hx.2,Builtin.min_,Builtin.min2,Result.andThen]
  rw [e]
theorem Own.pickE {L M:List Res} (h:Own w0 E L w) (is:List Nat) (e:pk is L=M):Own w0 E M w:=e▸h.pick is
end
section
open Go.RowKit Go.Lib
def Cr (n:Nat):Bool:=decide (97≤n∧n≤122)||decide (65≤n∧n≤90)||decide (48≤n∧n≤57)||n==46||n==45||n==95
def Agc (n:Nat):Int:=bits .or .u8 (n:Int) 32
theorem Wi:∀ n:Fin 256,(decide (97≤Agc n.val)&&decide (Agc n.val≤122))=(decide (97≤n.val∧n.val≤122)||decide (65≤n.val∧n.val≤90)):=by decide +kernel
theorem Acl (n:Nat) (hn:n<256) (w:World):Calls Tryz.prog 89 #[.int .u8 n] w fun e w'=>e=.returned (.bool (Cr n))∧w=w':=by
  have hl:=Wi ⟨n,hn⟩
  simp only at hl
  obtain ⟨q,hq⟩:∃ q,q=bits .or .u8 (n:Int) 32:=⟨_,rfl⟩
  have hq2:Agc n=q:=hq.symm
  rw [hq2] at hl
  have hS:Cr n=((decide (97≤q)&&decide (q≤122))||decide (48≤n∧n≤57)||n==46||n==45||n==95):=by unfold Cr;rw [hl]
  have HS:=Lib.hid hS
  have hbo:bits .or .u8 (n:Int) 32=q:=hq.symm
  clear hl hq hq2 hS
  by_cases h1:97≤q
  · by_cases h2:q≤122
    · have HX:=Lib.hid (show Cr n=true by rw [HS.out];simp [h1,h2])
      go_enter Tryz.func89,Tryz.ntmps89
      go_wp2_with fail
      go_ret
      exact ⟨by rw [HX.out];rfl,rfl⟩
    · have hB:decide (q≤122)=false:=by simpa using h2
      have HQ:=Lib.hid (show (decide (97≤q)&&decide (q≤122))=false by rw [hB,Bool.and_false])
      clear h2
      by_cases d1:48≤n
      · by_cases d2:n≤57
        · have HX:=Lib.hid (show Cr n=true by rw [HS.out];simp [d1,d2])
          have e1:(48:Int)≤(n:Int):=by omega
          have e2:(n:Int)≤57:=by omega
          clear d1 d2
          go_enter Tryz.func89,Tryz.ntmps89
          go_wp2_with fail
          go_ret
          exact ⟨by rw [HX.out];rfl,rfl⟩
        · have e1:(48:Int)≤(n:Int):=by omega
          have e2:decide ((n:Int)≤57)=false:=by simp;omega
          have HD:=Lib.hid (show decide (48≤n∧n≤57)=false by simp;omega)
          clear d1
          by_cases n46:n=46
          · have HX:=Lib.hid (show Cr n=true by rw [HS.out];simp [n46])
            have s46:((n:Int)==46)=true:=by simp;omega
            clear n46
            go_enter Tryz.func89,Tryz.ntmps89
            go_wp2_with fail
            go_ret
            exact ⟨by rw [HX.out];rfl,rfl⟩
          by_cases n45:n=45
          · have HX:=Lib.hid (show Cr n=true by rw [HS.out];simp [n45])
            have s45:((n:Int)==45)=true:=by simp;omega
            have s46:((n:Int)==46)=false:=by simp;omega
            clear n45 n46
            go_enter Tryz.func89,Tryz.ntmps89
            go_wp2_with fail
            go_ret
            exact ⟨by rw [HX.out];rfl,rfl⟩
          by_cases n95:n=95
          · have HX:=Lib.hid (show Cr n=true by rw [HS.out];simp [n95])
            have s95:((n:Int)==95)=true:=by simp;omega
            have s46:((n:Int)==46)=false:=by simp;omega
            have s45:((n:Int)==45)=false:=by simp;omega
            clear n95 n46 n45
            go_enter Tryz.func89,Tryz.ntmps89
            go_wp2_with fail
            go_ret
            exact ⟨by rw [HX.out];rfl,rfl⟩
          have HX:=Lib.hid (show Cr n=false by rw [HS.out,HD.out,HQ.out];simp [n46,n45,n95])
          have s46:((n:Int)==46)=false:=by simp;omega
          have s45:((n:Int)==45)=false:=by simp;omega
          have s95:((n:Int)==95)=false:=by simp;omega
          clear n46 n45 n95
          go_enter Tryz.func89,Tryz.ntmps89
          go_wp2_with fail
          go_ret
          exact ⟨by rw [HX.out];rfl,rfl⟩
      · have e1:decide ((48:Int)≤(n:Int))=false:=by simp;omega
        have HD:=Lib.hid (show decide (48≤n∧n≤57)=false by simp;omega)
        clear d1
        by_cases n46:n=46
        · have HX:=Lib.hid (show Cr n=true by rw [HS.out];simp [n46])
          have s46:((n:Int)==46)=true:=by simp;omega
          clear n46
          go_enter Tryz.func89,Tryz.ntmps89
          go_wp2_with fail
          go_ret
          exact ⟨by rw [HX.out];rfl,rfl⟩
        by_cases n45:n=45
        · have HX:=Lib.hid (show Cr n=true by rw [HS.out];simp [n45])
          have s45:((n:Int)==45)=true:=by simp;omega
          have s46:((n:Int)==46)=false:=by simp;omega
          clear n45 n46
          go_enter Tryz.func89,Tryz.ntmps89
          go_wp2_with fail
          go_ret
          exact ⟨by rw [HX.out];rfl,rfl⟩
        by_cases n95:n=95
        · have HX:=Lib.hid (show Cr n=true by rw [HS.out];simp [n95])
          have s95:((n:Int)==95)=true:=by simp;omega
          have s46:((n:Int)==46)=false:=by simp;omega
          have s45:((n:Int)==45)=false:=by simp;omega
          clear n95 n46 n45
          go_enter Tryz.func89,Tryz.ntmps89
          go_wp2_with fail
          go_ret
          exact ⟨by rw [HX.out];rfl,rfl⟩
        have HX:=Lib.hid (show Cr n=false by rw [HS.out,HD.out,HQ.out];simp [n46,n45,n95])
        have s46:((n:Int)==46)=false:=by simp;omega
        have s45:((n:Int)==45)=false:=by simp;omega
        have s95:((n:Int)==95)=false:=by simp;omega
        clear n46 n45 n95
        go_enter Tryz.func89,Tryz.ntmps89
        go_wp2_with fail
        go_ret
        exact ⟨by rw [HX.out];rfl,rfl⟩
  · have hA:decide (97≤q)=false:=by simpa using h1
    have HQ:=Lib.hid (show (decide (97≤q)&&decide (q≤122))=false by rw [hA,Bool.false_and])
    clear h1
    by_cases d1:48≤n
    · by_cases d2:n≤57
      · have HX:=Lib.hid (show Cr n=true by rw [HS.out];simp [d1,d2])
        have e1:(48:Int)≤(n:Int):=by omega
        have e2:(n:Int)≤57:=by omega
        clear d1 d2
        go_enter Tryz.func89,Tryz.ntmps89
        go_wp2_with fail
        go_ret
        exact ⟨by rw [HX.out];rfl,rfl⟩
      · have e1:(48:Int)≤(n:Int):=by omega
        have e2:decide ((n:Int)≤57)=false:=by simp;omega
        have HD:=Lib.hid (show decide (48≤n∧n≤57)=false by simp;omega)
        clear d1
        by_cases n46:n=46
        · have HX:=Lib.hid (show Cr n=true by rw [HS.out];simp [n46])
          have s46:((n:Int)==46)=true:=by simp;omega
          clear n46
          go_enter Tryz.func89,Tryz.ntmps89
          go_wp2_with fail
          go_ret
          exact ⟨by rw [HX.out];rfl,rfl⟩
        by_cases n45:n=45
        · have HX:=Lib.hid (show Cr n=true by rw [HS.out];simp [n45])
          have s45:((n:Int)==45)=true:=by simp;omega
          have s46:((n:Int)==46)=false:=by simp;omega
          clear n45 n46
          go_enter Tryz.func89,Tryz.ntmps89
          go_wp2_with fail
          go_ret
          exact ⟨by rw [HX.out];rfl,rfl⟩
        by_cases n95:n=95
        · have HX:=Lib.hid (show Cr n=true by rw [HS.out];simp [n95])
          have s95:((n:Int)==95)=true:=by simp;omega
          have s46:((n:Int)==46)=false:=by simp;omega
          have s45:((n:Int)==45)=false:=by simp;omega
          clear n95 n46 n45
          go_enter Tryz.func89,Tryz.ntmps89
          go_wp2_with fail
          go_ret
          exact ⟨by rw [HX.out];rfl,rfl⟩
        have HX:=Lib.hid (show Cr n=false by rw [HS.out,HD.out,HQ.out];simp [n46,n45,n95])
        have s46:((n:Int)==46)=false:=by simp;omega
        have s45:((n:Int)==45)=false:=by simp;omega
        have s95:((n:Int)==95)=false:=by simp;omega
        clear n46 n45 n95
        go_enter Tryz.func89,Tryz.ntmps89
        go_wp2_with fail
        go_ret
        exact ⟨by rw [HX.out];rfl,rfl⟩
    · have e1:decide ((48:Int)≤(n:Int))=false:=by simp;omega
      have HD:=Lib.hid (show decide (48≤n∧n≤57)=false by simp;omega)
      clear d1
      by_cases n46:n=46
      · have HX:=Lib.hid (show Cr n=true by rw [HS.out];simp [n46])
        have s46:((n:Int)==46)=true:=by simp;omega
        clear n46
        go_enter Tryz.func89,Tryz.ntmps89
        go_wp2_with fail
        go_ret
        exact ⟨by rw [HX.out];rfl,rfl⟩
      by_cases n45:n=45
      · have HX:=Lib.hid (show Cr n=true by rw [HS.out];simp [n45])
        have s45:((n:Int)==45)=true:=by simp;omega
        have s46:((n:Int)==46)=false:=by simp;omega
        clear n45 n46
        go_enter Tryz.func89,Tryz.ntmps89
        go_wp2_with fail
        go_ret
        exact ⟨by rw [HX.out];rfl,rfl⟩
      by_cases n95:n=95
      · have HX:=Lib.hid (show Cr n=true by rw [HS.out];simp [n95])
        have s95:((n:Int)==95)=true:=by simp;omega
        have s46:((n:Int)==46)=false:=by simp;omega
        have s45:((n:Int)==45)=false:=by simp;omega
        clear n95 n46 n45
        go_enter Tryz.func89,Tryz.ntmps89
        go_wp2_with fail
        go_ret
        exact ⟨by rw [HX.out];rfl,rfl⟩
      have HX:=Lib.hid (show Cr n=false by rw [HS.out,HD.out,HQ.out];simp [n46,n45,n95])
      have s46:((n:Int)==46)=false:=by simp;omega
      have s45:((n:Int)==45)=false:=by simp;omega
      have s95:((n:Int)==95)=false:=by simp;omega
      clear n46 n45 n95
      go_enter Tryz.func89,Tryz.ntmps89
      go_wp2_with fail
      go_ret
      exact ⟨by rw [HX.out];rfl,rfl⟩
theorem Nm (n:Nat) (hn:n<256) (w:World):Calls Tryz.prog 88 #[.int .u8 n] w fun e w'=>e=.returned (.bool (!(Cr n)))∧w=w':=by
  go_enter Tryz.func88,Tryz.ntmps88
  go_wp2_with fail
  refine (Acl n hn w).mono ?_
  rintro e w1 ⟨rfl,rfl⟩
  go_wp2_with fail
  go_ret
  exact ⟨rfl,rfl⟩
def Ig (l:List UInt8):Option Nat:=l.findIdx? fun b=>!(Cr b.toNat)
def ixI:Option Nat→Int
  | some k=>(k:Int)
  | none=>-1
theorem Gt {l:List UInt8} {k:Nat} {f:UInt8} (h:l[k]?=some f):l.take (k+1)=l.take k++[f]:=by rw [List.take_add_one,h];rfl
def RelIx (l:List UInt8) (w:World) (i:Value) (wr:World):Prop:=∃ k:Nat,k≤l.length∧i=.int .i64 k∧w=wr∧∀ b∈l.take k,Cr b.toNat=true
theorem Qe (g n c:Nat) (l:List UInt8) (hl:n=l.length) (hc:n≤c) (h63:n≤9223372036854775807) (w:World) (hcell:∀ k b,l[k]?=some b→w.cell? ⟨g,k,none⟩=some (.int .u8 b.toNat)) :
    Calls Tryz.prog 106 #[.slice (some ⟨g,0,none⟩) n c,.func (.func 88) #[] #[]] w fun e w'=>e=.returned (.int .i64 (ixI (Ig l)))∧w=w':=by
  have HL:=Lib.hid hl
  have HCE:=Lib.hid hcell
  clear hl hcell
  go_enter Tryz.func106,Tryz.ntmps106
  go_wp2_with fail
  go_loopw [8] (fun i wr=>RelIx l w i wr) (fun i _=>(n - RowKit.intOf i).toNat)
  case atStart=>exact ⟨0,Nat.zero_le _,rfl,rfl,by simp⟩
  case round=>
    obtain ⟨k,hk,rfl,rfl,hall⟩:=hrel
    have HA:=Lib.hid hall
    clear hall
    have hkn:k≤n:=by rw [HL.out];exact hk
    by_cases hlt:k<n
    · obtain ⟨b,hb⟩:∃ b,l[k]?=some b:=⟨l[k]'(by rw [← HL.out];exact hlt),List.getElem?_eq_getElem _⟩
      have c0:=HCE.out k b hb
      have j0:(0:Int)≤(k:Int):=by omega
      have j1:(k:Int)<(n:Int):=by omega
      have HB:=Lib.hid hb
      clear hb
      have hb256:=b.toNat_lt
      by_cases hs:Cr b.toNat=true
      · have HS:=Lib.hid hs
        clear hs
        go_wp2_with fail
        refine (Nm b.toNat hb256 _).mono ?_
        rintro e w1 ⟨rfl,rfl⟩
        rw [HS.out]
        go_wp2_with fail
        go_roundw
        case rel=>exact ⟨k+1,by rw [← HL.out];omega,by go_num,rfl,fun x hx=>by
          rw [Gt HB.out] at hx
          rcases List.mem_append.1 hx with hx|hx
          · exact HA.out x hx
          · rw [List.mem_singleton.1 hx];exact HS.out⟩
        case measure=>simp [RowKit.intOf];omega
      · have hs2:Cr b.toNat=false:=by simpa using hs
        have HS:=Lib.hid hs2
        have HX:=Lib.hid (show Ig l=some k by
          unfold Ig
          rw [List.findIdx?_eq_some_iff_getElem]
          obtain ⟨hkl,e⟩:=List.getElem?_eq_some_iff.1 HB.out
          refine ⟨hkl,by rw [e,hs2];rfl,fun j hj=>?_⟩
          have:=HA.out (l[j]'(by omega)) (by rw [List.mem_iff_getElem?];exact ⟨j,by rw [List.getElem?_take,if_pos hj];exact List.getElem?_eq_getElem _⟩)
          simp [this])
        clear hs hs2
        go_wp2_with fail
        refine (Nm b.toNat hb256 _).mono ?_
        rintro e w1 ⟨rfl,rfl⟩
        rw [HS.out]
        go_wp2_with fail
        go_ret
        exact ⟨by rw [HX.out];rfl,rfl⟩
    · obtain rfl:k=n:=by omega
      have HX:=Lib.hid (show Ig l=none by
        unfold Ig
        rw [List.findIdx?_eq_none_iff]
        intro x hx
        have:=HA.out x (by rw [HL.out,List.take_of_length_le (Nat.le_refl _)];exact hx)
        simp [this])
      go_wp2_with fail
      go_ret
      exact ⟨by rw [HX.out];rfl,rfl⟩
theorem R0 (g n c:Nat) (l:List UInt8) (hl:n=l.length) (hc:n≤c) (h63:n≤9223372036854775807) (w:World) (hcell:∀ k b,l[k]?=some b→w.cell? ⟨g,k,none⟩=some (.int .u8 b.toNat)) :
    Calls Tryz.prog 87 #[.slice (some ⟨g,0,none⟩) n c,.func (.func 88) #[] #[]] w fun e w'=>e=.returned (.bool (Ig l).isSome)∧w=w':=by
  have HI:=Lib.hid (Qe g n c l hl hc h63 w hcell)
  clear hl hcell
  cases hb:Ig l with
  | none=>
    rw [hb] at HI
    simp only [ixI] at HI
    clear hb
    go_enter Tryz.func87,Tryz.ntmps87
    go_wp2_with fail
    refine HI.out.mono ?_
    rintro e w1 ⟨rfl,rfl⟩
    go_wp2_with fail
    go_ret
    exact ⟨rfl,rfl⟩
  | some k=>
    rw [hb] at HI
    simp only [ixI] at HI
    clear hb
    have hk0:(0:Int)≤(k:Int):=by omega
    go_enter Tryz.func87,Tryz.ntmps87
    go_wp2_with fail
    refine HI.out.mono ?_
    rintro e w1 ⟨rfl,rfl⟩
    go_wp2_with fail
    go_ret
    exact ⟨rfl,rfl⟩
end
section
open Go.RowKit Go.Lib
theorem O0 {k:ByteArray} {l:List UInt8} (h:¬k=⟨l.toArray⟩):(k.toList==l)=false:=by
  rw [beq_eq_false_iff_ne]
  intro e
  apply h
  have e2:k.data.toList=l:=by rw [← e];exact (ByteArray.toList_eq k).symm
  obtain ⟨d⟩:=k
  simp only at e2
  subst e2
  rfl
end
section
open Go.RowKit Go.Lib
def Adw:ByteArray:=⟨#[46]⟩
def Ab8:ByteArray:=⟨#[46,46]⟩
def A0 (s:ByteArray):Prop:=1≤s.size∧s.size≤24∧s≠Adw∧s≠Ab8∧Ig s.data.toList=none
instance (s:ByteArray):Decidable (A0 s):=by unfold A0;infer_instance
def H6 (s:ByteArray):Nat:=if A0 s then 0 else 4
theorem C9 {s:ByteArray} (h:¬A0 s):H6 s=4:=if_neg h
theorem Bg {s:ByteArray} (h:A0 s):H6 s=0:=if_pos h
theorem Acv (w:World) (s:ByteArray):∃ cap W,(convert 9 167 (.string s)).run Tryz.prog w=.ok (.slice (some ⟨w.heap.size,0,none⟩) s.size cap) W∧Chg Nil w W∧s.size≤cap∧∀ k b,s.data.toList[k]?=some b→W.cell? ⟨w.heap.size,k,none⟩=some (.int .u8 b.toNat):=by
  refine ⟨_,_,Lib.run_convert_string_bytes (P:=Tryz.prog) w 9 167 5 s Tryz.underlying9 Tryz.underlying167 Tryz.underlying5,⟨rfl,rfl,rfl,by rw [Lib.bytesWorld_size];omega,fun k hk _=>Lib.bytesWorld_at_old w _ s k hk⟩,grownCap_ge _ _ _ _,fun k b hb=>?_⟩
  have hk:k<s.size:=by have:=(List.getElem?_eq_some_iff.1 hb).1;rwa [Array.length_toList] at this
  rw [Lib.bytesWorld_cell w _ s k hk]
  simp [List.getD,hb]
theorem Z7 {B:Nat} (ad:Nat→Addr) (s:ByteArray) (w:World) (he:Env B ad [4] w) (hs:s.size≤9223372036854775807) :
    Calls Tryz.prog 53 #[.string s] w fun e w'=>e=.returned (Ab ad (H6 s))∧Chg Nil w w':=by
  obtain ⟨q1,q1l⟩:=he.get (c:=4) (by simp)
  simp only [gl] at q1 q1l
  have HE:=Lib.hid he
  clear he
  by_cases h0:s=⟨#[]⟩
  · have HX:=Lib.hid (C9 (s:=s) (fun h=>by have:=h.1;rw [h0] at this;simp [ByteArray.size] at this))
    rw [HX.out]
    subst h0
    go_enter Tryz.func53,Tryz.ntmps53
    go_wp2_with fail
    go_ret
    exact ⟨rfl,Chg.refl _ _⟩
  have hne:=O0 (l:=[]) h0
  by_cases h1:24<s.size
  · have HX:=Lib.hid (C9 (s:=s) (fun h=>by have:=h.2.1;omega))
    rw [HX.out]
    have h1d:decide ((s.size:Int)≤24)=false:=by simp;omega
    clear h0
    go_enter Tryz.func53,Tryz.ntmps53
    go_wp2_with fail
    go_ret
    exact ⟨rfl,Chg.refl _ _⟩
  have h1I:(s.size:Int)≤24:=by omega
  by_cases h2:s=Adw
  · have HX:=Lib.hid (C9 (s:=s) (fun h=>h.2.2.1 h2))
    rw [HX.out]
    subst h2
    unfold Adw at *
    go_enter Tryz.func53,Tryz.ntmps53
    go_wp2_with fail
    go_ret
    exact ⟨rfl,Chg.refl _ _⟩
  have h2n:=O0 (l:=[46]) h2
  by_cases h3:s=Ab8
  · have HX:=Lib.hid (C9 (s:=s) (fun h=>h.2.2.2.1 h3))
    rw [HX.out]
    subst h3
    unfold Ab8 at *
    go_enter Tryz.func53,Tryz.ntmps53
    go_wp2_with fail
    go_ret
    exact ⟨rfl,Chg.refl _ _⟩
  have h3n:=O0 (l:=[46,46]) h3
  have hp:1≤s.size:=by
    rcases Nat.eq_zero_or_pos s.size with h|h
    · exfalso;apply h0;apply ByteArray.ext;exact Array.eq_empty_of_size_eq_zero h
    · exact h
  have HOK:=Lib.hid (show A0 s↔Ig s.data.toList=none from ⟨fun h=>h.2.2.2.2,fun h=>⟨hp,by omega,h2,h3,h⟩⟩)
  clear h0 h2 h3
  go_enter Tryz.func53,Tryz.ntmps53
  obtain ⟨cap,W,hcv,hcw,hcap,hcell⟩:=Acv w s
  have HCW:=Lib.hid hcw
  have HCC:=Lib.hid (R0 w.heap.size s.size cap s.data.toList Array.length_toList.symm hcap hs W hcell)
  obtain ⟨q2,q2l⟩:=(HE.out.keepN hcw).get (c:=4) (by simp)
  simp only [gl] at q2 q2l
  clear hcw hcap hcell
  cases hb:Ig s.data.toList with
  | none=>
    have HX:=Lib.hid (Bg (HOK.out.2 hb))
    rw [hb] at HCC
    clear hb
    go_wp2_with fail
    refine HCC.out.mono ?_
    rintro e w2 ⟨rfl,rfl⟩
    go_wp2_with fail
    go_ret
    exact ⟨by rw [HX.out];rfl,HCW.out⟩
  | some k=>
    have HX:=Lib.hid (C9 (s:=s) (fun h=>by have:=HOK.out.1 h;rw [hb] at this;cases this))
    rw [hb] at HCC
    clear hb
    go_wp2_with fail
    refine HCC.out.mono ?_
    rintro e w2 ⟨rfl,rfl⟩
    go_wp2_with fail
    go_ret
    exact ⟨by rw [HX.out];rfl,HCW.out⟩
end
theorem fifteen {B:Nat} {ad:Nat→Addr} {w:World} (h:Env B ad Db w):∀ c,1≤c→c≤15→w.cell? ⟨gl c,0,none⟩=some (.iface 232 (.pointer (some (ad c))))∧gl c<w.heap.size:=
  fun c h1 h2=>h.get (by simp [Db];omega)
section
open Go.RowKit Go.Lib
def Vi (ad:Nat→Addr) (w:World) (v:Value) (c:Nat) (at_:Int):Prop:=
  (c=0∧at_=-1∧v=.nilIface)∨(0<c∧c≤15∧at_=-1∧v=.iface 232 (.pointer (some (ad c))))∨
  (0<c∧c≤15∧∃ pb,v=.iface 127 (.pointer (some ⟨pb,0,none⟩))∧w.heap[pb]?=some (.cells #[.int .i64 at_,.iface 232 (.pointer (some (ad c)))] 129 (0,0)))
theorem Vi.keep {ad:Nat→Addr} {w w':World} {v:Value} {c:Nat} {at_:Int} (h:Vi ad w v c at_) (hc:Chg Nil w w'):Vi ad w' v c at_:=by
  rcases h with h|h|⟨h1,h2,pb,h3,h4⟩
  · exact .inl h
  · exact .inr (.inl h)
  · exact .inr (.inr ⟨h1,h2,pb,h3,hc.keep h4 (fun f=>f)⟩)
theorem Vi.le {ad:Nat→Addr} {w:World} {v:Value} {c:Nat} {at_:Int} (h:Vi ad w v c at_):c≤15:=by
  rcases h with h|h|h
  · omega
  · exact h.2.1
  · exact h.2.1
def Ss (w:World) (B:Nat) (a:Option Addr) (l:List ByteArray):Prop:=∀ (k:Nat) x,l[k]?=some x→x.size≤9223372036854775807∧∃ g off,a=some ⟨g,off,none⟩∧g<B∧w.cell? ⟨g,off+k,none⟩=some (.string x)
theorem Ss.keep {w w':World} {B:Nat} {a:Option Addr} {l:List ByteArray} {S:Nat→Prop} (h:Ss w B a l) (hB:B≤w.heap.size) (c:Chg S w w') (hS:∀ x,S x→B≤x):Ss w' B a l:=fun k x hx=>by
  obtain ⟨h0,g,off,e,hg,hc⟩:=h k x hx
  exact ⟨h0,g,off,e,hg,(c.cell (p:=⟨g,off+k,none⟩) (by simp;omega) (fun s=>by have:=hS _ s;simp at this;omega)).trans hc⟩
end
section
open Go.RowKit Go.Lib
def RelNE (s:ByteArray) (w:World) (i:Value) (wr:World):Prop:=∃ k:Nat,k≤s.size∧i=.int .i64 k∧w=wr∧∀ b∈s.data.toList.take k,Cr b.toNat=true
theorem R7 {l:List UInt8} {k:Nat} {b:UInt8} (h:l[k]?=some b) (hb:Cr b.toNat=false):Ig l≠none:=by
  unfold Ig
  intro e
  rw [List.findIdx?_eq_none_iff] at e
  have:=e b (List.mem_of_getElem? h)
  rw [hb] at this
  cases this
theorem Abc {l:List UInt8} (h:∀ b∈l,Cr b.toNat=true):Ig l=none:=by
  unfold Ig
  rw [List.findIdx?_eq_none_iff]
  intro x hx
  rw [h x hx];rfl
theorem Aas {s:ByteArray} {k:Nat} (h:k<s.size):s.data.toList[k]?=some s[k]:=by
  have hkl:k<s.data.toList.length:=by rw [Array.length_toList];exact h
  rw [List.getElem?_eq_getElem hkl];rfl
theorem Qb (s:ByteArray) (w:World) (hs:s.size≤9223372036854775807) :
    Calls Tryz.prog 60 #[.string s] w fun e w'=>e=.returned (.int .i64 (H6 s:Nat))∧w=w':=by
  by_cases h0:s.size<1
  · have HX:=Lib.hid (C9 (s:=s) (fun h=>by have:=h.1;omega))
    rw [HX.out]
    go_enter Tryz.func60,Tryz.ntmps60
    go_wp2_with fail
    go_ret
    exact ⟨rfl,rfl⟩
  have h0d:decide (s.size<1)=false:=by simpa using h0
  have h0e:s.size≠0:=by omega
  by_cases h1:24<s.size
  · have HX:=Lib.hid (C9 (s:=s) (fun h=>by have:=h.2.1;omega))
    rw [HX.out]
    go_enter Tryz.func60,Tryz.ntmps60
    go_wp2_with fail
    go_ret
    exact ⟨rfl,rfl⟩
  have h1d:decide (24<s.size)=false:=by simpa using h1
  by_cases h2:s=Adw
  · have HX:=Lib.hid (C9 (s:=s) (fun h=>h.2.2.1 h2))
    rw [HX.out]
    subst h2
    unfold Adw at *
    clear h0d h1d h0 h1 h0e
    go_enter Tryz.func60,Tryz.ntmps60
    go_wp2_with fail
    go_ret
    exact ⟨rfl,rfl⟩
  have h2n:=O0 (l:=[46]) h2
  by_cases h3:s=Ab8
  · have HX:=Lib.hid (C9 (s:=s) (fun h=>h.2.2.2.1 h3))
    rw [HX.out]
    subst h3
    unfold Ab8 at *
    clear h0d h1d h0 h1 h0e
    go_enter Tryz.func60,Tryz.ntmps60
    go_wp2_with fail
    go_ret
    exact ⟨rfl,rfl⟩
  have h3n:=O0 (l:=[46,46]) h3
  have HOK:=Lib.hid (show A0 s↔Ig s.data.toList=none from ⟨fun h=>h.2.2.2.2,fun h=>⟨by omega,by omega,h2,h3,h⟩⟩)
  clear h2 h3
  go_enter Tryz.func60,Tryz.ntmps60
  go_wp2_with fail
  go_loopw [3] (fun i wr=>RelNE s w i wr) (fun i _=>(s.size - RowKit.intOf i).toNat)
  case atStart=>exact ⟨0,Nat.zero_le _,rfl,rfl,by simp⟩
  case round=>
    obtain ⟨k,hk,rfl,rfl,hall⟩:=hrel
    have HA:=Lib.hid hall
    clear hall
    by_cases hlt:k<s.size
    · have j0:(0:Int)≤(k:Int):=by omega
      have j1:(k:Int)<(s.size:Int):=by omega
      have HB:=Lib.hid (Aas hlt)
      obtain ⟨n,hn⟩:∃ n:Nat,n=s[k].toNat:=⟨_,rfl⟩
      have HN:=Lib.hid hn
      have hnI:((s[k].toNat:Nat):Int)=(n:Int):=by rw [hn]
      clear hn
      rcases (show (n<45∨n=47)∨n=45∨n=46∨(48≤n∧n≤57)∨(58≤n∧n≤64)∨(65≤n∧n≤90)∨((91≤n∧n≤94)∨n=96)∨n=95∨(97≤n∧n≤122)∨123≤n by omega) with hz|hz|hz|hz|hz|hz|hz|hz|hz|hz
      · have t1:decide ((97:Int)≤(n:Int))=false:=by simp;omega
        have t2:decide ((n:Int)≤122)=true:=by simp;omega
        have t3:decide ((65:Int)≤(n:Int))=false:=by simp;omega
        have t4:decide ((n:Int)≤90)=true:=by simp;omega
        have t5:decide ((48:Int)≤(n:Int))=false:=by simp;omega
        have t6:decide ((n:Int)≤57)=true:=by simp;omega
        have t7:((n:Int) != 46)=true:=by simp;omega
        have t8:((n:Int) != 45)=true:=by simp;omega
        have t9:((n:Int) != 95)=true:=by simp;omega
        have HS:=Lib.hid (show Cr n=false by unfold Cr;simp;omega)
        clear hz
        have HX:=Lib.hid (C9 (s:=s) (fun h=>R7 HB.out (by rw [← HN.out];exact HS.out) (HOK.out.1 h)))
        go_wp2_with fail
        go_ret
        exact ⟨by rw [HX.out];rfl,rfl⟩
      · have t1:decide ((97:Int)≤(n:Int))=false:=by simp;omega
        have t2:decide ((n:Int)≤122)=true:=by simp;omega
        have t3:decide ((65:Int)≤(n:Int))=false:=by simp;omega
        have t4:decide ((n:Int)≤90)=true:=by simp;omega
        have t5:decide ((48:Int)≤(n:Int))=false:=by simp;omega
        have t6:decide ((n:Int)≤57)=true:=by simp;omega
        have t7:((n:Int) != 46)=true:=by simp;omega
        have t8:((n:Int) != 45)=false:=by simp;omega
        have t9:((n:Int) != 95)=true:=by simp;omega
        have HS:=Lib.hid (show Cr n=true by unfold Cr;simp;omega)
        clear hz
        go_wp2_with fail
        go_roundw
        case rel=>exact ⟨k+1,by omega,by go_num,rfl,fun x hx=>by
          rw [Gt HB.out] at hx
          rcases List.mem_append.1 hx with hx|hx
          · exact HA.out x hx
          · rw [List.mem_singleton.1 hx,← HN.out];exact HS.out⟩
        case measure=>simp [RowKit.intOf];omega
      · have t1:decide ((97:Int)≤(n:Int))=false:=by simp;omega
        have t2:decide ((n:Int)≤122)=true:=by simp;omega
        have t3:decide ((65:Int)≤(n:Int))=false:=by simp;omega
        have t4:decide ((n:Int)≤90)=true:=by simp;omega
        have t5:decide ((48:Int)≤(n:Int))=false:=by simp;omega
        have t6:decide ((n:Int)≤57)=true:=by simp;omega
        have t7:((n:Int) != 46)=false:=by simp;omega
        have t8:((n:Int) != 45)=true:=by simp;omega
        have t9:((n:Int) != 95)=true:=by simp;omega
        have HS:=Lib.hid (show Cr n=true by unfold Cr;simp;omega)
        clear hz
        go_wp2_with fail
        go_roundw
        case rel=>exact ⟨k+1,by omega,by go_num,rfl,fun x hx=>by
          rw [Gt HB.out] at hx
          rcases List.mem_append.1 hx with hx|hx
          · exact HA.out x hx
          · rw [List.mem_singleton.1 hx,← HN.out];exact HS.out⟩
        case measure=>simp [RowKit.intOf];omega
      · have t1:decide ((97:Int)≤(n:Int))=false:=by simp;omega
        have t2:decide ((n:Int)≤122)=true:=by simp;omega
        have t3:decide ((65:Int)≤(n:Int))=false:=by simp;omega
        have t4:decide ((n:Int)≤90)=true:=by simp;omega
        have t5:decide ((48:Int)≤(n:Int))=true:=by simp;omega
        have t6:decide ((n:Int)≤57)=true:=by simp;omega
        have t7:((n:Int) != 46)=true:=by simp;omega
        have t8:((n:Int) != 45)=true:=by simp;omega
        have t9:((n:Int) != 95)=true:=by simp;omega
        have HS:=Lib.hid (show Cr n=true by unfold Cr;simp;omega)
        clear hz
        go_wp2_with fail
        go_roundw
        case rel=>exact ⟨k+1,by omega,by go_num,rfl,fun x hx=>by
          rw [Gt HB.out] at hx
          rcases List.mem_append.1 hx with hx|hx
          · exact HA.out x hx
          · rw [List.mem_singleton.1 hx,← HN.out];exact HS.out⟩
        case measure=>simp [RowKit.intOf];omega
      · have t1:decide ((97:Int)≤(n:Int))=false:=by simp;omega
        have t2:decide ((n:Int)≤122)=true:=by simp;omega
        have t3:decide ((65:Int)≤(n:Int))=false:=by simp;omega
        have t4:decide ((n:Int)≤90)=true:=by simp;omega
        have t5:decide ((48:Int)≤(n:Int))=true:=by simp;omega
        have t6:decide ((n:Int)≤57)=false:=by simp;omega
        have t7:((n:Int) != 46)=true:=by simp;omega
        have t8:((n:Int) != 45)=true:=by simp;omega
        have t9:((n:Int) != 95)=true:=by simp;omega
        have HS:=Lib.hid (show Cr n=false by unfold Cr;simp;omega)
        clear hz
        have HX:=Lib.hid (C9 (s:=s) (fun h=>R7 HB.out (by rw [← HN.out];exact HS.out) (HOK.out.1 h)))
        go_wp2_with fail
        go_ret
        exact ⟨by rw [HX.out];rfl,rfl⟩
      · have t1:decide ((97:Int)≤(n:Int))=false:=by simp;omega
        have t2:decide ((n:Int)≤122)=true:=by simp;omega
        have t3:decide ((65:Int)≤(n:Int))=true:=by simp;omega
        have t4:decide ((n:Int)≤90)=true:=by simp;omega
        have t5:decide ((48:Int)≤(n:Int))=true:=by simp;omega
        have t6:decide ((n:Int)≤57)=false:=by simp;omega
        have t7:((n:Int) != 46)=true:=by simp;omega
        have t8:((n:Int) != 45)=true:=by simp;omega
        have t9:((n:Int) != 95)=true:=by simp;omega
        have HS:=Lib.hid (show Cr n=true by unfold Cr;simp;omega)
        clear hz
        go_wp2_with fail
        go_roundw
        case rel=>exact ⟨k+1,by omega,by go_num,rfl,fun x hx=>by
          rw [Gt HB.out] at hx
          rcases List.mem_append.1 hx with hx|hx
          · exact HA.out x hx
          · rw [List.mem_singleton.1 hx,← HN.out];exact HS.out⟩
        case measure=>simp [RowKit.intOf];omega
      · have t1:decide ((97:Int)≤(n:Int))=false:=by simp;omega
        have t2:decide ((n:Int)≤122)=true:=by simp;omega
        have t3:decide ((65:Int)≤(n:Int))=true:=by simp;omega
        have t4:decide ((n:Int)≤90)=false:=by simp;omega
        have t5:decide ((48:Int)≤(n:Int))=true:=by simp;omega
        have t6:decide ((n:Int)≤57)=false:=by simp;omega
        have t7:((n:Int) != 46)=true:=by simp;omega
        have t8:((n:Int) != 45)=true:=by simp;omega
        have t9:((n:Int) != 95)=true:=by simp;omega
        have HS:=Lib.hid (show Cr n=false by unfold Cr;simp;omega)
        clear hz
        have HX:=Lib.hid (C9 (s:=s) (fun h=>R7 HB.out (by rw [← HN.out];exact HS.out) (HOK.out.1 h)))
        go_wp2_with fail
        go_ret
        exact ⟨by rw [HX.out];rfl,rfl⟩
      · have t1:decide ((97:Int)≤(n:Int))=false:=by simp;omega
        have t2:decide ((n:Int)≤122)=true:=by simp;omega
        have t3:decide ((65:Int)≤(n:Int))=true:=by simp;omega
        have t4:decide ((n:Int)≤90)=false:=by simp;omega
        have t5:decide ((48:Int)≤(n:Int))=true:=by simp;omega
        have t6:decide ((n:Int)≤57)=false:=by simp;omega
        have t7:((n:Int) != 46)=true:=by simp;omega
        have t8:((n:Int) != 45)=true:=by simp;omega
        have t9:((n:Int) != 95)=false:=by simp;omega
        have HS:=Lib.hid (show Cr n=true by unfold Cr;simp;omega)
        clear hz
        go_wp2_with fail
        go_roundw
        case rel=>exact ⟨k+1,by omega,by go_num,rfl,fun x hx=>by
          rw [Gt HB.out] at hx
          rcases List.mem_append.1 hx with hx|hx
          · exact HA.out x hx
          · rw [List.mem_singleton.1 hx,← HN.out];exact HS.out⟩
        case measure=>simp [RowKit.intOf];omega
      · have t1:decide ((97:Int)≤(n:Int))=true:=by simp;omega
        have t2:decide ((n:Int)≤122)=true:=by simp;omega
        have t3:decide ((65:Int)≤(n:Int))=true:=by simp;omega
        have t4:decide ((n:Int)≤90)=false:=by simp;omega
        have t5:decide ((48:Int)≤(n:Int))=true:=by simp;omega
        have t6:decide ((n:Int)≤57)=false:=by simp;omega
        have t7:((n:Int) != 46)=true:=by simp;omega
        have t8:((n:Int) != 45)=true:=by simp;omega
        have t9:((n:Int) != 95)=true:=by simp;omega
        have HS:=Lib.hid (show Cr n=true by unfold Cr;simp;omega)
        clear hz
        go_wp2_with fail
        go_roundw
        case rel=>exact ⟨k+1,by omega,by go_num,rfl,fun x hx=>by
          rw [Gt HB.out] at hx
          rcases List.mem_append.1 hx with hx|hx
          · exact HA.out x hx
          · rw [List.mem_singleton.1 hx,← HN.out];exact HS.out⟩
        case measure=>simp [RowKit.intOf];omega
      · have t1:decide ((97:Int)≤(n:Int))=true:=by simp;omega
        have t2:decide ((n:Int)≤122)=false:=by simp;omega
        have t3:decide ((65:Int)≤(n:Int))=true:=by simp;omega
        have t4:decide ((n:Int)≤90)=false:=by simp;omega
        have t5:decide ((48:Int)≤(n:Int))=true:=by simp;omega
        have t6:decide ((n:Int)≤57)=false:=by simp;omega
        have t7:((n:Int) != 46)=true:=by simp;omega
        have t8:((n:Int) != 45)=true:=by simp;omega
        have t9:((n:Int) != 95)=true:=by simp;omega
        have HS:=Lib.hid (show Cr n=false by unfold Cr;simp;omega)
        clear hz
        have HX:=Lib.hid (C9 (s:=s) (fun h=>R7 HB.out (by rw [← HN.out];exact HS.out) (HOK.out.1 h)))
        go_wp2_with fail
        go_ret
        exact ⟨by rw [HX.out];rfl,rfl⟩
    · obtain rfl:k=s.size:=by omega
      have HX:=Lib.hid (Bg (s:=s) (HOK.out.2 (Abc (fun b hb=>HA.out b (by rw [List.take_of_length_le (by rw [Array.length_toList];exact Nat.le_refl _)];exact hb)))))
      go_wp2_with fail
      go_ret
      exact ⟨by rw [HX.out];rfl,rfl⟩
end
theorem Wf {B:Nat} (ad:Nat→Addr) (s:ByteArray) (hs:s.size≤9223372036854775807):Ao Tryz.prog 53 #[.string s] [Bq B ad [4]] fun u L=>u=Ab ad (H6 s)∧L=[Bq B ad [4]]:=fun E w0 w ho=>
  (Z7 ad s w (ho.fact 0 rfl) hs).mono fun e w' ⟨he,hc⟩=>⟨_,_,⟨rfl,rfl⟩,he,ho.quiet hc⟩
theorem P1 (s:ByteArray) (hs:s.size≤9223372036854775807):Ao Tryz.prog 60 #[.string s] [] fun u L=>u=.int .i64 (H6 s:Nat)∧L=[]:=
  Pi fun w=>(Qb s w hs).mono fun e w' ⟨he,hc⟩=>⟨he,hc▸Chg.refl _ _⟩
theorem Rn {B:Nat} (ad:Nat→Addr) (s:ByteArray) (hs:s.size≤9223372036854775807):Ao Tryz.prog 53 #[.string s] [Bq B ad [4]] fun u L=>(A0 s∧u=.nilIface∧L=[Bq B ad [4]])∨(¬A0 s∧u=Ab ad 4∧L=[Bq B ad [4]]):=
  (Wf ad s hs).mono fun u L ⟨h1,h2⟩=>by
    by_cases h:A0 s
    · exact .inl ⟨h,by rw [h1,Bg h];rfl,h2⟩
    · exact .inr ⟨h,by rw [h1,C9 h],h2⟩
theorem Ex (s:ByteArray) (hs:s.size≤9223372036854775807):Ao Tryz.prog 60 #[.string s] [] fun u L=>(A0 s∧u=.int .i64 0∧L=[])∨(¬A0 s∧u=.int .i64 4∧L=[]):=
  (P1 s hs).mono fun u L ⟨h1,h2⟩=>by
    by_cases h:A0 s
    · exact .inl ⟨h,by rw [h1,Bg h];rfl,h2⟩
    · exact .inr ⟨h,by rw [h1,C9 h];rfl,h2⟩
section
variable {B:Nat} (ad:Nat→Addr)
include B ad
theorem Nh (b:Nat) (n g:Int) (ps:List (Option Nat)) (gs:List Int) (vl vg:Value) (T:TypeId) (Sl Sg:Nat→Prop) (hl:ps.length=gs.length) (hr:∀ x∈gs,0≤x∧x≤1000000) (ha:Bl ps gs n g=none) :
    Ao Tryz.prog 67 #[Pp b,Hg n g] [B8 b ps gs vl vg T Sl Sg,Bq B ad [10]] fun u L=>u=.tuple #[.pointer none,Ab ad 10]∧L=[B8 b ps gs vl vg T Sl Sg,Bq B ad [10]]:=
  (W8 ad b n g ps gs vl vg T Sl Sg hl hr).mono fun u L h=>by
    rcases h with ⟨nb,h1,_⟩|⟨_,h2,h3⟩
    · rw [ha] at h1;cases h1
    · exact ⟨h2,h3⟩
theorem Bt (tb:Nat) (ps:List (Option Nat)) (gs:List Int) (vl vg:Value) (T:TypeId) (Sl Sg:Nat→Prop) (l:List (Option ND)) (hl:ps.length=gs.length) (hr:∀ x∈gs,0≤x∧x≤1000000) (n g:Int) (k:Nat) (N:ND) (hk:l[k]?=some (some N)) (ha:Bl ps gs n g=some N.nb) (hc:0≤N.change∧N.change≤1000000):Ao Tryz.prog 57 #[Pp tb,Hg n g] [B8 tb ps gs vl vg T Sl Sg,Cp l,Bq B ad [10]] (fun u L=>u=.nilIface∧L=[B8 tb ps gs vl vg T Sl Sg,Cp (l.set k (some { N with change:=N.change+1 })),Bq B ad [10]]):=by
 refine Zo 23 Tryz.func57 fun E w0 w h=>?_
 refine Qs (ZN [Ii n,Ii g] 34 h fun k1 w h=>ZP .nilIface (Qm (ZP (Pp tb) (ZG h (Gla 0 [Ii n,Ii g] 0) (ZC [1,2] (F3 ad tb _ n g ps gs vl vg T Sl Sg hl hr ha) h fun w h=>?_)))))
 have h:=(h.pkr [3]).ndOpen hk
 refine ZP (.tuple #[Pp N.nb,.nilIface]) (ZP (Pp N.nb) (ZP .nilIface (ZP (Pp N.nb) (ZP .nilIface (Qu (ZP .nilIface (ZP (.bool false) (Fs (ZP (Pp N.nb) (ZP (Pp N.nb) (ZP (Pp N.nb) (ZP (Pt N.nb 3) (ZG h (Gl 3 (Ii N.change) 0) (ZG h (Gw (N.change+1)) (ZP (Pp N.nb) (ZP (Pp N.nb) (ZP (Pt N.nb 3) (ZS 3 [Ii (N.change+1)] [Ii N.kind,Ii N.size,Ii N.links,Ii (N.change+1),Ii N.upn,Ii N.upg,(Abd N.dq)] 0 rfl h fun w h=>Qm (ZP .nilIface (Qr ?_))))))))))))))))))))
 have h:=h.ndClose { N with change:=N.change+1 }
 exact ZR [.nilIface] [1,0,0] h ⟨rfl,rfl⟩
theorem G4 (tb:Nat) (ps:List (Option Nat)) (gs:List Int) (vl vg:Value) (T:TypeId) (Sl Sg:Nat→Prop) (l:List (Option ND)) (hl:ps.length=gs.length) (hr:∀ x∈gs,0≤x∧x≤1000000) (n g:Int) (k:Nat) (N:ND) (hk:l[k]?=some (some N)) (ha:Bl ps gs n g=some N.nb) (a0 a1 a2 a3 a4 a5:Int):Ao Tryz.prog 31 #[Pp tb,Hg n g,.agg #[Ii a0,Ii a1,Ii a2,Ii a3,Ii a4,Ii a5]] [B8 tb ps gs vl vg T Sl Sg,Cp l,Bq B ad [10]] (fun u L=>L=[B8 tb ps gs vl vg T Sl Sg,Cp (l.set k (some { N with kind:=a0,size:=a1,links:=a2,upn:=a4,upg:=a5 })),Bq B ad [10]]):=by
 refine Zo 23 Tryz.func31 fun E w0 w h=>?_
 refine Qs (ZN [Ii n,Ii g] 34 h fun k1 w h=>ZN [Ii a0,Ii a1,Ii a2,Ii a3,Ii a4,Ii a5] 46 h fun k2 w h=>Qm (ZP (Pp tb) (ZG h (Gla 0 [Ii n,Ii g] 1) (ZC [2,3] (F3 ad tb _ n g ps gs vl vg T Sl Sg hl hr ha) h fun w h=>?_))))
 have h:=(h.pkr [4]).ndOpen hk
 refine ZP (.tuple #[Pp N.nb,.nilIface]) (ZP (Pp N.nb) (ZP .nilIface (ZP (Pp N.nb) (ZP .nilIface (Qm (ZP .nilIface (ZP (.bool true) (Qg (Qs (ZP (Pp N.nb) (ZP (Pp N.nb) (ZP (Pp N.nb) (ZP (Pt N.nb 3) (ZG h (Gl 3 (Ii N.change) 0) (ZP (Pt k2 3) (ZS 3 [Ii N.change] [Ii a0,Ii a1,Ii a2,Ii N.change,Ii a4,Ii a5] 5 rfl h fun w h=>Qn (Ai (ZP (Pp N.nb) (ZG h (Gla 0 [Ii a0,Ii a1,Ii a2,Ii N.change,Ii a4,Ii a5] 5) (ZP (Pp N.nb) (ZP (Pp N.nb) (ZS 0 [Ii a0,Ii a1,Ii a2,Ii N.change,Ii a4,Ii a5] [Ii a0,Ii a1,Ii a2,Ii N.change,Ii a4,Ii a5,(Abd N.dq)] 0 rfl h fun w h=>Dj ?_))))))))))))))))))))))
 have h:=h.ndClose { N with kind:=a0,size:=a1,links:=a2,upn:=a4,upg:=a5 }
 exact ZR [] [1,0,0] h rfl
theorem Hl (tb:Nat) (ps:List (Option Nat)) (gs:List Int) (vl vg:Value) (T:TypeId) (Sl Sg:Nat→Prop) (l:List (Option ND)) (hl:ps.length=gs.length) (hr:∀ x∈gs,0≤x∧x≤1000000) (n g:Int) (ha:Bl ps gs n g=none):Ao Tryz.prog 46 #[Pp tb,Hg n g] [B8 tb ps gs vl vg T Sl Sg,Cp l,Bq B ad [10]] (fun u L=>u=.tuple #[.agg #[Ii 0,Ii 0,Ii 0,Ii 0,Ii 0,Ii 0],Ab ad 10]∧L=[B8 tb ps gs vl vg T Sl Sg,Cp l,Bq B ad [10]]):=by
 refine Zo 33 Tryz.func46 fun E w0 w h=>?_
 refine Qs (ZN [Ii n,Ii g] 34 h fun k1 w h=>ZN [Ii 0,Ii 0,Ii 0,Ii 0,Ii 0,Ii 0] 46 h fun k2 w h=>ZP .nilIface (Qm (ZP (Pp tb) (ZG h (Gla 0 [Ii n,Ii g] 1) (ZC [2,3] (Nh ad tb n g ps gs vl vg T Sl Sg hl hr ha) h fun w h=>ZP (.tuple #[.pointer none,Ab ad 10]) (ZP (.pointer none) (ZP (Ab ad 10) (ZP (.pointer none) (ZP (Ab ad 10) (Qu (ZP (Ab ad 10) (ZP (.bool true) (Qg (Qs (ZP (.agg #[Ii 0,Ii 0,Ii 0,Ii 0,Ii 0,Ii 0]) (ZP (Ab ad 10) (ZSs [Ii 0,Ii 0,Ii 0,Ii 0,Ii 0,Ii 0] 2 rfl h fun w h=>ZP (Ab ad 10) (Qr (Ap ?_)))))))))))))))))))
 refine Bv [.agg #[Ii 0,Ii 0,Ii 0,Ii 0,Ii 0,Ii 0],Ab ad 10] [0,3,0] h (by kernel_rfl) (C6 0 [Ii 0,Ii 0,Ii 0,Ii 0,Ii 0,Ii 0] (.agg #[Ii 0,Ii 0,Ii 0,Ii 0,Ii 0,Ii 0]) 2 rfl (by kernel_rfl) (Dm (by kernel_rfl) C3)) ?_
 exact ⟨rfl,rfl⟩
theorem Vy (tb:Nat) (ps:List (Option Nat)) (gs:List Int) (vl vg:Value) (T:TypeId) (Sl Sg:Nat→Prop) (l:List (Option ND)) (hl:ps.length=gs.length) (hr:∀ x∈gs,0≤x∧x≤1000000) (n g:Int) (k nb:Nat) (ki si li ch un ug:Int) (hk:l[k]?=some (some (⟨nb,ki,si,li,ch,un,ug,none⟩:ND))) (ha:Bl ps gs n g=some nb):Ao Tryz.prog 46 #[Pp tb,Hg n g] [B8 tb ps gs vl vg T Sl Sg,Cp l,Bq B ad [10]] (fun u L=>u=.tuple #[.agg #[Ii ki,Ii si,Ii li,Ii ch,Ii un,Ii ug],.nilIface]∧L=[B8 tb ps gs vl vg T Sl Sg,Cp l,Bq B ad [10]]):=by
 refine Zo 33 Tryz.func46 fun E w0 w h=>?_
 refine Qs (ZN [Ii n,Ii g] 34 h fun k1 w h=>ZN [Ii 0,Ii 0,Ii 0,Ii 0,Ii 0,Ii 0] 46 h fun k2 w h=>ZP .nilIface (Qm (ZP (Pp tb) (ZG h (Gla 0 [Ii n,Ii g] 1) (ZC [2,3] (F3 ad tb nb n g ps gs vl vg T Sl Sg hl hr ha) h fun w h=>?_)))))
 have h:=(h.pkr [4]).ndOpen hk
 refine ZP (.tuple #[Pp nb,.nilIface]) (ZP (Pp nb) (ZP .nilIface (ZP (Pp nb) (ZP .nilIface (Qu (ZP .nilIface (ZP (.bool false) (Fs (ZP (Pp nb) (ZP (Pp nb) (ZP (Pp nb) (ZG h (Gla 0 [Ii ki,Ii si,Ii li,Ii ch,Ii un,Ii ug] 0) (ZN [Ii 0,Ii 0,Ii 0,Ii 0,Ii 0,Ii 0] 46 h fun k3 w h=>ZSs [Ii ki,Ii si,Ii li,Ii ch,Ii un,Ii ug] 0 rfl h fun w h=>Qu (ZP (Pp nb) (ZP (Pp nb) (ZP (Pt nb 6) (ZG h (Gl 6 (.pointer none) 1) (ZP (.bool false) (Fs (ZG h (Gla 0 [Ii ki,Ii si,Ii li,Ii ch,Ii un,Ii ug] 0) (ZSs [Ii ki,Ii si,Ii li,Ii ch,Ii un,Ii ug] 6 rfl h fun w h=>ZP .nilIface (Qr ?_))))))))))))))))))))))
 have h:=(h.pkr [1,1,1]).ndBack (N:=(⟨nb,ki,si,li,ch,un,ug,none⟩:ND)) hk
 refine Bv [.agg #[Ii ki,Ii si,Ii li,Ii ch,Ii un,Ii ug],.nilIface] [2,0,1] h (by kernel_rfl) (C6 0 [Ii ki,Ii si,Ii li,Ii ch,Ii un,Ii ug] (.agg #[Ii ki,Ii si,Ii li,Ii ch,Ii un,Ii ug]) 4 rfl (by kernel_rfl) (Dm (by kernel_rfl) C3)) ?_
 exact ⟨rfl,rfl⟩
theorem W1 (tb:Nat) (ps:List (Option Nat)) (gs:List Int) (vl vg:Value) (T:TypeId) (Sl Sg:Nat→Prop) (l:List (Option ND)) (hl:ps.length=gs.length) (hr:∀ x∈gs,0≤x∧x≤1000000) (n g:Int) (k nb:Nat) (ki si li ch un ug:Int) (q:DQ) (hk:l[k]?=some (some (⟨nb,ki,si,li,ch,un,ug,some q⟩:ND))) (ha:Bl ps gs n g=some nb):Ao Tryz.prog 46 #[Pp tb,Hg n g] [B8 tb ps gs vl vg T Sl Sg,Cp l,Bq B ad [10]] (fun u L=>u=.tuple #[.agg #[Ii ki,Ii q.size,Ii li,Ii ch,Ii un,Ii ug],.nilIface]∧L=[B8 tb ps gs vl vg T Sl Sg,Cp l,Bq B ad [10]]):=by
 refine Zo 33 Tryz.func46 fun E w0 w h=>?_
 refine Qs (ZN [Ii n,Ii g] 34 h fun k1 w h=>ZN [Ii 0,Ii 0,Ii 0,Ii 0,Ii 0,Ii 0] 46 h fun k2 w h=>ZP .nilIface (Qm (ZP (Pp tb) (ZG h (Gla 0 [Ii n,Ii g] 1) (ZC [2,3] (F3 ad tb nb n g ps gs vl vg T Sl Sg hl hr ha) h fun w h=>?_)))))
 have h:=(h.pkr [4]).ndOpen hk
 refine ZP (.tuple #[Pp nb,.nilIface]) (ZP (Pp nb) (ZP .nilIface (ZP (Pp nb) (ZP .nilIface (Qu (ZP .nilIface (ZP (.bool false) (Fs (ZP (Pp nb) (ZP (Pp nb) (ZP (Pp nb) (ZG h (Gla 0 [Ii ki,Ii si,Ii li,Ii ch,Ii un,Ii ug] 0) (ZN [Ii 0,Ii 0,Ii 0,Ii 0,Ii 0,Ii 0] 46 h fun k3 w h=>ZSs [Ii ki,Ii si,Ii li,Ii ch,Ii un,Ii ug] 0 rfl h fun w h=>Qu (ZP (Pp nb) (ZP (Pp nb) (ZP (Pt nb 6) (ZG h (Gl 6 (Pp q.db) 1) (ZP (.bool true) (Qg (Ai (ZP (Pp nb) (ZP (Pp nb) (ZP (Pt nb 6) (ZG h (Gl 6 (Pp q.db) 1) (ZC [2] (Vu q) h fun w h=>ZP (Pt k3 1) (ZS 1 [Ii q.size] [Ii ki,Ii q.size,Ii li,Ii ch,Ii un,Ii ug] 1 rfl h fun w h=>Qm (ZG h (Gla 0 [Ii ki,Ii q.size,Ii li,Ii ch,Ii un,Ii ug] 1) (ZSs [Ii ki,Ii q.size,Ii li,Ii ch,Ii un,Ii ug] 6 rfl h fun w h=>ZP .nilIface (Qr ?_)))))))))))))))))))))))))))))
 have h:=(h.pkr [2,0,1]).ndBack (N:=(⟨nb,ki,si,li,ch,un,ug,some q⟩:ND)) hk
 refine Bv [.agg #[Ii ki,Ii q.size,Ii li,Ii ch,Ii un,Ii ug],.nilIface] [2,0,1] h (by kernel_rfl) (C6 0 [Ii ki,Ii q.size,Ii li,Ii ch,Ii un,Ii ug] (.agg #[Ii ki,Ii q.size,Ii li,Ii ch,Ii un,Ii ug]) 4 rfl (by kernel_rfl) (Dm (by kernel_rfl) C3)) ?_
 exact ⟨rfl,rfl⟩
theorem Wy (tb:Nat) (ps:List (Option Nat)) (gs:List Int) (vl vg:Value) (T:TypeId) (Sl Sg:Nat→Prop) (l:List (Option ND)) (hl:ps.length=gs.length) (hr:∀ x∈gs,0≤x∧x≤1000000) (n g:Int) (ha:Bl ps gs n g=none):Ao Tryz.prog 73 #[Pp tb,Hg n g] [B8 tb ps gs vl vg T Sl Sg,Cp l,Bq B ad [10]] (fun u L=>u=.tuple #[.pointer none,Ab ad 10]∧L=[B8 tb ps gs vl vg T Sl Sg,Cp l,Bq B ad [10]]):=by
 refine Zo 27 Tryz.func73 fun E w0 w h=>?_
 exact Qs (ZN [Ii n,Ii g] 34 h fun k1 w h=>ZP (.pointer none) (ZP .nilIface (Qm (ZP (Pp tb) (ZG h (Gla 0 [Ii n,Ii g] 0) (ZC [1,2] (Nh ad tb n g ps gs vl vg T Sl Sg hl hr ha) h fun w h=>ZP (.tuple #[.pointer none,Ab ad 10]) (ZP (.pointer none) (ZP (Ab ad 10) (ZP (.pointer none) (ZP (Ab ad 10) (Qn (Aa (Au (Qs (ZP (Ab ad 10) (ZP (.bool true) (ZP (.bool true) (Qg (Qs (ZP (Ab ad 10) (ZP (.pointer none) (ZP (Ab ad 10) (Qr (Cj (Ap (ZR [.pointer none,Ab ad 10] [0,2,0] h ⟨rfl,rfl⟩))))))))))))))))))))))))))
theorem Ws (tb:Nat) (ps:List (Option Nat)) (gs:List Int) (vl vg:Value) (T:TypeId) (Sl Sg:Nat→Prop) (l:List (Option ND)) (hl:ps.length=gs.length) (hr:∀ x∈gs,0≤x∧x≤1000000) (n g:Int) (k nb:Nat) (kd si li ch un ug:Int) (hk:l[k]?=some (some (⟨nb,kd,si,li,ch,un,ug,none⟩:ND))) (ha:Bl ps gs n g=some nb):Ao Tryz.prog 73 #[Pp tb,Hg n g] [B8 tb ps gs vl vg T Sl Sg,Cp l,Bq B ad [10],Bq B ad [8]] (fun u L=>u=.tuple #[.pointer none,Ab ad 8]∧L=[B8 tb ps gs vl vg T Sl Sg,Cp l,Bq B ad [10],Bq B ad [8]]):=by
 refine Zo 27 Tryz.func73 fun E w0 w h=>?_
 refine Qs (ZN [Ii n,Ii g] 34 h fun k1 w h=>ZP (.pointer none) (ZP .nilIface (Qm (ZP (Pp tb) (ZG h (Gla 0 [Ii n,Ii g] 0) (ZC [1,2] (F3 ad tb nb n g ps gs vl vg T Sl Sg hl hr ha) h fun w h=>?_))))))
 have h:=(h.pkr [3]).ndOpen hk
 refine ZP (.tuple #[Pp nb,.nilIface]) (ZP (Pp nb) (ZP .nilIface (ZP (Pp nb) (ZP .nilIface (Qn (Aa (Au (Qs (ZP .nilIface (ZP (.bool false) (ZP (.bool false) (Qf (Qs (ZP (Pp nb) (ZP (Pp nb) (ZP (Pt nb 6) (ZG h (Gl 6 (.pointer none) 0) (ZP (.bool true) (ZP (.bool true) (Qg (Aa (Ds 3 [6] h fun w h=>Dq 0 2 [6] rfl h (Gr 0 (Ab ad 8) 0 rfl (Fe (c:=8) (by decide) rfl)) (Dp 1 1 (.pointer none) [6] h (Dp 2 3 (Ab ad 8) [6] h (Dd (Ag (H4 (Cj (Ap ?_)))))))))))))))))))))))))))))
 have h:=h.ndBack (N:=(⟨nb,kd,si,li,ch,un,ug,none⟩:ND)) hk
 exact ZR [.pointer none,Ab ad 8] [1,0,0,1] h ⟨rfl,rfl⟩
theorem Ee (tb:Nat) (ps:List (Option Nat)) (gs:List Int) (vl vg:Value) (T:TypeId) (Sl Sg:Nat→Prop) (l:List (Option ND)) (hl:ps.length=gs.length) (hr:∀ x∈gs,0≤x∧x≤1000000) (n g:Int) (k nb:Nat) (kd si li ch un ug:Int) (q:DQ) (hk:l[k]?=some (some (⟨nb,kd,si,li,ch,un,ug,some q⟩:ND))) (ha:Bl ps gs n g=some nb):Ao Tryz.prog 73 #[Pp tb,Hg n g] [B8 tb ps gs vl vg T Sl Sg,Cp l,Bq B ad [10]] (fun u L=>u=.tuple #[Pp q.db,.nilIface]∧L=[B8 tb ps gs vl vg T Sl Sg,Cp l,Bq B ad [10]]):=by
 refine Zo 27 Tryz.func73 fun E w0 w h=>?_
 refine Qs (ZN [Ii n,Ii g] 34 h fun k1 w h=>ZP (.pointer none) (ZP .nilIface (Qm (ZP (Pp tb) (ZG h (Gla 0 [Ii n,Ii g] 0) (ZC [1,2] (F3 ad tb nb n g ps gs vl vg T Sl Sg hl hr ha) h fun w h=>?_))))))
 have h:=(h.pkr [3]).ndOpen hk
 refine ZP (.tuple #[Pp nb,.nilIface]) (ZP (Pp nb) (ZP .nilIface (ZP (Pp nb) (ZP .nilIface (Qn (Aa (Au (Qs (ZP .nilIface (ZP (.bool false) (ZP (.bool false) (Qf (Qs (ZP (Pp nb) (ZP (Pp nb) (ZP (Pt nb 6) (ZG h (Gl 6 (Pp q.db) 0) (ZP (.bool false) (ZP (.bool false) (Qf (B3 ?_)))))))))))))))))))))
 refine Ch (Ag ?_)
 refine Qs (ZP (Pp nb) (ZP (Pp nb) (ZP (Pt nb 6) (ZG h (Gl 6 (Pp q.db) 0) (ZP (Pp q.db) (ZP .nilIface (Qr ?_)))))))
 have h:=h.ndBack (N:=(⟨nb,kd,si,li,ch,un,ug,some q⟩:ND)) hk
 exact ZR [Pp q.db,.nilIface] [1,0,0] h ⟨rfl,rfl⟩
theorem U3 (m:Int) (hm:m<1∨300<m):Ao Tryz.prog 29 #[Ii m] [Bq B ad [2]] (fun u L=>u=.tuple #[.pointer none,Ab ad 2]∧L=[Bq B ad [2]]):=by
 refine Zo 16 Tryz.func29 fun E w0 w h=>?_
 refine Qs (ZP (.pointer none) (ZP .nilIface (Qu (ZP (Ii m) ?_))))
 obtain ⟨b1,hb1⟩:=nmB (decide (m<1))
 refine ZB hb1 (ZP (.bool b1) (ZM0 (v:=Ii m) b1 h (fun hB=>by subst hB;exact Gp (Ii m)) ?_))
 obtain ⟨b2,hb2⟩:=nmB (decide (m>300))
 refine ZM0 (v:=.bool b2) b1 h (fun hB=>by subst hB;exact by subst hb2;exact Ay (v:=.bool (decide (m>300))) fun _=>by kernel_rfl) ?_
 obtain ⟨b3,hb3⟩:=nmB (b1||b2)
 refine ZBc b1 hb3 (Qn (Zi (b3) (fun hc4=>?_) fun hc4=>?_))
 have q5:=hb3.symm.trans hc4
 have q6:((m<1)∨(m>300)):=by subst hb2;subst hb1;revert q5;first|(simp;done)|(simp;omega)
 exact Aa (Ds 3 [0] h fun w h=>Dq 0 2 [0] rfl h (Gr 0 (Ab ad 2) 0 rfl (Fe (c:=2) (by decide) rfl)) (Dp 1 1 (.pointer none) [0] h (Dp 2 3 (Ab ad 2) [0] h (Dd (Ag (H4 (Ap (ZR [.pointer none,Ab ad 2] [0] h ⟨rfl,rfl⟩))))))))
 have q7:=hb3.symm.trans hc4
 have q8:=oL q7
 have q9:=oR q7
 have q10:=hb1.symm.trans q8
 have q10:=dcF q10
 have q11:=hb2.symm.trans q9
 have q11:=dcF q11
 exfalso;revert hc4;subst hb3;subst hb2;subst hb1;simp;omega
end
theorem Zk {B:Nat} (ad:Nat→Addr) (c:Nat) (code:Int) (w:World) (he:Lb B ad w) (hc:c≤15) (hcode:(c:Int)=code) :
    Calls Tryz.prog 18 #[Ab ad c,.int .i64 code] w fun e w'=>e=.returned (.bool true)∧Chg Nil w w':=by
  by_cases h0:c=0
  · subst h0
    have hb:((0:Int)==code)=true:=by simp;omega
    rw [Mv]
    clear hcode
    go_enter Tryz.func18,Tryz.ntmps18
    go_wp2_with fail
    refine (Ack _).mono ?_
    rintro e w1 ⟨rfl,rfl⟩
    go_wp2_with fail
    go_ret
    exact ⟨rfl,Chg.refl _ _⟩
  · have hb:((c:Int)==code)=true:=by simp;omega
    have HE:=Lib.hid he
    rw [Td h0]
    clear hcode he
    go_enter Tryz.func18,Tryz.ntmps18
    go_wp2_with fail
    refine (Acs ad c w HE.out (by omega) hc).mono ?_
    rintro e w1 ⟨rfl,hc1⟩
    go_wp2_with fail
    go_ret
    exact ⟨rfl,hc1⟩
theorem Bh {B:Nat} (ad:Nat→Addr) (tb:Nat) (ps:List (Option Nat)) (gs:List Int) (vl vg:Value) (T:TypeId) (Sl Sg:Nat→Prop) (l:List (Option ND)) (hl:ps.length=gs.length) (hr:∀ x∈gs,0≤x∧x≤1000000) (n g:Int) (k:Nat) (N:ND) (hlk:l[k]?=some (some N)) (ha:Bl ps gs n g=some N.nb) :
    Ao Tryz.prog 46 #[Pp tb,Hg n g] [B8 tb ps gs vl vg T Sl Sg,Cp l,Bq B ad [10]] fun u L=>u=.tuple #[.agg #[Ii N.kind,Ii (Aj N),Ii N.links,Ii N.change,Ii N.upn,Ii N.upg],.nilIface]∧L=[B8 tb ps gs vl vg T Sl Sg,Cp l,Bq B ad [10]]:=by
  obtain ⟨nb,ki,si,li,ch,un,ug,dq⟩:=N
  cases dq with
  | none=>exact Vy ad tb ps gs vl vg T Sl Sg l hl hr n g k nb ki si li ch un ug hlk ha
  | some q=>exact W1 ad tb ps gs vl vg T Sl Sg l hl hr n g k nb ki si li ch un ug q hlk ha
theorem A8 {B:Nat} (ad:Nat→Addr) (b most tb dm pm:Nat) (ps:List (Option Nat)) (gs:List Int) (vl vg:Value) (T:TypeId) (Sl Sg:Nat→Prop) (l:List (Option ND)) (ds:List DN) (pn:List ((Int×Int)×Int)) (hl:ps.length=gs.length) (hr:∀ x∈gs,0≤x∧x≤1000000) (n g:Int) (k:Nat) (N:ND) (hlk:l[k]?=some (some N)) (ha:Bl ps gs n g=some N.nb) (j:Nat) (d:DN) (hj:ds[j]?=some d) (hdh:d.h=(n,g)) (hdd:(ds.map (·.h)).Nodup)  : Ao Tryz.prog 50 #[Pp b,Hg n g] [Rb b tb most dm pm,B8 tb ps gs vl vg T Sl Sg,Cp l,Cm true dm hk (ds.map Bs),Bq B ad [10]] (fun u L=>u=.tuple #[.map (some d.mb),.nilIface]∧L=[Rb b tb most dm pm,B8 tb ps gs vl vg T Sl Sg,Cp l,Cm true dm hk (ds.map Bs),Bq B ad [10]]):=by
 refine Zo 33 Tryz.func50 fun E w0 w h=>?_
 refine Qs (ZN [Ii n,Ii g] 34 h fun k1 w h=>ZP (.map none) (ZP .nilIface (Qn (Aa (Aa (Ds 12 [0,0] h fun w h=>Dp 0 528 (Pp b) [0,0] h (Dp 1 529 (Pp b) [0,0] h (Dp 2 531 (Pp b) [0,0] h (Dq 3 535 [0,0] rfl h (Gl 0 (Pp tb) 1) (Dq 4 527 [0,0] rfl h (Gla 0 [Ii n,Ii g] 0) ?_))))))))))
 refine Ax [5,9] (by kernel_rfl) rfl ?_
 refine De #[Pp tb,Hg n g] [2,2,3] [3,3] rfl (by kernel_rfl) (Bh ad tb ps gs vl vg T Sl Sg l hl hr n g k N hlk ha) (fun _=>by kernel_rfl) h ?_ ?_
 rintro v_ L_ w ⟨rfl,rfl⟩ h
 refine ⟨by kernel_rfl,?_⟩
 refine Dp 6 575 (.tuple #[.agg #[Ii N.kind,Ii (Aj N),Ii N.links,Ii N.change,Ii N.upn,Ii N.upg],.nilIface]) [3,3] h (Dp 7 895 (.agg #[Ii N.kind,Ii (Aj N),Ii N.links,Ii N.change,Ii N.upn,Ii N.upg]) [3,3] h (Dp 8 1791 .nilIface [3,3] h ?_))
 refine Ax [9] (by kernel_rfl) rfl ?_
 refine B9 [4,4] rfl (by kernel_rfl) (fun b=>Pp b) [Ii 0,Ii 0,Ii 0,Ii 0,Ii 0,Ii 0] 46 (fun _=>by kernel_rfl) h ?_ ?_
 intro k2 w h;refine ⟨by kernel_rfl,?_⟩
 exact As 10 [4,4] 0 [Ii N.kind,Ii (Aj N),Ii N.links,Ii N.change,Ii N.upn,Ii N.upg] [Ii N.kind,Ii (Aj N),Ii N.links,Ii N.change,Ii N.upn,Ii N.upg] 0 rfl h fun w h=>Dp 11 2047 .nilIface [4,4] h (Dd (Ag (Qs (ZP .nilIface (ZP (.bool false) (Qf (Kn (Aa (Ds 11 [4,4,4] h fun w h=>Dp 0 16 (Pp b) [4,4,4] h (Dp 1 17 (Pp b) [4,4,4] h (Dp 2 19 (Pt b 4) [4,4,4] h (Dq 3 23 [4,4,4] rfl h (Gl 4 (.map (some dm)) 1) (Dq 4 15 [4,4,4] rfl h (Gla 0 [Ii n,Ii g] 0) (Dq 5 31 [4,4,4] rfl h (A1 (v':=.tuple #[.map (some d.mb),.bool true]) (Gkd (kv:=ds.map Bs) true (n,g) 2 rfl) (by rw [show Af (ds.map Bs) (n,g)=_ from hdh▸Cu hdd hj];rfl)) (Dp 6 63 (.tuple #[.map (some d.mb),.bool true]) [4,4,4] h (Dp 7 383 (.map (some d.mb)) [4,4,4] h (Dp 8 767 (.bool true) [4,4,4] h (Dp 9 511 (.map (some d.mb)) [4,4,4] h (Dp 10 1023 (.bool true) [4,4,4] h (Dd (Ag (Qt (ZP (.bool true) (ZP (.bool false) (Fs (ZP (.map (some d.mb)) (ZP (.map (some d.mb)) (ZP .nilIface (Qr (ZR [.map (some d.mb),.nilIface] [5,1,1,3,1] h ⟨rfl,rfl⟩))))))))))))))))))))))))))))))
 exact A6
 refine B9 [1,1] rfl (by kernel_rfl) (fun b=>Pp b) [Ii 0,Ii 0,Ii 0,Ii 0,Ii 0,Ii 0] 46 (fun _=>by kernel_rfl) h ?_ ?_
 intro k3 w h;refine ⟨by kernel_rfl,?_⟩
 refine Ad 5 [3,3,4] [4,4] (Bh ad tb ps gs vl vg T Sl Sg l hl hr n g k N hlk ha) h ?_
 rintro v_ L_ w ⟨rfl,rfl⟩ h
 refine ⟨by kernel_rfl,?_⟩
 exact Dp 6 575 (.tuple #[.agg #[Ii N.kind,Ii (Aj N),Ii N.links,Ii N.change,Ii N.upn,Ii N.upg],.nilIface]) [4,4] h (Dp 7 895 (.agg #[Ii N.kind,Ii (Aj N),Ii N.links,Ii N.change,Ii N.upn,Ii N.upg]) [4,4] h (Dp 8 1791 .nilIface [4,4] h (As 10 [4,4] 0 [Ii N.kind,Ii (Aj N),Ii N.links,Ii N.change,Ii N.upn,Ii N.upg] [Ii N.kind,Ii (Aj N),Ii N.links,Ii N.change,Ii N.upn,Ii N.upg] 3 rfl h fun w h=>Dp 11 2047 .nilIface [4,4] h (Dd (Ag (Qs (ZP .nilIface (ZP (.bool false) (Qf (Kn (Aa (Ds 11 [4,4,4] h fun w h=>Dp 0 16 (Pp b) [4,4,4] h (Dp 1 17 (Pp b) [4,4,4] h (Dp 2 19 (Pt b 4) [4,4,4] h (Dq 3 23 [4,4,4] rfl h (Gl 4 (.map (some dm)) 1) (Dq 4 15 [4,4,4] rfl h (Gla 0 [Ii n,Ii g] 0) (Dq 5 31 [4,4,4] rfl h (A1 (v':=.tuple #[.map (some d.mb),.bool true]) (Gkd (kv:=ds.map Bs) true (n,g) 2 rfl) (by rw [show Af (ds.map Bs) (n,g)=_ from hdh▸Cu hdd hj];rfl)) (Dp 6 63 (.tuple #[.map (some d.mb),.bool true]) [4,4,4] h (Dp 7 383 (.map (some d.mb)) [4,4,4] h (Dp 8 767 (.bool true) [4,4,4] h (Dp 9 511 (.map (some d.mb)) [4,4,4] h (Dp 10 1023 (.bool true) [4,4,4] h (Dd (Ag (Qt (ZP (.bool true) (ZP (.bool false) (Fs (ZP (.map (some d.mb)) (ZP (.map (some d.mb)) (ZP .nilIface (Qr (ZR [.map (some d.mb),.nilIface] [5,0,0,3,0] h ⟨rfl,rfl⟩)))))))))))))))))))))))))))))))))
 exact A6
theorem A5 {B:Nat} (ad:Nat→Addr) (s:ByteArray) (hs:s.size≤9223372036854775807) (hok:A0 s):Ao Tryz.prog 53 #[.string s] [Bq B ad [4]] fun u L=>u=.nilIface∧L=[Bq B ad [4]]:=
  (Rn ad s hs).mono fun u L h=>by
    rcases h with ⟨_,h1,h2⟩|⟨h0,_⟩
    · exact ⟨h1,h2⟩
    · exact absurd hok h0
theorem Cf {B:Nat} (ad:Nat→Addr) (b most tb dm pm:Nat) (ps:List (Option Nat)) (gs:List Int) (vl vg:Value) (T:TypeId) (Sl Sg:Nat→Prop) (l:List (Option ND)) (ds:List DN) (pn:List ((Int×Int)×Int)) (hl:ps.length=gs.length) (hr:∀ x∈gs,0≤x∧x≤1000000) (n g:Int) (k:Nat) (N:ND) (hlk:l[k]?=some (some N)) (ha:Bl ps gs n g=some N.nb) (j:Nat) (d:DN) (hj:ds[j]?=some d) (hdh:d.h=(n,g)) (hdd:(ds.map (·.h)).Nodup) (s:ByteArray) (hs:s.size≤9223372036854775807) (hok:A0 s)  : Ao Tryz.prog 48 #[Pp b,Hg n g,.string s] [Rb b tb most dm pm,B8 tb ps gs vl vg T Sl Sg,Cp l,Cm true dm hk (ds.map Bs),Bq B ad [10],Bq B ad [4]] (fun u L=>u=.tuple #[.map (some d.mb),.nilIface]∧L=[Rb b tb most dm pm,B8 tb ps gs vl vg T Sl Sg,Cp l,Cm true dm hk (ds.map Bs),Bq B ad [10],Bq B ad [4]]):=by
 refine Zo 19 Tryz.func48 fun E w0 w h=>?_
 exact Qs (ZN [Ii n,Ii g] 34 h fun k1 w h=>ZP (.map none) (ZP .nilIface (Qm (ZP (Pp b) (ZG h (Gla 0 [Ii n,Ii g] 0) (ZC [1,1,1,1,1] (A8 ad b most tb dm pm ps gs vl vg T Sl Sg l ds pn hl hr n g k N hlk ha j d hj hdh hdd) h fun w h=>ZP (.tuple #[.map (some d.mb),.nilIface]) (ZP (.map (some d.mb)) (ZP .nilIface (ZP (.map (some d.mb)) (ZP .nilIface (Qu (ZP .nilIface (ZP (.bool false) (Fs (ZP (.map (some d.mb)) (ZP (.string s) (ZC [6] (A5 ad s hs hok) h fun w h=>ZP (.map (some d.mb)) (ZP .nilIface (Qr (ZR [.map (some d.mb),.nilIface] [1,1,1,1,1,0] h ⟨rfl,rfl⟩))))))))))))))))))))
def Am (N:ND) (m:Int):ND:={ N with kind:=N.kind,size:=Aj N,links:=N.links+m,upn:=N.upn,upg:=N.upg }
def Ae (N:ND):ND:={ N with change:=N.change+1 }
def keepN (N:ND) (a0 a1 a2 a4 a5:Int):ND:={ N with kind:=a0,size:=a1,links:=a2,upn:=a4,upg:=a5 }
theorem Qw {ps:List (Option Nat)} {gs:List Int} {k nb:Nat} {x:Int} (h1:k<ps.length) (h2:k<gs.length):Bl (ps.set k (some nb)) (gs.set k (x+1)) (k:Int) x=some nb:=by
  rw [Hz (p:=some nb) (x:=x+1) (List.getElem?_set_self h1) (List.getElem?_set_self h2)]
  simp
theorem X9 {ps:List (Option Nat)} {gs:List Int} {k i nb:Nat} {p:Option Nat} {y g:Int} (h:Bl ps gs (i:Int) g=some nb) (hn:k≠i):Bl (ps.set k p) (gs.set k y) (i:Int) g=some nb:=by
  have hl:i<ps.length∧i<gs.length:=by
    unfold Bl at h
    split at h
    · cases h
    · rename_i hb
      refine ⟨by omega,?_⟩
      simp only [Int.toNat_natCast] at h
      split at h
      · rename_i h1 h2;exact (List.getElem?_eq_some_iff.1 h2).1
      · cases h
  rw [← h,Hz (List.getElem?_eq_getElem hl.1) (List.getElem?_eq_getElem hl.2),Hz (p:=ps[i]) (x:=gs[i]) (by rw [List.getElem?_set_ne hn,List.getElem?_eq_getElem hl.1]) (by rw [List.getElem?_set_ne hn,List.getElem?_eq_getElem hl.2])]
theorem A3 {α:Type} {l:List α} {k i:Nat} {x y:α} (h:l[i]?=some y) (hn:k≠i):(l.set k x)[i]?=some y:=by rw [List.getElem?_set_ne hn,h]
theorem C2 {α:Type} {l:List α} {k:Nat} {x:α} (h:k<l.length):(l.set k x)[k]?=some x:=List.getElem?_set_self h
theorem C0 {α:Type} {l:List α} {k:Nat} {x:α} (h:l[k]?=some x):k<l.length:=(List.getElem?_eq_some_iff.1 h).1
theorem Xx {gs:List Int} {k:Nat} {x:Int} (hr:∀ y∈gs,0≤y∧y≤1000000) (hx:gs[k]?=some x) (hb:x≤1000):∀ y∈gs.set k (x+1),0≤y∧y≤1000000:=fun y hy=>by
  rcases List.mem_or_eq_of_mem_set hy with hy|rfl
  · exact hr y hy
  · have:=hr x (List.mem_of_getElem? hx);omega
theorem X8 {α β:Type} {l:List α} {m:List β} {k j:Nat} {x:α} {y:β} (h:l.length=m.length):(l.set k x).length=(m.set j y).length:=by simpa using h
theorem Dg {B:Nat} (ad:Nat→Addr) (b most tb dm pm:Nat) (ps:List (Option Nat)) (gs:List Int) (vl vg:Value) (T:TypeId) (Sl Sg:Nat→Prop) (l:List (Option ND)) (ds:List DN) (pn:List ((Int×Int)×Int)) (hl:ps.length=gs.length) (hr:∀ x∈gs,0≤x∧x≤1000000) (n g:Int) (k:Nat) (N:ND) (hlk:l[k]?=some (some N)) (ha:Bl ps gs n g=some N.nb) (m:Int) (hm:-1≤m∧m≤1) (hli:0≤N.links∧N.links≤1000000)  : Ao Tryz.prog 58 #[Pp b,Hg n g,Ii m] [Rb b tb most dm pm,B8 tb ps gs vl vg T Sl Sg,Cp l,Bq B ad [10]] (fun u L=>L=[Rb b tb most dm pm,B8 tb ps gs vl vg T Sl Sg,Cp (l.set k (some (Am N m))),Bq B ad [10]]):=by
 refine Zo 26 Tryz.func58 fun E w0 w h=>?_
 refine Qs (ZN [Ii n,Ii g] 34 h fun k1 w h=>Qn (Aa (Ds 12 [0,0] h fun w h=>Dp 0 528 (Pp b) [0,0] h (Dp 1 529 (Pp b) [0,0] h (Dp 2 531 (Pp b) [0,0] h (Dq 3 535 [0,0] rfl h (Gl 0 (Pp tb) 1) (Dq 4 527 [0,0] rfl h (Gla 0 [Ii n,Ii g] 0) ?_)))))))
 refine Ax [5,9] (by kernel_rfl) rfl ?_
 refine De #[Pp tb,Hg n g] [2,2,2] [3,3] rfl (by kernel_rfl) (Bh ad tb ps gs vl vg T Sl Sg l hl hr n g k N hlk ha) (fun _=>by kernel_rfl) h ?_ ?_
 rintro v_ L_ w ⟨rfl,rfl⟩ h
 refine ⟨by kernel_rfl,?_⟩
 refine Dp 6 575 (.tuple #[.agg #[Ii N.kind,Ii (Aj N),Ii N.links,Ii N.change,Ii N.upn,Ii N.upg],.nilIface]) [3,3] h (Dp 7 895 (.agg #[Ii N.kind,Ii (Aj N),Ii N.links,Ii N.change,Ii N.upn,Ii N.upg]) [3,3] h (Dp 8 1791 .nilIface [3,3] h ?_))
 refine Ax [9] (by kernel_rfl) rfl ?_
 refine B9 [4,4] rfl (by kernel_rfl) (fun b=>Pp b) [Ii 0,Ii 0,Ii 0,Ii 0,Ii 0,Ii 0] 46 (fun _=>by kernel_rfl) h ?_ ?_
 intro k2 w h;refine ⟨by kernel_rfl,?_⟩
 refine As 10 [4,4] 0 [Ii N.kind,Ii (Aj N),Ii N.links,Ii N.change,Ii N.upn,Ii N.upg] [Ii N.kind,Ii (Aj N),Ii N.links,Ii N.change,Ii N.upn,Ii N.upg] 0 rfl h fun w h=>Dp 11 2047 .nilIface [4,4] h (Dd (Ag (Qs (ZP (Pt k2 2) (ZG h (Gl 2 (Ii N.links) 0) (ZP (Ii m) (ZG h (Gw (N.links+m)) (ZP (Pt k2 2) (ZS 2 [Ii (N.links+m)] [Ii N.kind,Ii (Aj N),Ii (N.links+m),Ii N.change,Ii N.upn,Ii N.upg] 0 rfl h fun w h=>Qn (Ds 7 [0,3,3] h fun w h=>Dp 0 48 (Pp b) [0,3,3] h (Dp 1 49 (Pp b) [0,3,3] h (Dp 2 51 (Pp b) [0,3,3] h (Dq 3 55 [0,3,3] rfl h (Gl 0 (Pp tb) 2) (Dq 4 47 [0,3,3] rfl h (Gla 0 [Ii n,Ii g] 1) (Dq 5 31 [0,3,3] rfl h (Gla 0 [Ii N.kind,Ii (Aj N),Ii (N.links+m),Ii N.change,Ii N.upn,Ii N.upg] 0) ?_)))))))))))))))
 refine Ad 6 [1,1,1] [3,3,3] (G4 ad tb ps gs vl vg T Sl Sg l hl hr n g k N hlk ha N.kind (Aj N) (N.links+m) N.change N.upn N.upg) h ?_
 rintro _ L_ w rfl h
 refine ⟨by kernel_rfl,?_⟩
 exact Dd (ZR [] [5,0,0,0] h rfl)
 exact A6
 refine B9 [1,1] rfl (by kernel_rfl) (fun b=>Pp b) [Ii 0,Ii 0,Ii 0,Ii 0,Ii 0,Ii 0] 46 (fun _=>by kernel_rfl) h ?_ ?_
 intro k3 w h;refine ⟨by kernel_rfl,?_⟩
 refine Ad 5 [3,3,3] [4,4] (Bh ad tb ps gs vl vg T Sl Sg l hl hr n g k N hlk ha) h ?_
 rintro v_ L_ w ⟨rfl,rfl⟩ h
 refine ⟨by kernel_rfl,?_⟩
 refine Dp 6 575 (.tuple #[.agg #[Ii N.kind,Ii (Aj N),Ii N.links,Ii N.change,Ii N.upn,Ii N.upg],.nilIface]) [4,4] h (Dp 7 895 (.agg #[Ii N.kind,Ii (Aj N),Ii N.links,Ii N.change,Ii N.upn,Ii N.upg]) [4,4] h (Dp 8 1791 .nilIface [4,4] h (As 10 [4,4] 0 [Ii N.kind,Ii (Aj N),Ii N.links,Ii N.change,Ii N.upn,Ii N.upg] [Ii N.kind,Ii (Aj N),Ii N.links,Ii N.change,Ii N.upn,Ii N.upg] 3 rfl h fun w h=>Dp 11 2047 .nilIface [4,4] h (Dd (Ag (Qs (ZP (Pt k3 2) (ZG h (Gl 2 (Ii N.links) 3) (ZP (Ii m) (ZG h (Gw (N.links+m)) (ZP (Pt k3 2) (ZS 2 [Ii (N.links+m)] [Ii N.kind,Ii (Aj N),Ii (N.links+m),Ii N.change,Ii N.upn,Ii N.upg] 3 rfl h fun w h=>Qn (Ds 7 [3,3,3] h fun w h=>Dp 0 48 (Pp b) [3,3,3] h (Dp 1 49 (Pp b) [3,3,3] h (Dp 2 51 (Pp b) [3,3,3] h (Dq 3 55 [3,3,3] rfl h (Gl 0 (Pp tb) 2) (Dq 4 47 [3,3,3] rfl h (Gla 0 [Ii n,Ii g] 1) (Dq 5 31 [3,3,3] rfl h (Gla 0 [Ii N.kind,Ii (Aj N),Ii (N.links+m),Ii N.change,Ii N.upn,Ii N.upg] 0) ?_))))))))))))))))))
 refine Ad 6 [0,0,0] [3,3,3] (G4 ad tb ps gs vl vg T Sl Sg l hl hr n g k N hlk ha N.kind (Aj N) (N.links+m) N.change N.upn N.upg) h ?_
 rintro _ L_ w rfl h
 refine ⟨by kernel_rfl,?_⟩
 exact Dd (ZR [] [5,0,0,0] h rfl)
 exact A6
theorem Yz (b most tb dm pm:Nat)  : Ao Tryz.prog 13 #[Pp b] [Rb b tb most dm pm] (fun u L=>u=Hg 0 0∧L=[Rb b tb most dm pm]):=by
 refine Zo 6 Tryz.func13 fun E w0 w h=>?_
 refine Qs (ZN [Ii 0,Ii 0] 34 h fun k1 w h=>Qm (ZP (Pp b) (ZP (Pp b) (ZP (Pt b 2) (ZG h (Gla 2 [Ii 0,Ii 0] 1) (ZSs [Ii 0,Ii 0] 0 rfl h fun w h=>Qr ?_))))))
 refine Bv [Hg 0 0] [1] h (by kernel_rfl) (C6 0 [Ii 0,Ii 0] (Hg 0 0) 0 rfl (by kernel_rfl) C3) ?_
 exact ⟨rfl,rfl⟩
theorem V8 (b most tb dm pm:Nat) (ps:List (Option Nat)) (gs:List Int) (vl vg:Value) (T:TypeId) (Sl Sg:Nat→Prop) (hlen:ps.length≤300)  : Ao Tryz.prog 15 #[Pp b] [Rb b tb most dm pm,B8 tb ps gs vl vg T Sl Sg] (fun u L=>u=Ii (Fq ps:Nat)∧L=[Rb b tb most dm pm,B8 tb ps gs vl vg T Sl Sg]):=by
 refine Zo 7 Tryz.func15 fun E w0 w h=>?_
 exact Qs (ZP (Ii 0) (Qm (ZP (Pp b) (ZP (Pp b) (ZP (Pp b) (ZG h (Gl 0 (Pp tb) 0) (ZC [1] (Qa tb ps gs vl vg T Sl Sg hlen) h fun w h=>ZP (Ii (Fq ps:Nat)) (Qr (ZR [Ii (Fq ps:Nat)] [1,0] h ⟨rfl,rfl⟩)))))))))
section
variable {B:Nat} (ad:Nat→Addr) (b most tb dm pm:Nat) (ps:List (Option Nat)) (gs:List Int) (vl vg:Value) (T:TypeId) (Sl Sg:Nat→Prop) (l:List (Option ND)) (ds:List DN) (pn:List ((Int×Int)×Int)) (hl:ps.length=gs.length) (hr:∀ x∈gs,0≤x∧x≤1000000) (n g:Int) (k:Nat) (N:ND) (hlk:l[k]?=some (some N)) (ha:Bl ps gs n g=some N.nb) (j:Nat) (d:DN) (hj:ds[j]?=some d) (hdh:d.h=(n,g)) (hdd:(ds.map (·.h)).Nodup) (s:ByteArray) (hs:s.size≤9223372036854775807) (hok:A0 s)
include B ad b most tb dm pm ps gs vl vg T Sl Sg l ds pn hl hr n g k N hlk ha j d hj hdh hdd s hs hok
theorem H8 (x:Int×Int) (hx:Af d.es s=some x):Ao Tryz.prog 17 #[Pp b,Hg n g,.string s] [Rb b tb most dm pm,B8 tb ps gs vl vg T Sl Sg,Cp l,Cm true dm hk (ds.map Bs),Em ds,Bq B ad [10],Bq B ad [4]] (fun u L=>u=.tuple #[Hg x.1 x.2,.nilIface]∧L=[Rb b tb most dm pm,B8 tb ps gs vl vg T Sl Sg,Cp l,Cm true dm hk (ds.map Bs),Em ds,Bq B ad [10],Bq B ad [4]]):=by
 refine Zo 31 Tryz.func17 fun E w0 w h=>?_
 refine Qs (ZN [Ii n,Ii g] 34 h fun k1 w h=>ZN [Ii 0,Ii 0] 34 h fun k2 w h=>ZP .nilIface (Qm (ZP (Pp b) (ZG h (Gla 0 [Ii n,Ii g] 1) (ZP (.string s) (ZC [2,2,2,2,3,3] (Cf ad b most tb dm pm ps gs vl vg T Sl Sg l ds pn hl hr n g k N hlk ha j d hj hdh hdd s hs hok) h fun w h=>?_))))))
 have h:=(h.pkr [8]).dirOpen hj
 refine ZP (.tuple #[.map (some d.mb),.nilIface]) (ZP (.map (some d.mb)) (ZP .nilIface (ZP (.map (some d.mb)) (ZP .nilIface (Qu (ZP .nilIface (ZP (.bool false) (Fs (ZP (.map (some d.mb)) (ZP (.string s) (ZG h (A1 (v':=.tuple #[Hg x.1 x.2,.bool true]) (Gks (kv:=d.es.map A7) true s 0 rfl) (by rw [Cd hx];rfl)) (ZP (.tuple #[Hg x.1 x.2,.bool true]) (ZP (Hg x.1 x.2) (ZP (.bool true) (ZN [Ii 0,Ii 0] 34 h fun k3 w h=>ZSs [Ii x.1,Ii x.2] 0 rfl h fun w h=>ZP (.bool true) (Qu (ZP (.bool true) (ZP (.bool false) (Fs (ZG h (Gla 0 [Ii x.1,Ii x.2] 0) (ZSs [Ii x.1,Ii x.2] 9 rfl h fun w h=>ZP .nilIface (Qr ?_))))))))))))))))))))))
 have h:=(h.pkr [1,1]).dirBack (d:=d) hj
 refine Bv [Hg x.1 x.2,.nilIface] [2,2,2,2,0,1,1] h (by kernel_rfl) (C6 0 [Ii x.1,Ii x.2] (Hg x.1 x.2) 8 rfl (by kernel_rfl) (Dm (by kernel_rfl) C3)) ?_
 exact ⟨rfl,rfl⟩
theorem Nv (hx:Af d.es s=none) (kind:Int) (hki:kind=1∨kind=2) (hfew:60≤d.es.length):Ao Tryz.prog 28 #[Pp b,Hg n g,.string s,Ii kind] [Rb b tb most dm pm,B8 tb ps gs vl vg T Sl Sg,Cp l,Cm true dm hk (ds.map Bs),Em ds,Bq B ad [10],Bq B ad [4],Bq B ad [9]] (fun u L=>u=.tuple #[Hg 0 0,Ab ad 9]∧L=[Rb b tb most dm pm,B8 tb ps gs vl vg T Sl Sg,Cp l,Cm true dm hk (ds.map Bs),Em ds,Bq B ad [10],Bq B ad [4],Bq B ad [9]]):=by
 refine Zo 94 Tryz.func28 fun E w0 w h=>?_
 refine Qs (ZN [Ii n,Ii g] 34 h fun k1 w h=>ZN [Ii 0,Ii 0] 34 h fun k2 w h=>ZP .nilIface (Qm (ZP (Pp b) (ZG h (Gla 0 [Ii n,Ii g] 1) (ZP (.string s) (ZC [2,2,2,2,3,3] (Cf ad b most tb dm pm ps gs vl vg T Sl Sg l ds pn hl hr n g k N hlk ha j d hj hdh hdd s hs hok) h fun w h=>?_))))))
 have h:=(h.pkr [8]).dirOpen hj
 refine ZP (.tuple #[.map (some d.mb),.nilIface]) (ZP (.map (some d.mb)) (ZP .nilIface (ZP (.map (some d.mb)) (ZP .nilIface (Qm (ZP (.map (some d.mb)) (ZP (.string s) (ZG h (A1 (v':=.tuple #[Hg 0 0,.bool false]) (Gks (kv:=d.es.map A7) true s 0 rfl) (by rw [Ej hx];rfl)) (ZP (.tuple #[Hg 0 0,.bool false]) (ZP (Hg 0 0) (ZP (.bool false) (ZN [Ii 0,Ii 0] 34 h fun k3 w h=>ZSs [Ii 0,Ii 0] 0 rfl h fun w h=>ZP (.bool false) (Qn (Aa (Au (Qs (ZP .nilIface (ZP (.bool false) (ZP (.bool false) (Qf (Qs (ZP (Ii kind) ?_))))))))))))))))))))))
 obtain ⟨b4,hb4⟩:=nmB (!(decide (kind=1)))
 refine ZB hb4 (ZP (.bool b4) (ZM1 (v:=Ii kind) b4 h (fun hB=>by subst hB;exact Gp (Ii kind)) ?_))
 obtain ⟨b5,hb5⟩:=nmB (!(decide (kind=2)))
 refine ZM1 (v:=.bool b5) b4 h (fun hB=>by subst hB;exact by subst hb5;exact Ay (v:=.bool (!(decide (kind=2)))) fun _=>by kernel_rfl) ?_
 obtain ⟨b6,hb6⟩:=nmB (b4&&b5)
 refine ZBc b4 hb6 (ZP (.bool b6) (Qn (Zi (b6) (fun hc7=>?_) fun hc7=>?_)))
 have q8:=hb6.symm.trans hc7
 have q9:=aL q8
 have q10:=aR q8
 have q11:=hb4.symm.trans q9
 have q12:(decide (kind=1))=false:=by simpa using q11
 have q12:=dcF q12
 have q13:=hb5.symm.trans q10
 have q14:(decide (kind=2))=false:=by simpa using q13
 have q14:=dcF q14
 exfalso;revert hc7;subst hb6;subst hb5;subst hb4;simp;omega
 have q15:=hb6.symm.trans hc7
 refine Qs (ZP (.bool false) (ZP (.bool false) (Qf (Qs (ZP (.map (some d.mb)) (ZG h (Es (K:=9) (E:=34) (by kernel_rfl) 1 rfl) (ZP (.bool (decide (((d.es.map A7).length:Int)≥60))) (ZP (.bool (decide (((d.es.map A7).length:Int)≥60))) (Qn (Zd (((d.es.map A7).length:Int)≥60) (fun hc16=>?_) fun hc16=>?_))))))))))
 refine Aa (Ds 4 [11] h fun w h=>Dp 0 2 (Hg 0 0) [11] h (Dq 1 5 [11] rfl h (Gr 0 (Ab ad 9) 0 rfl (Fe (c:=9) (by decide) rfl)) (As 2 [11] 0 [Ii 0,Ii 0] [Ii 0,Ii 0] 9 rfl h fun w h=>Dp 3 7 (Ab ad 9) [11] h (Dd (Ag (H4 (Cj (Ap ?_))))))))
 have h:=(h.pkr [1,1]).dirBack (d:=d) hj
 refine Bv [Hg 0 0,Ab ad 9] [2,2,2,2,0,1,1,3] h (by kernel_rfl) (C6 0 [Ii 0,Ii 0] (Hg 0 0) 8 rfl (by kernel_rfl) (Dm (by kernel_rfl) C3)) ?_
 exact ⟨rfl,rfl⟩
 exfalso;revert hc16;simp;omega
theorem R3 (hx:Af d.es s=none) (hfew:d.es.length<60) (hnk:n=(k:Int)) (kf:Nat) (x:Int) (hf:F6 ps=some kf) (hxx:gs[kf]?=some x) (hx1:x≤1000) (hlen:ps.length≤300) (hll:l.length=ps.length) (hkk:kf≠k) (hch:0≤N.change∧N.change≤1000000):Ao Tryz.prog 28 #[Pp b,Hg n g,.string s,Ii 1] [Rb b tb most dm pm,B8 tb ps gs vl vg T Sl Sg,Cp l,Cm true dm hk (ds.map Bs),Em ds,Bq B ad [10],Bq B ad [4]] (fun u L=>∃ nb db,u=.tuple #[Hg kf x,.nilIface]∧L=[Rb b tb most dm pm,B8 tb (ps.set kf (some nb)) (gs.set kf (x+1)) vl vg T Sl Sg,Cp (((l.set kf (some (Cv nb 1 (some (H3 db))))).set kf (some (Am (Cv nb 1 (some (H3 db))) 1))).set k (some (Ae N))),Cm true dm hk ((ds.set j { d with es:=Az d.es s ((kf:Int),x) }).map Bs),Em (ds.set j { d with es:=Az d.es s ((kf:Int),x) }),Bq B ad [10],Bq B ad [4]]):=by
 refine Zo 94 Tryz.func28 fun E w0 w h=>?_
 refine Qs (ZN [Ii n,Ii g] 34 h fun k1 w h=>ZN [Ii 0,Ii 0] 34 h fun k2 w h=>ZP .nilIface (Qm (ZP (Pp b) (ZG h (Gla 0 [Ii n,Ii g] 1) (ZP (.string s) (ZC [2,2,2,2,3,3] (Cf ad b most tb dm pm ps gs vl vg T Sl Sg l ds pn hl hr n g k N hlk ha j d hj hdh hdd s hs hok) h fun w h=>?_))))))
 have h:=(h.pkr [8]).dirOpen hj
 refine ZP (.tuple #[.map (some d.mb),.nilIface]) (ZP (.map (some d.mb)) (ZP .nilIface (ZP (.map (some d.mb)) (ZP .nilIface (Qm (ZP (.map (some d.mb)) (ZP (.string s) (ZG h (A1 (v':=.tuple #[Hg 0 0,.bool false]) (Gks (kv:=d.es.map A7) true s 0 rfl) (by rw [Ej hx];rfl)) (ZP (.tuple #[Hg 0 0,.bool false]) (ZP (Hg 0 0) (ZP (.bool false) (ZN [Ii 0,Ii 0] 34 h fun k3 w h=>ZSs [Ii 0,Ii 0] 0 rfl h fun w h=>ZP (.bool false) (Qn (Aa (Au (Qs (ZP .nilIface (ZP (.bool false) (ZP (.bool false) (Qf (Qs (ZP (Ii 1) (ZP (.bool false) (ZP (.bool false) (Zx (Zx (ZP (.bool false) (ZP (.bool false) (Qf (Qs (ZP (.bool false) (ZP (.bool false) (Qf (Qs (ZP (.map (some d.mb)) (ZG h (Es (K:=9) (E:=34) (by kernel_rfl) 1 rfl) (ZP (.bool (decide (((d.es.map A7).length:Int)≥60))) (ZP (.bool (decide (((d.es.map A7).length:Int)≥60))) (Qn (Zd (((d.es.map A7).length:Int)≥60) (fun hc4=>?_) fun hc4=>?_))))))))))))))))))))))))))))))))))))))))
 exfalso;revert hc4;simp;omega
 refine B3 ?_
 refine Ch (Ag ?_)
 refine Qs (ZP (Pp b) (ZP (Pp b) (ZP (Pp b) (ZG h (Gl 0 (Pp tb) 3) (ZP (Ii 1) ?_)))))
 refine ZD [4,4] (S6 tb kf x ps gs vl vg T Sl Sg l hlen hl hf hxx (by have:=hr x (List.mem_of_getElem? hxx);omega)) h ?_;rintro v_ L_ w ⟨nb5,db6,rfl,rfl⟩ h
 have hkfl:=C0 hxx
 have hkl:=C0 hlk
 have hx0:=hr x (List.mem_of_getElem? hxx)
 have hl2:=X8 (x:=some nb5) (y:=x+1) (k:=kf) (j:=kf) hl
 have hr2:=Xx hr hxx hx1
 have ha2:Bl (ps.set kf (some nb5)) (gs.set kf (x+1)) (kf:Int) x=some nb5:=Qw (by omega) hkfl
 have haN:Bl (ps.set kf (some nb5)) (gs.set kf (x+1)) n g=some N.nb:=by rw [hnk] at ha ⊢;exact X9 ha hkk
 refine ZP (.tuple #[Hg kf x,.nilIface]) (ZP (Hg kf x) (ZP .nilIface (ZN [Ii 0,Ii 0] 34 h fun k7 w h=>ZSs [Ii kf,Ii x] 0 rfl h fun w h=>ZP .nilIface (Qu (ZP .nilIface (ZP (.bool false) (Fs (ZP (.map (some d.mb)) (ZP (.string s) (ZG h (Gla 0 [Ii kf,Ii x] 0) ?_))))))))))
 refine Fo rfl (K:=9) (E:=34) (Cs (by kernel_rfl)) s (Hg kf x) (by kernel_rfl) h 4 rfl ?_;intro w h
 refine Qu (ZP (Ii 1) (ZP (.bool false) (Qf (Ai (ZP (Pp b) (ZG h (Gla 0 [Ii kf,Ii x] 0) ?_))))))
 refine ZD [6,1,1,5] (Dg ad b most tb dm pm (ps.set kf (some nb5)) (gs.set kf (x+1)) vl vg T Sl Sg (l.set kf (some (Cv nb5 1 (some (H3 db6))))) ds pn hl2 hr2 (kf:Int) x kf (Cv nb5 1 (some (H3 db6))) (C2 (by first|omega|(simp;omega))) ha2 1 (by omega) (by first|assumption|(constructor<;>first|omega|(simp [Am,keepN,Cv,Ae]<;>omega)))) h ?_;rintro _ L_ w rfl h
 refine Qn (Aa (Ds 6 [0,10] h fun w h=>Dp 0 16 (Pp b) [0,10] h (Dp 1 17 (Pp b) [0,10] h (Dp 2 19 (Pp b) [0,10] h (Dq 3 23 [0,10] rfl h (Gl 0 (Pp tb) 0) (Dq 4 15 [0,10] rfl h (Gla 0 [Ii n,Ii g] 1) ?_))))))
 refine Ad 5 [1,1,1] [3,10] (Bt ad tb (ps.set kf (some nb5)) (gs.set kf (x+1)) vl vg T Sl Sg ((l.set kf (some (Cv nb5 1 (some (H3 db6))))).set kf (some (Am (Cv nb5 1 (some (H3 db6))) 1))) hl2 hr2 n g k N (A3 (A3 hlk (by omega)) (by omega)) haN (by first|assumption|(constructor<;>first|omega|(simp [Am,keepN,Cv,Ae]<;>omega)))) h ?_
 rintro v_ L_ w ⟨rfl,rfl⟩ h
 refine ⟨by kernel_rfl,?_⟩
 refine Dd (Ag (Qs (ZG h (Gla 0 [Ii kf,Ii x] 4) (ZSs [Ii kf,Ii x] 10 rfl h fun w h=>ZP .nilIface (Qr ?_)))))
 rw [show Az (d.es.map A7) s (Hg kf x)=(Az d.es s ((kf:Int),x)).map A7 from Gs s ((kf:Int),x) d.es] at h
 have h:=(h.pkr [6,6]).dirClose { d with es:=Az d.es s ((kf:Int),x) }
 try unfold Ra at h
 rw [← B1 (d':={ d with es:=Az d.es s ((kf:Int),x) }) hj rfl rfl] at h
 refine Bv [Hg kf x,.nilIface] [4,1,1,4,0,0,2] h (by kernel_rfl) (C6 0 [Ii kf,Ii x] (Hg kf x) 9 rfl (by kernel_rfl) (Dm (by kernel_rfl) C3)) ?_
 exact ⟨_,_,rfl,rfl⟩
theorem Sr (hx:Af d.es s=none) (hfew:d.es.length<60) (hnk:n=(k:Int)) (kf:Nat) (x:Int) (hf:F6 ps=some kf) (hxx:gs[kf]?=some x) (hx1:x≤1000) (hlen:ps.length≤300) (hll:l.length=ps.length) (hkk:kf≠k) (hch:0≤N.change∧N.change≤1000000) (hnh:∀ d∈ds,d.h≠((kf:Int),x)) (hli:0≤N.links∧N.links≤1000000):Ao Tryz.prog 28 #[Pp b,Hg n g,.string s,Ii 2] [Rb b tb most dm pm,B8 tb ps gs vl vg T Sl Sg,Cp l,Cm true dm hk (ds.map Bs),Em ds,Bq B ad [10],Bq B ad [4]] (fun u L=>∃ nb mb2,u=.tuple #[Hg kf x,.nilIface]∧L=[Rb b tb most dm pm,B8 tb (ps.set kf (some nb)) (gs.set kf (x+1)) vl vg T Sl Sg,Cp ((((l.set kf (some (Cv nb 2 none))).set kf (some (keepN (Cv nb 2 none) 2 0 2 n g))).set k (some (Am N 1))).set k (some (Ae (Am N 1)))),Cm true dm hk ((ds.set j { d with es:=Az d.es s ((kf:Int),x) }++[(⟨((kf:Int),x),mb2,[]⟩:DN)]).map Bs),Em (ds.set j { d with es:=Az d.es s ((kf:Int),x) }++[(⟨((kf:Int),x),mb2,[]⟩:DN)]),Bq B ad [10],Bq B ad [4]]):=by
 refine Zo 94 Tryz.func28 fun E w0 w h=>?_
 refine Qs (ZN [Ii n,Ii g] 34 h fun k1 w h=>ZN [Ii 0,Ii 0] 34 h fun k2 w h=>ZP .nilIface (Qm (ZP (Pp b) (ZG h (Gla 0 [Ii n,Ii g] 1) (ZP (.string s) (ZC [2,2,2,2,3,3] (Cf ad b most tb dm pm ps gs vl vg T Sl Sg l ds pn hl hr n g k N hlk ha j d hj hdh hdd s hs hok) h fun w h=>?_))))))
 have h:=(h.pkr [8]).dirOpen hj
 refine ZP (.tuple #[.map (some d.mb),.nilIface]) (ZP (.map (some d.mb)) (ZP .nilIface (ZP (.map (some d.mb)) (ZP .nilIface (Qm (ZP (.map (some d.mb)) (ZP (.string s) (ZG h (A1 (v':=.tuple #[Hg 0 0,.bool false]) (Gks (kv:=d.es.map A7) true s 0 rfl) (by rw [Ej hx];rfl)) (ZP (.tuple #[Hg 0 0,.bool false]) (ZP (Hg 0 0) (ZP (.bool false) (ZN [Ii 0,Ii 0] 34 h fun k3 w h=>ZSs [Ii 0,Ii 0] 0 rfl h fun w h=>ZP (.bool false) (Qn (Aa (Au (Qs (ZP .nilIface (ZP (.bool false) (ZP (.bool false) (Qf (Qs (ZP (Ii 2) (ZP (.bool true) (ZP (.bool true) (ZP (Ii 2) (ZP (.bool false) (ZP (.bool false) (ZP (.bool false) (Qf (Qs (ZP (.bool false) (ZP (.bool false) (Qf (Qs (ZP (.map (some d.mb)) (ZG h (Es (K:=9) (E:=34) (by kernel_rfl) 1 rfl) (ZP (.bool (decide (((d.es.map A7).length:Int)≥60))) (ZP (.bool (decide (((d.es.map A7).length:Int)≥60))) (Qn (Zd (((d.es.map A7).length:Int)≥60) (fun hc4=>?_) fun hc4=>?_))))))))))))))))))))))))))))))))))))))))
 exfalso;revert hc4;simp;omega
 refine B3 ?_
 refine Ch (Ag ?_)
 refine Qs (ZP (Pp b) (ZP (Pp b) (ZP (Pp b) (ZG h (Gl 0 (Pp tb) 3) (ZP (Ii 2) ?_)))))
 refine ZD [4,4] (Mo tb kf x ps gs vl vg T Sl Sg l hlen hl hf hxx (by have:=hr x (List.mem_of_getElem? hxx);omega)) h ?_;rintro v_ L_ w ⟨nb5,rfl,rfl⟩ h
 have hkfl:=C0 hxx
 have hkl:=C0 hlk
 have hx0:=hr x (List.mem_of_getElem? hxx)
 have hl2:=X8 (x:=some nb5) (y:=x+1) (k:=kf) (j:=kf) hl
 have hr2:=Xx hr hxx hx1
 have ha2:Bl (ps.set kf (some nb5)) (gs.set kf (x+1)) (kf:Int) x=some nb5:=Qw (by omega) hkfl
 have haN:Bl (ps.set kf (some nb5)) (gs.set kf (x+1)) n g=some N.nb:=by rw [hnk] at ha ⊢;exact X9 ha hkk
 refine ZP (.tuple #[Hg kf x,.nilIface]) (ZP (Hg kf x) (ZP .nilIface (ZN [Ii 0,Ii 0] 34 h fun k7 w h=>ZSs [Ii kf,Ii x] 0 rfl h fun w h=>ZP .nilIface (Qu (ZP .nilIface (ZP (.bool false) (Fs (ZP (.map (some d.mb)) (ZP (.string s) (ZG h (Gla 0 [Ii kf,Ii x] 0) ?_))))))))))
 refine Fo rfl (K:=9) (E:=34) (Cs (by kernel_rfl)) s (Hg kf x) (by kernel_rfl) h 4 rfl ?_;intro w h
 refine Qu (ZP (Ii 2) (ZP (.bool true) (Qg (Aa (Ds 7 [0,5] h fun w h=>Dp 0 48 (Pp b) [0,5] h (Dp 1 49 (Pp b) [0,5] h (Dp 2 51 (Pt b 4) [0,5] h (Dq 3 55 [0,5] rfl h (Gl 4 (.map (some dm)) 1) (Dq 4 47 [0,5] rfl h (Gla 0 [Ii kf,Ii x] 0) ?_)))))))))
 refine Ax [5] (by kernel_rfl) rfl ?_
 refine Xk [1,6] rfl (by kernel_rfl) sk (fun _=>by kernel_rfl) h ?_ ?_
 intro k8 w h;refine ⟨by kernel_rfl,?_⟩
 refine Ax [6] (by kernel_rfl) rfl ?_
 refine Xz [1,6] rfl (by kernel_rfl) (K:=34) (E:=82) Dr ((kf:Int),x) (.map (some k8)) (by kernel_rfl) h 8 rfl ?_ ?_
 intro w h;refine ⟨by kernel_rfl,?_⟩
 refine Dd (Ag (Aa (Ds 9 [1,6,10] h fun w h=>Dp 0 240 (Pp b) [1,6,10] h (Dp 1 241 (Pp b) [1,6,10] h (Dp 2 243 (Pp b) [1,6,10] h (Dq 3 247 [1,6,10] rfl h (Gl 0 (Pp tb) 1) (Dq 4 239 [1,6,10] rfl h (Gla 0 [Ii kf,Ii x] 0) (Dp 5 95 (Ii 2) [1,6,10] h (Dq 6 63 [1,6,10] rfl h (Gla 0 [Ii n,Ii g] 2) (Dp 7 127 (.agg #[Ii 2,Ii 0,Ii 2,Ii 0,Ii n,Ii g]) [1,6,10] h ?_))))))))))
 refine Ad 8 [2,2,7] [4,7,10] (G4 ad tb (ps.set kf (some nb5)) (gs.set kf (x+1)) vl vg T Sl Sg (l.set kf (some (Cv nb5 2 none))) hl2 hr2 (kf:Int) x kf (Cv nb5 2 none) (C2 (by first|omega|(simp;omega))) ha2 2 0 2 0 n g) h ?_
 rintro _ L_ w rfl h
 refine ⟨by kernel_rfl,?_⟩
 refine Dd (Ag (Ai (ZP (Pp b) (ZG h (Gla 0 [Ii n,Ii g] 12) ?_))))
 refine ZD [8,0,0,0] (Dg ad b most tb dm pm (ps.set kf (some nb5)) (gs.set kf (x+1)) vl vg T Sl Sg ((l.set kf (some (Cv nb5 2 none))).set kf (some (keepN (Cv nb5 2 none) 2 0 2 n g))) ds pn hl2 hr2 n g k N (A3 (A3 hlk (by omega)) (by omega)) haN 1 (by omega) (by first|assumption|(constructor<;>first|omega|(simp [Am,keepN,Cv,Ae]<;>omega)))) h ?_;rintro _ L_ w rfl h
 refine Qn (Aa (Ds 6 [0,11] h fun w h=>Dp 0 16 (Pp b) [0,11] h (Dp 1 17 (Pp b) [0,11] h (Dp 2 19 (Pp b) [0,11] h (Dq 3 23 [0,11] rfl h (Gl 0 (Pp tb) 0) (Dq 4 15 [0,11] rfl h (Gla 0 [Ii n,Ii g] 1) ?_))))))
 refine Ad 5 [1,1,1] [3,11] (Bt ad tb (ps.set kf (some nb5)) (gs.set kf (x+1)) vl vg T Sl Sg (((l.set kf (some (Cv nb5 2 none))).set kf (some (keepN (Cv nb5 2 none) 2 0 2 n g))).set k (some (Am N 1))) hl2 hr2 n g k (Am N 1) (C2 (by first|omega|(simp;omega))) haN (by first|assumption|(constructor<;>first|omega|(simp [Am,keepN,Cv,Ae]<;>omega)))) h ?_
 rintro v_ L_ w ⟨rfl,rfl⟩ h
 refine ⟨by kernel_rfl,?_⟩
 refine Dd (Ag (Qs (ZG h (Gla 0 [Ii kf,Ii x] 5) (ZSs [Ii kf,Ii x] 11 rfl h fun w h=>ZP .nilIface (Qr ?_)))))
 rw [show Az (d.es.map A7) s (Hg kf x)=(Az d.es s ((kf:Int),x)).map A7 from Gs s ((kf:Int),x) d.es] at h
 have h:=(h.pkr [7,7]).dirClose { d with es:=Az d.es s ((kf:Int),x) }
 try unfold Ra at h
 rw [← B1 (d':={ d with es:=Az d.es s ((kf:Int),x) }) hj rfl rfl] at h
 have h:=(h.pkr [5]).dirAdd ⟨((kf:Int),x),k8,[]⟩
 rw [X7 (es:=[]) (fun d2 hd2=>by rcases List.mem_or_eq_of_mem_set hd2 with hd2|rfl;exact hnh d2 hd2;exact hnh d (List.mem_of_getElem? hj))] at h
 refine Bv [Hg kf x,.nilIface] [4,1,1,4,0,0,2] h (by kernel_rfl) (C6 0 [Ii kf,Ii x] (Hg kf x) 9 rfl (by kernel_rfl) (Dm (by kernel_rfl) C3)) ?_
 exact ⟨_,_,rfl,rfl⟩
 exact A6
 exact A6
theorem W3 (hx:Af d.es s=none) (ni gi:Int) (ki:Nat) (Ni:ND) (hlki:l[ki]?=some (some Ni)) (hai:Bl ps gs ni gi=some Ni.nb) (hkd:Ni.kind=1) (hfew:d.es.length<60) (hli:0≤Ni.links∧Ni.links<8) (hki:ki≠k) (hch:0≤N.change∧N.change≤1000000) (hci:0≤Ni.change∧Ni.change≤1000000):Ao Tryz.prog 33 #[Pp b,Hg ni gi,Hg n g,.string s] [Rb b tb most dm pm,B8 tb ps gs vl vg T Sl Sg,Cp l,Cm true dm hk (ds.map Bs),Em ds,Bq B ad [10],Bq B ad [4]] (fun u L=>u=.nilIface∧L=[Rb b tb most dm pm,B8 tb ps gs vl vg T Sl Sg,Cp (((l.set ki (some (Am Ni 1))).set ki (some (Ae (Am Ni 1)))).set k (some (Ae N))),Cm true dm hk ((ds.set j { d with es:=Az d.es s (ni,gi) }).map Bs),Em (ds.set j { d with es:=Az d.es s (ni,gi) }),Bq B ad [10],Bq B ad [4]]):=by
 have hkl:=C0 hlk
 have hkil:=C0 hlki
 refine Zo 75 Tryz.func33 fun E w0 w h=>?_
 refine Qs (ZN [Ii ni,Ii gi] 34 h fun k1 w h=>ZN [Ii n,Ii g] 34 h fun k2 w h=>ZP .nilIface (Qn (Aa (Ds 12 [1,1] h fun w h=>Dp 0 528 (Pp b) [1,1] h (Dp 1 529 (Pp b) [1,1] h (Dp 2 531 (Pp b) [1,1] h (Dq 3 535 [1,1] rfl h (Gl 0 (Pp tb) 1) (Dq 4 527 [1,1] rfl h (Gla 0 [Ii ni,Ii gi] 0) ?_))))))))
 refine Ax [5,9] (by kernel_rfl) rfl ?_
 refine De #[Pp tb,Hg ni gi] [3,3,5] [4,4] rfl (by kernel_rfl) (Bh ad tb ps gs vl vg T Sl Sg l hl hr ni gi ki Ni hlki hai) (fun _=>by kernel_rfl) h ?_ ?_
 rintro v_ L_ w ⟨rfl,rfl⟩ h
 refine ⟨by kernel_rfl,?_⟩
 refine Dp 6 575 (.tuple #[.agg #[Ii Ni.kind,Ii (Aj Ni),Ii Ni.links,Ii Ni.change,Ii Ni.upn,Ii Ni.upg],.nilIface]) [4,4] h (Dp 7 895 (.agg #[Ii Ni.kind,Ii (Aj Ni),Ii Ni.links,Ii Ni.change,Ii Ni.upn,Ii Ni.upg]) [4,4] h (Dp 8 1791 .nilIface [4,4] h ?_))
 refine Ax [9] (by kernel_rfl) rfl ?_
 refine B9 [5,5] rfl (by kernel_rfl) (fun b=>Pp b) [Ii 0,Ii 0,Ii 0,Ii 0,Ii 0,Ii 0] 46 (fun _=>by kernel_rfl) h ?_ ?_
 intro k3 w h;refine ⟨by kernel_rfl,?_⟩
 refine As 10 [5,5] 0 [Ii Ni.kind,Ii (Aj Ni),Ii Ni.links,Ii Ni.change,Ii Ni.upn,Ii Ni.upg] [Ii Ni.kind,Ii (Aj Ni),Ii Ni.links,Ii Ni.change,Ii Ni.upn,Ii Ni.upg] 0 rfl h fun w h=>Dp 11 2047 .nilIface [5,5] h (Dd (Ag (Qt (ZP .nilIface (ZP (.bool false) (Fs (ZP (Pp b) (ZG h (Gla 0 [Ii n,Ii g] 4) (ZP (.string s) (ZC [6,1,1,4,1,4] (Cf ad b most tb dm pm ps gs vl vg T Sl Sg l ds pn hl hr n g k N hlk ha j d hj hdh hdd s hs hok) h fun w h=>?_))))))))))
 have h:=(h.pkr [9]).dirOpen hj
 refine ZP (.tuple #[.map (some d.mb),.nilIface]) (ZP (.map (some d.mb)) (ZP .nilIface (ZP (.map (some d.mb)) (ZP .nilIface (Qm (ZP (.map (some d.mb)) (ZP (.string s) (ZG h (A1 (v':=.tuple #[Hg 0 0,.bool false]) (Gks (kv:=d.es.map A7) true s 0 rfl) (by rw [Ej hx];rfl)) (ZP (.tuple #[Hg 0 0,.bool false]) (ZP (Hg 0 0) (ZP (.bool false) (ZN [Ii 0,Ii 0] 34 h fun k4 w h=>ZSs [Ii 0,Ii 0] 0 rfl h fun w h=>ZP (.bool false) (Qn (Aa (Au (Qs (ZP .nilIface (ZP (.bool false) (ZP (.bool false) (Qf (Qs (ZP (Pp k3) (ZG h (Gl 0 (Ii Ni.kind) 9) (ZP (.bool (decide (Ni.kind=2))) (ZP (.bool (decide (Ni.kind=2))) (Qn (Zd (Ni.kind=2) (fun hc5=>?_) fun hc5=>?_)))))))))))))))))))))))))))
 exfalso;revert hc5;simp;omega
 refine Qs (ZP (.bool false) (ZP (.bool false) (Qf (Qs (ZP (.map (some d.mb)) (ZG h (Es (K:=9) (E:=34) (by kernel_rfl) 1 rfl) ?_))))))
 obtain ⟨b6,hb6⟩:=nmB (decide (((d.es.map A7).length:Int)≥60))
 refine ZB hb6 (ZP (.bool b6) (ZM0 (v:=Pt k3 2) b6 h (fun hB=>by subst hB;exact Gp (Pt k3 2)) (ZM0 (v:=Ii Ni.links) b6 h (fun hB=>by subst hB;exact Gl 2 (Ii Ni.links) 9) ?_)))
 obtain ⟨b7,hb7⟩:=nmB (decide (Ni.links≥8))
 refine ZM0 (v:=.bool b7) b6 h (fun hB=>by subst hB;exact by subst hb7;exact Ay (v:=.bool (decide (Ni.links≥8))) fun _=>by kernel_rfl) ?_
 obtain ⟨b8,hb8⟩:=nmB (b6||b7)
 refine ZBc b6 hb8 (ZP (.bool b8) (Qn (Zi (b8) (fun hc9=>?_) fun hc9=>?_)))
 have q10:=hb8.symm.trans hc9
 have q11:((((d.es.map A7).length:Int)≥60)∨(Ni.links≥8)):=by subst hb7;subst hb6;revert q10;first|(simp;done)|(simp;omega)
 exfalso;revert hc9;subst hb8;subst hb7;subst hb6;simp;omega
 have q12:=hb8.symm.trans hc9
 have q13:=oL q12
 have q14:=oR q12
 have q15:=hb6.symm.trans q13
 have q15:=dcF q15
 have q16:=hb7.symm.trans q14
 have q16:=dcF q16
 refine B3 ?_
 refine Ch (Ag ?_)
 refine Qs (ZP (.map (some d.mb)) (ZP (.string s) (ZG h (Gla 0 [Ii ni,Ii gi] 11) ?_)))
 refine Fo rfl (K:=9) (E:=34) (Cs (by kernel_rfl)) s (Hg ni gi) (by kernel_rfl) h 1 rfl ?_;intro w h
 refine Qm (ZP (Pp b) (ZG h (Gla 0 [Ii ni,Ii gi] 11) ?_))
 refine ZD [3,3,3,4] (Dg ad b most tb dm pm ps gs vl vg T Sl Sg l ds pn hl hr ni gi ki Ni hlki hai 1 (by omega) (by first|assumption|(constructor<;>first|omega|(simp [Am,keepN,Cv,Ae]<;>omega)))) h ?_;rintro _ L_ w rfl h
 refine Qn (Aa (Ds 6 [0,10] h fun w h=>Dp 0 16 (Pp b) [0,10] h (Dp 1 17 (Pp b) [0,10] h (Dp 2 19 (Pp b) [0,10] h (Dq 3 23 [0,10] rfl h (Gl 0 (Pp tb) 0) (Dq 4 15 [0,10] rfl h (Gla 0 [Ii ni,Ii gi] 1) ?_))))))
 refine Ad 5 [1,1,1] [3,10] (Bt ad tb ps gs vl vg T Sl Sg (l.set ki (some (Am Ni 1))) hl hr ni gi ki (Am Ni 1) (C2 (by first|omega|(simp;omega))) hai (by first|assumption|(constructor<;>first|omega|(simp [Am,keepN,Cv,Ae]<;>omega)))) h ?_
 rintro v_ L_ w ⟨rfl,rfl⟩ h
 refine ⟨by kernel_rfl,?_⟩
 refine Dd (Ag (Aa (Ds 6 [3,9] h fun w h=>Dp 0 16 (Pp b) [3,9] h (Dp 1 17 (Pp b) [3,9] h (Dp 2 19 (Pp b) [3,9] h (Dq 3 23 [3,9] rfl h (Gl 0 (Pp tb) 0) (Dq 4 15 [3,9] rfl h (Gla 0 [Ii n,Ii g] 1) ?_)))))))
 refine Ad 5 [0,0,0] [3,9] (Bt ad tb ps gs vl vg T Sl Sg ((l.set ki (some (Am Ni 1))).set ki (some (Ae (Am Ni 1)))) hl hr n g k N (A3 (A3 hlk (by omega)) (by omega)) ha (by first|assumption|(constructor<;>first|omega|(simp [Am,keepN,Cv,Ae]<;>omega)))) h ?_
 rintro v_ L_ w ⟨rfl,rfl⟩ h
 refine ⟨by kernel_rfl,?_⟩
 refine Dd (Ag (Qs (ZP .nilIface (Qr ?_))))
 rw [show Az (d.es.map A7) s (Hg ni gi)=(Az d.es s (ni,gi)).map A7 from Gs s (ni,gi) d.es] at h
 have h:=(h.pkr [5,5]).dirClose { d with es:=Az d.es s (ni,gi) }
 try unfold Ra at h
 rw [← B1 (d':={ d with es:=Az d.es s (ni,gi) }) hj rfl rfl] at h
 exact ZR [.nilIface] [4,1,1,3,0,0,1] h ⟨rfl,rfl⟩
 exact A6
 refine B9 [2,2] rfl (by kernel_rfl) (fun b=>Pp b) [Ii 0,Ii 0,Ii 0,Ii 0,Ii 0,Ii 0] 46 (fun _=>by kernel_rfl) h ?_ ?_
 intro k17 w h;refine ⟨by kernel_rfl,?_⟩
 refine Ad 5 [4,4,6] [5,5] (Bh ad tb ps gs vl vg T Sl Sg l hl hr ni gi ki Ni hlki hai) h ?_
 rintro v_ L_ w ⟨rfl,rfl⟩ h
 refine ⟨by kernel_rfl,?_⟩
 refine Dp 6 575 (.tuple #[.agg #[Ii Ni.kind,Ii (Aj Ni),Ii Ni.links,Ii Ni.change,Ii Ni.upn,Ii Ni.upg],.nilIface]) [5,5] h (Dp 7 895 (.agg #[Ii Ni.kind,Ii (Aj Ni),Ii Ni.links,Ii Ni.change,Ii Ni.upn,Ii Ni.upg]) [5,5] h (Dp 8 1791 .nilIface [5,5] h (As 10 [5,5] 0 [Ii Ni.kind,Ii (Aj Ni),Ii Ni.links,Ii Ni.change,Ii Ni.upn,Ii Ni.upg] [Ii Ni.kind,Ii (Aj Ni),Ii Ni.links,Ii Ni.change,Ii Ni.upn,Ii Ni.upg] 3 rfl h fun w h=>Dp 11 2047 .nilIface [5,5] h (Dd (Ag (Qt (ZP .nilIface (ZP (.bool false) (Fs (ZP (Pp b) (ZG h (Gla 0 [Ii n,Ii g] 4) (ZP (.string s) (ZC [6,0,0,4,0,4] (Cf ad b most tb dm pm ps gs vl vg T Sl Sg l ds pn hl hr n g k N hlk ha j d hj hdh hdd s hs hok) h fun w h=>?_)))))))))))))
 have h:=(h.pkr [9]).dirOpen hj
 refine ZP (.tuple #[.map (some d.mb),.nilIface]) (ZP (.map (some d.mb)) (ZP .nilIface (ZP (.map (some d.mb)) (ZP .nilIface (Qm (ZP (.map (some d.mb)) (ZP (.string s) (ZG h (A1 (v':=.tuple #[Hg 0 0,.bool false]) (Gks (kv:=d.es.map A7) true s 0 rfl) (by rw [Ej hx];rfl)) (ZP (.tuple #[Hg 0 0,.bool false]) (ZP (Hg 0 0) (ZP (.bool false) (ZN [Ii 0,Ii 0] 34 h fun k18 w h=>ZSs [Ii 0,Ii 0] 0 rfl h fun w h=>ZP (.bool false) (Qn (Aa (Au (Qs (ZP .nilIface (ZP (.bool false) (ZP (.bool false) (Qf (Qs (ZP (Pp k17) (ZG h (Gl 0 (Ii Ni.kind) 9) (ZP (.bool (decide (Ni.kind=2))) (ZP (.bool (decide (Ni.kind=2))) (Qn (Zd (Ni.kind=2) (fun hc19=>?_) fun hc19=>?_)))))))))))))))))))))))))))
 exfalso;revert hc19;simp;omega
 refine Qs (ZP (.bool false) (ZP (.bool false) (Qf (Qs (ZP (.map (some d.mb)) (ZG h (Es (K:=9) (E:=34) (by kernel_rfl) 1 rfl) ?_))))))
 obtain ⟨b20,hb20⟩:=nmB (decide (((d.es.map A7).length:Int)≥60))
 refine ZB hb20 (ZP (.bool b20) (ZM0 (v:=Pt k17 2) b20 h (fun hB=>by subst hB;exact Gp (Pt k17 2)) (ZM0 (v:=Ii Ni.links) b20 h (fun hB=>by subst hB;exact Gl 2 (Ii Ni.links) 9) ?_)))
 obtain ⟨b21,hb21⟩:=nmB (decide (Ni.links≥8))
 refine ZM0 (v:=.bool b21) b20 h (fun hB=>by subst hB;exact by subst hb21;exact Ay (v:=.bool (decide (Ni.links≥8))) fun _=>by kernel_rfl) ?_
 obtain ⟨b22,hb22⟩:=nmB (b20||b21)
 refine ZBc b20 hb22 (ZP (.bool b22) (Qn (Zi (b22) (fun hc23=>?_) fun hc23=>?_)))
 have q24:=hb22.symm.trans hc23
 have q25:((((d.es.map A7).length:Int)≥60)∨(Ni.links≥8)):=by subst hb21;subst hb20;revert q24;first|(simp;done)|(simp;omega)
 exfalso;revert hc23;subst hb22;subst hb21;subst hb20;simp;omega
 have q26:=hb22.symm.trans hc23
 have q27:=oL q26
 have q28:=oR q26
 have q29:=hb20.symm.trans q27
 have q29:=dcF q29
 have q30:=hb21.symm.trans q28
 have q30:=dcF q30
 refine B3 ?_
 refine Ch (Ag ?_)
 refine Qs (ZP (.map (some d.mb)) (ZP (.string s) (ZG h (Gla 0 [Ii ni,Ii gi] 11) ?_)))
 refine Fo rfl (K:=9) (E:=34) (Cs (by kernel_rfl)) s (Hg ni gi) (by kernel_rfl) h 1 rfl ?_;intro w h
 refine Qm (ZP (Pp b) (ZG h (Gla 0 [Ii ni,Ii gi] 11) ?_))
 refine ZD [3,3,3,4] (Dg ad b most tb dm pm ps gs vl vg T Sl Sg l ds pn hl hr ni gi ki Ni hlki hai 1 (by omega) (by first|assumption|(constructor<;>first|omega|(simp [Am,keepN,Cv,Ae]<;>omega)))) h ?_;rintro _ L_ w rfl h
 refine Qn (Aa (Ds 6 [0,10] h fun w h=>Dp 0 16 (Pp b) [0,10] h (Dp 1 17 (Pp b) [0,10] h (Dp 2 19 (Pp b) [0,10] h (Dq 3 23 [0,10] rfl h (Gl 0 (Pp tb) 0) (Dq 4 15 [0,10] rfl h (Gla 0 [Ii ni,Ii gi] 1) ?_))))))
 refine Ad 5 [1,1,1] [3,10] (Bt ad tb ps gs vl vg T Sl Sg (l.set ki (some (Am Ni 1))) hl hr ni gi ki (Am Ni 1) (C2 (by first|omega|(simp;omega))) hai (by first|assumption|(constructor<;>first|omega|(simp [Am,keepN,Cv,Ae]<;>omega)))) h ?_
 rintro v_ L_ w ⟨rfl,rfl⟩ h
 refine ⟨by kernel_rfl,?_⟩
 refine Dd (Ag (Aa (Ds 6 [3,9] h fun w h=>Dp 0 16 (Pp b) [3,9] h (Dp 1 17 (Pp b) [3,9] h (Dp 2 19 (Pp b) [3,9] h (Dq 3 23 [3,9] rfl h (Gl 0 (Pp tb) 0) (Dq 4 15 [3,9] rfl h (Gla 0 [Ii n,Ii g] 1) ?_)))))))
 refine Ad 5 [0,0,0] [3,9] (Bt ad tb ps gs vl vg T Sl Sg ((l.set ki (some (Am Ni 1))).set ki (some (Ae (Am Ni 1)))) hl hr n g k N (A3 (A3 hlk (by omega)) (by omega)) ha (by first|assumption|(constructor<;>first|omega|(simp [Am,keepN,Cv,Ae]<;>omega)))) h ?_
 rintro v_ L_ w ⟨rfl,rfl⟩ h
 refine ⟨by kernel_rfl,?_⟩
 refine Dd (Ag (Qs (ZP .nilIface (Qr ?_))))
 rw [show Az (d.es.map A7) s (Hg ni gi)=(Az d.es s (ni,gi)).map A7 from Gs s (ni,gi) d.es] at h
 have h:=(h.pkr [5,5]).dirClose { d with es:=Az d.es s (ni,gi) }
 try unfold Ra at h
 rw [← B1 (d':={ d with es:=Az d.es s (ni,gi) }) hj rfl rfl] at h
 exact ZR [.nilIface] [4,1,1,3,0,0,1] h ⟨rfl,rfl⟩
 exact A6
theorem Qc (hx:Af d.es s=none) (ni gi:Int) (ki:Nat) (Ni:ND) (hlki:l[ki]?=some (some Ni)) (hai:Bl ps gs ni gi=some Ni.nb) (hkd:Ni.kind=1) (hli:8≤Ni.links):Ao Tryz.prog 33 #[Pp b,Hg ni gi,Hg n g,.string s] [Rb b tb most dm pm,B8 tb ps gs vl vg T Sl Sg,Cp l,Cm true dm hk (ds.map Bs),Em ds,Bq B ad [10],Bq B ad [4],Bq B ad [9]] (fun u L=>u=Ab ad 9∧L=[Rb b tb most dm pm,B8 tb ps gs vl vg T Sl Sg,Cp l,Cm true dm hk (ds.map Bs),Em ds,Bq B ad [10],Bq B ad [4],Bq B ad [9]]):=by
 refine Zo 75 Tryz.func33 fun E w0 w h=>?_
 refine Qs (ZN [Ii ni,Ii gi] 34 h fun k1 w h=>ZN [Ii n,Ii g] 34 h fun k2 w h=>ZP .nilIface (Qn (Aa (Ds 12 [1,1] h fun w h=>Dp 0 528 (Pp b) [1,1] h (Dp 1 529 (Pp b) [1,1] h (Dp 2 531 (Pp b) [1,1] h (Dq 3 535 [1,1] rfl h (Gl 0 (Pp tb) 1) (Dq 4 527 [1,1] rfl h (Gla 0 [Ii ni,Ii gi] 0) ?_))))))))
 refine Ax [5,9] (by kernel_rfl) rfl ?_
 refine De #[Pp tb,Hg ni gi] [3,3,5] [4,4] rfl (by kernel_rfl) (Bh ad tb ps gs vl vg T Sl Sg l hl hr ni gi ki Ni hlki hai) (fun _=>by kernel_rfl) h ?_ ?_
 rintro v_ L_ w ⟨rfl,rfl⟩ h
 refine ⟨by kernel_rfl,?_⟩
 refine Dp 6 575 (.tuple #[.agg #[Ii Ni.kind,Ii (Aj Ni),Ii Ni.links,Ii Ni.change,Ii Ni.upn,Ii Ni.upg],.nilIface]) [4,4] h (Dp 7 895 (.agg #[Ii Ni.kind,Ii (Aj Ni),Ii Ni.links,Ii Ni.change,Ii Ni.upn,Ii Ni.upg]) [4,4] h (Dp 8 1791 .nilIface [4,4] h ?_))
 refine Ax [9] (by kernel_rfl) rfl ?_
 refine B9 [5,5] rfl (by kernel_rfl) (fun b=>Pp b) [Ii 0,Ii 0,Ii 0,Ii 0,Ii 0,Ii 0] 46 (fun _=>by kernel_rfl) h ?_ ?_
 intro k3 w h;refine ⟨by kernel_rfl,?_⟩
 refine As 10 [5,5] 0 [Ii Ni.kind,Ii (Aj Ni),Ii Ni.links,Ii Ni.change,Ii Ni.upn,Ii Ni.upg] [Ii Ni.kind,Ii (Aj Ni),Ii Ni.links,Ii Ni.change,Ii Ni.upn,Ii Ni.upg] 0 rfl h fun w h=>Dp 11 2047 .nilIface [5,5] h (Dd (Ag (Qt (ZP .nilIface (ZP (.bool false) (Fs (ZP (Pp b) (ZG h (Gla 0 [Ii n,Ii g] 4) (ZP (.string s) (ZC [6,1,1,4,1,4] (Cf ad b most tb dm pm ps gs vl vg T Sl Sg l ds pn hl hr n g k N hlk ha j d hj hdh hdd s hs hok) h fun w h=>?_))))))))))
 have h:=(h.pkr [9]).dirOpen hj
 refine ZP (.tuple #[.map (some d.mb),.nilIface]) (ZP (.map (some d.mb)) (ZP .nilIface (ZP (.map (some d.mb)) (ZP .nilIface (Qm (ZP (.map (some d.mb)) (ZP (.string s) (ZG h (A1 (v':=.tuple #[Hg 0 0,.bool false]) (Gks (kv:=d.es.map A7) true s 0 rfl) (by rw [Ej hx];rfl)) (ZP (.tuple #[Hg 0 0,.bool false]) (ZP (Hg 0 0) (ZP (.bool false) (ZN [Ii 0,Ii 0] 34 h fun k4 w h=>ZSs [Ii 0,Ii 0] 0 rfl h fun w h=>ZP (.bool false) (Qn (Aa (Au (Qs (ZP .nilIface (ZP (.bool false) (ZP (.bool false) (Qf (Qs (ZP (Pp k3) (ZG h (Gl 0 (Ii Ni.kind) 9) (ZP (.bool (decide (Ni.kind=2))) (ZP (.bool (decide (Ni.kind=2))) (Qn (Zd (Ni.kind=2) (fun hc5=>?_) fun hc5=>?_)))))))))))))))))))))))))))
 exfalso;revert hc5;simp;omega
 refine Qs (ZP (.bool false) (ZP (.bool false) (Qf (Qs (ZP (.map (some d.mb)) (ZG h (Es (K:=9) (E:=34) (by kernel_rfl) 1 rfl) ?_))))))
 obtain ⟨b6,hb6⟩:=nmB (decide (((d.es.map A7).length:Int)≥60))
 refine ZB hb6 (ZP (.bool b6) (ZM0 (v:=Pt k3 2) b6 h (fun hB=>by subst hB;exact Gp (Pt k3 2)) (ZM0 (v:=Ii Ni.links) b6 h (fun hB=>by subst hB;exact Gl 2 (Ii Ni.links) 9) ?_)))
 obtain ⟨b7,hb7⟩:=nmB (decide (Ni.links≥8))
 refine ZM0 (v:=.bool b7) b6 h (fun hB=>by subst hB;exact by subst hb7;exact Ay (v:=.bool (decide (Ni.links≥8))) fun _=>by kernel_rfl) ?_
 obtain ⟨b8,hb8⟩:=nmB (b6||b7)
 refine ZBc b6 hb8 (ZP (.bool b8) (Qn (Zi (b8) (fun hc9=>?_) fun hc9=>?_)))
 have q10:=hb8.symm.trans hc9
 have q11:((((d.es.map A7).length:Int)≥60)∨(Ni.links≥8)):=by subst hb7;subst hb6;revert q10;first|(simp;done)|(simp;omega)
 refine Qs (ZG h (Gr 0 (Ab ad 9) 12 rfl (Fe (c:=9) (by decide) rfl)) (ZP (Ab ad 9) (Qr (Cj (Ap ?_)))))
 have h:=(h.pkr [1,1]).dirBack (d:=d) hj
 exact ZR [Ab ad 9] [2,2,2,2,0,1,1,4] h ⟨rfl,rfl⟩
 have q12:=hb8.symm.trans hc9
 have q13:=oL q12
 have q14:=oR q12
 have q15:=hb6.symm.trans q13
 have q15:=dcF q15
 have q16:=hb7.symm.trans q14
 have q16:=dcF q16
 exfalso;revert hc9;subst hb8;subst hb7;subst hb6;simp;omega
 exact A6
 refine B9 [2,2] rfl (by kernel_rfl) (fun b=>Pp b) [Ii 0,Ii 0,Ii 0,Ii 0,Ii 0,Ii 0] 46 (fun _=>by kernel_rfl) h ?_ ?_
 intro k17 w h;refine ⟨by kernel_rfl,?_⟩
 refine Ad 5 [4,4,6] [5,5] (Bh ad tb ps gs vl vg T Sl Sg l hl hr ni gi ki Ni hlki hai) h ?_
 rintro v_ L_ w ⟨rfl,rfl⟩ h
 refine ⟨by kernel_rfl,?_⟩
 refine Dp 6 575 (.tuple #[.agg #[Ii Ni.kind,Ii (Aj Ni),Ii Ni.links,Ii Ni.change,Ii Ni.upn,Ii Ni.upg],.nilIface]) [5,5] h (Dp 7 895 (.agg #[Ii Ni.kind,Ii (Aj Ni),Ii Ni.links,Ii Ni.change,Ii Ni.upn,Ii Ni.upg]) [5,5] h (Dp 8 1791 .nilIface [5,5] h (As 10 [5,5] 0 [Ii Ni.kind,Ii (Aj Ni),Ii Ni.links,Ii Ni.change,Ii Ni.upn,Ii Ni.upg] [Ii Ni.kind,Ii (Aj Ni),Ii Ni.links,Ii Ni.change,Ii Ni.upn,Ii Ni.upg] 3 rfl h fun w h=>Dp 11 2047 .nilIface [5,5] h (Dd (Ag (Qt (ZP .nilIface (ZP (.bool false) (Fs (ZP (Pp b) (ZG h (Gla 0 [Ii n,Ii g] 4) (ZP (.string s) (ZC [6,0,0,4,0,4] (Cf ad b most tb dm pm ps gs vl vg T Sl Sg l ds pn hl hr n g k N hlk ha j d hj hdh hdd s hs hok) h fun w h=>?_)))))))))))))
 have h:=(h.pkr [9]).dirOpen hj
 refine ZP (.tuple #[.map (some d.mb),.nilIface]) (ZP (.map (some d.mb)) (ZP .nilIface (ZP (.map (some d.mb)) (ZP .nilIface (Qm (ZP (.map (some d.mb)) (ZP (.string s) (ZG h (A1 (v':=.tuple #[Hg 0 0,.bool false]) (Gks (kv:=d.es.map A7) true s 0 rfl) (by rw [Ej hx];rfl)) (ZP (.tuple #[Hg 0 0,.bool false]) (ZP (Hg 0 0) (ZP (.bool false) (ZN [Ii 0,Ii 0] 34 h fun k18 w h=>ZSs [Ii 0,Ii 0] 0 rfl h fun w h=>ZP (.bool false) (Qn (Aa (Au (Qs (ZP .nilIface (ZP (.bool false) (ZP (.bool false) (Qf (Qs (ZP (Pp k17) (ZG h (Gl 0 (Ii Ni.kind) 9) (ZP (.bool (decide (Ni.kind=2))) (ZP (.bool (decide (Ni.kind=2))) (Qn (Zd (Ni.kind=2) (fun hc19=>?_) fun hc19=>?_)))))))))))))))))))))))))))
 exfalso;revert hc19;simp;omega
 refine Qs (ZP (.bool false) (ZP (.bool false) (Qf (Qs (ZP (.map (some d.mb)) (ZG h (Es (K:=9) (E:=34) (by kernel_rfl) 1 rfl) ?_))))))
 obtain ⟨b20,hb20⟩:=nmB (decide (((d.es.map A7).length:Int)≥60))
 refine ZB hb20 (ZP (.bool b20) (ZM0 (v:=Pt k17 2) b20 h (fun hB=>by subst hB;exact Gp (Pt k17 2)) (ZM0 (v:=Ii Ni.links) b20 h (fun hB=>by subst hB;exact Gl 2 (Ii Ni.links) 9) ?_)))
 obtain ⟨b21,hb21⟩:=nmB (decide (Ni.links≥8))
 refine ZM0 (v:=.bool b21) b20 h (fun hB=>by subst hB;exact by subst hb21;exact Ay (v:=.bool (decide (Ni.links≥8))) fun _=>by kernel_rfl) ?_
 obtain ⟨b22,hb22⟩:=nmB (b20||b21)
 refine ZBc b20 hb22 (ZP (.bool b22) (Qn (Zi (b22) (fun hc23=>?_) fun hc23=>?_)))
 have q24:=hb22.symm.trans hc23
 have q25:((((d.es.map A7).length:Int)≥60)∨(Ni.links≥8)):=by subst hb21;subst hb20;revert q24;first|(simp;done)|(simp;omega)
 refine Qs (ZG h (Gr 0 (Ab ad 9) 12 rfl (Fe (c:=9) (by decide) rfl)) (ZP (Ab ad 9) (Qr (Cj (Ap ?_)))))
 have h:=(h.pkr [1,1]).dirBack (d:=d) hj
 exact ZR [Ab ad 9] [2,2,2,2,0,1,1,4] h ⟨rfl,rfl⟩
 have q26:=hb22.symm.trans hc23
 have q27:=oL q26
 have q28:=oR q26
 have q29:=hb20.symm.trans q27
 have q29:=dcF q29
 have q30:=hb21.symm.trans q28
 have q30:=dcF q30
 exfalso;revert hc23;subst hb22;subst hb21;subst hb20;simp;omega
 exact A6
end
theorem Fy (h:Int×Int):∀ pn:List ((Int×Int)×Int),Af (pn.map Cy) h=(Af pn h).map fun v=>Ii v
  | []=>rfl
  | p::r=>by
    rw [List.map_cons];unfold Af
    by_cases c:h=p.1
    · rw [if_pos (show h=(Cy p).1 from c),if_pos c];rfl
    · rw [if_neg (show ¬h=(Cy p).1 from c),if_neg c];exact Fy h r
section
variable {B:Nat} (ad:Nat→Addr) (b most tb dm pm:Nat) (ps:List (Option Nat)) (gs:List Int) (vl vg:Value) (T:TypeId) (Sl Sg:Nat→Prop) (l:List (Option ND)) (ds:List DN) (pn:List ((Int×Int)×Int)) (hl:ps.length=gs.length) (hr:∀ x∈gs,0≤x∧x≤1000000) (k:Nat) (g:Int) (N:ND) (hlk:l[k]?=some (some N)) (ha:Bl ps gs (k:Int) g=some N.nb) (hkp:k<ps.length)
include B ad b most tb dm pm ps gs vl vg T Sl Sg l ds pn hl hr k g N hlk ha hkp
theorem If (h0:N.links=0∧(Af pn ((k:Int),g)).getD 0=0):Ao Tryz.prog 79 #[Pp b,Hg k g] [Rb b tb most dm pm,B8 tb ps gs vl vg T Sl Sg,Cp l,Cm true pm hk (pn.map Cy),Bq B ad [10]] (fun u L=>L=[Rb b tb most dm pm,B8 tb (ps.set k none) gs vl vg T Sl Sg,Cp (l.set k none),Cm true pm hk (pn.map Cy),Bq B ad [10]]):=by
 refine Zo 31 Tryz.func79 fun E w0 w h=>?_
 refine Qs (ZN [Ii k,Ii g] 34 h fun k1 w h=>Qn (Aa (Ds 12 [0,0] h fun w h=>Dp 0 528 (Pp b) [0,0] h (Dp 1 529 (Pp b) [0,0] h (Dp 2 531 (Pp b) [0,0] h (Dq 3 535 [0,0] rfl h (Gl 0 (Pp tb) 1) (Dq 4 527 [0,0] rfl h (Gla 0 [Ii k,Ii g] 0) ?_)))))))
 refine Ax [5,9] (by kernel_rfl) rfl ?_
 refine De #[Pp tb,Hg k g] [2,2,3] [3,3] rfl (by kernel_rfl) (Bh ad tb ps gs vl vg T Sl Sg l hl hr (k:Int) g k N hlk ha) (fun _=>by kernel_rfl) h ?_ ?_
 rintro v_ L_ w ⟨rfl,rfl⟩ h
 refine ⟨by kernel_rfl,?_⟩
 refine Dp 6 575 (.tuple #[.agg #[Ii N.kind,Ii (Aj N),Ii N.links,Ii N.change,Ii N.upn,Ii N.upg],.nilIface]) [3,3] h (Dp 7 895 (.agg #[Ii N.kind,Ii (Aj N),Ii N.links,Ii N.change,Ii N.upn,Ii N.upg]) [3,3] h (Dp 8 1791 .nilIface [3,3] h ?_))
 refine Ax [9] (by kernel_rfl) rfl ?_
 refine B9 [4,4] rfl (by kernel_rfl) (fun b=>Pp b) [Ii 0,Ii 0,Ii 0,Ii 0,Ii 0,Ii 0] 46 (fun _=>by kernel_rfl) h ?_ ?_
 intro k2 w h;refine ⟨by kernel_rfl,?_⟩
 refine As 10 [4,4] 0 [Ii N.kind,Ii (Aj N),Ii N.links,Ii N.change,Ii N.upn,Ii N.upg] [Ii N.kind,Ii (Aj N),Ii N.links,Ii N.change,Ii N.upn,Ii N.upg] 0 rfl h fun w h=>Dp 11 2047 .nilIface [4,4] h (Dd (Ag (Aa (Ds 12 [0,3,3,3] h fun w h=>Dp 0 0 (Pt k2 2) [0,3,3,3] h (Dq 1 1 [0,3,3,3] rfl h (Gl 2 (Ii N.links) 0) ?_)))))
 obtain ⟨b3,hb3⟩:=nmB (decide (N.links=0))
 refine Dq (v:=.bool b3) 2 3 [0,3,3,3] rfl h (by subst hb3;exact Ay (v:=.bool (decide (N.links=0))) fun _=>by kernel_rfl) (Dp 3 7 (.bool b3) [0,3,3,3] h ?_)
 refine Ct 4 271 [0,3,3,3] rfl (by kernel_rfl) (B6 Cb) (ym1 (v:=Pp b) b3 (by cases b3<;>kernel_rfl) (fun hB=>by subst hB;exact Ay (v:=Pp b) fun _=>by kernel_rfl)) h (by kernel_rfl) ?_
 refine Ct 5 287 [0,3,3,3] rfl (by kernel_rfl) (B6 Cb) (ym1 (v:=Pp b) b3 (by cases b3<;>kernel_rfl) (fun hB=>by subst hB;exact Ay (v:=Pp b) fun _=>by kernel_rfl)) h (by kernel_rfl) ?_
 refine Ct 6 319 [0,3,3,3] rfl (by kernel_rfl) (B6 Cb) (ym1 (v:=Pt b 5) b3 (by cases b3<;>kernel_rfl) (fun hB=>by subst hB;exact Ay (v:=Pt b 5) fun _=>by kernel_rfl)) h (by kernel_rfl) ?_
 refine Ct 7 383 [0,3,3,3] rfl (by kernel_rfl) (B6 Cb) (ym1 (v:=.map (some pm)) b3 (by cases b3<;>kernel_rfl) (fun hB=>by subst hB;exact Jx 5 [.map (some pm)] (.map (some pm)) (by kernel_rfl) 2 rfl)) h (by kernel_rfl) ?_
 refine Ct 8 255 [0,3,3,3] rfl (by kernel_rfl) (B6 Cb) (ym1 (v:=Hg k g) b3 (by cases b3<;>kernel_rfl) (fun hB=>by subst hB;exact Jx 0 [Ii k,Ii g] (Hg k g) (by kernel_rfl) 1 rfl)) h (by kernel_rfl) ?_
 refine Ct 9 511 [0,3,3,3] rfl (by kernel_rfl) (B6 Cb) (ym1 (v:=Ii ((Af pn ((k:Int),g)).getD 0)) b3 (by cases b3<;>kernel_rfl) (fun hB=>by subst hB;exact A1 (v':=Ii ((Af pn ((k:Int),g)).getD 0)) (Is (K:=34) (E:=3) (z:=(Ii 0)) (kv:=(pn.map Cy)) (ok:=false) Dr ((k:Int),g) (by kernel_rfl) (fun _=>by kernel_rfl) 3 rfl) (by rw [Fy];cases Af pn ((k:Int),g)<;>rfl))) h (by kernel_rfl) ?_
 obtain ⟨b4,hb4⟩:=nmB (decide ((Af pn ((k:Int),g)).getD 0=0))
 refine Ct 10 1023 [0,3,3,3] rfl (by kernel_rfl) (B6 Cb) (ym1 (v:=.bool b4) b3 (by cases b3<;>kernel_rfl) (fun hB=>by subst hB;exact by subst hb4;exact Ay (v:=.bool (decide ((Af pn ((k:Int),g)).getD 0=0))) fun _=>by kernel_rfl)) h (by kernel_rfl) ?_
 obtain ⟨b5,hb5⟩:=nmB (b3&&b4)
 refine Dq (v:=.bool b5) 11 2047 [0,3,3,3] rfl h (by subst hb5;exact Ay (v:=.bool (b3&&b4)) fun _=>by cases b3<;>kernel_rfl) (Dd (Ag (Zi (b5) (fun hc6=>?_) fun hc6=>?_)))
 have q7:=hb5.symm.trans hc6
 have q8:=aL q7
 have q9:=aR q7
 have q10:=hb3.symm.trans q8
 have q10:=dcT q10
 have q11:=hb4.symm.trans q9
 have q11:=dcT q11
 refine Ds 6 [4,4] h fun w h=>Dp 0 16 (Pp b) [4,4] h (Dp 1 17 (Pp b) [4,4] h (Dp 2 19 (Pp b) [4,4] h (Dq 3 23 [4,4] rfl h (Gl 0 (Pp tb) 1) (Dq 4 15 [4,4] rfl h (Gla 0 [Ii k,Ii g] 0) ?_))))
 refine Ad 5 [1,1,1] [4,4] (Jw ad tb k N.nb g ps gs vl vg T Sl Sg l hl hr hkp ha) h ?_
 rintro v_ L_ w ⟨rfl,rfl⟩ h
 refine ⟨by kernel_rfl,?_⟩
 exact Dd (ZR [] [5,0,0,3,0] h rfl)
 have q12:=hb5.symm.trans hc6
 exfalso;revert hc6;subst hb5;subst hb4;subst hb3;simp;omega
 exact A6
 refine B9 [1,1] rfl (by kernel_rfl) (fun b=>Pp b) [Ii 0,Ii 0,Ii 0,Ii 0,Ii 0,Ii 0] 46 (fun _=>by kernel_rfl) h ?_ ?_
 intro k13 w h;refine ⟨by kernel_rfl,?_⟩
 refine Ad 5 [3,3,4] [4,4] (Bh ad tb ps gs vl vg T Sl Sg l hl hr (k:Int) g k N hlk ha) h ?_
 rintro v_ L_ w ⟨rfl,rfl⟩ h
 refine ⟨by kernel_rfl,?_⟩
 refine Dp 6 575 (.tuple #[.agg #[Ii N.kind,Ii (Aj N),Ii N.links,Ii N.change,Ii N.upn,Ii N.upg],.nilIface]) [4,4] h (Dp 7 895 (.agg #[Ii N.kind,Ii (Aj N),Ii N.links,Ii N.change,Ii N.upn,Ii N.upg]) [4,4] h (Dp 8 1791 .nilIface [4,4] h (As 10 [4,4] 0 [Ii N.kind,Ii (Aj N),Ii N.links,Ii N.change,Ii N.upn,Ii N.upg] [Ii N.kind,Ii (Aj N),Ii N.links,Ii N.change,Ii N.upn,Ii N.upg] 3 rfl h fun w h=>Dp 11 2047 .nilIface [4,4] h (Dd (Ag (Aa (Ds 12 [3,3,3,3] h fun w h=>Dp 0 0 (Pt k13 2) [3,3,3,3] h (Dq 1 1 [3,3,3,3] rfl h (Gl 2 (Ii N.links) 0) ?_))))))))
 obtain ⟨b14,hb14⟩:=nmB (decide (N.links=0))
 refine Dq (v:=.bool b14) 2 3 [3,3,3,3] rfl h (by subst hb14;exact Ay (v:=.bool (decide (N.links=0))) fun _=>by kernel_rfl) (Dp 3 7 (.bool b14) [3,3,3,3] h ?_)
 refine Ct 4 271 [3,3,3,3] rfl (by kernel_rfl) (B6 Cb) (ym1 (v:=Pp b) b14 (by cases b14<;>kernel_rfl) (fun hB=>by subst hB;exact Ay (v:=Pp b) fun _=>by kernel_rfl)) h (by kernel_rfl) ?_
 refine Ct 5 287 [3,3,3,3] rfl (by kernel_rfl) (B6 Cb) (ym1 (v:=Pp b) b14 (by cases b14<;>kernel_rfl) (fun hB=>by subst hB;exact Ay (v:=Pp b) fun _=>by kernel_rfl)) h (by kernel_rfl) ?_
 refine Ct 6 319 [3,3,3,3] rfl (by kernel_rfl) (B6 Cb) (ym1 (v:=Pt b 5) b14 (by cases b14<;>kernel_rfl) (fun hB=>by subst hB;exact Ay (v:=Pt b 5) fun _=>by kernel_rfl)) h (by kernel_rfl) ?_
 refine Ct 7 383 [3,3,3,3] rfl (by kernel_rfl) (B6 Cb) (ym1 (v:=.map (some pm)) b14 (by cases b14<;>kernel_rfl) (fun hB=>by subst hB;exact Jx 5 [.map (some pm)] (.map (some pm)) (by kernel_rfl) 2 rfl)) h (by kernel_rfl) ?_
 refine Ct 8 255 [3,3,3,3] rfl (by kernel_rfl) (B6 Cb) (ym1 (v:=Hg k g) b14 (by cases b14<;>kernel_rfl) (fun hB=>by subst hB;exact Jx 0 [Ii k,Ii g] (Hg k g) (by kernel_rfl) 1 rfl)) h (by kernel_rfl) ?_
 refine Ct 9 511 [3,3,3,3] rfl (by kernel_rfl) (B6 Cb) (ym1 (v:=Ii ((Af pn ((k:Int),g)).getD 0)) b14 (by cases b14<;>kernel_rfl) (fun hB=>by subst hB;exact A1 (v':=Ii ((Af pn ((k:Int),g)).getD 0)) (Is (K:=34) (E:=3) (z:=(Ii 0)) (kv:=(pn.map Cy)) (ok:=false) Dr ((k:Int),g) (by kernel_rfl) (fun _=>by kernel_rfl) 3 rfl) (by rw [Fy];cases Af pn ((k:Int),g)<;>rfl))) h (by kernel_rfl) ?_
 obtain ⟨b15,hb15⟩:=nmB (decide ((Af pn ((k:Int),g)).getD 0=0))
 refine Ct 10 1023 [3,3,3,3] rfl (by kernel_rfl) (B6 Cb) (ym1 (v:=.bool b15) b14 (by cases b14<;>kernel_rfl) (fun hB=>by subst hB;exact by subst hb15;exact Ay (v:=.bool (decide ((Af pn ((k:Int),g)).getD 0=0))) fun _=>by kernel_rfl)) h (by kernel_rfl) ?_
 obtain ⟨b16,hb16⟩:=nmB (b14&&b15)
 refine Dq (v:=.bool b16) 11 2047 [3,3,3,3] rfl h (by subst hb16;exact Ay (v:=.bool (b14&&b15)) fun _=>by cases b14<;>kernel_rfl) (Dd (Ag (Zi (b16) (fun hc17=>?_) fun hc17=>?_)))
 have q18:=hb16.symm.trans hc17
 have q19:=aL q18
 have q20:=aR q18
 have q21:=hb14.symm.trans q19
 have q21:=dcT q21
 have q22:=hb15.symm.trans q20
 have q22:=dcT q22
 refine Ds 6 [4,4] h fun w h=>Dp 0 16 (Pp b) [4,4] h (Dp 1 17 (Pp b) [4,4] h (Dp 2 19 (Pp b) [4,4] h (Dq 3 23 [4,4] rfl h (Gl 0 (Pp tb) 1) (Dq 4 15 [4,4] rfl h (Gla 0 [Ii k,Ii g] 0) ?_))))
 refine Ad 5 [0,0,0] [4,4] (Jw ad tb k N.nb g ps gs vl vg T Sl Sg l hl hr hkp ha) h ?_
 rintro v_ L_ w ⟨rfl,rfl⟩ h
 refine ⟨by kernel_rfl,?_⟩
 exact Dd (ZR [] [5,0,0,3,0] h rfl)
 have q23:=hb16.symm.trans hc17
 exfalso;revert hc17;subst hb16;subst hb15;subst hb14;simp;omega
 exact A6
theorem In (h0:¬(N.links=0∧(Af pn ((k:Int),g)).getD 0=0)):Ao Tryz.prog 79 #[Pp b,Hg k g] [Rb b tb most dm pm,B8 tb ps gs vl vg T Sl Sg,Cp l,Cm true pm hk (pn.map Cy),Bq B ad [10]] (fun u L=>L=[Rb b tb most dm pm,B8 tb ps gs vl vg T Sl Sg,Cp l,Cm true pm hk (pn.map Cy),Bq B ad [10]]):=by
 refine Zo 31 Tryz.func79 fun E w0 w h=>?_
 refine Qs (ZN [Ii k,Ii g] 34 h fun k1 w h=>Qn (Aa (Ds 12 [0,0] h fun w h=>Dp 0 528 (Pp b) [0,0] h (Dp 1 529 (Pp b) [0,0] h (Dp 2 531 (Pp b) [0,0] h (Dq 3 535 [0,0] rfl h (Gl 0 (Pp tb) 1) (Dq 4 527 [0,0] rfl h (Gla 0 [Ii k,Ii g] 0) ?_)))))))
 refine Ax [5,9] (by kernel_rfl) rfl ?_
 refine De #[Pp tb,Hg k g] [2,2,3] [3,3] rfl (by kernel_rfl) (Bh ad tb ps gs vl vg T Sl Sg l hl hr (k:Int) g k N hlk ha) (fun _=>by kernel_rfl) h ?_ ?_
 rintro v_ L_ w ⟨rfl,rfl⟩ h
 refine ⟨by kernel_rfl,?_⟩
 refine Dp 6 575 (.tuple #[.agg #[Ii N.kind,Ii (Aj N),Ii N.links,Ii N.change,Ii N.upn,Ii N.upg],.nilIface]) [3,3] h (Dp 7 895 (.agg #[Ii N.kind,Ii (Aj N),Ii N.links,Ii N.change,Ii N.upn,Ii N.upg]) [3,3] h (Dp 8 1791 .nilIface [3,3] h ?_))
 refine Ax [9] (by kernel_rfl) rfl ?_
 refine B9 [4,4] rfl (by kernel_rfl) (fun b=>Pp b) [Ii 0,Ii 0,Ii 0,Ii 0,Ii 0,Ii 0] 46 (fun _=>by kernel_rfl) h ?_ ?_
 intro k2 w h;refine ⟨by kernel_rfl,?_⟩
 refine As 10 [4,4] 0 [Ii N.kind,Ii (Aj N),Ii N.links,Ii N.change,Ii N.upn,Ii N.upg] [Ii N.kind,Ii (Aj N),Ii N.links,Ii N.change,Ii N.upn,Ii N.upg] 0 rfl h fun w h=>Dp 11 2047 .nilIface [4,4] h (Dd (Ag (Aa (Ds 12 [0,3,3,3] h fun w h=>Dp 0 0 (Pt k2 2) [0,3,3,3] h (Dq 1 1 [0,3,3,3] rfl h (Gl 2 (Ii N.links) 0) ?_)))))
 obtain ⟨b3,hb3⟩:=nmB (decide (N.links=0))
 refine Dq (v:=.bool b3) 2 3 [0,3,3,3] rfl h (by subst hb3;exact Ay (v:=.bool (decide (N.links=0))) fun _=>by kernel_rfl) (Dp 3 7 (.bool b3) [0,3,3,3] h ?_)
 refine Ct 4 271 [0,3,3,3] rfl (by kernel_rfl) (B6 Cb) (ym1 (v:=Pp b) b3 (by cases b3<;>kernel_rfl) (fun hB=>by subst hB;exact Ay (v:=Pp b) fun _=>by kernel_rfl)) h (by kernel_rfl) ?_
 refine Ct 5 287 [0,3,3,3] rfl (by kernel_rfl) (B6 Cb) (ym1 (v:=Pp b) b3 (by cases b3<;>kernel_rfl) (fun hB=>by subst hB;exact Ay (v:=Pp b) fun _=>by kernel_rfl)) h (by kernel_rfl) ?_
 refine Ct 6 319 [0,3,3,3] rfl (by kernel_rfl) (B6 Cb) (ym1 (v:=Pt b 5) b3 (by cases b3<;>kernel_rfl) (fun hB=>by subst hB;exact Ay (v:=Pt b 5) fun _=>by kernel_rfl)) h (by kernel_rfl) ?_
 refine Ct 7 383 [0,3,3,3] rfl (by kernel_rfl) (B6 Cb) (ym1 (v:=.map (some pm)) b3 (by cases b3<;>kernel_rfl) (fun hB=>by subst hB;exact Jx 5 [.map (some pm)] (.map (some pm)) (by kernel_rfl) 2 rfl)) h (by kernel_rfl) ?_
 refine Ct 8 255 [0,3,3,3] rfl (by kernel_rfl) (B6 Cb) (ym1 (v:=Hg k g) b3 (by cases b3<;>kernel_rfl) (fun hB=>by subst hB;exact Jx 0 [Ii k,Ii g] (Hg k g) (by kernel_rfl) 1 rfl)) h (by kernel_rfl) ?_
 refine Ct 9 511 [0,3,3,3] rfl (by kernel_rfl) (B6 Cb) (ym1 (v:=Ii ((Af pn ((k:Int),g)).getD 0)) b3 (by cases b3<;>kernel_rfl) (fun hB=>by subst hB;exact A1 (v':=Ii ((Af pn ((k:Int),g)).getD 0)) (Is (K:=34) (E:=3) (z:=(Ii 0)) (kv:=(pn.map Cy)) (ok:=false) Dr ((k:Int),g) (by kernel_rfl) (fun _=>by kernel_rfl) 3 rfl) (by rw [Fy];cases Af pn ((k:Int),g)<;>rfl))) h (by kernel_rfl) ?_
 obtain ⟨b4,hb4⟩:=nmB (decide ((Af pn ((k:Int),g)).getD 0=0))
 refine Ct 10 1023 [0,3,3,3] rfl (by kernel_rfl) (B6 Cb) (ym1 (v:=.bool b4) b3 (by cases b3<;>kernel_rfl) (fun hB=>by subst hB;exact by subst hb4;exact Ay (v:=.bool (decide ((Af pn ((k:Int),g)).getD 0=0))) fun _=>by kernel_rfl)) h (by kernel_rfl) ?_
 obtain ⟨b5,hb5⟩:=nmB (b3&&b4)
 refine Dq (v:=.bool b5) 11 2047 [0,3,3,3] rfl h (by subst hb5;exact Ay (v:=.bool (b3&&b4)) fun _=>by cases b3<;>kernel_rfl) (Dd (Ag (Zi (b5) (fun hc6=>?_) fun hc6=>?_)))
 have q7:=hb5.symm.trans hc6
 have q8:=aL q7
 have q9:=aR q7
 have q10:=hb3.symm.trans q8
 have q10:=dcT q10
 have q11:=hb4.symm.trans q9
 have q11:=dcT q11
 exfalso;revert hc6;subst hb5;subst hb4;subst hb3;simp;omega
 have q12:=hb5.symm.trans hc6
 exact B3 (ZR [] [5,1,1,3,1] h rfl)
 exact A6
 refine B9 [1,1] rfl (by kernel_rfl) (fun b=>Pp b) [Ii 0,Ii 0,Ii 0,Ii 0,Ii 0,Ii 0] 46 (fun _=>by kernel_rfl) h ?_ ?_
 intro k13 w h;refine ⟨by kernel_rfl,?_⟩
 refine Ad 5 [3,3,4] [4,4] (Bh ad tb ps gs vl vg T Sl Sg l hl hr (k:Int) g k N hlk ha) h ?_
 rintro v_ L_ w ⟨rfl,rfl⟩ h
 refine ⟨by kernel_rfl,?_⟩
 refine Dp 6 575 (.tuple #[.agg #[Ii N.kind,Ii (Aj N),Ii N.links,Ii N.change,Ii N.upn,Ii N.upg],.nilIface]) [4,4] h (Dp 7 895 (.agg #[Ii N.kind,Ii (Aj N),Ii N.links,Ii N.change,Ii N.upn,Ii N.upg]) [4,4] h (Dp 8 1791 .nilIface [4,4] h (As 10 [4,4] 0 [Ii N.kind,Ii (Aj N),Ii N.links,Ii N.change,Ii N.upn,Ii N.upg] [Ii N.kind,Ii (Aj N),Ii N.links,Ii N.change,Ii N.upn,Ii N.upg] 3 rfl h fun w h=>Dp 11 2047 .nilIface [4,4] h (Dd (Ag (Aa (Ds 12 [3,3,3,3] h fun w h=>Dp 0 0 (Pt k13 2) [3,3,3,3] h (Dq 1 1 [3,3,3,3] rfl h (Gl 2 (Ii N.links) 0) ?_))))))))
 obtain ⟨b14,hb14⟩:=nmB (decide (N.links=0))
 refine Dq (v:=.bool b14) 2 3 [3,3,3,3] rfl h (by subst hb14;exact Ay (v:=.bool (decide (N.links=0))) fun _=>by kernel_rfl) (Dp 3 7 (.bool b14) [3,3,3,3] h ?_)
 refine Ct 4 271 [3,3,3,3] rfl (by kernel_rfl) (B6 Cb) (ym1 (v:=Pp b) b14 (by cases b14<;>kernel_rfl) (fun hB=>by subst hB;exact Ay (v:=Pp b) fun _=>by kernel_rfl)) h (by kernel_rfl) ?_
 refine Ct 5 287 [3,3,3,3] rfl (by kernel_rfl) (B6 Cb) (ym1 (v:=Pp b) b14 (by cases b14<;>kernel_rfl) (fun hB=>by subst hB;exact Ay (v:=Pp b) fun _=>by kernel_rfl)) h (by kernel_rfl) ?_
 refine Ct 6 319 [3,3,3,3] rfl (by kernel_rfl) (B6 Cb) (ym1 (v:=Pt b 5) b14 (by cases b14<;>kernel_rfl) (fun hB=>by subst hB;exact Ay (v:=Pt b 5) fun _=>by kernel_rfl)) h (by kernel_rfl) ?_
 refine Ct 7 383 [3,3,3,3] rfl (by kernel_rfl) (B6 Cb) (ym1 (v:=.map (some pm)) b14 (by cases b14<;>kernel_rfl) (fun hB=>by subst hB;exact Jx 5 [.map (some pm)] (.map (some pm)) (by kernel_rfl) 2 rfl)) h (by kernel_rfl) ?_
 refine Ct 8 255 [3,3,3,3] rfl (by kernel_rfl) (B6 Cb) (ym1 (v:=Hg k g) b14 (by cases b14<;>kernel_rfl) (fun hB=>by subst hB;exact Jx 0 [Ii k,Ii g] (Hg k g) (by kernel_rfl) 1 rfl)) h (by kernel_rfl) ?_
 refine Ct 9 511 [3,3,3,3] rfl (by kernel_rfl) (B6 Cb) (ym1 (v:=Ii ((Af pn ((k:Int),g)).getD 0)) b14 (by cases b14<;>kernel_rfl) (fun hB=>by subst hB;exact A1 (v':=Ii ((Af pn ((k:Int),g)).getD 0)) (Is (K:=34) (E:=3) (z:=(Ii 0)) (kv:=(pn.map Cy)) (ok:=false) Dr ((k:Int),g) (by kernel_rfl) (fun _=>by kernel_rfl) 3 rfl) (by rw [Fy];cases Af pn ((k:Int),g)<;>rfl))) h (by kernel_rfl) ?_
 obtain ⟨b15,hb15⟩:=nmB (decide ((Af pn ((k:Int),g)).getD 0=0))
 refine Ct 10 1023 [3,3,3,3] rfl (by kernel_rfl) (B6 Cb) (ym1 (v:=.bool b15) b14 (by cases b14<;>kernel_rfl) (fun hB=>by subst hB;exact by subst hb15;exact Ay (v:=.bool (decide ((Af pn ((k:Int),g)).getD 0=0))) fun _=>by kernel_rfl)) h (by kernel_rfl) ?_
 obtain ⟨b16,hb16⟩:=nmB (b14&&b15)
 refine Dq (v:=.bool b16) 11 2047 [3,3,3,3] rfl h (by subst hb16;exact Ay (v:=.bool (b14&&b15)) fun _=>by cases b14<;>kernel_rfl) (Dd (Ag (Zi (b16) (fun hc17=>?_) fun hc17=>?_)))
 have q18:=hb16.symm.trans hc17
 have q19:=aL q18
 have q20:=aR q18
 have q21:=hb14.symm.trans q19
 have q21:=dcT q21
 have q22:=hb15.symm.trans q20
 have q22:=dcT q22
 exfalso;revert hc17;subst hb16;subst hb15;subst hb14;simp;omega
 have q23:=hb16.symm.trans hc17
 exact B3 (ZR [] [5,0,0,3,0] h rfl)
 exact A6
end
def inC (n:Int):List Value:=[Ii n]
theorem Oa (n:Int):(inC n).length=1:=rfl
theorem Aee {x:Hdl} {n g:Int} (h:¬(x.1=n∧x.2=g)):x≠(n,g):=fun e=>h ⟨congrArg Prod.fst e,congrArg Prod.snd e⟩
theorem Yh {α:Type} {l:List α} {k:Nat} {x:α} {p:α→Prop} (hn:∀ i y,i<k→l[i]?=some y→p y) (hx:l[k]?=some x) (hp:p x):∀ i y,i<k+1→l[i]?=some y→p y:=fun i y hi hy=>by
  by_cases e:i=k
  · subst e;rw [hx] at hy;cases hy;exact hp
  · exact hn i y (by omega) hy
theorem Rs {α:Type} {l:List α} {k:Nat} {p:α→Prop} (hn:∀ i y,i<k→l[i]?=some y→p y) (hk:l.length≤k):∀ y∈l,p y:=fun y hy=>by
  obtain ⟨i,hi⟩:=List.getElem?_of_mem hy
  exact hn i y (by have:=(List.getElem?_eq_some_iff.1 hi).1;omega) hi
theorem Km (b:Nat) (mst:Int) (vl vt:Value) (L:List RN) (n g:Int) (hl:L.length≤100000)  : Ao Tryz.prog 61 #[Pp b,Hg n g] [Rt b mst vl vt,rRL vl L] (fun u L'=>(∃ (j:Nat) (N:RN),L[j]?=some N∧N.a.h=(n,g)∧u=Pp N.nb∧L'=[Rt b mst vl vt,rRL vl L])∨((∀ N∈L,N.a.h≠(n,g))∧u=.pointer none∧L'=[Rt b mst vl vt,rRL vl L])):=by
 refine Zo 32 Tryz.func61 fun E w0 w h=>?_
 refine Qs (ZN [Ii n,Ii g] 34 h fun k1 w h=>ZP (.pointer none) (Qu (ZP (Ii 0) (Qn (Au ?_)))))
 refine ZL (X:=Nat×(Nat→Value)) [(4,4),(6,33)] (fun ⟨i,J0⟩=>[(5,Ii i)]) (fun ⟨i,J0⟩=>J0) (fun ⟨i,J0⟩=>[Rh k1 n g,Rt b mst vl vt,rRL vl L]) (fun ⟨i,J0⟩=>i≤L.length∧∀ k y,k<i→L[k]?=some y→y.a.h≠(n,g)) (fun ⟨i,J0⟩=>L.length - i) (fun j=>⟨0,j⟩) ⟨by omega,fun k y hk=>by omega⟩ [0,0,0] h ?_
 rintro ⟨i,J0⟩ w hG h
 obtain ⟨hi0,hno⟩:i≤L.length∧∀ k y,k<i→L[k]?=some y→y.a.h≠(n,g):=hG
 refine Qt (ZP (Ii i) (ZP (Pp b) (ZP (Pp b) (ZP (Pt b 1) (ZG h (Gl 1 (vl) 1) (ZG h (Dh 88 (by kernel_rfl) 2 rfl Dn) (ZP (.bool (decide ((i:Int)<(L.length:Int)))) (Qn (Zd ((i:Int)<(L.length:Int)) (fun hc2=>?_) fun hc2=>?_)))))))))
 refine Kn (Aa (Au (Aa (Ds 12 [0,0,0] h fun w h=>Dp 0 1040 (Pp b) [0,0,0] h (Dp 1 1041 (Pp b) [0,0,0] h (Dp 2 1043 (Pt b 1) [0,0,0] h (Dq 3 1047 [0,0,0] rfl h (Gl 1 (vl) 1) (Dp 4 1039 (Ii i) [0,0,0] h ?_))))))))
 have hi3:i<L.length:=by omega
 obtain ⟨x4,hx5⟩:∃ x,L[i]?=some x:=⟨_,List.getElem?_eq_getElem hi3⟩
 refine Dq (v:=Pt (Du vl) (B2 vl+i*1)) 5 1055 [0,0,0] rfl h (Dx (k:=1) 88 i rfl (by kernel_rfl) hi3 2 rfl Dn) (Dq 6 1087 [0,0,0] rfl h (Gr (B2 vl+i*1) (Pp x4.nb) 2 rfl (Kg Dn Hb hx5 (by kernel_rfl))) (Dp 7 1151 (Pp x4.nb) [0,0,0] h (Dp 8 1279 (Pp x4.nb) [0,0,0] h (Dq 9 1535 [0,0,0] rfl h (Gra 0 [Ii x4.a.h.1,Ii x4.a.h.2] 2 rfl (B5 hx5 0 (by kernel_rfl))) (Dq 10 1023 [0,0,0] rfl h (Gla 0 [Ii n,Ii g] 0) (Dq (v:=.bool ((decide (x4.a.h.1=n))&&(decide (x4.a.h.2=g)))) 11 2047 [0,0,0] rfl h (F7 (n1:=x4.a.h.1) (g1:=x4.a.h.2) (n2:=n) (g2:=g) (by kernel_rfl)) (Dd (Ag (Zh (x4.a.h.1=n) (x4.a.h.2=g) (fun hc6 q7 q8=>?_) fun hc6 q9=>?_)))))))))
 exact Qs (ZP (Pp b) (ZP (Pp b) (ZP (Pt b 1) (ZG h (Gl 1 (vl) 1) (ZP (Ii i) (ZG h (Dx (k:=1) 88 i rfl (by kernel_rfl) hi3 2 rfl Dn) (ZG h (Gr (B2 vl+i*1) (Pp x4.nb) 2 rfl (Kg Dn Hb hx5 (by kernel_rfl))) (ZP (Pp x4.nb) (Qr (Cj (Ap (M8 (Cj (Ap (ZR [Pp x4.nb] [1,1] h (.inl ⟨i,_,hx5,Prod.ext (by omega) (by omega),rfl,rfl⟩))))))))))))))))
 refine B3 ?_
 refine Ch (Ag ?_)
 refine Ai (ZP (Ii i) (ZG h (A1 (v:=Ii (IntKind.i64.wrap ((i:Int)+1))) (v':=Ii ((i+1:Nat):Int)) (Ay fun _=>by kernel_rfl) (wr (by omega))) (ZP (Ii ((i+1:Nat):Int)) (Dj ?_))))
 have hQ10:((i+1)≤L.length∧∀ k y,k<(i+1)→L[k]?=some y→y.a.h≠(n,g))∧(L.length - (i+1))<(L.length - i):=⟨⟨by omega,Yh (p:=fun y:RN=>y.a.h≠(n,g)) hno hx5 (Aee (by omega))⟩,by omega⟩
 refine Bu (fun j=>⟨(i+1),j⟩) hQ10 (by kernel_rfl) [0,0,0] (by kernel_rfl) h
 exact Dk (Ea (Et (Ep (Ag (Qs (ZP (.pointer none) (Qr (ZR [.pointer none] [1,1] h (.inr ⟨Rs hno (by omega),rfl,rfl⟩)))))))))
theorem O1 {L:List RN} (hn:(L.map fun N=>N.a.h).Nodup) {i j:Nat} {N M:RN} (hi:L[i]?=some N) (hj:L[j]?=some M) (e:N.a.h=M.a.h):i=j:=by
  have hp:=List.pairwise_iff_getElem.1 hn
  obtain ⟨hi1,hi2⟩:=List.getElem?_eq_some_iff.1 hi
  obtain ⟨hj1,hj2⟩:=List.getElem?_eq_some_iff.1 hj
  rcases Nat.lt_trichotomy i j with hl|hl|hl
  · exact (hp i j (by simpa using hi1) (by simpa using hj1) hl (by simp only [List.getElem_map,hi2,hj2,e])).elim
  · exact hl
  · exact (hp j i (by simpa using hj1) (by simpa using hi1) hl (by simp only [List.getElem_map,hi2,hj2,e])).elim
theorem Cq (b:Nat) (mst:Int) (vl vt:Value) (L:List RN) (hl:L.length≤100000) (hn:(L.map fun N=>N.a.h).Nodup) (j:Nat) (N:RN) (hx:L[j]?=some N) (n g:Int) (hh:N.a.h=(n,g)):Ao Tryz.prog 61 #[Pp b,Hg n g] [Rt b mst vl vt,rRL vl L] fun u L'=>u=Pp N.nb∧L'=[Rt b mst vl vt,rRL vl L]:=
  (Km b mst vl vt L n g hl).mono fun u L' h=>by
    rcases h with ⟨i,M,hi,hM,h2⟩|⟨hno,_⟩
    · have:=O1 hn hi hx (hM.trans hh.symm)
      subst this
      rw [hx] at hi;cases hi
      exact h2
    · exact (hno N (List.mem_of_getElem? hx) hh).elim
theorem Ah {L:List RN} (hn:(L.map fun N=>N.a.h).Nodup) {j:Nat} {N:RN} (hx:L[j]?=some N) {h:Hdl} (hh:N.a.h=h):Br (L.map RN.a) h=some N.a:=by
  unfold Br
  rw [List.find?_map]
  have:L.find? ((fun M:AN=>M.h==h)∘RN.a)=some N:=by
    rw [List.find?_eq_some_iff_getElem]
    obtain ⟨hj,e⟩:=List.getElem?_eq_some_iff.1 hx
    refine ⟨by simp [hh],j,hj,e,fun k hk=>?_⟩
    simp only [Function.comp,Bool.not_eq_true',beq_eq_false_iff_ne,ne_eq]
    intro e2
    have:=O1 hn (List.getElem?_eq_getElem (by omega:k<L.length)) hx (e2.trans hh.symm)
    omega
  rw [this];rfl
theorem E5 {L:List RN} {h:Hdl} (hno:∀ N∈L,N.a.h≠h):Br (L.map RN.a) h=none:=by
  unfold Br
  rw [List.find?_eq_none]
  intro x hx
  obtain ⟨N,hN,rfl⟩:=List.mem_map.1 hx
  simp [hno N hN]
theorem F2 (b:Nat) (mst:Int) (vl vt:Value) (L:List RN) (n g:Int) (hl:L.length≤100000)  : Ao Tryz.prog 59 #[Pp b,Hg n g] [Rt b mst vl vt,rRL vl L] (fun u L'=>((∀ N∈L,N.a.h≠(n,g))∧u=Ii 10∧L'=[Rt b mst vl vt,rRL vl L])∨(∃ (j:Nat) (N:RN),L[j]?=some N∧N.a.h=(n,g)∧¬N.a.kind=2∧u=Ii 7∧L'=[Rt b mst vl vt,rRL vl L])∨(∃ (j:Nat) (N:RN),L[j]?=some N∧N.a.h=(n,g)∧N.a.kind=2∧u=Ii 0∧L'=[Rt b mst vl vt,rRL vl L])):=by
 refine Zo 14 Tryz.func59 fun E w0 w h=>?_
 refine Qs (ZN [Ii n,Ii g] 34 h fun k1 w h=>ZP (Ii 0) (Qm (ZP (Pp b) (ZG h (Gla 0 [Ii n,Ii g] 0) ?_))))
 refine ZD [1,1] (Km b mst vl vt L n g (by omega)) h ?_;rintro v_ L_ w (⟨j2,N3,hx4,hh5,rfl,rfl⟩|⟨hno6,rfl,rfl⟩) h
 refine ZP (Pp N3.nb) (Qu (ZP (Pp N3.nb) (ZP (.bool false) (Ft (ZP (Pp N3.nb) (ZP (Pp N3.nb) (ZP (Pt N3.nb 2) (ZG h (Gr 2 (Ii N3.a.kind) 1 rfl (B5 hx4 2 (by kernel_rfl))) (ZP (.bool (!(decide (N3.a.kind=2)))) (Qn (Zi (!(decide (N3.a.kind=2))) (fun hc7=>?_) fun hc7=>?_)))))))))))
 have q8:(decide (N3.a.kind=2))=false:=by simpa using hc7
 have q8:=dcF q8
 exact Qs (ZP (Ii 7) (Qr (Ap (ZR [Ii 7] [0,0] h (.inr (.inl ⟨j2,N3,hx4,hh5,by omega,rfl,rfl⟩))))))
 have q9:(decide (N3.a.kind=2))=true:=by simpa using hc7
 have q9:=dcT q9
 exact Ks (ZP (Ii 0) (Qr (ZR [Ii 0] [0,0] h (.inr (.inr ⟨j2,N3,hx4,hh5,by omega,rfl,rfl⟩)))))
 exact ZP (.pointer none) (Qu (ZP (.pointer none) (ZP (.bool true) (Qg (Qs (ZP (Ii 10) (Qr (Ap (ZR [Ii 10] [0,0] h (.inl ⟨hno6,rfl,rfl⟩))))))))))
theorem Ij (b:Nat) (mst:Int) (vl vt:Value) (L:List RN) (n g:Int) (hl:L.length≤100000)  : Ao Tryz.prog 75 #[Pp b,Hg n g] [Rt b mst vl vt,rRL vl L] (fun u L'=>((∀ N∈L,N.a.h≠(n,g))∧u=Ii 10∧L'=[Rt b mst vl vt,rRL vl L])∨(∃ (j:Nat) (N:RN),L[j]?=some N∧N.a.h=(n,g)∧¬N.a.kind=1∧u=Ii 8∧L'=[Rt b mst vl vt,rRL vl L])∨(∃ (j:Nat) (N:RN),L[j]?=some N∧N.a.h=(n,g)∧N.a.kind=1∧u=Ii 0∧L'=[Rt b mst vl vt,rRL vl L])):=by
 refine Zo 14 Tryz.func75 fun E w0 w h=>?_
 refine Qs (ZN [Ii n,Ii g] 34 h fun k1 w h=>ZP (Ii 0) (Qm (ZP (Pp b) (ZG h (Gla 0 [Ii n,Ii g] 0) ?_))))
 refine ZD [1,1] (Km b mst vl vt L n g (by omega)) h ?_;rintro v_ L_ w (⟨j2,N3,hx4,hh5,rfl,rfl⟩|⟨hno6,rfl,rfl⟩) h
 refine ZP (Pp N3.nb) (Qu (ZP (Pp N3.nb) (ZP (.bool false) (Ft (ZP (Pp N3.nb) (ZP (Pp N3.nb) (ZP (Pt N3.nb 2) (ZG h (Gr 2 (Ii N3.a.kind) 1 rfl (B5 hx4 2 (by kernel_rfl))) (ZP (.bool (!(decide (N3.a.kind=1)))) (Qn (Zi (!(decide (N3.a.kind=1))) (fun hc7=>?_) fun hc7=>?_)))))))))))
 have q8:(decide (N3.a.kind=1))=false:=by simpa using hc7
 have q8:=dcF q8
 exact Qs (ZP (Ii 8) (Qr (Ap (ZR [Ii 8] [0,0] h (.inr (.inl ⟨j2,N3,hx4,hh5,by omega,rfl,rfl⟩))))))
 have q9:(decide (N3.a.kind=1))=true:=by simpa using hc7
 have q9:=dcT q9
 exact Ks (ZP (Ii 0) (Qr (ZR [Ii 0] [0,0] h (.inr (.inr ⟨j2,N3,hx4,hh5,by omega,rfl,rfl⟩)))))
 exact ZP (.pointer none) (Qu (ZP (.pointer none) (ZP (.bool true) (Qg (Qs (ZP (Ii 10) (Qr (Ap (ZR [Ii 10] [0,0] h (.inl ⟨hno6,rfl,rfl⟩))))))))))
theorem Ey (vl:Value) (L:List RN) (j:Nat) (N:RN) (hx:L[j]?=some N) (nm:ByteArray) (hl:N.a.es.length≤1000)  : Ao Tryz.prog 62 #[Pp N.nb,.string nm] [rRL vl L] (fun u L'=>(∃ (i:Nat) (e:Bm),N.a.es[i]?=some e∧e.1=nm∧u=Ii i∧L'=[rRL vl L])∨((∀ e∈N.a.es,e.1≠nm)∧u=Ii (-1)∧L'=[rRL vl L])):=by
 refine Zo 24 Tryz.func62 fun E w0 w h=>?_
 refine Qs (ZP (Ii 0) (Qu (ZP (Ii 0) (Qn (Au ?_)))))
 refine ZL (X:=Nat×(Nat→Value)) [(4,4),(6,25)] (fun ⟨i,J0⟩=>[(5,Ii i)]) (fun ⟨i,J0⟩=>J0) (fun ⟨i,J0⟩=>[rRL vl L]) (fun ⟨i,J0⟩=>i≤N.a.es.length∧∀ k y,k<i→N.a.es[k]?=some y→y.1≠nm) (fun ⟨i,J0⟩=>N.a.es.length - i) (fun j=>⟨0,j⟩) ⟨by omega,fun k y hk=>by omega⟩ [0] h ?_
 rintro ⟨i,J0⟩ w hG h
 obtain ⟨hi0,hno⟩:i≤N.a.es.length∧∀ k y,k<i→N.a.es[k]?=some y→y.1≠nm:=hG
 refine Qt (ZP (Ii i) (ZP (Pp N.nb) (ZP (Pp N.nb) (ZP (Pt N.nb 6) (ZG h (Gr 6 N.ve 0 rfl (B5 hx 6 (by kernel_rfl))) (ZG h (Dh 107 (by kernel_rfl) 0 rfl (Bo hx)) (ZP (.bool (decide ((i:Int)<(N.a.es.length:Int)))) (Qn (Zd ((i:Int)<(N.a.es.length:Int)) (fun hc1=>?_) fun hc1=>?_)))))))))
 refine Kn (Aa (Au (Qs (ZP (Pp N.nb) (ZP (Pp N.nb) (ZP (Pt N.nb 6) (ZG h (Gr 6 N.ve 0 rfl (B5 hx 6 (by kernel_rfl))) (ZP (Ii i) ?_))))))))
 have hi2:i<N.a.es.length:=by omega
 obtain ⟨x3,hx4⟩:∃ x,N.a.es[i]?=some x:=⟨_,List.getElem?_eq_getElem hi2⟩
 refine ZG h (Dx (k:=3) 107 i rfl (by kernel_rfl) hi2 0 rfl (Bo hx)) (ZP (Pt (Du N.ve) (B2 N.ve+i*3)) (ZG h (Gr (B2 N.ve+i*3) (.string x3.1) 0 rfl (Kg (Bo hx) D3 hx4 (by kernel_rfl))) (ZP (.string nm) (ZG h (A1 (v:=.bool (x3.1.toList==nm.toList)) (v':=.bool (decide (x3.1=nm))) (Ay fun _=>by kernel_rfl) P7) (Qn (Zd (x3.1=nm) (fun hc5=>?_) fun hc5=>?_))))))
 exact Qs (ZP (Ii i) (ZP (Ii i) (Qr (Cj (Ap (M8 (Cj (Ap (ZR [Ii i] [0] h (.inl ⟨i,_,hx4,by assumption,rfl,rfl⟩))))))))))
 refine B3 ?_
 refine Ch (Ag ?_)
 refine Ai (ZP (Ii i) (ZG h (A1 (v:=Ii (IntKind.i64.wrap ((i:Int)+1))) (v':=Ii ((i+1:Nat):Int)) (Ay fun _=>by kernel_rfl) (wr (by omega))) (ZP (Ii ((i+1:Nat):Int)) (Dj ?_))))
 have hQ6:((i+1)≤N.a.es.length∧∀ k y,k<(i+1)→N.a.es[k]?=some y→y.1≠nm)∧(N.a.es.length - (i+1))<(N.a.es.length - i):=⟨⟨by omega,Yh (p:=fun y:Bm=>y.1≠nm) hno hx4 (by assumption)⟩,by omega⟩
 refine Bu (fun j=>⟨(i+1),j⟩) hQ6 (by kernel_rfl) [0] (by kernel_rfl) h
 exact Dk (Ea (Et (Ep (Ag (Qs (ZP (Ii (-1)) (Qr (ZR [Ii (-1)] [0] h (.inr ⟨Rs hno (by omega),rfl,rfl⟩)))))))))
section
open Go.RowKit Go.MapKept
section
variable {P:Program} {a:Act} {w w0:World} {E:Ent} {L:List Res} {dst:Option Tmp} {x y:Operand} {T T2 ty:TypeId} {pos:String} {after:Array Edge} {g:Option (Nat×Bool)}
theorem eqA (a0 a1 a2 a3 a4 a5 b0 b1 b2 b3 b4 b5:Int) (w:World):(Op.equal 46 (.agg #[.int .i64 a0,.int .i64 a1,.int .i64 a2,.int .i64 a3,.int .i64 a4,.int .i64 a5]) (.agg #[.int .i64 b0,.int .i64 b1,.int .i64 b2,.int .i64 b3,.int .i64 b4,.int .i64 b5])).run Tryz.prog w=.ok (decide (a0=b0)&&(decide (a1=b1)&&(decide (a2=b2)&&(decide (a3=b3)&&(decide (a4=b4)&&decide (a5=b5)))))) w:=by
  unfold Op.equal
  rw [show Op.maxDepth=9999+1 from rfl,run_equalIn_struct w 9999 46 _ _ (by kernel_rfl) (by kernel_rfl)]
  by_cases c0:a0=b0
  rotate_left
  · simp [go_sem,c0]
  by_cases c1:a1=b1
  rotate_left
  · simp [go_sem,c0,c1]
  by_cases c2:a2=b2
  rotate_left
  · simp [go_sem,c0,c1,c2]
  by_cases c3:a3=b3
  rotate_left
  · simp [go_sem,c0,c1,c2,c3]
  by_cases c4:a4=b4
  rotate_left
  · simp [go_sem,c0,c1,c2,c3,c4]
  by_cases c5:a5=b5
  rotate_left
  · simp [go_sem,c0,c1,c2,c3,c4,c5]
  simp [go_sem,c0,c1,c2,c3,c4,c5]
theorem Af0 {a0 a1 a2 a3 a4 a5 b0 b1 b2 b3 b4 b5:Int} (hx:(a.eval x,a.eval y)=(.agg #[.int .i64 a0,.int .i64 a1,.int .i64 a2,.int .i64 a3,.int .i64 a4,.int .i64 a5],.agg #[.int .i64 b0,.int .i64 b1,.int .i64 b2,.int .i64 b3,.int .i64 b4,.int .i64 b5])):Ck Tryz.prog w0 E L ⟨dst,.binOp .neq 46 x y T2,ty,pos,after,g⟩ a (.bool (!(decide (a0=b0)&&(decide (a1=b1)&&(decide (a2=b2)&&(decide (a3=b3)&&(decide (a4=b4)&&decide (a5=b5)))))))):=
  Sp hx (fun w=>by kernel_rfl) (eqA a0 a1 a2 a3 a4 a5 b0 b1 b2 b3 b4 b5) rfl
end
end
theorem L5 {es:List Bm} {k:Nat} {x:Bm} (p:Bm→Bool) (hx:es[k]?=some x):(es.take (k+1)).countP p=(es.take k).countP p+if p x then 1 else 0:=by
  rw [List.take_add_one,hx,List.countP_append];simp [List.countP_cons]
theorem Acx {L:List RN} {k:Nat} {M:RN} (f:RN→Nat) (hx:L[k]?=some M):((L.take (k+1)).map f).sum=((L.take k).map f).sum+f M:=by
  rw [List.take_add_one,hx,List.map_append,List.sum_append];simp
theorem Agh (L:List RN) (h:Hdl):Be (L.map RN.a) h=(L.map fun M=>F4 M.a.es h).sum:=by unfold Be;rw [List.map_map];rfl
theorem Ud {L:List RN} (hn:(L.map fun N=>N.a.h).Nodup) {j:Nat} {K:RN} (hx:L[j]?=some K) {h:Hdl} (hh:K.a.h=h):Bi (L.map RN.a) h=decide (K.a.kind=2):=by unfold Bi;rw [Ah hn hx hh]
theorem up_at {L:List RN} {i:Nat} {M:RN} (hx:L[i]?=some M) {h:Hdl} {k:Nat} {e:Bm} (he:M.a.es[k]?=some e) (hh:e.2=h) (hno:∀ q y,q<i→L[q]?=some y→∀ e∈y.a.es,e.2≠h):upA (L.map RN.a) h=M.a.h:=by
  unfold upA
  rw [List.find?_map]
  have:L.find? ((fun M:AN=>M.es.any fun e=>e.2==h)∘RN.a)=some M:=by
    rw [List.find?_eq_some_iff_getElem]
    obtain ⟨hj,q⟩:=List.getElem?_eq_some_iff.1 hx
    refine ⟨?_,i,hj,q,fun k hk=>?_⟩
    · simp only [Function.comp,List.any_eq_true,beq_iff_eq];exact ⟨e,List.mem_of_getElem? he,hh⟩
    · simp only [Function.comp,Bool.not_eq_true',List.any_eq_false,beq_iff_eq]
      exact hno k _ hk (List.getElem?_eq_getElem (by omega))
  rw [this];rfl
theorem up_no {L:List RN} {h:Hdl} (hno:∀ y∈L,∀ e∈y.a.es,e.2≠h):upA (L.map RN.a) h=h:=by
  unfold upA
  have:(L.map RN.a).find? (fun M=>M.es.any fun e=>e.2==h)=none:=by
    rw [List.find?_eq_none]
    intro x hx
    obtain ⟨N,hN,rfl⟩:=List.mem_map.1 hx
    simp only [List.any_eq_true,beq_iff_eq,not_exists,not_and]
    exact hno N hN
  rw [this]
def Gg (N:AN):Int:=if N.kind=2 then (N.es.length:Int) else (N.s.size:Int)
def upH (A:List AN) (N:AN):Hdl:=if N.kind=2 then upA A N.h else (0,0)
theorem Ed {A:List AN} {N:AN} (h:N.kind=2):Bf A N=2+((N.es.countP fun e=>Bi A e.2:Nat):Int):=if_pos h
theorem Dl {A:List AN} {N:AN} (h:¬N.kind=2):Bf A N=(Be A N.h:Int):=if_neg h
theorem Xf (es:List Bm) (p:Bm→Bool):es.countP p≤es.length:=List.countP_le_length
theorem Agi {L:List RN} {f:RN→Nat} {c:Nat} (h:∀ M∈L,f M≤c):(L.map f).sum≤L.length*c:=by
  induction L with
  | nil=>simp
  | cons x L ih=>
    have:=h x (by simp)
    have:=ih fun M hM=>h M (by simp [hM])
    simp only [List.map_cons,List.sum_cons,List.length_cons,Nat.succ_mul];omega
theorem Ab3 {α:Type} {l:List α} {k:Nat} {x:α} (h:x∈l.take k):x∈l:=List.mem_of_mem_take h
section
variable (b:Nat) (mst:Int) (vl vt:Value) (L:List RN) (hl:L.length≤400)
include b mst vl vt L hl
theorem Ix (hnod:(L.map fun N=>N.a.h).Nodup) (hent:∀ M∈L,∀ e∈M.a.es,∃ K∈L,K.a.h=e.2) (hfew:∀ M∈L,M.a.es.length≤100) (j:Nat) (N:RN) (hx:L[j]?=some N):Ao Tryz.prog 69 #[Pp b,Pp N.nb] [Rt b mst vl vt,rRL vl L] (fun u L'=>u=Ii (Bf (L.map RN.a) N.a)∧L'=[Rt b mst vl vt,rRL vl L]):=by
 have hfN:=hfew N (List.mem_of_getElem? hx)
 refine Zo 85 Tryz.func69 fun E w0 w h=>?_
 refine Qs (ZP (Ii 0) (Qu (ZP (Pp N.nb) (ZP (Pp N.nb) (ZP (Pt N.nb 2) (ZG h (Gr 2 (Ii N.a.kind) 1 rfl (B5 hx 2 (by kernel_rfl))) (ZP (.bool (decide (N.a.kind=2))) (Qn (Zd (N.a.kind=2) (fun hc1=>?_) fun hc1=>?_)))))))))
 refine Qs (ZP (Ii 2) (Qu (ZP (Ii 0) (Qn (Au ?_)))))
 refine ZL (X:=Nat×Nat×(Nat→Value)) [(15,39)] (fun ⟨i1,m1,J0⟩=>[(5,Ii m1),(6,Ii i1)]) (fun ⟨i1,m1,J0⟩=>J0) (fun ⟨i1,m1,J0⟩=>[Rt b mst vl vt,rRL vl L]) (fun ⟨i1,m1,J0⟩=>i1≤N.a.es.length∧m1=2+(N.a.es.take i1).countP (fun e=>Bi (L.map RN.a) e.2)) (fun ⟨i1,m1,J0⟩=>N.a.es.length - i1) (fun j=>⟨0,2,j⟩) ⟨by omega,rfl⟩ [0,0] h ?_
 rintro ⟨i1,m1,J0⟩ w hG h
 obtain ⟨hi1,hm⟩:i1≤N.a.es.length∧m1=2+(N.a.es.take i1).countP (fun e=>Bi (L.map RN.a) e.2):=hG
 have hmb:=Xf (N.a.es.take i1) (fun e=>Bi (L.map RN.a) e.2)
 rw [List.length_take] at hmb
 refine Qt (ZP (Ii i1) (ZP (Pp N.nb) (ZP (Pp N.nb) (ZP (Pt N.nb 6) (ZG h (Gr 6 N.ve 1 rfl (B5 hx 6 (by kernel_rfl))) (ZG h (Dh 107 (by kernel_rfl) 1 rfl (Bo hx)) (ZP (.bool (decide ((i1:Int)<(N.a.es.length:Int)))) (Qn (Zd ((i1:Int)<(N.a.es.length:Int)) (fun hc2=>?_) fun hc2=>?_)))))))))
 refine Kn (Aa (Au (Qs (ZP (Pp b) (ZP (Pp N.nb) (ZP (Pp N.nb) (ZP (Pt N.nb 6) (ZG h (Gr 6 N.ve 1 rfl (B5 hx 6 (by kernel_rfl))) (ZP (Ii i1) ?_)))))))))
 have hi3:i1<N.a.es.length:=by omega
 obtain ⟨x4,hx5⟩:∃ x,N.a.es[i1]?=some x:=⟨_,List.getElem?_eq_getElem hi3⟩
 refine ZG h (Dx (k:=3) 107 i1 rfl (by kernel_rfl) hi3 1 rfl (Bo hx)) (ZP (Pt (Du N.ve) (B2 N.ve+i1*3+1)) (ZG h (Gra (B2 N.ve+i1*3+1) [Ii x4.2.1,Ii x4.2.2] 1 rfl (rdS (Bo hx) D3 hx5 1 (by kernel_rfl))) ?_))
 obtain ⟨K6,hK7,hKh8⟩:=hent N (List.mem_of_getElem? hx) x4 (List.mem_of_getElem? hx5)
 obtain ⟨jK9,hjK10⟩:=List.getElem?_of_mem hK7
 refine ZC [0,0] (Cq b mst vl vt L (by omega) hnod jK9 K6 hjK10 x4.2.1 x4.2.2 hKh8) h fun w h=>ZP (Pp K6.nb) (ZP (Pt K6.nb 2) (ZG h (Gr 2 (Ii K6.a.kind) 1 rfl (B5 hjK10 2 (by kernel_rfl))) (ZP (.bool (decide (K6.a.kind=2))) (Qn (Zd (K6.a.kind=2) (fun hc11=>?_) fun hc11=>?_)))))
 have hT:Bi (L.map RN.a) x4.2=true:=by rw [Ud hnod hjK10 hKh8];exact decide_eq_true (by omega)
 refine Ai (ZP (Ii m1) (ZG h (A1 (v:=Ii (IntKind.i64.wrap ((m1:Int)+1))) (v':=Ii ((m1+1:Nat):Int)) (Ay fun _=>by kernel_rfl) (wr (by omega))) (ZP (Ii ((m1+1:Nat):Int)) (Dj ?_))))
 refine Ch (Ag ?_)
 refine Ai (ZP (Ii i1) (ZG h (A1 (v:=Ii (IntKind.i64.wrap ((i1:Int)+1))) (v':=Ii ((i1+1:Nat):Int)) (Ay fun _=>by kernel_rfl) (wr (by omega))) (ZP (Ii ((i1+1:Nat):Int)) (Dj ?_))))
 have hQ12:((i1+1)≤N.a.es.length∧(m1+1)=2+(N.a.es.take (i1+1)).countP (fun e=>Bi (L.map RN.a) e.2))∧(N.a.es.length - (i1+1))<(N.a.es.length - i1):=⟨⟨by omega,by (rw [L5 _ hx5,hm,hT])<;>(simp<;>try omega)⟩,by omega⟩
 refine Bu (fun j=>⟨(i1+1),m1+1,j⟩) hQ12 (by kernel_rfl) [0,0] (by kernel_rfl) h
 have hT:Bi (L.map RN.a) x4.2=false:=by rw [Ud hnod hjK10 hKh8];exact decide_eq_false (by omega)
 refine B3 ?_
 refine Ch (Ag ?_)
 refine Ai (ZP (Ii i1) (ZG h (A1 (v:=Ii (IntKind.i64.wrap ((i1:Int)+1))) (v':=Ii ((i1+1:Nat):Int)) (Ay fun _=>by kernel_rfl) (wr (by omega))) (ZP (Ii ((i1+1:Nat):Int)) (Dj ?_))))
 have hQ13:((i1+1)≤N.a.es.length∧m1=2+(N.a.es.take (i1+1)).countP (fun e=>Bi (L.map RN.a) e.2))∧(N.a.es.length - (i1+1))<(N.a.es.length - i1):=⟨⟨by omega,by (rw [L5 _ hx5,hm,hT])<;>(simp<;>try omega)⟩,by omega⟩
 refine Bu (fun j=>⟨(i1+1),m1,j⟩) hQ13 (by kernel_rfl) [0,0] (by kernel_rfl) h
 refine Dk (Ea (Et (Ep (Ag (Qs (ZP (Ii m1) (ZP (Ii m1) (Qr (Ap (ZR [Ii m1] [0,0] h ?_))))))))))
 rw [Ed (by omega)]
 rw [List.take_of_length_le (by omega)] at hm
 exact ⟨by show Value.int _ _=_;congr 1;omega,rfl⟩
 refine Ks (ZP (Ii 0) (Qu (ZP (Ii 0) (Qn (Au ?_)))))
 refine ZL (X:=Nat×Nat×(Nat→Value)) [(9,9),(41,85)] (fun ⟨i2,m2,J1⟩=>[(7,Ii m2),(8,Ii i2)]) (fun ⟨i2,m2,J1⟩=>J1) (fun ⟨i2,m2,J1⟩=>[Rt b mst vl vt,rRL vl L]) (fun ⟨i2,m2,J1⟩=>i2≤L.length∧m2=((L.take i2).map fun M=>F4 M.a.es N.a.h).sum) (fun ⟨i2,m2,J1⟩=>L.length - i2) (fun j=>⟨0,0,j⟩) ⟨by omega,rfl⟩ [0,0] h ?_
 rintro ⟨i2,m2,J1⟩ w hG h
 obtain ⟨hi2,hm⟩:i2≤L.length∧m2=((L.take i2).map fun M=>F4 M.a.es N.a.h).sum:=hG
 have hmb:m2≤40000:=by have h1:=Agi (L:=L.take i2) (f:=fun M=>F4 M.a.es N.a.h) (c:=100) (fun M hM=>Nat.le_trans (Xf _ _) (hfew M (Ab3 hM)));rw [List.length_take] at h1;have:min i2 L.length*100≤400*100:=Nat.mul_le_mul_right _ (by omega);omega
 refine Qt (ZP (Ii i2) (ZP (Pp b) (ZP (Pp b) (ZP (Pt b 1) (ZG h (Gl 1 (vl) 0) (ZG h (Dh 88 (by kernel_rfl) 1 rfl Dn) (ZP (.bool (decide ((i2:Int)<(L.length:Int)))) (Qn (Zd ((i2:Int)<(L.length:Int)) (fun hc14=>?_) fun hc14=>?_)))))))))
 refine Kn (Aa (Au (Qs (ZP (Ii 0) (Qn (Au ?_))))))
 have hi15:i2<L.length:=by omega
 obtain ⟨x16,hx17⟩:∃ x,L[i2]?=some x:=⟨_,List.getElem?_eq_getElem hi15⟩
 have hfX:=hfew x16 (List.mem_of_getElem? hx17)
 refine ZL (X:=Nat×Nat×(Nat→Value)) [(50,85)] (fun ⟨kq,m3,J2⟩=>[(7,Ii m3),(9,Ii kq)]) (fun ⟨kq,m3,J2⟩=>J2) (fun ⟨kq,m3,J2⟩=>[Rt b mst vl vt,rRL vl L]) (fun ⟨kq,m3,J2⟩=>kq≤x16.a.es.length∧m3=m2+F4 (x16.a.es.take kq) N.a.h) (fun ⟨kq,m3,J2⟩=>x16.a.es.length - kq) (fun j=>⟨0,m2,j⟩) ⟨by omega,rfl⟩ [0,0] h ?_
 rintro ⟨kq,m3,J2⟩ w hG h
 obtain ⟨hkq,hm3⟩:kq≤x16.a.es.length∧m3=m2+F4 (x16.a.es.take kq) N.a.h:=hG
 have hm3b:F4 (x16.a.es.take kq) N.a.h≤_:=Xf _ _
 rw [List.length_take] at hm3b
 refine Qt (ZP (Ii kq) (ZP (Pp b) (ZP (Pp b) (ZP (Pt b 1) (ZG h (Gl 1 (vl) 0) (ZP (Ii i2) (ZG h (Dx (k:=1) 88 i2 rfl (by kernel_rfl) hi15 1 rfl Dn) (ZG h (Gr (B2 vl+i2*1) (Pp x16.nb) 1 rfl (Kg Dn Hb hx17 (by kernel_rfl))) (ZP (Pp x16.nb) (ZP (Pt x16.nb 6) (ZG h (Gr 6 x16.ve 1 rfl (B5 hx17 6 (by kernel_rfl))) (ZG h (Dh 107 (by kernel_rfl) 1 rfl (Bo hx17)) (ZP (.bool (decide ((kq:Int)<(x16.a.es.length:Int)))) (Qn (Zd ((kq:Int)<(x16.a.es.length:Int)) (fun hc18=>?_) fun hc18=>?_)))))))))))))))
 refine Kn (Aa (Au (Aa (Ds 19 [0,0] h fun w h=>Dp 0 246800 (Pp b) [0,0] h (Dp 1 246801 (Pp b) [0,0] h (Dp 2 246803 (Pt b 1) [0,0] h (Dq 3 246807 [0,0] rfl h (Gl 1 (vl) 0) (Dp 4 246799 (Ii i2) [0,0] h (Dq (v:=Pt (Du vl) (B2 vl+i2*1)) 5 246815 [0,0] rfl h (Dx (k:=1) 88 i2 rfl (by kernel_rfl) hi15 1 rfl Dn) (Dq 6 246847 [0,0] rfl h (Gr (B2 vl+i2*1) (Pp x16.nb) 1 rfl (Kg Dn Hb hx17 (by kernel_rfl))) (Dp 7 246911 (Pp x16.nb) [0,0] h (Dp 8 247039 (Pt x16.nb 6) [0,0] h (Dq 9 247295 [0,0] rfl h (Gr 6 x16.ve 1 rfl (B5 hx17 6 (by kernel_rfl))) (Dp 10 246783 (Ii kq) [0,0] h ?_))))))))))))))
 have hi19:kq<x16.a.es.length:=by omega
 obtain ⟨x20,hx21⟩:∃ x,x16.a.es[kq]?=some x:=⟨_,List.getElem?_eq_getElem hi19⟩
 refine Dq (v:=Pt (Du x16.ve) (B2 x16.ve+kq*3)) 11 247807 [0,0] rfl h (Dx (k:=3) 107 kq rfl (by kernel_rfl) hi19 1 rfl (Bo hx17)) (Dp 12 249855 (Pt (Du x16.ve) (B2 x16.ve+kq*3+1)) [0,0] h (Dq 13 253951 [0,0] rfl h (Gra (B2 x16.ve+kq*3+1) [Ii x20.2.1,Ii x20.2.2] 1 rfl (rdS (Bo hx17) D3 hx21 1 (by kernel_rfl))) (Dp 14 16383 (Pp N.nb) [0,0] h (Dp 15 32767 (Pp N.nb) [0,0] h (Dp 16 65535 (Pp N.nb) [0,0] h (Dq 17 131071 [0,0] rfl h (Gra 0 [Ii N.a.h.1,Ii N.a.h.2] 1 rfl (B5 hx 0 (by kernel_rfl))) (Dq (v:=.bool ((decide (x20.2.1=N.a.h.1))&&(decide (x20.2.2=N.a.h.2)))) 18 262143 [0,0] rfl h (F7 (n1:=x20.2.1) (g1:=x20.2.2) (n2:=N.a.h.1) (g2:=N.a.h.2) (by kernel_rfl)) (Dd (Ag (Zh (x20.2.1=N.a.h.1) (x20.2.2=N.a.h.2) (fun hc22 q23 q24=>?_) fun hc22 q26=>?_))))))))))
 have hT:(x20.2==N.a.h)=true:=beq_iff_eq.2 (Prod.ext (by omega) (by omega))
 refine Ai (ZP (Ii m3) (ZG h (A1 (v:=Ii (IntKind.i64.wrap ((m3:Int)+1))) (v':=Ii ((m3+1:Nat):Int)) (Ay fun _=>by kernel_rfl) (wr (by omega))) (ZP (Ii ((m3+1:Nat):Int)) (Dj ?_))))
 refine Ch (Ag ?_)
 refine Ai (ZP (Ii kq) (ZG h (A1 (v:=Ii (IntKind.i64.wrap ((kq:Int)+1))) (v':=Ii ((kq+1:Nat):Int)) (Ay fun _=>by kernel_rfl) (wr (by omega))) (ZP (Ii ((kq+1:Nat):Int)) (Dj ?_))))
 have hQ25:((kq+1)≤x16.a.es.length∧(m3+1)=m2+F4 (x16.a.es.take (kq+1)) N.a.h)∧(x16.a.es.length - (kq+1))<(x16.a.es.length - kq):=⟨⟨by omega,by unfold F4 at hm3 ⊢;(rw [L5 _ hx21,hm3,hT])<;>(simp<;>try omega)⟩,by omega⟩
 refine Bu (fun j=>⟨(kq+1),m3+1,j⟩) hQ25 (by kernel_rfl) [0,0] (by kernel_rfl) h
 have hT:(x20.2==N.a.h)=false:=beq_eq_false_iff_ne.2 (fun e=>by have e1:=congrArg Prod.fst e;have e2:=congrArg Prod.snd e;omega)
 refine B3 ?_
 refine Ch (Ag ?_)
 refine Ai (ZP (Ii kq) (ZG h (A1 (v:=Ii (IntKind.i64.wrap ((kq:Int)+1))) (v':=Ii ((kq+1:Nat):Int)) (Ay fun _=>by kernel_rfl) (wr (by omega))) (ZP (Ii ((kq+1:Nat):Int)) (Dj ?_))))
 have hQ27:((kq+1)≤x16.a.es.length∧m3=m2+F4 (x16.a.es.take (kq+1)) N.a.h)∧(x16.a.es.length - (kq+1))<(x16.a.es.length - kq):=⟨⟨by omega,by unfold F4 at hm3 ⊢;(rw [L5 _ hx21,hm3,hT])<;>(simp<;>try omega)⟩,by omega⟩
 refine Bu (fun j=>⟨(kq+1),m3,j⟩) hQ27 (by kernel_rfl) [0,0] (by kernel_rfl) h
 refine Dk (Ea (Et (Ep (Ch (Ag (Ai (ZP (Ii i2) (ZG h (A1 (v:=Ii (IntKind.i64.wrap ((i2:Int)+1))) (v':=Ii ((i2+1:Nat):Int)) (Ay fun _=>by kernel_rfl) (wr (by omega))) (ZP (Ii ((i2+1:Nat):Int)) (Dj ?_))))))))))
 have hQ28:((i2+1)≤L.length∧m3=((L.take (i2+1)).map fun M=>F4 M.a.es N.a.h).sum)∧(L.length - (i2+1))<(L.length - i2):=⟨⟨by omega,by rw [Acx _ hx17,← hm,hm3,List.take_of_length_le (by omega)]<;>rfl⟩,by omega⟩
 refine Bu (fun j=>⟨(i2+1),m3,j⟩) hQ28 (by kernel_rfl) [0,0] (by kernel_rfl) h
 refine Dk (Ea (Et (Ep (Ag (Qs (ZP (Ii m2) (ZP (Ii m2) (Qr (ZR [Ii m2] [0,0] h ?_)))))))))
 rw [Dl (by omega),Agh]
 rw [List.take_of_length_le (by omega)] at hm
 exact ⟨by show Value.int _ _=_;rw [hm],rfl⟩
theorem Mj (hfew:∀ M∈L,M.a.es.length≤100) (n g:Int):Ao Tryz.prog 72 #[Pp b,Hg n g] [Rt b mst vl vt,rRL vl L] (fun u L'=>u=.agg #[Ii (upA (L.map RN.a) (n,g)).1,Ii (upA (L.map RN.a) (n,g)).2]∧L'=[Rt b mst vl vt,rRL vl L]):=by
 refine Zo 56 Tryz.func72 fun E w0 w h=>?_
 refine Qs (ZN [Ii n,Ii g] 34 h fun k1 w h=>ZN [Ii 0,Ii 0] 34 h fun k2 w h=>Qu (ZP (Ii 0) (Qn (Au ?_))))
 refine ZL (X:=Nat×(Nat→Value)) [(6,56)] (fun ⟨i2,J0⟩=>[(5,Ii i2)]) (fun ⟨i2,J0⟩=>J0) (fun ⟨i2,J0⟩=>[Rh k2 0 0,Rh k1 n g,Rt b mst vl vt,rRL vl L]) (fun ⟨i2,J0⟩=>i2≤L.length∧∀ q y,q<i2→L[q]?=some y→∀ e∈y.a.es,e.2≠(n,g)) (fun ⟨i2,J0⟩=>L.length - i2) (fun j=>⟨0,j⟩) ⟨by omega,fun q y hq=>by omega⟩ [0,0,0,0] h ?_
 rintro ⟨i2,J0⟩ w hG h
 obtain ⟨hi2,hno⟩:i2≤L.length∧∀ q y,q<i2→L[q]?=some y→∀ e∈y.a.es,e.2≠(n,g):=hG
 refine Qt (ZP (Ii i2) (ZP (Pp b) (ZP (Pp b) (ZP (Pt b 1) (ZG h (Gl 1 (vl) 2) (ZG h (Dh 88 (by kernel_rfl) 3 rfl Dn) (ZP (.bool (decide ((i2:Int)<(L.length:Int)))) (Qn (Zd ((i2:Int)<(L.length:Int)) (fun hc3=>?_) fun hc3=>?_)))))))))
 refine Kn (Aa (Au (Qs (ZP (Ii 0) (Qn (Au ?_))))))
 have hi4:i2<L.length:=by omega
 obtain ⟨x5,hx6⟩:∃ x,L[i2]?=some x:=⟨_,List.getElem?_eq_getElem hi4⟩
 have hfX:=hfew x5 (List.mem_of_getElem? hx6)
 refine ZL (X:=Nat×(Nat→Value)) [(16,56)] (fun ⟨kq,J1⟩=>[(6,Ii kq)]) (fun ⟨kq,J1⟩=>J1) (fun ⟨kq,J1⟩=>[Rh k2 0 0,Rh k1 n g,Rt b mst vl vt,rRL vl L]) (fun ⟨kq,J1⟩=>kq≤x5.a.es.length∧∀ q y,q<kq→x5.a.es[q]?=some y→y.2≠(n,g)) (fun ⟨kq,J1⟩=>x5.a.es.length - kq) (fun j=>⟨0,j⟩) ⟨by omega,fun q y hq=>by omega⟩ [0,0,0,0] h ?_
 rintro ⟨kq,J1⟩ w hG h
 obtain ⟨hkq,hno2⟩:kq≤x5.a.es.length∧∀ q y,q<kq→x5.a.es[q]?=some y→y.2≠(n,g):=hG
 refine Qt (ZP (Ii kq) (ZP (Pp b) (ZP (Pp b) (ZP (Pt b 1) (ZG h (Gl 1 (vl) 2) (ZP (Ii i2) (ZG h (Dx (k:=1) 88 i2 rfl (by kernel_rfl) hi4 3 rfl Dn) (ZG h (Gr (B2 vl+i2*1) (Pp x5.nb) 3 rfl (Kg Dn Hb hx6 (by kernel_rfl))) (ZP (Pp x5.nb) (ZP (Pt x5.nb 6) (ZG h (Gr 6 x5.ve 3 rfl (B5 hx6 6 (by kernel_rfl))) (ZG h (Dh 107 (by kernel_rfl) 3 rfl (Bo hx6)) (ZP (.bool (decide ((kq:Int)<(x5.a.es.length:Int)))) (Qn (Zd ((kq:Int)<(x5.a.es.length:Int)) (fun hc7=>?_) fun hc7=>?_)))))))))))))))
 refine Kn (Aa (Au (Aa (Ds 16 [1,1,1] h fun w h=>Dp 0 17424 (Pp b) [1,1,1] h (Dp 1 17425 (Pp b) [1,1,1] h (Dp 2 17427 (Pt b 1) [1,1,1] h (Dq 3 17431 [1,1,1] rfl h (Gl 1 (vl) 1) (Dp 4 17423 (Ii i2) [1,1,1] h (Dq (v:=Pt (Du vl) (B2 vl+i2*1)) 5 17439 [1,1,1] rfl h (Dx (k:=1) 88 i2 rfl (by kernel_rfl) hi4 2 rfl Dn) (Dq 6 17471 [1,1,1] rfl h (Gr (B2 vl+i2*1) (Pp x5.nb) 2 rfl (Kg Dn Hb hx6 (by kernel_rfl))) (Dp 7 17535 (Pp x5.nb) [1,1,1] h (Dp 8 17663 (Pt x5.nb 6) [1,1,1] h (Dq 9 17919 [1,1,1] rfl h (Gr 6 x5.ve 2 rfl (B5 hx6 6 (by kernel_rfl))) (Dp 10 17407 (Ii kq) [1,1,1] h ?_))))))))))))))
 have hi8:kq<x5.a.es.length:=by omega
 obtain ⟨x9,hx10⟩:∃ x,x5.a.es[kq]?=some x:=⟨_,List.getElem?_eq_getElem hi8⟩
 refine Dq (v:=Pt (Du x5.ve) (B2 x5.ve+kq*3)) 11 18431 [1,1,1] rfl h (Dx (k:=3) 107 kq rfl (by kernel_rfl) hi8 2 rfl (Bo hx6)) (Dp 12 20479 (Pt (Du x5.ve) (B2 x5.ve+kq*3+1)) [1,1,1] h (Dq 13 24575 [1,1,1] rfl h (Gra (B2 x5.ve+kq*3+1) [Ii x9.2.1,Ii x9.2.2] 2 rfl (rdS (Bo hx6) D3 hx10 1 (by kernel_rfl))) (Dq 14 16383 [1,1,1] rfl h (Gla 0 [Ii n,Ii g] 0) (Dq (v:=.bool ((decide (x9.2.1=n))&&(decide (x9.2.2=g)))) 15 32767 [1,1,1] rfl h (F7 (n1:=x9.2.1) (g1:=x9.2.2) (n2:=n) (g2:=g) (by kernel_rfl)) (Dd (Ag (Zh (x9.2.1=n) (x9.2.2=g) (fun hc11 q12 q13=>?_) fun hc11 q14=>?_)))))))
 refine Qs (ZP (Pp b) (ZP (Pp b) (ZP (Pt b 1) (ZG h (Gl 1 (vl) 2) (ZP (Ii i2) (ZG h (Dx (k:=1) 88 i2 rfl (by kernel_rfl) hi4 3 rfl Dn) (ZG h (Gr (B2 vl+i2*1) (Pp x5.nb) 3 rfl (Kg Dn Hb hx6 (by kernel_rfl))) (ZP (Pp x5.nb) (ZP (Pp x5.nb) (ZG h (Gra 0 [Ii x5.a.h.1,Ii x5.a.h.2] 3 rfl (B5 hx6 0 (by kernel_rfl))) (ZSs [Ii x5.a.h.1,Ii x5.a.h.2] 0 rfl h fun w h=>Qr (Cj (Ap (M8 (Cj (Cj (Ap (M8 (Cj (Ap ?_))))))))))))))))))))
 refine Bv [Hg x5.a.h.1 x5.a.h.2] [2,2] h (by kernel_rfl) (C6 0 [Ii x5.a.h.1,Ii x5.a.h.2] (Hg x5.a.h.1 x5.a.h.2) 0 rfl (by kernel_rfl) C3) ?_
 rw [up_at hx6 hx10 (Prod.ext (by omega) (by omega)) hno]
 exact ⟨rfl,rfl⟩
 refine B3 ?_
 refine Ch (Ag ?_)
 refine Ai (ZP (Ii kq) (ZG h (A1 (v:=Ii (IntKind.i64.wrap ((kq:Int)+1))) (v':=Ii ((kq+1:Nat):Int)) (Ay fun _=>by kernel_rfl) (wr (by omega))) (ZP (Ii ((kq+1:Nat):Int)) (Dj ?_))))
 have hQ15:((kq+1)≤x5.a.es.length∧∀ q y,q<(kq+1)→x5.a.es[q]?=some y→y.2≠(n,g))∧(x5.a.es.length - (kq+1))<(x5.a.es.length - kq):=⟨⟨by omega,Yh (p:=fun y:Bm=>y.2≠(n,g)) hno2 hx10 (Aee (by omega))⟩,by omega⟩
 refine Bu (fun j=>⟨(kq+1),j⟩) hQ15 (by kernel_rfl) [0,0,0,0] (by kernel_rfl) h
 refine Dk (Ea (Et (Ep (Ch (Ag (Ai (ZP (Ii i2) (ZG h (A1 (v:=Ii (IntKind.i64.wrap ((i2:Int)+1))) (v':=Ii ((i2+1:Nat):Int)) (Ay fun _=>by kernel_rfl) (wr (by omega))) (ZP (Ii ((i2+1:Nat):Int)) (Dj ?_))))))))))
 have hQ16:((i2+1)≤L.length∧∀ q y,q<(i2+1)→L[q]?=some y→∀ e∈y.a.es,e.2≠(n,g))∧(L.length - (i2+1))<(L.length - i2):=⟨⟨by omega,Yh (p:=fun y:RN=>∀ e∈y.a.es,e.2≠(n,g)) hno hx6 (Rs hno2 (by omega))⟩,by omega⟩
 refine Bu (fun j=>⟨(i2+1),j⟩) hQ16 (by kernel_rfl) [0,0,0,0] (by kernel_rfl) h
 refine Dk (Ea (Et (Ep (Ag (Qs (ZG h (Gla 0 [Ii n,Ii g] 1) (ZSs [Ii n,Ii g] 0 rfl h fun w h=>Qr ?_)))))))
 refine Bv [Hg n g] [2,2] h (by kernel_rfl) (C6 0 [Ii n,Ii g] (Hg n g) 0 rfl (by kernel_rfl) C3) ?_
 rw [up_no (Rs hno (by omega))]
 exact ⟨rfl,rfl⟩
theorem Oq (hnod:(L.map fun N=>N.a.h).Nodup) (hent:∀ M∈L,∀ e∈M.a.es,∃ K∈L,K.a.h=e.2) (hfew:∀ M∈L,M.a.es.length≤100) (n g:Int):Ao Tryz.prog 63 #[Pp b,Hg n g] [Rt b mst vl vt,rRL vl L] (fun u L'=>((∀ N∈L,N.a.h≠(n,g))∧u=.tuple #[.agg #[Ii 0,Ii 0,Ii 0,Ii 0,Ii 0,Ii 0],Ii 10]∧L'=[Rt b mst vl vt,rRL vl L])∨(∃ (j:Nat) (N:RN),L[j]?=some N∧N.a.h=(n,g)∧u=.tuple #[.agg #[Ii N.a.kind,Ii (Gg N.a),Ii (Bf (L.map RN.a) N.a),Ii N.a.change,Ii (upH (L.map RN.a) N.a).1,Ii (upH (L.map RN.a) N.a).2],Ii 0]∧L'=[Rt b mst vl vt,rRL vl L])):=by
 refine Zo 47 Tryz.func63 fun E w0 w h=>?_
 refine Qs (ZN [Ii n,Ii g] 34 h fun k1 w h=>ZN [Ii 0,Ii 0,Ii 0,Ii 0,Ii 0,Ii 0] 46 h fun k2 w h=>ZP (Ii 0) (Qm (ZP (Pp b) (ZG h (Gla 0 [Ii n,Ii g] 1) ?_))))
 refine ZD [2,2] (Km b mst vl vt L n g (by omega)) h ?_;rintro v_ L_ w (⟨j3,N4,hx5,hh6,rfl,rfl⟩|⟨hno7,rfl,rfl⟩) h
 refine ZP (Pp N4.nb) (Qu (ZP (Pp N4.nb) (ZP (.bool false) (Qf (Kn (Aa (Ds 14 [1] h fun w h=>Dp 0 6128 (Pp N4.nb) [1] h (Dp 1 6129 (Pp N4.nb) [1] h (Dp 2 6131 (Pt N4.nb 2) [1] h (Dq 3 6135 [1] rfl h (Gr 2 (Ii N4.a.kind) 0 rfl (B5 hx5 2 (by kernel_rfl))) (Dp 4 6063 (Pp b) [1] h (Dp 5 6047 (Pp N4.nb) [1] h (Dp 7 4223 (Pp N4.nb) [1] h (Dp 8 4351 (Pp N4.nb) [1] h (Dp 9 4607 (Pt N4.nb 3) [1] h (Dq 10 5119 [1] rfl h (Gr 3 (Ii N4.a.change) 0 rfl (B5 hx5 3 (by kernel_rfl))) ?_))))))))))))))))
 refine Ax [6,12] (by kernel_rfl) rfl ?_
 refine De #[Pp b,Pp N4.nb] [0,0] [1] rfl (by kernel_rfl) (Ix b mst vl vt L (by omega) hnod hent hfew j3 N4 hx5) (fun _=>by kernel_rfl) h ?_ ?_
 rintro v_ L_ w ⟨rfl,rfl⟩ h
 refine ⟨by kernel_rfl,?_⟩
 refine Dp 11 6143 (.agg #[Ii N4.a.kind,Ii 0,Ii (Bf (L.map RN.a) N4.a),Ii N4.a.change,Ii 0,Ii 0]) [1] h ?_
 refine Ax [12] (by kernel_rfl) rfl ?_
 refine B9 [2] rfl (by kernel_rfl) (fun b=>Pp b) [Ii 0,Ii 0,Ii 0,Ii 0,Ii 0,Ii 0] 46 (fun _=>by kernel_rfl) h ?_ ?_
 intro k8 w h;refine ⟨by kernel_rfl,?_⟩
 refine As 13 [2] 0 [Ii N4.a.kind,Ii 0,Ii (Bf (L.map RN.a) N4.a),Ii N4.a.change,Ii 0,Ii 0] [Ii N4.a.kind,Ii 0,Ii (Bf (L.map RN.a) N4.a),Ii N4.a.change,Ii 0,Ii 0] 0 rfl h fun w h=>Dd (Ag (Qt (ZP (Pp N4.nb) (ZP (Pp N4.nb) (ZP (Pt N4.nb 2) (ZG h (Gr 2 (Ii N4.a.kind) 2 rfl (B5 hx5 2 (by kernel_rfl))) (ZP (.bool (decide (N4.a.kind=2))) (Qn (Zd (N4.a.kind=2) (fun hc9=>?_) fun hc9=>?_)))))))))
 refine Qs (ZP (Pp N4.nb) (ZP (Pp N4.nb) (ZP (Pt N4.nb 6) (ZG h (Gr 6 N4.ve 2 rfl (B5 hx5 6 (by kernel_rfl))) (ZG h (Dh 107 (by kernel_rfl) 2 rfl (Bo hx5)) (ZP (Pt k8 1) (ZS 1 [Ii (N4.a.es.length:Int)] [Ii N4.a.kind,Ii (N4.a.es.length:Int),Ii (Bf (L.map RN.a) N4.a),Ii N4.a.change,Ii 0,Ii 0] 0 rfl h fun w h=>Qn (Ai (ZP (Pp b) (ZG h (Gla 0 [Ii n,Ii g] 4) (ZC [1,1] (Mj b mst vl vt L (by omega) hfew n g) h fun w h=>ZP (Pt k8 4) (ZS 4 [Ii ((upA (L.map RN.a) (n,g)).1),Ii ((upA (L.map RN.a) (n,g)).2)] [Ii N4.a.kind,Ii (N4.a.es.length:Int),Ii (Bf (L.map RN.a) N4.a),Ii N4.a.change,Ii ((upA (L.map RN.a) (n,g)).1),Ii ((upA (L.map RN.a) (n,g)).2)] 2 rfl h fun w h=>Qm (ZG h (Gla 0 [Ii N4.a.kind,Ii (N4.a.es.length:Int),Ii (Bf (L.map RN.a) N4.a),Ii N4.a.change,Ii ((upA (L.map RN.a) (n,g)).1),Ii ((upA (L.map RN.a) (n,g)).2)] 2) (ZSs [Ii N4.a.kind,Ii (N4.a.es.length:Int),Ii (Bf (L.map RN.a) N4.a),Ii N4.a.change,Ii ((upA (L.map RN.a) (n,g)).1),Ii ((upA (L.map RN.a) (n,g)).2)] 3 rfl h fun w h=>ZP (Ii 0) (Qr ?_)))))))))))))))
 refine Bv [.agg #[Ii N4.a.kind,Ii (N4.a.es.length:Int),Ii (Bf (L.map RN.a) N4.a),Ii N4.a.change,Ii ((upA (L.map RN.a) (n,g)).1),Ii ((upA (L.map RN.a) (n,g)).2)],Ii 0] [0,0] h (by kernel_rfl) (C6 0 [Ii N4.a.kind,Ii (N4.a.es.length:Int),Ii (Bf (L.map RN.a) N4.a),Ii N4.a.change,Ii ((upA (L.map RN.a) (n,g)).1),Ii ((upA (L.map RN.a) (n,g)).2)] (.agg #[Ii N4.a.kind,Ii (N4.a.es.length:Int),Ii (Bf (L.map RN.a) N4.a),Ii N4.a.change,Ii ((upA (L.map RN.a) (n,g)).1),Ii ((upA (L.map RN.a) (n,g)).2)]) 3 rfl (by kernel_rfl) (Dm (by kernel_rfl) C3)) ?_
 have hS:Gg N4.a=_:=if_pos (show N4.a.kind=2 by omega)
 have hU:upH (L.map RN.a) N4.a=_:=if_pos (show N4.a.kind=2 by omega)
 rw [hh6] at hU
 refine .inr ⟨j3,N4,hx5,hh6,?_,rfl⟩
 rw [hS,hU]
 rfl
 refine Ai (ZP (Pp N4.nb) (ZP (Pp N4.nb) (ZP (Pt N4.nb 4) (ZP (Pt N4.nb 4) (ZG h (Gr 4 (.string N4.a.s) 2 rfl (B5 hx5 4 (by kernel_rfl))) (ZP (Ii (N4.a.s.size:Int)) (ZP (Pt k8 1) (ZS 1 [Ii (N4.a.s.size:Int)] [Ii N4.a.kind,Ii (N4.a.s.size:Int),Ii (Bf (L.map RN.a) N4.a),Ii N4.a.change,Ii 0,Ii 0] 0 rfl h fun w h=>Qm (ZG h (Gla 0 [Ii N4.a.kind,Ii (N4.a.s.size:Int),Ii (Bf (L.map RN.a) N4.a),Ii N4.a.change,Ii 0,Ii 0] 0) (ZSs [Ii N4.a.kind,Ii (N4.a.s.size:Int),Ii (Bf (L.map RN.a) N4.a),Ii N4.a.change,Ii 0,Ii 0] 3 rfl h fun w h=>ZP (Ii 0) (Qr ?_)))))))))))
 refine Bv [.agg #[Ii N4.a.kind,Ii (N4.a.s.size:Int),Ii (Bf (L.map RN.a) N4.a),Ii N4.a.change,Ii 0,Ii 0],Ii 0] [1,1] h (by kernel_rfl) (C6 0 [Ii N4.a.kind,Ii (N4.a.s.size:Int),Ii (Bf (L.map RN.a) N4.a),Ii N4.a.change,Ii 0,Ii 0] (.agg #[Ii N4.a.kind,Ii (N4.a.s.size:Int),Ii (Bf (L.map RN.a) N4.a),Ii N4.a.change,Ii 0,Ii 0]) 3 rfl (by kernel_rfl) (Dm (by kernel_rfl) C3)) ?_
 have hS:Gg N4.a=_:=if_neg (show ¬N4.a.kind=2 by omega)
 have hU:upH (L.map RN.a) N4.a=_:=if_neg (show ¬N4.a.kind=2 by omega)
 refine .inr ⟨j3,N4,hx5,hh6,?_,rfl⟩
 rw [hS,hU]
 rfl
 exact A6
 refine B9 [2] rfl (by kernel_rfl) (fun b=>Pp b) [Ii 0,Ii 0,Ii 0,Ii 0,Ii 0,Ii 0] 46 (fun _=>by kernel_rfl) h ?_ ?_
 intro k10 w h;refine ⟨by kernel_rfl,?_⟩
 refine Ad 6 [1,1] [1] (Ix b mst vl vt L (by omega) hnod hent hfew j3 N4 hx5) h ?_
 rintro v_ L_ w ⟨rfl,rfl⟩ h
 refine ⟨by kernel_rfl,?_⟩
 refine Dp 11 6143 (.agg #[Ii N4.a.kind,Ii 0,Ii (Bf (L.map RN.a) N4.a),Ii N4.a.change,Ii 0,Ii 0]) [1] h (As 13 [1] 0 [Ii N4.a.kind,Ii 0,Ii (Bf (L.map RN.a) N4.a),Ii N4.a.change,Ii 0,Ii 0] [Ii N4.a.kind,Ii 0,Ii (Bf (L.map RN.a) N4.a),Ii N4.a.change,Ii 0,Ii 0] 2 rfl h fun w h=>Dd (Ag (Qt (ZP (Pp N4.nb) (ZP (Pp N4.nb) (ZP (Pt N4.nb 2) (ZG h (Gr 2 (Ii N4.a.kind) 1 rfl (B5 hx5 2 (by kernel_rfl))) (ZP (.bool (decide (N4.a.kind=2))) (Qn (Zd (N4.a.kind=2) (fun hc11=>?_) fun hc11=>?_))))))))))
 refine Qs (ZP (Pp N4.nb) (ZP (Pp N4.nb) (ZP (Pt N4.nb 6) (ZG h (Gr 6 N4.ve 1 rfl (B5 hx5 6 (by kernel_rfl))) (ZG h (Dh 107 (by kernel_rfl) 1 rfl (Bo hx5)) (ZP (Pt k10 1) (ZS 1 [Ii (N4.a.es.length:Int)] [Ii N4.a.kind,Ii (N4.a.es.length:Int),Ii (Bf (L.map RN.a) N4.a),Ii N4.a.change,Ii 0,Ii 0] 2 rfl h fun w h=>Qn (Ai (ZP (Pp b) (ZG h (Gla 0 [Ii n,Ii g] 4) (ZC [0,0] (Mj b mst vl vt L (by omega) hfew n g) h fun w h=>ZP (Pt k10 4) (ZS 4 [Ii ((upA (L.map RN.a) (n,g)).1),Ii ((upA (L.map RN.a) (n,g)).2)] [Ii N4.a.kind,Ii (N4.a.es.length:Int),Ii (Bf (L.map RN.a) N4.a),Ii N4.a.change,Ii ((upA (L.map RN.a) (n,g)).1),Ii ((upA (L.map RN.a) (n,g)).2)] 2 rfl h fun w h=>Qm (ZG h (Gla 0 [Ii N4.a.kind,Ii (N4.a.es.length:Int),Ii (Bf (L.map RN.a) N4.a),Ii N4.a.change,Ii ((upA (L.map RN.a) (n,g)).1),Ii ((upA (L.map RN.a) (n,g)).2)] 2) (ZSs [Ii N4.a.kind,Ii (N4.a.es.length:Int),Ii (Bf (L.map RN.a) N4.a),Ii N4.a.change,Ii ((upA (L.map RN.a) (n,g)).1),Ii ((upA (L.map RN.a) (n,g)).2)] 3 rfl h fun w h=>ZP (Ii 0) (Qr ?_)))))))))))))))
 refine Bv [.agg #[Ii N4.a.kind,Ii (N4.a.es.length:Int),Ii (Bf (L.map RN.a) N4.a),Ii N4.a.change,Ii ((upA (L.map RN.a) (n,g)).1),Ii ((upA (L.map RN.a) (n,g)).2)],Ii 0] [0,0] h (by kernel_rfl) (C6 0 [Ii N4.a.kind,Ii (N4.a.es.length:Int),Ii (Bf (L.map RN.a) N4.a),Ii N4.a.change,Ii ((upA (L.map RN.a) (n,g)).1),Ii ((upA (L.map RN.a) (n,g)).2)] (.agg #[Ii N4.a.kind,Ii (N4.a.es.length:Int),Ii (Bf (L.map RN.a) N4.a),Ii N4.a.change,Ii ((upA (L.map RN.a) (n,g)).1),Ii ((upA (L.map RN.a) (n,g)).2)]) 3 rfl (by kernel_rfl) (Dm (by kernel_rfl) C3)) ?_
 have hS:Gg N4.a=_:=if_pos (show N4.a.kind=2 by omega)
 have hU:upH (L.map RN.a) N4.a=_:=if_pos (show N4.a.kind=2 by omega)
 rw [hh6] at hU
 refine .inr ⟨j3,N4,hx5,hh6,?_,rfl⟩
 rw [hS,hU]
 rfl
 refine Ai (ZP (Pp N4.nb) (ZP (Pp N4.nb) (ZP (Pt N4.nb 4) (ZP (Pt N4.nb 4) (ZG h (Gr 4 (.string N4.a.s) 1 rfl (B5 hx5 4 (by kernel_rfl))) (ZP (Ii (N4.a.s.size:Int)) (ZP (Pt k10 1) (ZS 1 [Ii (N4.a.s.size:Int)] [Ii N4.a.kind,Ii (N4.a.s.size:Int),Ii (Bf (L.map RN.a) N4.a),Ii N4.a.change,Ii 0,Ii 0] 2 rfl h fun w h=>Qm (ZG h (Gla 0 [Ii N4.a.kind,Ii (N4.a.s.size:Int),Ii (Bf (L.map RN.a) N4.a),Ii N4.a.change,Ii 0,Ii 0] 2) (ZSs [Ii N4.a.kind,Ii (N4.a.s.size:Int),Ii (Bf (L.map RN.a) N4.a),Ii N4.a.change,Ii 0,Ii 0] 3 rfl h fun w h=>ZP (Ii 0) (Qr ?_)))))))))))
 refine Bv [.agg #[Ii N4.a.kind,Ii (N4.a.s.size:Int),Ii (Bf (L.map RN.a) N4.a),Ii N4.a.change,Ii 0,Ii 0],Ii 0] [0,0] h (by kernel_rfl) (C6 0 [Ii N4.a.kind,Ii (N4.a.s.size:Int),Ii (Bf (L.map RN.a) N4.a),Ii N4.a.change,Ii 0,Ii 0] (.agg #[Ii N4.a.kind,Ii (N4.a.s.size:Int),Ii (Bf (L.map RN.a) N4.a),Ii N4.a.change,Ii 0,Ii 0]) 3 rfl (by kernel_rfl) (Dm (by kernel_rfl) C3)) ?_
 have hS:Gg N4.a=_:=if_neg (show ¬N4.a.kind=2 by omega)
 have hU:upH (L.map RN.a) N4.a=_:=if_neg (show ¬N4.a.kind=2 by omega)
 refine .inr ⟨j3,N4,hx5,hh6,?_,rfl⟩
 rw [hS,hU]
 rfl
 exact A6
 refine ZP (.pointer none) (Qu (ZP (.pointer none) (ZP (.bool true) (Qg (Qs (ZP (.agg #[Ii 0,Ii 0,Ii 0,Ii 0,Ii 0,Ii 0]) (ZSs [Ii 0,Ii 0,Ii 0,Ii 0,Ii 0,Ii 0] 2 rfl h fun w h=>ZP (Ii 10) (Qr (Ap ?_)))))))))
 refine Bv [.agg #[Ii 0,Ii 0,Ii 0,Ii 0,Ii 0,Ii 0],Ii 10] [0,0] h (by kernel_rfl) (C6 0 [Ii 0,Ii 0,Ii 0,Ii 0,Ii 0,Ii 0] (.agg #[Ii 0,Ii 0,Ii 0,Ii 0,Ii 0,Ii 0]) 2 rfl (by kernel_rfl) (Dm (by kernel_rfl) C3)) ?_
 exact .inl ⟨hno7,rfl,rfl⟩
end
theorem G6 (vl:Value) (L:List RN) (j:Nat) (N:RN) (hx:L[j]?=some N) (nm:ByteArray) (n g:Int) (hl:N.a.es.length≤1000)  : Ao Tryz.prog 68 #[Pp N.nb,.string nm,Hg n g] [rRL vl L] (fun u L'=>∃ v',L'=[rRL vl (L.set j (⟨N.nb,N.vh,v',⟨N.a.h,N.a.kind,N.a.change,N.a.s,N.a.holes,Bk nm (n,g) N.a.es,N.a.pins⟩⟩:RN))]):=by
 refine Zo 57 Tryz.func68 fun E w0 w h=>?_
 refine Qs (ZN [Ii n,Ii g] 34 h fun k1 w h=>Qm (ZP (.slice none 0 0) (Qm (ZP (.bool false) (Qu (ZP (Ii 0) (Qn (Au ?_))))))))
 have h:=h.nilRows 107 3 e3C
 refine ZL (X:=Nat×Bool×List Bm×Value×(Nat→Value)) [(9,47)] (fun ⟨i,done,out,vo,J0⟩=>[(6,vo),(7,.bool done),(8,Ii i)]) (fun ⟨i,done,out,vo,J0⟩=>J0) (fun ⟨i,done,out,vo,J0⟩=>[Bc true vo 107 3 e3C out,Rh k1 n g,rRL vl L]) (fun ⟨i,done,out,vo,J0⟩=>i≤N.a.es.length∧(done,out)=Ln nm (n,g) (N.a.es.take i)∧out.length≤2*i) (fun ⟨i,done,out,vo,J0⟩=>N.a.es.length - i) (fun j=>⟨0,false,[],(.slice none 0 0),j⟩) ⟨by omega,rfl,by simp⟩ [0,0,0] h ?_
 rintro ⟨i,done,out,vo,J0⟩ w hG h
 obtain ⟨hi0,ho,hol⟩:i≤N.a.es.length∧(done,out)=Ln nm (n,g) (N.a.es.take i)∧out.length≤2*i:=hG
 refine Qt (ZP (Ii i) (ZP (Pp N.nb) (ZP (Pp N.nb) (ZP (Pt N.nb 6) (ZG h (Gr 6 N.ve 2 rfl (B5 hx 6 (by kernel_rfl))) (ZG h (Dh 107 (by kernel_rfl) 2 rfl (Bo hx)) (ZP (.bool (decide ((i:Int)<(N.a.es.length:Int)))) (Qn (Zd ((i:Int)<(N.a.es.length:Int)) (fun hc2=>?_) fun hc2=>?_)))))))))
 refine Kn (Aa (Au (Qt (ZP (.bool done) ?_))))
 obtain ⟨b3,hb3⟩:=nmB (!done)
 refine ZB hb3 (ZP (.bool b3) (ZM1 (v:=.string nm) b3 h (fun hB=>by subst hB;exact Gp (.string nm)) (ZM1 (v:=Pp N.nb) b3 h (fun hB=>by subst hB;exact Gp (Pp N.nb)) (ZM1 (v:=Pp N.nb) b3 h (fun hB=>by subst hB;exact Gp (Pp N.nb)) (ZM1 (v:=Pt N.nb 6) b3 h (fun hB=>by subst hB;exact Gp (Pt N.nb 6)) (ZM1 (v:=N.ve) b3 h (fun hB=>by subst hB;exact Gr 6 N.ve 2 rfl (B5 hx 6 (by kernel_rfl))) (ZM1 (v:=Ii i) b3 h (fun hB=>by subst hB;exact Gp (Ii i)) ?_)))))))
 have hi4:i<N.a.es.length:=by omega
 obtain ⟨x5,hx6⟩:∃ x,N.a.es[i]?=some x:=⟨_,List.getElem?_eq_getElem hi4⟩
 refine ZM1 (v:=Pt (Du N.ve) (B2 N.ve+i*3)) b3 h (fun hB=>by subst hB;exact Dx (k:=3) 107 i rfl (by kernel_rfl) hi4 2 rfl (Bo hx)) (ZM1 (v:=Pt (Du N.ve) (B2 N.ve+i*3)) b3 h (fun hB=>by subst hB;exact Gp (Pt (Du N.ve) (B2 N.ve+i*3))) (ZM1 (v:=.string x5.1) b3 h (fun hB=>by subst hB;exact Gr (B2 N.ve+i*3) (.string x5.1) 2 rfl (Kg (Bo hx) D3 hx6 (by kernel_rfl))) ?_))
 obtain ⟨b7,hb7⟩:=nmB (Lw nm x5.1)
 refine ZM1 (v:=.bool b7) b3 h (fun hB=>by subst hB;exact by subst hb7;exact Ay (v:=.bool (Lw nm x5.1)) fun _=>by kernel_rfl) ?_
 obtain ⟨b8,hb8⟩:=nmB (b3&&b7)
 refine ZBc b3 hb8 (Qn ?_)
 have hT:(!done&&Lw nm x5.1)=b8:=by subst hb8 hb7 hb3;rfl
 refine Zi (b8) (fun hc9=>?_) fun hc9=>?_
 have q10:=hb8.symm.trans hc9
 have q11:=aL q10
 have q12:=aR q10
 have q13:=hb3.symm.trans q11
 have q14:done=false:=by simpa using q13
 have q15:=hb7.symm.trans q12
 rw [hc9] at hT
 refine Qs (ZP vo (ZP (.string nm) (ZG h (Gla 0 [Ii n,Ii g] 1) (ZP (.agg #[.string nm,Ii n,Ii g]) ?_))))
 refine G1 rfl (fun b=>.slice (some ⟨b,0,none⟩) 1 1) [.string nm,Ii n,Ii g] 107 (fun _=>by kernel_rfl) h ?_;intro k16 w h
 refine Ht (b:=k16) (o:=0) rfl 1 (nm,n,g) (by kernel_rfl) h 1 rfl 0 rfl (Fn 0 (by kernel_rfl)) (by (try simp only [List.length_append,List.length_cons,List.length_nil,List.length_map]);omega) ?_;intro v17 w h
 refine ZP v17 (Qn (Ai (ZP (.bool true) (Qn (Ai (ZP v17 (ZP (Pp N.nb) (ZP (Pp N.nb) (ZP (Pt N.nb 6) (ZG h (Gr 6 N.ve 3 rfl (B5 hx 6 (by kernel_rfl))) (ZP (Ii i) (ZG h (Dx (k:=3) 107 i rfl (by kernel_rfl) hi4 3 rfl (Bo hx)) (ZG h (Gra (B2 N.ve+i*3) [.string x5.1,Ii x5.2.1,Ii x5.2.2] 3 rfl (Kg (Bo hx) D3 hx6 (by kernel_rfl))) ?_)))))))))))))
 refine G1 rfl (fun b=>.slice (some ⟨b,0,none⟩) 1 1) [.string x5.1,Ii x5.2.1,Ii x5.2.2] 107 (fun _=>by kernel_rfl) h ?_;intro k18 w h
 refine Ht (b:=k18) (o:=0) rfl 1 x5 (by kernel_rfl) h 2 rfl 0 rfl (Fn 0 (by kernel_rfl)) (by (try simp only [List.length_append,List.length_cons,List.length_nil,List.length_map]);omega) ?_;intro v19 w h
 refine ZP v19 (Dj ?_)
 refine Ch (Ag ?_)
 refine Ai (ZP (Ii i) (ZG h (A1 (v:=Ii (IntKind.i64.wrap ((i:Int)+1))) (v':=Ii ((i+1:Nat):Int)) (Ay fun _=>by kernel_rfl) (wr (by omega))) (ZP (Ii ((i+1:Nat):Int)) (Dj ?_))))
 have hQ20:((i+1)≤N.a.es.length∧(true,(out++[(nm,n,g)]++[x5]))=Ln nm (n,g) (N.a.es.take (i+1))∧(out++[(nm,n,g)]++[x5]).length≤2*(i+1))∧(N.a.es.length - (i+1))<(N.a.es.length - i):=⟨⟨by omega,by rw [Q9 hx6,← ho];unfold Df;rw [if_pos hT],by (try simp only [List.length_append,List.length_cons,List.length_nil]);omega⟩,by omega⟩
 refine Bu (fun j=>⟨(i+1),true,out++[(nm,n,g)]++[x5],v19,j⟩) hQ20 (by kernel_rfl) [2,2,2] (by kernel_rfl) h
 have q21:=hb8.symm.trans hc9
 rw [hc9] at hT
 refine Kn (Ai (ZP vo (ZP (Pp N.nb) (ZP (Pp N.nb) (ZP (Pt N.nb 6) (ZG h (Gr 6 N.ve 2 rfl (B5 hx 6 (by kernel_rfl))) (ZP (Ii i) (ZG h (Dx (k:=3) 107 i rfl (by kernel_rfl) hi4 2 rfl (Bo hx)) (ZG h (Gra (B2 N.ve+i*3) [.string x5.1,Ii x5.2.1,Ii x5.2.2] 2 rfl (Kg (Bo hx) D3 hx6 (by kernel_rfl))) ?_)))))))))
 refine G1 rfl (fun b=>.slice (some ⟨b,0,none⟩) 1 1) [.string x5.1,Ii x5.2.1,Ii x5.2.2] 107 (fun _=>by kernel_rfl) h ?_;intro k22 w h
 refine Ht (b:=k22) (o:=0) rfl 1 x5 (by kernel_rfl) h 1 rfl 0 rfl (Fn 0 (by kernel_rfl)) (by (try simp only [List.length_append,List.length_cons,List.length_nil,List.length_map]);omega) ?_;intro v23 w h
 refine ZP v23 (Dj ?_)
 refine Ch (Ag ?_)
 refine Ai (ZP (Ii i) (ZG h (A1 (v:=Ii (IntKind.i64.wrap ((i:Int)+1))) (v':=Ii ((i+1:Nat):Int)) (Ay fun _=>by kernel_rfl) (wr (by omega))) (ZP (Ii ((i+1:Nat):Int)) (Dj ?_))))
 have hQ24:((i+1)≤N.a.es.length∧(done,(out++[x5]))=Ln nm (n,g) (N.a.es.take (i+1))∧(out++[x5]).length≤2*(i+1))∧(N.a.es.length - (i+1))<(N.a.es.length - i):=⟨⟨by omega,by rw [Q9 hx6,← ho];unfold Df;rw [if_neg (by rw [hT];exact Bool.false_ne_true)],by (try simp only [List.length_append,List.length_cons,List.length_nil]);omega⟩,by omega⟩
 refine Bu (fun j=>⟨(i+1),done,out++[x5],v23,j⟩) hQ24 (by kernel_rfl) [1,1,1] (by kernel_rfl) h
 refine Dk (Ea (Et (Ep (Ag (Qt (ZP (.bool done) (ZP (.bool (!done)) (Qn (Zi (!done) (fun hc25=>?_) fun hc25=>?_)))))))))
 have q26:done=false:=by simpa using hc25
 refine Ai (ZP vo (ZP (.string nm) (ZG h (Gla 0 [Ii n,Ii g] 1) (ZP (.agg #[.string nm,Ii n,Ii g]) ?_))))
 refine G1 rfl (fun b=>.slice (some ⟨b,0,none⟩) 1 1) [.string nm,Ii n,Ii g] 107 (fun _=>by kernel_rfl) h ?_;intro k27 w h
 refine Ht (b:=k27) (o:=0) rfl 1 (nm,n,g) (by kernel_rfl) h 1 rfl 0 rfl (Fn 0 (by kernel_rfl)) (by (try simp only [List.length_append,List.length_cons,List.length_nil,List.length_map]);omega) ?_;intro v28 w h
 refine ZP v28 (Qn (Ai (ZP (Pp N.nb) (ZP v28 (ZP (Pp N.nb) (ZP (Pt N.nb 6) ?_))))))
 have h:=(h.pkr [3]).rtOpen hx
 refine Ji rfl (h.slv 6 rfl) 6 [Ii N.a.h.1,Ii N.a.h.2,Ii N.a.kind,Ii N.a.change,.string N.a.s,N.vh,v28,Ii N.a.pins] h 0 rfl (by kernel_rfl) ?_;intro w h
 refine Dj ?_
 have h:=Own.rtClose hx (Rx N v28 (out++[(nm,n,g)])) rfl (h.pkr [0,0,4,1,1])
 refine ZR [] [0] h ?_
 rw [List.take_of_length_le (by omega)] at ho
 have hE:Bk nm (n,g) N.a.es=out++[(nm,n,g)]:=by unfold Bk;rw [← ho];exact if_neg (by simp_all)
 exact ⟨v28,by rw [hE];rfl⟩
 have q29:done=true:=by simpa using hc25
 refine Kn (Ai (ZP (Pp N.nb) (ZP vo (ZP (Pp N.nb) (ZP (Pt N.nb 6) ?_)))))
 have h:=(h.pkr [2]).rtOpen hx
 refine Ji rfl (h.slv 5 rfl) 6 [Ii N.a.h.1,Ii N.a.h.2,Ii N.a.kind,Ii N.a.change,.string N.a.s,N.vh,vo,Ii N.a.pins] h 0 rfl (by kernel_rfl) ?_;intro w h
 refine Dj ?_
 have h:=Own.rtClose hx (Rx N vo out) rfl (h.pkr [0,0,3,1,1])
 refine ZR [] [0] h ?_
 rw [List.take_of_length_le (by omega)] at ho
 have hE:Bk nm (n,g) N.a.es=out:=by unfold Bk;rw [← ho];exact if_pos (by simp_all)
 exact ⟨vo,by rw [hE];rfl⟩
theorem Fu (vl:Value) (L:List RN) (j:Nat) (N:RN) (hx:L[j]?=some N) (k:Nat) (hl:N.a.es.length≤1000) (hk:k<N.a.es.length)  : Ao Tryz.prog 70 #[Pp N.nb,Ii k] [rRL vl L] (fun u L'=>∃ v',L'=[rRL vl (L.set j (⟨N.nb,N.vh,v',⟨N.a.h,N.a.kind,N.a.change,N.a.s,N.a.holes,N.a.es.eraseIdx k,N.a.pins⟩⟩:RN))]):=by
 refine Zo 23 Tryz.func70 fun E w0 w h=>?_
 refine Qs (ZP (.slice none 0 0) (Qm (ZP (.slice none 0 0) (ZP (Pp N.nb) (ZP (Pp N.nb) (ZP (Pt N.nb 6) (ZG h (Gr 6 N.ve 0 rfl (B5 hx 6 (by kernel_rfl))) (ZP (Ii k) (ZG h (Wa (v:=N.ve) (d:=107) (k:=3) (LV:=none) (HV:=(some (Ii k))) 0 k (by kernel_rfl) rfl (bnd rfl) (by first|omega|(simp;omega)) (by first|omega|(simp;omega)) 0 rfl (Bo hx)) ?_)))))))))
 have h:=h.nilRows 107 3 e3C
 refine Xl rfl 0 k (by kernel_rfl) D3 (fun _=>rfl) (by omega) (by omega) h 0 rfl 1 rfl (Bo hx) (by (try simp only [List.length_append,List.length_cons,List.length_nil,List.length_take,List.length_drop]);omega) ?_;intro v1 w h
 refine ZP v1 (Qn (Ai (ZP (Pp N.nb) (ZP v1 (ZP (Pp N.nb) (ZP (Pp N.nb) (ZP (Pt N.nb 6) (ZG h (Gr 6 N.ve 1 rfl (B5 hx 6 (by kernel_rfl))) (ZP (Ii k) (ZG h (A1 (v:=Ii (IntKind.i64.wrap ((k:Int)+1))) (v':=Ii ((k+1:Nat):Int)) (Ay fun _=>by kernel_rfl) (wr (by omega))) (ZG h (Wa (v:=N.ve) (d:=107) (k:=3) (LV:=(some (Ii ((k+1:Nat):Int)))) (HV:=none) (k+1) N.a.es.length (by kernel_rfl) (bnd rfl) rfl (by first|omega|(simp;omega)) (by first|omega|(simp;omega)) 1 rfl (Bo hx)) ?_)))))))))))
 refine Xl rfl (k+1) N.a.es.length (by kernel_rfl) D3 (fun _=>rfl) (by omega) (by omega) h 0 rfl 1 rfl (Bo hx) (by (try simp only [List.length_append,List.length_cons,List.length_nil,List.length_take,List.length_drop]);omega) ?_;intro v2 w h
 refine ZP (Pp N.nb) (ZP (Pt N.nb 6) ?_)
 have h:=(h.pkr [1]).rtOpen hx
 refine Ji rfl (h.slv 5 rfl) 6 [Ii N.a.h.1,Ii N.a.h.2,Ii N.a.kind,Ii N.a.change,.string N.a.s,N.vh,v2,Ii N.a.pins] h 0 rfl (by kernel_rfl) ?_;intro w h
 refine Dj ?_
 have h:=Own.rtClose hx (Rx N v2 ([]++(N.a.es.take k).drop 0++(N.a.es.take N.a.es.length).drop (k+1))) rfl (h.pkr [0,0,3,1,1])
 refine ZR [] [0] h ?_
 have hE:N.a.es.eraseIdx k=[]++(N.a.es.take k).drop 0++(N.a.es.take N.a.es.length).drop (k+1):=by rw [List.eraseIdx_eq_take_drop_succ];simp
 exact ⟨v2,by rw [hE];rfl⟩
structure Dv (A:List AN) (c:Int):Prop where
  len:A.length≤300
  nod:(A.map (·.h)).Nodup
  ent:∀ M∈A,∀ e∈M.es,∃ K∈A,K.h=e.2
  few:∀ M∈A,M.es.length≤60
  nms:∀ M∈A,(M.es.map (·.1)).Nodup
  rng:∀ M∈A,0≤M.change∧M.change≤c∧0≤M.pins∧M.pins≤c
theorem Dv.mono {A:List AN} {c d:Int} (h:Dv A c) (hc:c≤d):Dv A d:=⟨h.len,h.nod,h.ent,h.few,h.nms,fun M hM=>by have:=h.rng M hM;omega⟩
theorem Dv.hl {L:List RN} {c:Int} (h:Dv (L.map RN.a) c):L.length≤300:=by have:=h.len;simpa using this
theorem Dv.hnod {L:List RN} {c:Int} (h:Dv (L.map RN.a) c):(L.map fun N=>N.a.h).Nodup:=by
  have:=h.nod
  rw [List.map_map] at this
  exact this
theorem Dv.hent {L:List RN} {c:Int} (h:Dv (L.map RN.a) c):∀ M∈L,∀ e∈M.a.es,∃ K∈L,K.a.h=e.2:=fun M hM e he=>by
  obtain ⟨K,hK,e2⟩:=h.ent M.a (List.mem_map.2 ⟨M,hM,rfl⟩) e he
  obtain ⟨K',hK',rfl⟩:=List.mem_map.1 hK
  exact ⟨K',hK',e2⟩
theorem Dv.hfew {L:List RN} {c:Int} (h:Dv (L.map RN.a) c):∀ M∈L,M.a.es.length≤100:=fun M hM=>by have:=h.few M.a (List.mem_map.2 ⟨M,hM,rfl⟩);omega
theorem Dv.at_few {L:List RN} {c:Int} (h:Dv (L.map RN.a) c) {j:Nat} {N:RN} (hx:L[j]?=some N):N.a.es.length≤60:=h.few N.a (List.mem_map.2 ⟨N,List.mem_of_getElem? hx,rfl⟩)
theorem Dv.at_nms {L:List RN} {c:Int} (h:Dv (L.map RN.a) c) {j:Nat} {N:RN} (hx:L[j]?=some N):(N.a.es.map (·.1)).Nodup:=h.nms N.a (List.mem_map.2 ⟨N,List.mem_of_getElem? hx,rfl⟩)
theorem Dv.at_rng {L:List RN} {c:Int} (h:Dv (L.map RN.a) c) {j:Nat} {N:RN} (hx:L[j]?=some N):0≤N.a.change∧N.a.change≤c∧0≤N.a.pins∧N.a.pins≤c:=h.rng N.a (List.mem_map.2 ⟨N,List.mem_of_getElem? hx,rfl⟩)
def Ek (es:List Bm) (nm:ByteArray):Option Hdl:=(es.find? fun e=>decide (e.1=nm)).map (·.2)
theorem Gm {es:List Bm} {nm:ByteArray} (h:∀ e∈es,e.1≠nm):Ek es nm=none:=by
  unfold Ek
  have:es.find? (fun e=>decide (e.1=nm))=none:=by
    rw [List.find?_eq_none]
    intro e he
    simp [h e he]
  rw [this];rfl
theorem Us {es:List Bm} (hn:(es.map (·.1)).Nodup) {i j:Nat} {e f:Bm} (hi:es[i]?=some e) (hj:es[j]?=some f) (h:e.1=f.1):i=j:=by
  have hp:=List.pairwise_iff_getElem.1 hn
  obtain ⟨hi1,hi2⟩:=List.getElem?_eq_some_iff.1 hi
  obtain ⟨hj1,hj2⟩:=List.getElem?_eq_some_iff.1 hj
  rcases Nat.lt_trichotomy i j with hl|hl|hl
  · exact (hp i j (by simpa using hi1) (by simpa using hj1) hl (by simp only [List.getElem_map,hi2,hj2,h])).elim
  · exact hl
  · exact (hp j i (by simpa using hj1) (by simpa using hi1) hl (by simp only [List.getElem_map,hi2,hj2,h])).elim
theorem Bw {es:List Bm} (hn:(es.map (·.1)).Nodup) {i:Nat} {e:Bm} (he:es[i]?=some e) {nm:ByteArray} (h:e.1=nm):Ek es nm=some e.2:=by
  unfold Ek
  have:es.find? (fun e=>decide (e.1=nm))=some e:=by
    rw [List.find?_eq_some_iff_getElem]
    obtain ⟨hj,q⟩:=List.getElem?_eq_some_iff.1 he
    refine ⟨by simp [h],i,hj,q,fun k hk=>?_⟩
    simp only [Bool.not_eq_true',decide_eq_false_iff_not]
    intro e2
    have:=Us hn (List.getElem?_eq_getElem (by omega:k<es.length)) he (e2.trans h.symm)
    omega
  rw [this];rfl
theorem Or {es:List Bm} (hn:(es.map (·.1)).Nodup) {i:Nat} {e:Bm} (he:es[i]?=some e) {nm:ByteArray} (h:e.1=nm):es.eraseIdx i=es.filter fun x=>!decide (x.1=nm):=by
  obtain ⟨hi,q⟩:=List.getElem?_eq_some_iff.1 he
  have e1:es=es.take i++es[i]::es.drop (i+1):=by rw [List.getElem_cons_drop,List.take_append_drop]
  rw [List.eraseIdx_eq_take_drop_succ]
  conv=>rhs;rw [e1]
  rw [List.filter_append,List.filter_cons,if_neg (by rw [q];simp [h])]
  have h1:(es.take i).filter (fun x=>!decide (x.1=nm))=es.take i:=by
    rw [List.filter_eq_self]
    intro x hx
    obtain ⟨j,hj⟩:=List.getElem?_of_mem hx
    rw [List.getElem?_take] at hj
    split at hj
    · rename_i hji
      simp only [Bool.not_eq_true',decide_eq_false_iff_not]
      intro e2
      have:=Us hn hj he (e2.trans h.symm)
      omega
    · cases hj
  have h2:(es.drop (i+1)).filter (fun x=>!decide (x.1=nm))=es.drop (i+1):=by
    rw [List.filter_eq_self]
    intro x hx
    obtain ⟨j,hj⟩:=List.getElem?_of_mem hx
    rw [List.getElem?_drop] at hj
    simp only [Bool.not_eq_true',decide_eq_false_iff_not]
    intro e2
    have:=Us hn hj he (e2.trans h.symm)
    omega
  rw [h1,h2]
def Cz (A:List AN) (h:Hdl) (f:AN→AN):List AN:=A.map fun N=>if N.h==h then f N else N
def Ar (A:List AN) (h:Hdl):List AN:=Cz A h fun N=>⟨N.h,N.kind,N.change+1,N.s,N.holes,N.es,N.pins⟩
def Aw (A:List AN) (h:Hdl) (nm:ByteArray) (x:Hdl):List AN:=Cz A h fun N=>⟨N.h,N.kind,N.change,N.s,N.holes,Bk nm x N.es,N.pins⟩
def Al (A:List AN) (h:Hdl) (nm:ByteArray):List AN:=Cz A h fun N=>⟨N.h,N.kind,N.change,N.s,N.holes,N.es.filter fun x=>!decide (x.1=nm),N.pins⟩
def G9 (A:List AN) (h:Hdl) (d:Int):List AN:=Cz A h fun N=>⟨N.h,N.kind,N.change,N.s,N.holes,N.es,N.pins+d⟩
def El (A:List AN) (N:AN):Bool:=decide (N.kind=2)||(decide (N.pins>0)||decide (Bf A N>0))
def G0 (A:List AN):List AN:=A.filter (El A)
def E1 (A:List AN) (h:Hdl):List AN:=A.filter fun N=>!(N.h==h)
def C7 (A:List AN) (h:Hdl):List AN:=match Br A h with|some N=>if N.kind=2 then E1 A h else G0 (Ar A h)|none=>A
theorem Da {L:List RN} (hn:(L.map fun N=>N.a.h).Nodup) {j:Nat} {N:RN} (hx:L[j]?=some N) {h:Hdl} (hh:N.a.h=h) {N':RN} {f:AN→AN} (hf:N'.a=f N.a):(L.set j N').map RN.a=Cz (L.map RN.a) h f:=by
  unfold Cz
  apply List.ext_getElem?
  intro i
  rw [List.map_set,List.getElem?_map,List.getElem?_set]
  by_cases e:j=i
  · subst e
    rw [if_pos rfl,List.getElem?_map,hx]
    have hl:=(List.getElem?_eq_some_iff.1 hx).1
    simp [hl,hh,hf]
  · rw [if_neg e,List.getElem?_map]
    cases hi:L[i]? with
    | none=>rfl
    | some M=>
      simp only [Option.map_some]
      have:M.a.h≠h:=fun e2=>e (O1 hn hx hi (hh.trans e2.symm))
      simp [this]
def A9 (A:List AN) (h:Hdl) (nm:ByteArray):Hdl×Nat:=
  match Br A h with
  | none=>((0,0),10)
  | some N=>if N.kind=2 then (if H6 nm=0 then (match Ek N.es nm with|some x=>(x,0)|none=>((0,0),5)) else ((0,0),4)) else ((0,0),7)
section
variable {A:List AN} {h:Hdl} {nm:ByteArray} {N:AN}
theorem Aeq (h1:Br A h=none):A9 A h nm=((0,0),10):=by unfold A9;rw [h1]
theorem Afo (h1:Br A h=some N) (h2:¬N.kind=2):A9 A h nm=((0,0),7):=by unfold A9;rw [h1];exact if_neg h2
theorem Aff (h1:Br A h=some N) (h2:N.kind=2) (h3:¬A0 nm):A9 A h nm=((0,0),4):=by unfold A9;rw [h1];simp only [if_pos h2];rw [C9 h3];rfl
theorem tL_no (h1:Br A h=some N) (h2:N.kind=2) (h3:A0 nm) (h4:Ek N.es nm=none):A9 A h nm=((0,0),5):=by unfold A9;rw [h1];simp only [if_pos h2];rw [Bg h3,h4];rfl
theorem Afn (h1:Br A h=some N) (h2:N.kind=2) (h3:A0 nm) {x:Hdl} (h4:Ek N.es nm=some x):A9 A h nm=(x,0):=by unfold A9;rw [h1];simp only [if_pos h2];rw [Bg h3,h4];rfl
end
theorem Ux {L:List RN} {p:RN→Bool}:(L.filter p).Sublist L:=List.filter_sublist
theorem Hk {L:List RN} {k:Nat} {x:RN} {p:RN→Bool} (hx:L[k]?=some x):(L.take (k+1)).filter p=(L.take k).filter p++if p x then [x] else []:=by
  rw [List.take_add_one,hx,List.filter_append]
  cases h:p x<;>simp [h]
theorem Own.rlFilter {w0 w:World} {E:Ent} {M:List Res} {L L':List RN} {vl vo:Value} (h:Own w0 E (Bc true vo 88 1 ptB (L'.map RN.nb)::rRL vl L::M) w) (hs:L'.Sublist L):Own w0 E (rRL vo L'::M) w:=by
  have h1:Own w0 E (rRL vl L::Bc true vo 88 1 ptB (L'.map RN.nb)::M) w:=h.perm (List.Perm.swap _ _ _)
  have h2:=h1.rlOpen.pick1
  have h3:=h2.rnSub hs
  exact Own.rlClose (h3.perm (List.Perm.swap _ _ _))
theorem Pg {L:List RN} {p:AN→Bool}:(L.filter fun N=>p N.a).map RN.a=(L.map RN.a).filter p:=by rw [List.filter_map];rfl
theorem Tb {x:Hdl} {n g:Int}:(x==(n,g))=(decide (x.1=n)&&decide (x.2=g)):=by
  obtain ⟨x1,x2⟩:=x
  by_cases c1:x1=n<;>by_cases c2:x2=g<;>simp [c1,c2]
theorem Dv.setN {L:List RN} {c:Int} (hok:Dv (L.map RN.a) c) {j:Nat} {N N':RN} (hx:L[j]?=some N) (h1:N'.a.h=N.a.h) (h2:∀ e∈N'.a.es,∃ K∈L.map RN.a,K.h=e.2) (h3:N'.a.es.length≤60) (h4:(N'.a.es.map (·.1)).Nodup) (h5:0≤N'.a.change∧N'.a.change≤c∧0≤N'.a.pins∧N'.a.pins≤c):Dv ((L.set j N').map RN.a) c:=by
  have hj:=(List.getElem?_eq_some_iff.1 hx).1
  have hmem:∀ M∈(L.set j N').map RN.a,M=N'.a∨M∈L.map RN.a:=fun M hM=>by
    obtain ⟨K,hK,rfl⟩:=List.mem_map.1 hM
    rcases List.mem_or_eq_of_mem_set hK with hK|rfl
    · exact .inr (List.mem_map.2 ⟨K,hK,rfl⟩)
    · exact .inl rfl
  have hhs:((L.set j N').map RN.a).map (·.h)=(L.map RN.a).map (·.h):=by
    rw [List.map_map,List.map_map,List.map_set]
    refine Iq _ _ _ ?_
    rw [List.getElem?_map,hx]
    simp [h1]
  have hex:∀ x:Hdl,(∃ K∈L.map RN.a,K.h=x)→∃ K∈(L.set j N').map RN.a,K.h=x:=fun x ⟨K,hK,e⟩=>by
    have:x∈((L.set j N').map RN.a).map (·.h):=by rw [hhs,← e];exact List.mem_map.2 ⟨K,hK,rfl⟩
    obtain ⟨K',hK',e'⟩:=List.mem_map.1 this
    exact ⟨K',hK',e'⟩
  refine ⟨by have:=hok.len;simpa using this,by rw [hhs];exact hok.nod,fun M hM e he=>?_,fun M hM=>?_,fun M hM=>?_,fun M hM=>?_⟩
  · rcases hmem M hM with rfl|hM
    · exact hex _ (h2 e he)
    · exact hex _ (hok.ent M hM e he)
  · rcases hmem M hM with rfl|hM
    · exact h3
    · exact hok.few M hM
  · rcases hmem M hM with rfl|hM
    · exact h4
    · exact hok.nms M hM
  · rcases hmem M hM with rfl|hM
    · exact h5
    · exact hok.rng M hM
theorem Dv.setC {L:List RN} {c:Int} (hok:Dv (L.map RN.a) c) {j:Nat} {N N':RN} (hx:L[j]?=some N) (h1:N'.a.h=N.a.h) (h2:N'.a.es=N.a.es) (h5:0≤N'.a.change∧N'.a.change≤c∧0≤N'.a.pins∧N'.a.pins≤c):Dv ((L.set j N').map RN.a) c:=by
  have hm:N.a∈L.map RN.a:=List.mem_map.2 ⟨N,List.mem_of_getElem? hx,rfl⟩
  exact hok.setN hx h1 (by rw [h2];exact hok.ent N.a hm) (by rw [h2];exact hok.few N.a hm) (by rw [h2];exact hok.nms N.a hm) h5
section
variable (b:Nat) (mst:Int) (vl vt:Value) (L:List RN) (c:Int) (hc:c≤999999) (hok:Dv (L.map RN.a) c)
include b mst vl vt L c hc hok
theorem Sw (n g:Int) (nm:ByteArray) (hnz:nm.size≤100000):Ao Tryz.prog 22 #[Pp b,Hg n g,.string nm] [Rt b mst vl vt,rRL vl L] (fun u L'=>u=.tuple #[.agg #[Ii (A9 (L.map RN.a) (n,g) nm).1.1,Ii (A9 (L.map RN.a) (n,g) nm).1.2],Ii ((A9 (L.map RN.a) (n,g) nm).2:Nat)]∧L'=[Rt b mst vl vt,rRL vl L]):=by
 have hl:=hok.hl
 have hnod:=hok.hnod
 have hent:=hok.hent
 have hfew:=hok.hfew
 refine Zo 36 Tryz.func22 fun E w0 w h=>?_
 refine Qs (ZN [Ii n,Ii g] 34 h fun k1 w h=>ZN [Ii 0,Ii 0] 34 h fun k2 w h=>ZP (Ii 0) (Qm (ZP (Pp b) (ZG h (Gla 0 [Ii n,Ii g] 1) ?_))))
 refine ZD [2,2] (F2 b mst vl vt L n g (by omega)) h ?_;rintro v_ L_ w (⟨hno8,rfl,rfl⟩|⟨j3,N4,hx5,hh6,hkd7,rfl,rfl⟩|⟨j3,N4,hx5,hh6,hkd7,rfl,rfl⟩) h
 refine ZP (Ii 10) (Qu (ZP (Ii 10) (ZP (.bool false) (Ft (ZP (Ii 10) (ZP (.bool true) (Qg (Qs (ZP (Hg 0 0) (ZP (Ii 10) (ZSs [Ii 0,Ii 0] 2 rfl h fun w h=>ZP (Ii 10) (Qr (Ap ?_)))))))))))))
 refine Bv [Hg 0 0,Ii 10] [0,0] h (by kernel_rfl) (C6 0 [Ii 0,Ii 0] (Hg 0 0) 2 rfl (by kernel_rfl) (Dm (by kernel_rfl) C3)) ?_
 rw [Aeq (E5 hno8)]
 exact ⟨rfl,rfl⟩
 refine ZP (Ii 7) (Qu (ZP (Ii 7) (ZP (.bool false) (Ft (ZP (Ii 7) (ZP (.bool true) (Qg (Qs (ZP (Hg 0 0) (ZP (Ii 7) (ZSs [Ii 0,Ii 0] 2 rfl h fun w h=>ZP (Ii 7) (Qr (Ap ?_)))))))))))))
 refine Bv [Hg 0 0,Ii 7] [0,0] h (by kernel_rfl) (C6 0 [Ii 0,Ii 0] (Hg 0 0) 2 rfl (by kernel_rfl) (Dm (by kernel_rfl) C3)) ?_
 rw [Afo (Ah hnod hx5 hh6) hkd7]
 exact ⟨rfl,rfl⟩
 refine ZP (Ii 0) (Qu (ZP (Ii 0) (ZP (.bool true) (Qg (Ai (ZP (.string nm) ?_))))))
 refine ZD [] (Ex nm (by omega)) h ?_;rintro v_ L_ w (⟨hnm9,rfl,rfl⟩|⟨hnm9,rfl,rfl⟩) h
 refine ZP (Ii 0) (Qu (ZP (Ii 0) (ZP (.bool false) (Fs (ZP (Pp b) (ZG h (Gla 0 [Ii n,Ii g] 3) (ZC [0,0] (Cq b mst vl vt L (by omega) hnod j3 N4 hx5 n g hh6) h fun w h=>ZP (Pp N4.nb) (Qm (ZP (Pp N4.nb) (ZP (.string nm) ?_))))))))))
 refine ZD [1] (Ey vl L j3 N4 hx5 nm (by have:=hok.at_few hx5;omega)) h ?_;rintro v_ L_ w (⟨iq10,eq11,he12,hen13,rfl,rfl⟩|⟨hno14,rfl,rfl⟩) h
 have hfliq10:=(List.getElem?_eq_some_iff.1 he12).1
 refine ZP (Ii iq10) (Qu (ZP (Ii iq10) (ZP (.bool (decide ((iq10:Int)<0))) (Qn (Zd ((iq10:Int)<0) (fun hc15=>?_) fun hc15=>?_)))))
 exfalso;omega
 refine Ks (ZP (Pp N4.nb) (ZP (Pp N4.nb) (ZP (Pt N4.nb 6) (ZG h (Gr 6 N4.ve 0 rfl (B5 hx5 6 (by kernel_rfl))) (ZP (Ii iq10) (ZG h (Dx (k:=3) 107 iq10 rfl (by kernel_rfl) (List.getElem?_eq_some_iff.1 he12).1 0 rfl (Bo hx5)) (ZP (Pt (Du N4.ve) (B2 N4.ve+iq10*3+1)) (ZG h (Gra (B2 N4.ve+iq10*3+1) [Ii eq11.2.1,Ii eq11.2.2] 0 rfl (rdS (Bo hx5) D3 he12 1 (by kernel_rfl))) (ZSs [Ii eq11.2.1,Ii eq11.2.2] 2 rfl h fun w h=>ZP (Ii 0) (Qr ?_))))))))))
 refine Bv [Hg eq11.2.1 eq11.2.2,Ii 0] [1,0] h (by kernel_rfl) (C6 0 [Ii eq11.2.1,Ii eq11.2.2] (Hg eq11.2.1 eq11.2.2) 2 rfl (by kernel_rfl) (Dm (by kernel_rfl) C3)) ?_
 rw [Afn (Ah hnod hx5 hh6) hkd7 hnm9 (Bw (hok.at_nms hx5) he12 hen13)]
 exact ⟨rfl,rfl⟩
 refine ZP (Ii (-1)) (Qu (ZP (Ii (-1)) (ZP (.bool true) (Qg (Qs (ZP (Hg 0 0) (ZSs [Ii 0,Ii 0] 2 rfl h fun w h=>ZP (Ii 5) (Qr (Ap ?_)))))))))
 refine Bv [Hg 0 0,Ii 5] [1,0] h (by kernel_rfl) (C6 0 [Ii 0,Ii 0] (Hg 0 0) 2 rfl (by kernel_rfl) (Dm (by kernel_rfl) C3)) ?_
 rw [tL_no (Ah hnod hx5 hh6) hkd7 hnm9 (Gm hno14)]
 exact ⟨rfl,rfl⟩
 refine ZP (Ii 4) (Qu (ZP (Ii 4) (ZP (.bool true) (Qg (Qs (ZP (Hg 0 0) (ZP (Ii 4) (ZSs [Ii 0,Ii 0] 2 rfl h fun w h=>ZP (Ii 4) (Qr (Ap ?_))))))))))
 refine Bv [Hg 0 0,Ii 4] [0,0] h (by kernel_rfl) (C6 0 [Ii 0,Ii 0] (Hg 0 0) 2 rfl (by kernel_rfl) (Dm (by kernel_rfl) C3)) ?_
 rw [Aff (Ah hnod hx5 hh6) hkd7 hnm9]
 exact ⟨rfl,rfl⟩
theorem Nj:Ao Tryz.prog 80 #[Pp b] [Rt b mst vl vt,rRL vl L] (fun u L'=>∃ v',L'=[Rt b mst v' vt,rRL v' (L.filter (fun N=>El (L.map RN.a) N.a))]):=by
 have hl:=hok.hl
 have hnod:=hok.hnod
 have hent:=hok.hent
 have hfew:=hok.hfew
 refine Zo 46 Tryz.func80 fun E w0 w h=>?_
 refine Qs (ZP (.slice none 0 0) (Qu (ZP (Ii 0) (Qn (Au ?_)))))
 have h:=h.nilRows 88 1 ptB
 refine ZL (X:=Nat×List Nat×Value×(Nat→Value)) [(4,42)] (fun ⟨i,ob,vo,J0⟩=>[(2,vo),(3,Ii i)]) (fun ⟨i,ob,vo,J0⟩=>J0) (fun ⟨i,ob,vo,J0⟩=>[Bc true vo 88 1 ptB ob,Rt b mst vl vt,rRL vl L]) (fun ⟨i,ob,vo,J0⟩=>i≤L.length∧ob=((L.take i).filter (fun N=>El (L.map RN.a) N.a)).map RN.nb) (fun ⟨i,ob,vo,J0⟩=>L.length - i) (fun j=>⟨0,[],(.slice none 0 0),j⟩) ⟨by omega,rfl⟩ [0,0,0] h ?_
 rintro ⟨i,ob,vo,J0⟩ w hG h
 obtain ⟨hi0,ho⟩:i≤L.length∧ob=((L.take i).filter (fun N=>El (L.map RN.a) N.a)).map RN.nb:=hG
 have hol:ob.length≤1000:=by rw [ho,List.length_map];have:=List.length_filter_le (fun N=>El (L.map RN.a) N.a) (L.take i);rw [List.length_take] at this;omega
 refine Qt (ZP (Ii i) (ZP (Pp b) (ZP (Pp b) (ZP (Pt b 1) (ZG h (Gl 1 (vl) 1) (ZG h (Dh 88 (by kernel_rfl) 2 rfl Dn) (ZP (.bool (decide ((i:Int)<(L.length:Int)))) (Qn (Zd ((i:Int)<(L.length:Int)) (fun hc1=>?_) fun hc1=>?_)))))))))
 refine Kn (Aa (Au (Qs (ZP (Pp b) (ZP (Pp b) (ZP (Pt b 1) (ZG h (Gl 1 (vl) 1) (ZP (Ii i) ?_))))))))
 have hi2:i<L.length:=by omega
 obtain ⟨x3,hx4⟩:∃ x,L[i]?=some x:=⟨_,List.getElem?_eq_getElem hi2⟩
 refine ZG h (Dx (k:=1) 88 i rfl (by kernel_rfl) hi2 2 rfl Dn) (ZG h (Gr (B2 vl+i*1) (Pp x3.nb) 2 rfl (Kg Dn Hb hx4 (by kernel_rfl))) (ZP (Pp x3.nb) (Qm (ZP (Pp x3.nb) (ZP (Pp x3.nb) (ZP (Pt x3.nb 2) (ZG h (Gr 2 (Ii x3.a.kind) 2 rfl (B5 hx4 2 (by kernel_rfl))) ?_)))))))
 obtain ⟨b5,hb5⟩:=nmB (decide (x3.a.kind=2))
 refine ZB hb5 (ZP (.bool b5) ?_)
 rcases Bool.eq_false_or_eq_true b5 with hc6|hc6
 subst hc6
 have q7:=hb5.symm
 have q7:=dcT q7
 refine Zx (Zx (Zx (Zx (Zx (ZP (.bool true) (ZP (.bool true) (Zx (Zx (Zx (Zx (ZP (.bool true) (Qg (Ai (ZP vo (ZP (Pp x3.nb) ?_)))))))))))))))
 refine G1 rfl (fun b=>.slice (some ⟨b,0,none⟩) 1 1) [Pp x3.nb] 88 (fun _=>by kernel_rfl) h ?_;intro k8 w h
 refine Ht (b:=k8) (o:=0) rfl 1 x3.nb (by kernel_rfl) h 1 rfl 0 rfl (Fn 0 (by kernel_rfl)) (by (try simp only [List.length_append,List.length_cons,List.length_nil,List.length_map]);omega) ?_;intro v9 w h
 refine ZP v9 (Dj ?_)
 refine Ch (Ag ?_)
 refine Ai (ZP (Ii i) (ZG h (A1 (v:=Ii (IntKind.i64.wrap ((i:Int)+1))) (v':=Ii ((i+1:Nat):Int)) (Ay fun _=>by kernel_rfl) (wr (by omega))) (ZP (Ii ((i+1:Nat):Int)) (Dj ?_))))
 have hT:El (L.map RN.a) x3.a=true:=by unfold El;by_cases c1:x3.a.kind=2<;>by_cases c2:x3.a.pins>0<;>by_cases c3:Bf (L.map RN.a) x3.a>0<;>simp [c1,c2,c3]<;>omega
 have hQ10:((i+1)≤L.length∧(ob++[x3.nb])=((L.take (i+1)).filter (fun N=>El (L.map RN.a) N.a)).map RN.nb)∧(L.length - (i+1))<(L.length - i):=⟨⟨by omega,by rw [Hk hx4,hT,ho];simp⟩,by omega⟩
 refine Bu (fun j=>⟨(i+1),ob++[x3.nb],v9,j⟩) hQ10 (by kernel_rfl) [1,1,1] (by kernel_rfl) h
 subst hc6
 have q11:=hb5.symm
 have q11:=dcF q11
 refine ZP (Pp x3.nb) (ZP (Pp x3.nb) (ZP (Pt x3.nb 7) (ZG h (Gr 7 (Ii x3.a.pins) 2 rfl (B5 hx4 7 (by kernel_rfl))) ?_)))
 obtain ⟨b12,hb12⟩:=nmB (decide (x3.a.pins>0))
 refine ZB hb12 (ZP (.bool b12) (ZP (.bool b12) ?_))
 rcases Bool.eq_false_or_eq_true b12 with hc13|hc13
 subst hc13
 have q14:=hb12.symm
 have q14:=dcT q14
 refine Zx (Zx (Zx (Zx (ZP (.bool true) (Qg (Ai (ZP vo (ZP (Pp x3.nb) ?_))))))))
 refine G1 rfl (fun b=>.slice (some ⟨b,0,none⟩) 1 1) [Pp x3.nb] 88 (fun _=>by kernel_rfl) h ?_;intro k15 w h
 refine Ht (b:=k15) (o:=0) rfl 1 x3.nb (by kernel_rfl) h 1 rfl 0 rfl (Fn 0 (by kernel_rfl)) (by (try simp only [List.length_append,List.length_cons,List.length_nil,List.length_map]);omega) ?_;intro v16 w h
 refine ZP v16 (Dj ?_)
 refine Ch (Ag ?_)
 refine Ai (ZP (Ii i) (ZG h (A1 (v:=Ii (IntKind.i64.wrap ((i:Int)+1))) (v':=Ii ((i+1:Nat):Int)) (Ay fun _=>by kernel_rfl) (wr (by omega))) (ZP (Ii ((i+1:Nat):Int)) (Dj ?_))))
 have hT:El (L.map RN.a) x3.a=true:=by unfold El;by_cases c1:x3.a.kind=2<;>by_cases c2:x3.a.pins>0<;>by_cases c3:Bf (L.map RN.a) x3.a>0<;>simp [c1,c2,c3]<;>omega
 have hQ17:((i+1)≤L.length∧(ob++[x3.nb])=((L.take (i+1)).filter (fun N=>El (L.map RN.a) N.a)).map RN.nb)∧(L.length - (i+1))<(L.length - i):=⟨⟨by omega,by rw [Hk hx4,hT,ho];simp⟩,by omega⟩
 refine Bu (fun j=>⟨(i+1),ob++[x3.nb],v16,j⟩) hQ17 (by kernel_rfl) [1,1,1] (by kernel_rfl) h
 subst hc13
 have q18:=hb12.symm
 have q18:=dcF q18
 refine ZP (Pp b) (ZP (Pp x3.nb) (ZC [1,1] (Ix b mst vl vt L (by omega) hnod hent hfew i x3 hx4) h fun w h=>?_))
 obtain ⟨b19,hb19⟩:=nmB (decide (Bf (L.map RN.a) x3.a>0))
 refine ZB hb19 (ZP (.bool b19) (Qn (Zi (b19) (fun hc20=>?_) fun hc20=>?_)))
 have q21:=hb19.symm.trans hc20
 have q21:=dcT q21
 refine Ai (ZP vo (ZP (Pp x3.nb) ?_))
 refine G1 rfl (fun b=>.slice (some ⟨b,0,none⟩) 1 1) [Pp x3.nb] 88 (fun _=>by kernel_rfl) h ?_;intro k22 w h
 refine Ht (b:=k22) (o:=0) rfl 1 x3.nb (by kernel_rfl) h 3 rfl 0 rfl (Fn 0 (by kernel_rfl)) (by (try simp only [List.length_append,List.length_cons,List.length_nil,List.length_map]);omega) ?_;intro v23 w h
 refine ZP v23 (Dj ?_)
 refine Ch (Ag ?_)
 refine Ai (ZP (Ii i) (ZG h (A1 (v:=Ii (IntKind.i64.wrap ((i:Int)+1))) (v':=Ii ((i+1:Nat):Int)) (Ay fun _=>by kernel_rfl) (wr (by omega))) (ZP (Ii ((i+1:Nat):Int)) (Dj ?_))))
 have hT:El (L.map RN.a) x3.a=true:=by unfold El;by_cases c1:x3.a.kind=2<;>by_cases c2:x3.a.pins>0<;>by_cases c3:Bf (L.map RN.a) x3.a>0<;>simp [c1,c2,c3]<;>omega
 have hQ24:((i+1)≤L.length∧(ob++[x3.nb])=((L.take (i+1)).filter (fun N=>El (L.map RN.a) N.a)).map RN.nb)∧(L.length - (i+1))<(L.length - i):=⟨⟨by omega,by rw [Hk hx4,hT,ho];simp⟩,by omega⟩
 refine Bu (fun j=>⟨(i+1),ob++[x3.nb],v23,j⟩) hQ24 (by kernel_rfl) [3,1,1] (by kernel_rfl) h
 have q25:=hb19.symm.trans hc20
 have q25:=dcF q25
 refine B3 ?_
 refine Ch (Ag ?_)
 refine Ai (ZP (Ii i) (ZG h (A1 (v:=Ii (IntKind.i64.wrap ((i:Int)+1))) (v':=Ii ((i+1:Nat):Int)) (Ay fun _=>by kernel_rfl) (wr (by omega))) (ZP (Ii ((i+1:Nat):Int)) (Dj ?_))))
 have hT:El (L.map RN.a) x3.a=false:=by unfold El;by_cases c1:x3.a.kind=2<;>by_cases c2:x3.a.pins>0<;>by_cases c3:Bf (L.map RN.a) x3.a>0<;>simp [c1,c2,c3]<;>omega
 have hQ26:((i+1)≤L.length∧ob=((L.take (i+1)).filter (fun N=>El (L.map RN.a) N.a)).map RN.nb)∧(L.length - (i+1))<(L.length - i):=⟨⟨by omega,by rw [Hk hx4,hT,ho];simp⟩,by omega⟩
 refine Bu (fun j=>⟨(i+1),ob,vo,j⟩) hQ26 (by kernel_rfl) [2,0,0] (by kernel_rfl) h
 refine Dk (Ea (Et (Ep (Ag (Ai (ZP (Pp b) (ZP vo (ZP (Pp b) (ZP (Pt b 1) ?_)))))))))
 refine Ji rfl (h.slv 0 rfl) 1 [Ii mst,vo,vt] h 1 rfl (by kernel_rfl) ?_;intro w h
 refine Dj ?_
 have h:=h.pkr [0,1]
 rw [List.take_of_length_le (by omega)] at ho
 subst ho
 have h:=Own.rlFilter (L':=L.filter (fun N=>El (L.map RN.a) N.a)) h Ux
 exact ZR [] [1,0] h ⟨_,rfl⟩
theorem Xc (n g:Int):Ao Tryz.prog 93 #[Pp b,Hg n g] [Rt b mst vl vt,rRL vl L] (fun u L'=>∃ v',L'=[Rt b mst v' vt,rRL v' (L.filter (fun N=>!(N.a.h==(n,g))))]):=by
 have hl:=hok.hl
 have hnod:=hok.hnod
 have hent:=hok.hent
 have hfew:=hok.hfew
 refine Zo 39 Tryz.func93 fun E w0 w h=>?_
 refine Qs (ZN [Ii n,Ii g] 34 h fun k1 w h=>Qm (ZP (.slice none 0 0) (Qu (ZP (Ii 0) (Qn (Au ?_))))))
 have h:=h.nilRows 88 1 ptB
 refine ZL (X:=Nat×List Nat×Value×(Nat→Value)) [(6,36)] (fun ⟨i,ob,vo,J0⟩=>[(4,vo),(5,Ii i)]) (fun ⟨i,ob,vo,J0⟩=>J0) (fun ⟨i,ob,vo,J0⟩=>[Bc true vo 88 1 ptB ob,Rh k1 n g,Rt b mst vl vt,rRL vl L]) (fun ⟨i,ob,vo,J0⟩=>i≤L.length∧ob=((L.take i).filter (fun N=>!(N.a.h==(n,g)))).map RN.nb) (fun ⟨i,ob,vo,J0⟩=>L.length - i) (fun j=>⟨0,[],(.slice none 0 0),j⟩) ⟨by omega,rfl⟩ [0,0,0,0] h ?_
 rintro ⟨i,ob,vo,J0⟩ w hG h
 obtain ⟨hi0,ho⟩:i≤L.length∧ob=((L.take i).filter (fun N=>!(N.a.h==(n,g)))).map RN.nb:=hG
 have hol:ob.length≤1000:=by rw [ho,List.length_map];have:=List.length_filter_le (fun N=>!(N.a.h==(n,g))) (L.take i);rw [List.length_take] at this;omega
 refine Qt (ZP (Ii i) (ZP (Pp b) (ZP (Pp b) (ZP (Pt b 1) (ZG h (Gl 1 (vl) 2) (ZG h (Dh 88 (by kernel_rfl) 3 rfl Dn) (ZP (.bool (decide ((i:Int)<(L.length:Int)))) (Qn (Zd ((i:Int)<(L.length:Int)) (fun hc2=>?_) fun hc2=>?_)))))))))
 refine Kn (Aa (Au (Aa (Ds 12 [1,1,1] h fun w h=>Dp 0 1040 (Pp b) [1,1,1] h (Dp 1 1041 (Pp b) [1,1,1] h (Dp 2 1043 (Pt b 1) [1,1,1] h (Dq 3 1047 [1,1,1] rfl h (Gl 1 (vl) 1) (Dp 4 1039 (Ii i) [1,1,1] h ?_))))))))
 have hi3:i<L.length:=by omega
 obtain ⟨x4,hx5⟩:∃ x,L[i]?=some x:=⟨_,List.getElem?_eq_getElem hi3⟩
 refine Dq (v:=Pt (Du vl) (B2 vl+i*1)) 5 1055 [1,1,1] rfl h (Dx (k:=1) 88 i rfl (by kernel_rfl) hi3 2 rfl Dn) (Dq 6 1087 [1,1,1] rfl h (Gr (B2 vl+i*1) (Pp x4.nb) 2 rfl (Kg Dn Hb hx5 (by kernel_rfl))) (Dp 7 1151 (Pp x4.nb) [1,1,1] h (Dp 8 1279 (Pp x4.nb) [1,1,1] h (Dq 9 1535 [1,1,1] rfl h (Gra 0 [Ii x4.a.h.1,Ii x4.a.h.2] 2 rfl (B5 hx5 0 (by kernel_rfl))) (Dq 10 1023 [1,1,1] rfl h (Gla 0 [Ii n,Ii g] 0) (Dq (v:=.bool (!((decide (x4.a.h.1=n))&&(decide (x4.a.h.2=g))))) 11 2047 [1,1,1] rfl h (Ez (n1:=x4.a.h.1) (g1:=x4.a.h.2) (n2:=n) (g2:=g) (by kernel_rfl)) (Dd (Ag (Zi (!((decide (x4.a.h.1=n))&&(decide (x4.a.h.2=g)))) (fun hc6=>?_) fun hc6=>?_)))))))))
 have q7:=nT hc6
 have q8:=ndA q7
 refine Ai (ZP vo (ZP (Pp b) (ZP (Pp b) (ZP (Pt b 1) (ZG h (Gl 1 (vl) 2) (ZP (Ii i) (ZG h (Dx (k:=1) 88 i rfl (by kernel_rfl) hi3 3 rfl Dn) (ZG h (Gr (B2 vl+i*1) (Pp x4.nb) 3 rfl (Kg Dn Hb hx5 (by kernel_rfl))) ?_))))))))
 refine G1 rfl (fun b=>.slice (some ⟨b,0,none⟩) 1 1) [Pp x4.nb] 88 (fun _=>by kernel_rfl) h ?_;intro k9 w h
 refine Ht (b:=k9) (o:=0) rfl 1 x4.nb (by kernel_rfl) h 1 rfl 0 rfl (Fn 0 (by kernel_rfl)) (by (try simp only [List.length_append,List.length_cons,List.length_nil,List.length_map]);omega) ?_;intro v10 w h
 refine ZP v10 (Dj ?_)
 refine Ch (Ag ?_)
 refine Ai (ZP (Ii i) (ZG h (A1 (v:=Ii (IntKind.i64.wrap ((i:Int)+1))) (v':=Ii ((i+1:Nat):Int)) (Ay fun _=>by kernel_rfl) (wr (by omega))) (ZP (Ii ((i+1:Nat):Int)) (Dj ?_))))
 have hT:(!(x4.a.h==(n,g)))=true:=by rw [Tb];by_cases c1:x4.a.h.1=n<;>by_cases c2:x4.a.h.2=g<;>simp [c1,c2]<;>omega
 have hQ11:((i+1)≤L.length∧(ob++[x4.nb])=((L.take (i+1)).filter (fun N=>!(N.a.h==(n,g)))).map RN.nb)∧(L.length - (i+1))<(L.length - i):=⟨⟨by omega,by rw [Hk hx5,hT,ho];simp⟩,by omega⟩
 refine Bu (fun j=>⟨(i+1),ob++[x4.nb],v10,j⟩) hQ11 (by kernel_rfl) [1,1,1,1] (by kernel_rfl) h
 have q12:=nF hc6
 have q13:=aL q12
 have q14:=aR q12
 have q13:=dcT q13
 have q14:=dcT q14
 refine B3 ?_
 refine Ch (Ag ?_)
 refine Ai (ZP (Ii i) (ZG h (A1 (v:=Ii (IntKind.i64.wrap ((i:Int)+1))) (v':=Ii ((i+1:Nat):Int)) (Ay fun _=>by kernel_rfl) (wr (by omega))) (ZP (Ii ((i+1:Nat):Int)) (Dj ?_))))
 have hT:(!(x4.a.h==(n,g)))=false:=by rw [Tb];by_cases c1:x4.a.h.1=n<;>by_cases c2:x4.a.h.2=g<;>simp [c1,c2]<;>omega
 have hQ15:((i+1)≤L.length∧ob=((L.take (i+1)).filter (fun N=>!(N.a.h==(n,g)))).map RN.nb)∧(L.length - (i+1))<(L.length - i):=⟨⟨by omega,by rw [Hk hx5,hT,ho];simp⟩,by omega⟩
 refine Bu (fun j=>⟨(i+1),ob,vo,j⟩) hQ15 (by kernel_rfl) [0,0,0,0] (by kernel_rfl) h
 refine Dk (Ea (Et (Ep (Ag (Ai (ZP (Pp b) (ZP vo (ZP (Pp b) (ZP (Pt b 1) ?_)))))))))
 refine Ji rfl (h.slv 0 rfl) 1 [Ii mst,vo,vt] h 2 rfl (by kernel_rfl) ?_;intro w h
 refine Dj ?_
 have h:=h.pkr [0,2]
 rw [List.take_of_length_le (by omega)] at ho
 subst ho
 have h:=Own.rlFilter (L':=L.filter (fun N=>!(N.a.h==(n,g)))) h Ux
 exact ZR [] [2,0] h ⟨_,rfl⟩
end
def C4 (h:Hdl) (kind:Int):AN:=⟨h,kind,0,⟨#[]⟩,[],[],0⟩
def E0 (A:List AN) (k:Nat):Bool:=A.any fun N=>decide (N.h.1=(k:Int))
def Ik (most:Nat) (A:List AN):Option Nat:=(List.range most).find? fun k=>!E0 A k
theorem Add {most:Nat} {A:List AN} {k:Nat} (hk:k<most) (hu:E0 A k=false) (hno:∀ q,q<k→E0 A q=true):Ik most A=some k:=by
  unfold Ik
  rw [List.find?_eq_some_iff_getElem]
  refine ⟨by simp [hu],k,by simpa using hk,by simp,fun q hq=>?_⟩
  simp [hno q hq]
theorem Abq {most:Nat} {A:List AN} (hno:∀ q,q<most→E0 A q=true):Ik most A=none:=by
  unfold Ik
  rw [List.find?_eq_none]
  intro k hk
  simp [hno k (List.mem_range.1 hk)]
def Av (ts:List Int) (k:Nat):Int:=ts.getD k 0
def B4 (most:Nat) (A:List AN) (h:Hdl) (nm:ByteArray) (kind:Int):Option Nat×Nat:=
  match Br A h with
  | none=>(none,10)
  | some D=>if D.kind=2 then (if H6 nm=0 then (if kind=1∨kind=2 then (match Ek D.es nm with
      | some _=>(none,6)
      | none=>if 60≤D.es.length then (none,9) else match Ik most A with|none=>(none,9)|some k=>(some k,0)) else (none,3)) else (none,4)) else (none,7)
section
variable {most:Nat} {A:List AN} {h:Hdl} {nm:ByteArray} {kind:Int} {D:AN}
theorem Xu (h1:Br A h=none):B4 most A h nm kind=(none,10):=by unfold B4;rw [h1]
theorem Yo (h1:Br A h=some D) (h2:¬D.kind=2):B4 most A h nm kind=(none,7):=by unfold B4;rw [h1];exact if_neg h2
theorem Xr (h1:Br A h=some D) (h2:D.kind=2) (h3:¬A0 nm):B4 most A h nm kind=(none,4):=by unfold B4;rw [h1];simp only [if_pos h2];rw [C9 h3];rfl
theorem X0 (h1:Br A h=some D) (h2:D.kind=2) (h3:A0 nm) (h4:¬(kind=1∨kind=2)):B4 most A h nm kind=(none,3):=by unfold B4;rw [h1];simp only [if_pos h2];rw [Bg h3];simp only [if_neg h4,if_true]
theorem Afu (h1:Br A h=some D) (h2:D.kind=2) (h3:A0 nm) (h4:kind=1∨kind=2) {x:Hdl} (h5:Ek D.es nm=some x):B4 most A h nm kind=(none,6):=by unfold B4;rw [h1];simp only [if_pos h2];rw [Bg h3,h5];simp only [if_pos h4,if_true]
theorem Xs (h1:Br A h=some D) (h2:D.kind=2) (h3:A0 nm) (h4:kind=1∨kind=2) (h5:Ek D.es nm=none) (h6:60≤D.es.length):B4 most A h nm kind=(none,9):=by unfold B4;rw [h1];simp only [if_pos h2];rw [Bg h3,h5];simp only [if_pos h4,if_true,if_pos h6]
theorem Adr (h1:Br A h=some D) (h2:D.kind=2) (h3:A0 nm) (h4:kind=1∨kind=2) (h5:Ek D.es nm=none) (h6:¬60≤D.es.length) (h7:Ik most A=none):B4 most A h nm kind=(none,9):=by unfold B4;rw [h1];simp only [if_pos h2];rw [Bg h3,h5,h7];simp only [if_pos h4,if_true,if_neg h6]
theorem Ac2 (h1:Br A h=some D) (h2:D.kind=2) (h3:A0 nm) (h4:kind=1∨kind=2) (h5:Ek D.es nm=none) (h6:¬60≤D.es.length) {k:Nat} (h7:Ik most A=some k):B4 most A h nm kind=(some k,0):=by unfold B4;rw [h1];simp only [if_pos h2];rw [Bg h3,h5,h7];simp only [if_pos h4,if_true,if_neg h6]
end
def Gn (A:List AN) (ts:List Int) (h:Hdl) (nm:ByteArray) (kind:Int) (k:Nat):List AN:=Ar (Aw (A++[C4 ((k:Int),Av ts k) kind]) h nm ((k:Int),Av ts k)) h
def C1 (A:List AN) (x d:Hdl) (nm:ByteArray):Nat:=
  match Br A x with
  | none=>10
  | some X=>match Br A d with
    | none=>10
    | some D=>if D.kind=2 then (if H6 nm=0 then (if X.kind=2 then 8 else match Ek D.es nm with
        | some _=>6
        | none=>if 60≤D.es.length∨8≤Bf A X then 9 else 0) else 4) else 7
section
variable {A:List AN} {x d:Hdl} {nm:ByteArray} {X D:AN}
theorem tK_x (h1:Br A x=none):C1 A x d nm=10:=by unfold C1;rw [h1]
theorem tK_d (h0:Br A x=some X) (h1:Br A d=none):C1 A x d nm=10:=by unfold C1;rw [h0];simp only;rw [h1]
theorem Yk (h0:Br A x=some X) (h1:Br A d=some D) (h2:¬D.kind=2):C1 A x d nm=7:=by unfold C1;rw [h0];simp only;rw [h1];exact if_neg h2
theorem Xt (h0:Br A x=some X) (h1:Br A d=some D) (h2:D.kind=2) (h3:¬A0 nm):C1 A x d nm=4:=by unfold C1;rw [h0];simp only;rw [h1];simp only [if_pos h2];rw [C9 h3];rfl
theorem Aa1 (h0:Br A x=some X) (h1:Br A d=some D) (h2:D.kind=2) (h3:A0 nm) (h4:X.kind=2):C1 A x d nm=8:=by unfold C1;rw [h0];simp only;rw [h1];simp only [if_pos h2];rw [Bg h3];simp only [if_pos h4,if_true]
theorem Af4 (h0:Br A x=some X) (h1:Br A d=some D) (h2:D.kind=2) (h3:A0 nm) (h4:¬X.kind=2) {y:Hdl} (h5:Ek D.es nm=some y):C1 A x d nm=6:=by unfold C1;rw [h0];simp only;rw [h1];simp only [if_pos h2];rw [Bg h3,h5];simp only [if_neg h4,if_true]
theorem N5 (h0:Br A x=some X) (h1:Br A d=some D) (h2:D.kind=2) (h3:A0 nm) (h4:¬X.kind=2) (h5:Ek D.es nm=none) (h6:60≤D.es.length∨8≤Bf A X):C1 A x d nm=9:=by unfold C1;rw [h0];simp only;rw [h1];simp only [if_pos h2];rw [Bg h3,h5];simp only [if_neg h4,if_true,if_pos h6]
theorem Afv (h0:Br A x=some X) (h1:Br A d=some D) (h2:D.kind=2) (h3:A0 nm) (h4:¬X.kind=2) (h5:Ek D.es nm=none) (h6:¬(60≤D.es.length∨8≤Bf A X)):C1 A x d nm=0:=by unfold C1;rw [h0];simp only;rw [h1];simp only [if_pos h2];rw [Bg h3,h5];simp only [if_neg h4,if_true,if_neg h6]
end
def Lh (A:List AN) (x d:Hdl) (nm:ByteArray):List AN:=Ar (Ar (Aw A d nm x) d) x
def Ci (A:List AN) (d:Hdl) (nm:ByteArray):Nat:=
  if (A9 A d nm).2=0 then (match Br A (A9 A d nm).1 with|some N=>if 0<N.es.length then 11 else 0|none=>0) else (A9 A d nm).2
def D2 (A:List AN) (d:Hdl) (nm:ByteArray):List AN:=C7 (Ar (Al A d nm) d) (A9 A d nm).1
def Eq (A:List AN) (h:Hdl):Nat:=match Br A h with|none=>10|some N=>if N.kind=1 then 0 else 8
theorem Xq {A:List AN} {h:Hdl} (h1:Br A h=none):Eq A h=10:=by unfold Eq;rw [h1]
theorem Ad7 {A:List AN} {h:Hdl} {N:AN} (h1:Br A h=some N) (h2:¬N.kind=1):Eq A h=8:=by unfold Eq;rw [h1];exact if_neg h2
theorem Afs {A:List AN} {h:Hdl} {N:AN} (h1:Br A h=some N) (h2:N.kind=1):Eq A h=0:=by unfold Eq;rw [h1];exact if_pos h2
def Cl (A:List AN) (h:Hdl):Nat:=match Br A h with|none=>10|some N=>if N.kind=1 then (if N.pins=0 then 5 else 0) else 8
theorem V2 {L:List RN} {j:Nat} {N K X:RN} (hx:L[j]?=some N) (hK:K∈L) (hne:K≠N):K∈L.set j X:=by
  obtain ⟨i,hi⟩:=List.getElem?_of_mem hK
  refine List.mem_of_getElem? (i:=i) ?_
  rw [List.getElem?_set_ne (fun e=>by subst e;rw [hx] at hi;exact hne (Option.some.inj hi).symm)]
  exact hi
theorem Lu (b:Nat) (mst:Int) (vl vt:Value) (L:List RN) (c:Int) (hc:c≤990000) (hok:Dv (L.map RN.a) c) (j:Nat) (N:RN) (hx:L[j]?=some N) (n g:Int) (hh:N.a.h=(n,g))  : Ao Tryz.prog 71 #[Pp b,Hg n g] [Rt b mst vl vt,rRL vl L] (fun u L'=>∃ v' L2,L2.map RN.a=C7 (L.map RN.a) (n,g)∧(∀ K∈L,K.a.kind=2→K.a.h≠(n,g)→K∈L2)∧L'=[Rt b mst v' vt,rRL v' L2]):=by
 have hl:=hok.hl
 have hnod:=hok.hnod
 have hent:=hok.hent
 have hfew:=hok.hfew
 have hrg:=hok.at_rng hx
 refine Zo 23 Tryz.func71 fun E w0 w h=>?_
 refine Qs (ZN [Ii n,Ii g] 34 h fun k1 w h=>Qm (ZP (Pp b) (ZG h (Gla 0 [Ii n,Ii g] 0) (ZC [1,1] (Cq b mst vl vt L (by omega) hnod j N hx n g hh) h fun w h=>ZP (Pp N.nb) (Qu (ZP (Pp N.nb) (ZP (Pp N.nb) (ZP (Pt N.nb 2) (ZG h (Gr 2 (Ii N.a.kind) 1 rfl (B5 hx 2 (by kernel_rfl))) (ZP (.bool (decide (N.a.kind=2))) (Qn (Zd (N.a.kind=2) (fun hc2=>?_) fun hc2=>?_))))))))))))
 refine Qs (ZP (Pp b) (ZG h (Gla 0 [Ii n,Ii g] 2) ?_))
 refine ZD [0,0] (Xc b mst vl vt L c (by omega) hok n g) h ?_;rintro u4 L_ w ⟨v3,rfl⟩ h
 refine Qr (Ap (ZR [] [0,0] h ?_))
 refine ⟨_,_,?_,fun K hK _ hne=>List.mem_filter.2 ⟨hK,by simp [hne]⟩,rfl⟩
 rw [Pg (p:=fun N=>!(N.h==(n,g)))]
 unfold C7
 rw [Ah hnod hx hh]
 simp only [if_pos (show N.a.kind=2 by omega)]
 rfl
 refine Ks (ZP (Pp N.nb) (ZP (Pp N.nb) (ZP (Pt N.nb 3) (ZG h (Gr 3 (Ii N.a.change) 1 rfl (B5 hx 3 (by kernel_rfl))) (ZG h (Gw (N.a.change+1)) (ZP (Pp N.nb) (ZP (Pt N.nb 3) ?_)))))))
 refine Fh rfl (b:=N.nb) 3 [Ii (N.a.change+1)] h 1 rfl (by kernel_rfl) (Lq hx 3 [Ii (N.a.change+1)] (Rw N N.ve (N.a.change+1) N.a.es) (Nat.le_of_ble_eq_true (by kernel_rfl)) (by kernel_rfl) rfl rfl rfl rfl rfl) ?_;intro w h
 have hx5:=Cg (Rw N N.ve (N.a.change+1) N.a.es) hx
 refine Qn (Ai (ZP (Pp b) ?_))
 refine ZD [0,0] (Nj b mst vl vt (L.set j (Rw N N.ve (N.a.change+1) N.a.es)) (c+1) (by omega) ((hok.mono (d:=c+1) (by omega)).setC (N':=(Rw N N.ve (N.a.change+1) N.a.es)) hx rfl rfl (by have:=hok.at_rng hx;exact ⟨by show 0≤N.a.change+1;omega,by show N.a.change+1≤c+1;omega,by show 0≤N.a.pins;omega,by show N.a.pins≤c+1;omega⟩))) h ?_;rintro u7 L_ w ⟨v6,rfl⟩ h
 refine Dj (ZR [] [0,0] h ?_)
 refine ⟨_,_,?_,fun K hK hk hne=>List.mem_filter.2 ⟨V2 hx hK (fun e=>hne (by rw [e];exact hh)),by unfold El;simp [hk]⟩,rfl⟩
 have hS:(L.set j (Rw N N.ve (N.a.change+1) N.a.es)).map RN.a=Ar (L.map RN.a) (n,g):=Da hnod hx hh rfl
 rw [Pg (p:=El ((L.set j (Rw N N.ve (N.a.change+1) N.a.es)).map RN.a)),hS]
 unfold C7
 rw [Ah hnod hx hh]
 simp only [if_neg (show ¬N.a.kind=2 by omega)]
 rfl
theorem Own.rlAdd {w0 w:World} {E:Ent} {M:List Res} {L:List RN} {v:Value} (N':RN) (h:Own w0 E (F8 N'::rnH N'::rnE N'::Jb L::Bc true v 88 1 ptB (L.map RN.nb++[N'.nb])::M) w):Own w0 E (rRL v (L++[N'])::M) w:=by
  have h1:=h.rnAdd N'
  have e:L.map RN.nb++[N'.nb]=(L++[N']).map RN.nb:=by rw [List.map_append];rfl
  rw [e] at h1
  exact Own.rlClose (h1.perm (List.Perm.swap _ _ _))
theorem K7 {L:List RN} (hn:(L.map fun N=>N.a.h).Nodup) {j:Nat} {N N':RN} (hx:L[j]?=some N) (h:N'.a.h=N.a.h):((L.set j N').map fun N=>N.a.h).Nodup:=by
  rw [List.map_set,h,Iq _ j N.a.h (by rw [List.getElem?_map,hx];rfl)];exact hn
theorem Aen {L:List RN} (hn:(L.map fun N=>N.a.h).Nodup) {k:Nat} (hu:E0 (L.map RN.a) k=false) {N':RN} (h:N'.a.h.1=(k:Int)):((L++[N']).map fun N=>N.a.h).Nodup:=by
  rw [List.map_append]
  refine List.nodup_append.2 ⟨hn,by simp,fun a ha b hb e=>?_⟩
  obtain ⟨M,hM,rfl⟩:=List.mem_map.1 ha
  simp only [List.map_cons,List.map_nil,List.mem_singleton] at hb
  unfold E0 at hu
  rw [List.any_eq_false] at hu
  exact hu M.a (List.mem_map.2 ⟨M,hM,rfl⟩) (decide_eq_true (by rw [e,hb];exact h))
theorem Rl {L:List RN} {i:Nat} {x:RN} (k:Nat) (hx:L[i]?=some x):E0 ((L.take (i+1)).map RN.a) k=(E0 ((L.take i).map RN.a) k||decide (x.a.h.1=(k:Int))):=by
  unfold E0
  rw [List.take_add_one,hx,List.map_append,List.any_append];simp
theorem I4 {ts:List Int} {k:Nat} {x:Int} (hx:ts[k]?=some x):Av ts k=x:=by unfold Av;rw [List.getD_eq_getElem?_getD,hx];rfl
theorem Mq (b most:Nat) (vl vt:Value) (ts:List Int) (L:List RN) (c:Int) (hc:c≤900000) (hok:Dv (L.map RN.a) c) (hts:ts.length=most) (htr:∀ x∈ts,0≤x∧x≤1000000) (hm:most≤300) (n g:Int) (nm:ByteArray) (kind:Int) (hnz:nm.size≤100000)  : Ao Tryz.prog 32 #[Pp b,Hg n g,.string nm,Ii kind] [Rt b most vl vt,Bc true vt 3 1 inC ts,rRL vl L] (fun u L'=>(∃ e:Nat,B4 most (L.map RN.a) (n,g) nm kind=(none,e)∧u=.tuple #[Hg 0 0,Ii e]∧L'=[Rt b most vl vt,Bc true vt 3 1 inC ts,rRL vl L])∨(∃ (kq:Nat) (v':Value) (L2:List RN),B4 most (L.map RN.a) (n,g) nm kind=(some kq,0)∧L2.map RN.a=Gn (L.map RN.a) ts (n,g) nm kind kq∧u=.tuple #[Hg kq (Av ts kq),Ii 0]∧L'=[Rt b most v' vt,Bc true vt 3 1 inC (ts.set kq (Av ts kq+1)),rRL v' L2])):=by
 have hl:=hok.hl
 have hnod:=hok.hnod
 have hent:=hok.hent
 have hfew:=hok.hfew
 refine Zo 122 Tryz.func32 fun E w0 w h=>?_
 refine Qs (ZN [Ii n,Ii g] 34 h fun k1 w h=>ZN [Ii 0,Ii 0] 34 h fun k2 w h=>ZP (Ii 0) (Qm (ZP (Pp b) (ZG h (Gla 0 [Ii n,Ii g] 1) ?_))))
 refine ZD [2,3] (F2 b (most:Int) vl vt L n g (by omega)) h ?_;rintro v_ L_ w (⟨hno8,rfl,rfl⟩|⟨j3,N4,hx5,hh6,hkd7,rfl,rfl⟩|⟨j3,N4,hx5,hh6,hkd7,rfl,rfl⟩) h
 refine ZP (Ii 10) (Qu (ZP (Ii 10) (ZP (.bool false) (Ft (ZP (Ii 10) (ZP (.bool true) (Qg (Qs (ZP (Hg 0 0) (ZP (Ii 10) (ZSs [Ii 0,Ii 0] 2 rfl h fun w h=>ZP (Ii 10) (Qr (Ap ?_)))))))))))))
 refine Bv [Hg 0 0,Ii 10] [0,3,0] h (by kernel_rfl) (C6 0 [Ii 0,Ii 0] (Hg 0 0) 2 rfl (by kernel_rfl) (Dm (by kernel_rfl) C3)) ?_
 exact .inl ⟨10,Xu (E5 hno8),rfl,rfl⟩
 refine ZP (Ii 7) (Qu (ZP (Ii 7) (ZP (.bool false) (Ft (ZP (Ii 7) (ZP (.bool true) (Qg (Qs (ZP (Hg 0 0) (ZP (Ii 7) (ZSs [Ii 0,Ii 0] 2 rfl h fun w h=>ZP (Ii 7) (Qr (Ap ?_)))))))))))))
 refine Bv [Hg 0 0,Ii 7] [0,3,0] h (by kernel_rfl) (C6 0 [Ii 0,Ii 0] (Hg 0 0) 2 rfl (by kernel_rfl) (Dm (by kernel_rfl) C3)) ?_
 exact .inl ⟨7,Yo (Ah hnod hx5 hh6) hkd7,rfl,rfl⟩
 refine ZP (Ii 0) (Qu (ZP (Ii 0) (ZP (.bool true) (Qg (Ai (ZP (.string nm) ?_))))))
 refine ZD [] (Ex nm (by omega)) h ?_;rintro v_ L_ w (⟨hnm9,rfl,rfl⟩|⟨hnm9,rfl,rfl⟩) h
 refine ZP (Ii 0) (Qu (ZP (Ii 0) (ZP (.bool false) (Ft (ZP (Ii kind) ?_)))))
 obtain ⟨b10,hb10⟩:=nmB (!(decide (kind=1)))
 refine ZB hb10 (ZP (.bool b10) (ZM1 (v:=Ii kind) b10 h (fun hB=>by subst hB;exact Gp (Ii kind)) ?_))
 obtain ⟨b11,hb11⟩:=nmB (!(decide (kind=2)))
 refine ZM1 (v:=.bool b11) b10 h (fun hB=>by subst hB;exact by subst hb11;exact Ay (v:=.bool (!(decide (kind=2)))) fun _=>by kernel_rfl) ?_
 obtain ⟨b12,hb12⟩:=nmB (b10&&b11)
 refine ZBc b10 hb12 (Qn (Zi (b12) (fun hc13=>?_) fun hc13=>?_))
 have q14:=hb12.symm.trans hc13
 have q15:=aL q14
 have q16:=aR q14
 have q17:=hb10.symm.trans q15
 have q18:(decide (kind=1))=false:=by simpa using q17
 have q18:=dcF q18
 have q19:=hb11.symm.trans q16
 have q20:(decide (kind=2))=false:=by simpa using q19
 have q20:=dcF q20
 have hkd:¬(kind=1∨kind=2):=by subst hb12 hb11 hb10;revert hc13;by_cases c1:kind=1<;>by_cases c2:kind=2<;>simp [c1,c2]
 refine Qs (ZP (Hg 0 0) (ZSs [Ii 0,Ii 0] 2 rfl h fun w h=>ZP (Ii 3) (Qr (Ap ?_))))
 refine Bv [Hg 0 0,Ii 3] [0,3,0] h (by kernel_rfl) (C6 0 [Ii 0,Ii 0] (Hg 0 0) 2 rfl (by kernel_rfl) (Dm (by kernel_rfl) C3)) ?_
 exact .inl ⟨3,X0 (Ah hnod hx5 hh6) hkd7 hnm9 hkd,rfl,rfl⟩
 have q21:=hb12.symm.trans hc13
 have hkd:(kind=1∨kind=2):=by subst hb12 hb11 hb10;revert hc13;by_cases c1:kind=1<;>by_cases c2:kind=2<;>simp [c1,c2]
 refine Ks (ZP (Pp b) (ZG h (Gla 0 [Ii n,Ii g] 3) (ZC [0,0] (Cq b (most:Int) vl vt L (by omega) hnod j3 N4 hx5 n g hh6) h fun w h=>ZP (Pp N4.nb) (Qu (ZP (Pp N4.nb) (ZP (.string nm) ?_))))))
 refine ZD [1] (Ey vl L j3 N4 hx5 nm (by have:=hok.at_few hx5;omega)) h ?_;rintro v_ L_ w (⟨iq22,eq23,he24,hen25,rfl,rfl⟩|⟨hno26,rfl,rfl⟩) h
 have hfliq22:=(List.getElem?_eq_some_iff.1 he24).1
 refine ZP (.bool (decide ((iq22:Int)≥0))) (Qn (Zd ((iq22:Int)≥0) (fun hc27=>?_) fun hc27=>?_))
 refine Qs (ZP (Hg 0 0) (ZSs [Ii 0,Ii 0] 2 rfl h fun w h=>ZP (Ii 6) (Qr (Ap ?_))))
 refine Bv [Hg 0 0,Ii 6] [1,3,0] h (by kernel_rfl) (C6 0 [Ii 0,Ii 0] (Hg 0 0) 2 rfl (by kernel_rfl) (Dm (by kernel_rfl) C3)) ?_
 exact .inl ⟨6,Afu (Ah hnod hx5 hh6) hkd7 hnm9 hkd (Bw (hok.at_nms hx5) he24 hen25),rfl,rfl⟩
 exfalso;omega
 refine ZP (.bool false) (Ft (ZP (Pp N4.nb) (ZP (Pp N4.nb) (ZP (Pt N4.nb 6) (ZG h (Gr 6 N4.ve 0 rfl (B5 hx5 6 (by kernel_rfl))) (ZG h (Dh 107 (by kernel_rfl) 0 rfl (Bo hx5)) (ZP (.bool (decide ((N4.a.es.length:Int)≥60))) (Qn (Zd ((N4.a.es.length:Int)≥60) (fun hc28=>?_) fun hc28=>?_)))))))))
 refine Qs (ZP (Hg 0 0) (ZSs [Ii 0,Ii 0] 2 rfl h fun w h=>ZP (Ii 9) (Qr (Ap ?_))))
 refine Bv [Hg 0 0,Ii 9] [1,3,0] h (by kernel_rfl) (C6 0 [Ii 0,Ii 0] (Hg 0 0) 2 rfl (by kernel_rfl) (Dm (by kernel_rfl) C3)) ?_
 exact .inl ⟨9,Xs (Ah hnod hx5 hh6) hkd7 hnm9 hkd (Gm hno26) (by omega),rfl,rfl⟩
 refine Kw (ZP (Ii 0) (Qn (Au ?_)))
 refine ZL (X:=Nat×(Nat→Value)) [(9,9),(13,16),(50,124)] (fun ⟨kq,J0⟩=>[(12,Ii kq)]) (fun ⟨kq,J0⟩=>J0) (fun ⟨kq,J0⟩=>[rRL vl L,Rt b most vl vt,Rh k2 0 0,Rh k1 n g,Bc true vt 3 1 inC ts]) (fun ⟨kq,J0⟩=>kq≤most∧∀ q,q<kq→E0 (L.map RN.a) q=true) (fun ⟨kq,J0⟩=>most - kq) (fun j=>⟨0,j⟩) ⟨by omega,fun q hq=>by omega⟩ [0,0,0,0,0] h ?_
 rintro ⟨kq,J0⟩ w hG h
 obtain ⟨hkq,hno⟩:kq≤most∧∀ q,q<kq→E0 (L.map RN.a) q=true:=hG
 refine Qt (ZP (Ii kq) (ZP (Pp b) (ZP (Pp b) (ZP (Pp b) (ZG h (Gl 0 (Ii most) 1) (ZP (.bool (decide ((kq:Int)<(most:Int)))) (Qn (Zd ((kq:Int)<(most:Int)) (fun hc29=>?_) fun hc29=>?_))))))))
 refine Kn (Aa (Au (Qs (ZP (.bool false) (Qu (ZP (Ii 0) (Qn (Au ?_))))))))
 refine ZL (X:=Nat×Bool×(Nat→Value)) [(58,79)] (fun ⟨iu,ub,J1⟩=>[(13,.bool ub),(14,Ii iu)]) (fun ⟨iu,ub,J1⟩=>J1) (fun ⟨iu,ub,J1⟩=>[rRL vl L,Rt b most vl vt,Rh k2 0 0,Rh k1 n g,Bc true vt 3 1 inC ts]) (fun ⟨iu,ub,J1⟩=>iu≤L.length∧ub=E0 ((L.take iu).map RN.a) kq) (fun ⟨iu,ub,J1⟩=>L.length - iu) (fun j=>⟨0,false,j⟩) ⟨by omega,rfl⟩ [0,0,0,0,0] h ?_
 rintro ⟨iu,ub,J1⟩ w hG h
 obtain ⟨hiu,hub⟩:iu≤L.length∧ub=E0 ((L.take iu).map RN.a) kq:=hG
 refine Qt (ZP (Ii iu) (ZP (Pp b) (ZP (Pp b) (ZP (Pt b 1) (ZG h (Gl 1 (vl) 1) (ZG h (Dh 88 (by kernel_rfl) 0 rfl Dn) (ZP (.bool (decide ((iu:Int)<(L.length:Int)))) (Qn (Zd ((iu:Int)<(L.length:Int)) (fun hc30=>?_) fun hc30=>?_)))))))))
 refine Kn (Aa (Au (Qs (ZP (Pp b) (ZP (Pp b) (ZP (Pt b 1) (ZG h (Gl 1 (vl) 1) (ZP (Ii iu) ?_))))))))
 have hi31:iu<L.length:=by omega
 obtain ⟨x32,hx33⟩:∃ x,L[iu]?=some x:=⟨_,List.getElem?_eq_getElem hi31⟩
 refine ZG h (Dx (k:=1) 88 iu rfl (by kernel_rfl) hi31 0 rfl Dn) (ZG h (Gr (B2 vl+iu*1) (Pp x32.nb) 0 rfl (Kg Dn Hb hx33 (by kernel_rfl))) (ZP (Pp x32.nb) (ZP (Pp x32.nb) (ZP (Pp x32.nb) (ZG h (Gr 0 (Ii x32.a.h.1) 0 rfl (B5 hx33 0 (by kernel_rfl))) (ZP (Ii kq) (ZP (.bool (decide (x32.a.h.1=(kq:Int)))) (Qn (Zd (x32.a.h.1=(kq:Int)) (fun hc34=>?_) fun hc34=>?_)))))))))
 refine Ai (ZP (.bool true) (Dj ?_))
 refine Ch (Ag ?_)
 refine Ai (ZP (Ii iu) (ZG h (A1 (v:=Ii (IntKind.i64.wrap ((iu:Int)+1))) (v':=Ii ((iu+1:Nat):Int)) (Ay fun _=>by kernel_rfl) (wr (by omega))) (ZP (Ii ((iu+1:Nat):Int)) (Dj ?_))))
 have hQ35:((iu+1)≤L.length∧true=E0 ((L.take (iu+1)).map RN.a) kq)∧(L.length - (iu+1))<(L.length - iu):=⟨⟨by omega,by rw [Rl kq hx33,← hub,decide_eq_true (by omega)];simp⟩,by omega⟩
 refine Bu (fun j=>⟨(iu+1),true,j⟩) hQ35 (by kernel_rfl) [0,0,0,0,0] (by kernel_rfl) h
 refine B3 ?_
 refine Ch (Ag ?_)
 refine Ai (ZP (Ii iu) (ZG h (A1 (v:=Ii (IntKind.i64.wrap ((iu:Int)+1))) (v':=Ii ((iu+1:Nat):Int)) (Ay fun _=>by kernel_rfl) (wr (by omega))) (ZP (Ii ((iu+1:Nat):Int)) (Dj ?_))))
 have hQ36:((iu+1)≤L.length∧ub=E0 ((L.take (iu+1)).map RN.a) kq)∧(L.length - (iu+1))<(L.length - iu):=⟨⟨by omega,by rw [Rl kq hx33,← hub,decide_eq_false (by omega)];simp⟩,by omega⟩
 refine Bu (fun j=>⟨(iu+1),ub,j⟩) hQ36 (by kernel_rfl) [0,0,0,0,0] (by kernel_rfl) h
 refine Dk (Ea (Et (Ep (Ag (Qt (ZP (.bool ub) (Qn (Zi (ub) (fun hc37=>?_) fun hc37=>?_))))))))
 have hus:E0 (L.map RN.a) kq=true:=by rw [List.take_of_length_le (by omega)] at hub;rw [← hub];exact hc37
 refine Dk (Ea (Ep (Ag (Ai (ZP (Ii kq) (ZG h (A1 (v:=Ii (IntKind.i64.wrap ((kq:Int)+1))) (v':=Ii ((kq+1:Nat):Int)) (Ay fun _=>by kernel_rfl) (wr (by omega))) (ZP (Ii ((kq+1:Nat):Int)) (Dj ?_))))))))
 have hQ38:((kq+1)≤most∧∀ q,q<(kq+1)→E0 (L.map RN.a) q=true)∧(most - (kq+1))<(most - kq):=⟨⟨by omega,fun q hq=>by by_cases e:q=kq;(subst e;exact hus);exact hno q (by omega)⟩,by omega⟩
 refine Bu (fun j=>⟨(kq+1),j⟩) hQ38 (by kernel_rfl) [0,0,0,0,0] (by kernel_rfl) h
 have hus:E0 (L.map RN.a) kq=false:=by rw [List.take_of_length_le (by omega)] at hub;rw [← hub];exact hc37
 refine Ks (ZP (Ii kq) (ZP (Pp b) (ZP (Pp b) (ZP (Pt b 2) (ZG h (Gl 2 (vt) 1) (ZP (Ii kq) ?_))))))
 have hi39:kq<ts.length:=by omega
 obtain ⟨x40,hx41⟩:∃ x,ts[kq]?=some x:=⟨_,List.getElem?_eq_getElem hi39⟩
 have htb:=htr x40 (List.mem_of_getElem? hx41)
 refine ZG h (G2 kq (by kernel_rfl) hi39 4 rfl) (ZG h (Gr (B2 vt+kq*1) (Ii x40) 4 rfl (Fz Oa hx41 (by kernel_rfl))) (ZP (Hg kq x40) (ZN [Ii 0,Ii 0] 34 h fun k42 w h=>ZSs [Ii kq,Ii x40] 0 rfl h fun w h=>Qm ?_)))
 have h:=(h.pkr [1]).rlOpen
 refine ZP (Pp b) (ZP (Pp b) (ZP (Pt b 2) (ZG h (Gl 2 (vt) 3) (ZP (Ii kq) (ZG h (G2 kq (by kernel_rfl) hi39 6 rfl) (ZG h (Gr (B2 vt+kq*1) (Ii x40) 6 rfl (Fz Oa hx41 (by kernel_rfl))) (ZG h (Gw (x40+1)) (ZG h (G2 kq (by kernel_rfl) hi39 6 rfl) ?_))))))))
 refine Fh rfl (b:=Du vt) (B2 vt+kq*1) [Ii (x40+1)] h 6 rfl (by kernel_rfl) (Yq Oa hx41 0 (x40+1) (by kernel_rfl) (by kernel_rfl)) ?_;intro w h
 refine Qn (Aa (Ds 11 [2,2] h fun w h=>Dp 0 496 (Pp b) [2,2] h (Dp 1 497 (Pp b) [2,2] h (Dp 2 499 (Pt b 1) [2,2] h (Dq 3 503 [2,2] rfl h (Gl 1 (vl) 1) (Dq 4 47 [2,2] rfl h (Gla 0 [Ii kq,Ii x40] 0) (Dp 5 31 (Ii kind) [2,2] h (Dp 6 63 (.agg #[Ii kq,Ii x40,Ii kind,Ii 0,.string (⟨#[]⟩:ByteArray),.slice none 0 0,.slice none 0 0,Ii 0]) [2,2] h ?_))))))))
 refine Ax [7] (by kernel_rfl) rfl ?_
 refine B9 [3,3] rfl (by kernel_rfl) (fun b=>Pp b) [Ii kq,Ii x40,Ii kind,Ii 0,.string (⟨#[]⟩:ByteArray),.slice none 0 0,.slice none 0 0,Ii 0] 93 (fun _=>by kernel_rfl) h ?_ ?_
 intro k43 w h;refine ⟨by kernel_rfl,?_⟩
 refine Ax [8] (by kernel_rfl) rfl ?_
 refine B9 [4,4] rfl (by kernel_rfl) (fun b=>.slice (some ⟨b,0,none⟩) 1 1) [Pp k43] 88 (fun _=>by kernel_rfl) h ?_ ?_
 intro k44 w h;refine ⟨by kernel_rfl,?_⟩
 refine Ax [9] (by kernel_rfl) rfl ?_
 refine Abf (b:=k44) (o:=0) [4,4] rfl (by kernel_rfl) 1 k43 (by kernel_rfl) h 2 rfl 0 rfl (Fn 0 (by kernel_rfl)) (by (try simp only [List.length_append,List.length_cons,List.length_nil,List.length_map]);omega) ?_ ?_
 intro v45 w h;refine ⟨by kernel_rfl,?_⟩
 refine Dp 10 1023 v45 [4,4] h (Dd (Ag (Qs (ZP (Pp b) (ZP v45 (ZP (Pp b) (ZP (Pt b 1) ?_)))))))
 refine Ji rfl (h.slv 2 rfl) 1 [Ii most,v45,vt] h 5 rfl (by kernel_rfl) ?_;intro w h
 refine Qm ?_
 have h:=((h.nilRows 107 3 e3C).nilRows 4 1 hlC).pkr [3,0,0,2,1]
 have htx:Av ts kq=x40:=I4 hx41
 have h:=Own.rlAdd (L:=L) (⟨k43,.slice none 0 0,.slice none 0 0,C4 ((kq:Int),x40) kind⟩:RN) h
 have hx46:(L++[(⟨k43,.slice none 0 0,.slice none 0 0,C4 ((kq:Int),x40) kind⟩:RN)])[j3]?=some N4:=by rw [List.getElem?_append_left (List.getElem?_eq_some_iff.1 hx5).1];exact hx5
 have hrg:=hok.at_rng hx5
 refine ZP (Pp N4.nb) (ZP (.string nm) (ZG h (Gla 0 [Ii kq,Ii x40] 2) ?_))
 refine ZD [0] (G6 v45 (L++[(⟨k43,.slice none 0 0,.slice none 0 0,C4 ((kq:Int),x40) kind⟩:RN)]) j3 N4 hx46 nm (kq:Int) x40 (by have:=hok.at_few hx5;omega)) h ?_;rintro u48 L_ w ⟨v47,rfl⟩ h
 have hx49:=Cg (Rx N4 v47 (Bk nm ((kq:Int),x40) N4.a.es)) hx46
 refine Qm (ZP (Pp N4.nb) (ZP (Pp N4.nb) (ZP (Pt N4.nb 3) (ZG h (Gr 3 (Ii N4.a.change) 0 rfl (B5 hx49 3 (by kernel_rfl))) (ZG h (Gw (N4.a.change+1)) (ZP (Pp N4.nb) (ZP (Pt N4.nb 3) ?_)))))))
 refine Fh rfl (b:=N4.nb) 3 [Ii (N4.a.change+1)] h 0 rfl (by kernel_rfl) (Lq hx49 3 [Ii (N4.a.change+1)] (Rw N4 v47 (N4.a.change+1) (Bk nm ((kq:Int),x40) N4.a.es)) (Nat.le_of_ble_eq_true (by kernel_rfl)) (by kernel_rfl) rfl rfl rfl rfl rfl) ?_;intro w h
 have hx50:=Cg (Rw N4 v47 (N4.a.change+1) (Bk nm ((kq:Int),x40) N4.a.es)) hx49
 refine Qm (ZG h (Gla 0 [Ii kq,Ii x40] 2) (ZSs [Ii kq,Ii x40] 4 rfl h fun w h=>ZP (Ii 0) (Qr (Cj (Ap (M8 (Cj (Ap ?_))))))))
 refine Bv [Hg kq x40,Ii 0] [3,5,0] h (by kernel_rfl) (C6 0 [Ii kq,Ii x40] (Hg kq x40) 4 rfl (by kernel_rfl) (Dm (by kernel_rfl) C3)) ?_
 have hnA:=Aen hnod hus (N':=(⟨k43,.slice none 0 0,.slice none 0 0,C4 ((kq:Int),x40) kind⟩:RN)) rfl
 have hT1:((L++[(⟨k43,.slice none 0 0,.slice none 0 0,C4 ((kq:Int),x40) kind⟩:RN)]).set j3 (Rx N4 v47 (Bk nm ((kq:Int),x40) N4.a.es))).map RN.a=Aw ((L++[(⟨k43,.slice none 0 0,.slice none 0 0,C4 ((kq:Int),x40) kind⟩:RN)]).map RN.a) (n,g) nm ((kq:Int),x40):=Da hnA hx46 hh6 rfl
 have hnB:=K7 hnA hx46 (N':=(Rx N4 v47 (Bk nm ((kq:Int),x40) N4.a.es))) rfl
 have hT2:(((L++[(⟨k43,.slice none 0 0,.slice none 0 0,C4 ((kq:Int),x40) kind⟩:RN)]).set j3 (Rx N4 v47 (Bk nm ((kq:Int),x40) N4.a.es))).set j3 (Rw N4 v47 (N4.a.change+1) (Bk nm ((kq:Int),x40) N4.a.es))).map RN.a=Ar (((L++[(⟨k43,.slice none 0 0,.slice none 0 0,C4 ((kq:Int),x40) kind⟩:RN)]).set j3 (Rx N4 v47 (Bk nm ((kq:Int),x40) N4.a.es))).map RN.a) (n,g):=Da hnB hx49 hh6 rfl
 refine .inr ⟨kq,v45,((L++[(⟨k43,.slice none 0 0,.slice none 0 0,C4 ((kq:Int),x40) kind⟩:RN)]).set j3 (Rx N4 v47 (Bk nm ((kq:Int),x40) N4.a.es))).set j3 (Rw N4 v47 (N4.a.change+1) (Bk nm ((kq:Int),x40) N4.a.es)),Ac2 (Ah hnod hx5 hh6) hkd7 hnm9 hkd (Gm hno26) (by omega) (Add (by omega) hus hno),?_,?_,?_⟩
 · rw [hT2,hT1,List.map_append,← htx];rfl
 · rw [htx];rfl
 · rw [htx];rfl
 exact A6
 exact A6
 exact A6
 refine Dk (Ea (Et (Ep (Ag (Qs (ZP (Hg 0 0) (ZSs [Ii 0,Ii 0] 2 rfl h fun w h=>ZP (Ii 9) (Qr ?_))))))))
 refine Bv [Hg 0 0,Ii 9] [1,3,0] h (by kernel_rfl) (C6 0 [Ii 0,Ii 0] (Hg 0 0) 2 rfl (by kernel_rfl) (Dm (by kernel_rfl) C3)) ?_
 exact .inl ⟨9,Adr (Ah hnod hx5 hh6) hkd7 hnm9 hkd (Gm hno26) (by omega) (Abq fun q hq=>hno q (by omega)),rfl,rfl⟩
 refine ZP (Ii 4) (Qu (ZP (Ii 4) (ZP (.bool true) (Qg (Qs (ZP (Hg 0 0) (ZP (Ii 4) (ZSs [Ii 0,Ii 0] 2 rfl h fun w h=>ZP (Ii 4) (Qr (Ap ?_))))))))))
 refine Bv [Hg 0 0,Ii 4] [0,3,0] h (by kernel_rfl) (C6 0 [Ii 0,Ii 0] (Hg 0 0) 2 rfl (by kernel_rfl) (Dm (by kernel_rfl) C3)) ?_
 exact .inl ⟨4,Xr (Ah hnod hx5 hh6) hkd7 hnm9,rfl,rfl⟩
theorem Ae7 {L:List RN} {i j:Nat} {M N:RN} (h1:L[i]?=some M) (h2:L[j]?=some N) (h:M.a.kind≠N.a.kind):i≠j:=fun e=>by
  subst e;rw [h1] at h2;cases h2;exact h rfl
theorem M1 {es:List Bm} {i:Nat} {e:Bm} (h:e∈es.eraseIdx i):e∈es:=(List.eraseIdx_sublist es i).subset h
theorem Dv.leave {L:List RN} {c:Int} (hok:Dv (L.map RN.a) c) {j:Nat} {N:RN} (hx:L[j]?=some N) (i:Nat) (v:Value):Dv ((L.set j (Rx N v (N.a.es.eraseIdx i))).map RN.a) c:=by
  have hm:N.a∈L.map RN.a:=List.mem_map.2 ⟨N,List.mem_of_getElem? hx,rfl⟩
  exact hok.setN hx rfl (fun e he=>hok.ent N.a hm e (M1 he)) (Nat.le_trans (List.eraseIdx_sublist _ _).length_le (hok.few N.a hm)) (((List.eraseIdx_sublist N.a.es i).map (·.1)).nodup (hok.nms N.a hm)) (hok.rng N.a hm)
theorem Dv.touch {L:List RN} {c:Int} (hok:Dv (L.map RN.a) c) {j:Nat} {N N':RN} (hx:L[j]?=some N) (h:N'.a=⟨N.a.h,N.a.kind,N.a.change+1,N.a.s,N.a.holes,N.a.es,N.a.pins⟩):Dv ((L.set j N').map RN.a) (c+1):=by
  have hr:=hok.at_rng hx
  exact (hok.mono (d:=c+1) (by omega)).setC hx (by rw [h]) (by rw [h]) (by rw [h];exact ⟨by show 0≤N.a.change+1;omega,by show N.a.change+1≤c+1;omega,by show 0≤N.a.pins;omega,by show N.a.pins≤c+1;omega⟩)
theorem Hm {L:List RN} {c:Int} (hok:Dv (L.map RN.a) c) {j:Nat} {N:RN} (hx:L[j]?=some N) {h:Hdl} (hh:N.a.h=h) {i:Nat} {e:Bm} (he:N.a.es[i]?=some e) {nm:ByteArray} (hn:e.1=nm) (v:Value):(L.set j (Rx N v (N.a.es.eraseIdx i))).map RN.a=Al (L.map RN.a) h nm:=
  Da hok.hnod hx hh (by show (⟨N.a.h,N.a.kind,N.a.change,N.a.s,N.a.holes,N.a.es.eraseIdx i,N.a.pins⟩:AN)=_;rw [Or (hok.at_nms hx) he hn])
theorem Afq {L:List RN} {c:Int} (hok:Dv (L.map RN.a) c) {h:Hdl} {nm:ByteArray} (he:(A9 (L.map RN.a) h nm).2=0):∃ (j:Nat) (N:RN) (i:Nat) (e:Bm) (jK:Nat) (K:RN),L[j]?=some N∧N.a.h=h∧N.a.es[i]?=some e∧e.1=nm∧e.2=(A9 (L.map RN.a) h nm).1∧L[jK]?=some K∧K.a.h=(A9 (L.map RN.a) h nm).1:=by
  unfold A9 at he ⊢
  split at he
  · exact absurd he (by decide)
  · rename_i M hM
    split at he
    · rename_i hkd
      split at he
      · rename_i hnm
        split at he
        · rename_i x hx
          obtain ⟨A,hA,rfl⟩:∃ N∈L,N.a=M:=by
            unfold Br at hM
            exact List.mem_map.1 (List.mem_of_find?_eq_some hM)
          have hAh:A.a.h=h:=by
            have:=List.find?_some hM
            simpa using this
          obtain ⟨j,hj⟩:=List.getElem?_of_mem hA
          unfold Ek at hx
          obtain ⟨e,he1,rfl⟩:=Option.map_eq_some_iff.1 hx
          obtain ⟨i,hi⟩:=List.getElem?_of_mem (List.mem_of_find?_eq_some he1)
          have hen:e.1=nm:=by have:=List.find?_some he1;simpa using this
          obtain ⟨K,hK,hKh⟩:=hok.hent A hA e (List.mem_of_find?_eq_some he1)
          obtain ⟨jK,hjK⟩:=List.getElem?_of_mem hK
          have hS:(if A.a.kind=2 then if H6 nm=0 then ((e.2,0):Hdl×Nat) else ((0,0),4) else ((0,0),7))=(e.2,0):=by rw [if_pos hkd,if_pos hnm]
          exact ⟨j,A,i,e,jK,K,hj,hAh,hi,hen,(congrArg Prod.fst hS).symm,hjK,hKh.trans (congrArg Prod.fst hS).symm⟩
        · exact absurd he (by decide)
      · exact absurd he (by decide)
    · exact absurd he (by decide)
theorem V9 {L:List RN} {j k:Nat} {N N' K:RN} (hx:L[j]?=some N) (h1:N'.a.h=N.a.h) (hk:L[k]?=some K) {x:Hdl} (hK:K.a.h=x):∃ K',(L.set j N')[k]?=some K'∧K'.a.h=x:=by
  by_cases e:j=k
  · subst e;rw [hx] at hk;cases hk
    exact ⟨N',List.getElem?_set_self (List.getElem?_eq_some_iff.1 hx).1,h1.trans hK⟩
  · exact ⟨K,by rw [List.getElem?_set_ne e];exact hk,hK⟩
section
variable (b:Nat) (mst:Int) (vl vt:Value) (L:List RN) (c:Int) (hc:c≤900000) (hok:Dv (L.map RN.a) c)
include b mst vl vt L c hc hok
theorem Xb (n g m f:Int) (nm:ByteArray) (hnz:nm.size≤100000):Ao Tryz.prog 34 #[Pp b,Hg n g,Hg m f,.string nm] [Rt b mst vl vt,rRL vl L] (fun u L'=>∃ L2:List RN,L2.map RN.a=(if C1 (L.map RN.a) (n,g) (m,f) nm=0 then Lh (L.map RN.a) (n,g) (m,f) nm else (L.map RN.a))∧u=Ii ((C1 (L.map RN.a) (n,g) (m,f) nm:Nat):Int)∧L'=[Rt b mst vl vt,rRL vl L2]):=by
 have hl:=hok.hl
 have hnod:=hok.hnod
 have hent:=hok.hent
 have hfew:=hok.hfew
 refine Zo 65 Tryz.func34 fun E w0 w h=>?_
 refine Qs (ZN [Ii n,Ii g] 34 h fun k1 w h=>ZN [Ii m,Ii f] 34 h fun k2 w h=>ZP (Ii 0) (Qm (ZP (Pp b) (ZG h (Gla 0 [Ii n,Ii g] 1) ?_))))
 refine ZD [2,2] (Km b mst vl vt L n g (by omega)) h ?_;rintro v_ L_ w (⟨j3,N4,hx5,hh6,rfl,rfl⟩|⟨hno7,rfl,rfl⟩) h
 refine ZP (Pp N4.nb) (Qu (ZP (Pp N4.nb) (ZP (.bool false) (Fs (ZP (Pp b) (ZG h (Gla 0 [Ii m,Ii f] 2) ?_))))))
 refine ZD [0,0] (F2 b mst vl vt L m f (by omega)) h ?_;rintro v_ L_ w (⟨hno13,rfl,rfl⟩|⟨j8,N9,hx10,hh11,hkd12,rfl,rfl⟩|⟨j8,N9,hx10,hh11,hkd12,rfl,rfl⟩) h
 refine ZP (Ii 10) (Qu (ZP (Ii 10) (ZP (.bool false) (Ft (ZP (Ii 10) (ZP (.bool true) (Qg (Qs (ZP (Ii 10) (ZP (Ii 10) (Qr (Ap (ZR [Ii 10] [0,0] h ?_)))))))))))))
 have hT:=tK_d (A:=L.map RN.a) (x:=(n,g)) (d:=(m,f)) (nm:=nm) (Ah hnod hx5 hh6) (E5 hno13)
 exact ⟨L,by rw [hT];rfl,by rw [hT];rfl,rfl⟩
 refine ZP (Ii 7) (Qu (ZP (Ii 7) (ZP (.bool false) (Ft (ZP (Ii 7) (ZP (.bool true) (Qg (Qs (ZP (Ii 7) (ZP (Ii 7) (Qr (Ap (ZR [Ii 7] [0,0] h ?_)))))))))))))
 have hT:=Yk (A:=L.map RN.a) (x:=(n,g)) (d:=(m,f)) (nm:=nm) (Ah hnod hx5 hh6) (Ah hnod hx10 hh11) hkd12
 exact ⟨L,by rw [hT];rfl,by rw [hT];rfl,rfl⟩
 refine ZP (Ii 0) (Qu (ZP (Ii 0) (ZP (.bool true) (Qg (Ai (ZP (.string nm) ?_))))))
 refine ZD [] (Ex nm (by omega)) h ?_;rintro v_ L_ w (⟨hnm14,rfl,rfl⟩|⟨hnm14,rfl,rfl⟩) h
 refine ZP (Ii 0) (Qu (ZP (Ii 0) (ZP (.bool false) (Ft (ZP (Pp N4.nb) (ZP (Pp N4.nb) (ZP (Pt N4.nb 2) (ZG h (Gr 2 (Ii N4.a.kind) 1 rfl (B5 hx5 2 (by kernel_rfl))) (ZP (.bool (decide (N4.a.kind=2))) (Qn (Zd (N4.a.kind=2) (fun hc15=>?_) fun hc15=>?_)))))))))))
 refine Qs (ZP (Ii 8) (Qr (Ap (ZR [Ii 8] [0,0] h ?_))))
 have hT:=Aa1 (A:=L.map RN.a) (x:=(n,g)) (d:=(m,f)) (nm:=nm) (Ah hnod hx5 hh6) (Ah hnod hx10 hh11) hkd12 hnm14 (by omega)
 exact ⟨L,by rw [hT];rfl,by rw [hT];rfl,rfl⟩
 refine Ks (ZP (Pp b) (ZG h (Gla 0 [Ii m,Ii f] 2) (ZC [0,0] (Cq b mst vl vt L (by omega) hnod j8 N9 hx10 m f hh11) h fun w h=>ZP (Pp N9.nb) (Qu (ZP (Pp N9.nb) (ZP (.string nm) ?_))))))
 refine ZD [1] (Ey vl L j8 N9 hx10 nm (by have:=hok.at_few hx10;omega)) h ?_;rintro v_ L_ w (⟨iq16,eq17,he18,hen19,rfl,rfl⟩|⟨hno20,rfl,rfl⟩) h
 have hfliq16:=(List.getElem?_eq_some_iff.1 he18).1
 refine ZP (.bool (decide ((iq16:Int)≥0))) (Qn (Zd ((iq16:Int)≥0) (fun hc21=>?_) fun hc21=>?_))
 refine Qs (ZP (Ii 6) (Qr (Ap (ZR [Ii 6] [1,0] h ?_))))
 have hT:=Af4 (A:=L.map RN.a) (x:=(n,g)) (d:=(m,f)) (nm:=nm) (Ah hnod hx5 hh6) (Ah hnod hx10 hh11) hkd12 hnm14 (by omega) (Bw (hok.at_nms hx10) he18 hen19)
 exact ⟨L,by rw [hT];rfl,by rw [hT];rfl,rfl⟩
 exfalso;omega
 refine ZP (.bool false) (Ft (ZP (Pp N9.nb) (ZP (Pp N9.nb) (ZP (Pt N9.nb 6) (ZG h (Gr 6 N9.ve 0 rfl (B5 hx10 6 (by kernel_rfl))) (ZG h (Dh 107 (by kernel_rfl) 0 rfl (Bo hx10)) ?_))))))
 obtain ⟨b22,hb22⟩:=nmB (decide ((N9.a.es.length:Int)≥60))
 refine ZB hb22 (ZP (.bool b22) (ZM0 (v:=Pp b) b22 h (fun hB=>by subst hB;exact Gp (Pp b)) (ZM0 (v:=Pp N4.nb) b22 h (fun hB=>by subst hB;exact Gp (Pp N4.nb)) ?_)))
 rcases Bool.eq_false_or_eq_true b22 with hc23|hc23
 subst hc23
 have q24:=hb22.symm
 have q24:=dcT q24
 refine Zx (Zx (ZP (.bool true) (Qg (Qs (ZP (Ii 9) (Qr (Ap (ZR [Ii 9] [1,0] h ?_))))))))
 have hT:=N5 (A:=L.map RN.a) (x:=(n,g)) (d:=(m,f)) (nm:=nm) (Ah hnod hx5 hh6) (Ah hnod hx10 hh11) hkd12 hnm14 (by omega) (Gm hno20) (by omega)
 exact ⟨L,by rw [hT];rfl,by rw [hT];rfl,rfl⟩
 subst hc23
 have q25:=hb22.symm
 have q25:=dcF q25
 refine ZC [1,0] (Ix b mst vl vt L (by omega) hnod hent hfew j3 N4 hx5) h fun w h=>?_
 obtain ⟨b26,hb26⟩:=nmB (decide (Bf (L.map RN.a) N4.a≥8))
 refine ZB hb26 (ZP (.bool b26) (Qn (Zi (b26) (fun hc27=>?_) fun hc27=>?_)))
 have q28:=hb26.symm.trans hc27
 have q28:=dcT q28
 refine Qs (ZP (Ii 9) (Qr (Ap (ZR [Ii 9] [0,0] h ?_))))
 have hT:=N5 (A:=L.map RN.a) (x:=(n,g)) (d:=(m,f)) (nm:=nm) (Ah hnod hx5 hh6) (Ah hnod hx10 hh11) hkd12 hnm14 (by omega) (Gm hno20) (by omega)
 exact ⟨L,by rw [hT];rfl,by rw [hT];rfl,rfl⟩
 have q29:=hb26.symm.trans hc27
 have q29:=dcF q29
 refine Ks ?_
 have hne:=Ae7 hx5 hx10 (by omega)
 have hrX:=hok.at_rng hx5
 have hrD:=hok.at_rng hx10
 refine ZP (Pp N9.nb) (ZP (.string nm) (ZG h (Gla 0 [Ii n,Ii g] 3) ?_))
 refine ZD [1] (G6 vl L j8 N9 hx10 nm n g (by have:=hok.at_few hx10;omega)) h ?_;rintro u31 L_ w ⟨v30,rfl⟩ h
 have hx32:=Cg (Rx N9 v30 (Bk nm (n,g) N9.a.es)) hx10
 have hx33:(L.set j8 (Rx N9 v30 (Bk nm (n,g) N9.a.es)))[j3]?=some N4:=by rw [List.getElem?_set_ne (Ne.symm hne)];exact hx5
 refine Qm (ZP (Pp N9.nb) (ZP (Pp N9.nb) (ZP (Pt N9.nb 3) (ZG h (Gr 3 (Ii N9.a.change) 0 rfl (B5 hx32 3 (by kernel_rfl))) (ZG h (Gw (N9.a.change+1)) (ZP (Pp N9.nb) (ZP (Pt N9.nb 3) ?_)))))))
 refine Fh rfl (b:=N9.nb) 3 [Ii (N9.a.change+1)] h 0 rfl (by kernel_rfl) (Lq hx32 3 [Ii (N9.a.change+1)] (Rw N9 v30 (N9.a.change+1) (Bk nm (n,g) N9.a.es)) (Nat.le_of_ble_eq_true (by kernel_rfl)) (by kernel_rfl) rfl rfl rfl rfl rfl) ?_;intro w h
 have hx34:=Cg (Rw N9 v30 (N9.a.change+1) (Bk nm (n,g) N9.a.es)) hx32
 have hx35:((L.set j8 (Rx N9 v30 (Bk nm (n,g) N9.a.es))).set j8 (Rw N9 v30 (N9.a.change+1) (Bk nm (n,g) N9.a.es)))[j3]?=some N4:=by rw [List.getElem?_set_ne (Ne.symm hne)];exact hx33
 refine Qm (ZP (Pp N4.nb) (ZP (Pp N4.nb) (ZP (Pt N4.nb 3) (ZG h (Gr 3 (Ii N4.a.change) 0 rfl (B5 hx35 3 (by kernel_rfl))) (ZG h (Gw (N4.a.change+1)) (ZP (Pp N4.nb) (ZP (Pt N4.nb 3) ?_)))))))
 refine Fh rfl (b:=N4.nb) 3 [Ii (N4.a.change+1)] h 0 rfl (by kernel_rfl) (Lq hx35 3 [Ii (N4.a.change+1)] (Rw N4 N4.ve (N4.a.change+1) N4.a.es) (Nat.le_of_ble_eq_true (by kernel_rfl)) (by kernel_rfl) rfl rfl rfl rfl rfl) ?_;intro w h
 have hx36:=Cg (Rw N4 N4.ve (N4.a.change+1) N4.a.es) hx35
 have hx37:(((L.set j8 (Rx N9 v30 (Bk nm (n,g) N9.a.es))).set j8 (Rw N9 v30 (N9.a.change+1) (Bk nm (n,g) N9.a.es))).set j3 (Rw N4 N4.ve (N4.a.change+1) N4.a.es))[j8]?=some (Rw N9 v30 (N9.a.change+1) (Bk nm (n,g) N9.a.es)):=by rw [List.getElem?_set_ne hne];exact hx34
 refine Qm (ZP (Ii 0) (Qr (ZR [Ii 0] [1,0] h ?_)))
 have hT:=Afv (A:=L.map RN.a) (x:=(n,g)) (d:=(m,f)) (nm:=nm) (Ah hnod hx5 hh6) (Ah hnod hx10 hh11) hkd12 hnm14 (by omega) (Gm hno20) (by omega)
 have h1:(L.set j8 (Rx N9 v30 (Bk nm (n,g) N9.a.es))).map RN.a=Aw (L.map RN.a) (m,f) nm (n,g):=Da hnod hx10 hh11 rfl
 have hn1:=K7 hnod hx10 (N':=(Rx N9 v30 (Bk nm (n,g) N9.a.es))) rfl
 have hy1:(L.set j8 (Rx N9 v30 (Bk nm (n,g) N9.a.es)))[j8]?=some (Rx N9 v30 (Bk nm (n,g) N9.a.es)):=List.getElem?_set_self (List.getElem?_eq_some_iff.1 hx10).1
 have h2:((L.set j8 (Rx N9 v30 (Bk nm (n,g) N9.a.es))).set j8 (Rw N9 v30 (N9.a.change+1) (Bk nm (n,g) N9.a.es))).map RN.a=Ar ((L.set j8 (Rx N9 v30 (Bk nm (n,g) N9.a.es))).map RN.a) (m,f):=Da hn1 hy1 hh11 rfl
 have hn2:=K7 hn1 hy1 (N':=(Rw N9 v30 (N9.a.change+1) (Bk nm (n,g) N9.a.es))) rfl
 have hz:((L.set j8 (Rx N9 v30 (Bk nm (n,g) N9.a.es))).set j8 (Rw N9 v30 (N9.a.change+1) (Bk nm (n,g) N9.a.es)))[j3]?=some N4:=by rw [List.getElem?_set_ne (Ne.symm hne),List.getElem?_set_ne (Ne.symm hne)];exact hx5
 have h3:(((L.set j8 (Rx N9 v30 (Bk nm (n,g) N9.a.es))).set j8 (Rw N9 v30 (N9.a.change+1) (Bk nm (n,g) N9.a.es))).set j3 (Rw N4 N4.ve (N4.a.change+1) N4.a.es)).map RN.a=Ar (((L.set j8 (Rx N9 v30 (Bk nm (n,g) N9.a.es))).set j8 (Rw N9 v30 (N9.a.change+1) (Bk nm (n,g) N9.a.es))).map RN.a) (n,g):=Da hn2 hz hh6 rfl
 exact ⟨((L.set j8 (Rx N9 v30 (Bk nm (n,g) N9.a.es))).set j8 (Rw N9 v30 (N9.a.change+1) (Bk nm (n,g) N9.a.es))).set j3 (Rw N4 N4.ve (N4.a.change+1) N4.a.es),by rw [hT,h3,h2,h1];rfl,by rw [hT];rfl,rfl⟩
 refine ZP (Ii 4) (Qu (ZP (Ii 4) (ZP (.bool true) (Qg (Qs (ZP (Ii 4) (ZP (Ii 4) (Qr (Ap (ZR [Ii 4] [0,0] h ?_))))))))))
 have hT:=Xt (A:=L.map RN.a) (x:=(n,g)) (d:=(m,f)) (nm:=nm) (Ah hnod hx5 hh6) (Ah hnod hx10 hh11) hkd12 hnm14
 exact ⟨L,by rw [hT];rfl,by rw [hT];rfl,rfl⟩
 refine ZP (.pointer none) (Qu (ZP (.pointer none) (ZP (.bool true) (Qg (Qs (ZP (Ii 10) (Qr (Ap (ZR [Ii 10] [0,0] h ?_)))))))))
 have hT:=tK_x (A:=L.map RN.a) (x:=(n,g)) (d:=(m,f)) (nm:=nm) (E5 hno7)
 exact ⟨L,by rw [hT];rfl,by rw [hT];rfl,rfl⟩
theorem Rz (n g:Int) (nm:ByteArray) (hnz:nm.size≤100000):Ao Tryz.prog 36 #[Pp b,Hg n g,.string nm] [Rt b mst vl vt,rRL vl L] (fun u L'=>∃ (v':Value) (L2:List RN),L2.map RN.a=(if Ci (L.map RN.a) (n,g) nm=0 then D2 (L.map RN.a) (n,g) nm else (L.map RN.a))∧u=Ii ((Ci (L.map RN.a) (n,g) nm:Nat):Int)∧L'=[Rt b mst v' vt,rRL v' L2]):=by
 have hl:=hok.hl
 have hnod:=hok.hnod
 have hent:=hok.hent
 have hfew:=hok.hfew
 refine Zo 43 Tryz.func36 fun E w0 w h=>?_
 refine Qs (ZN [Ii n,Ii g] 34 h fun k1 w h=>ZP (Ii 0) (Qm (ZP (Pp b) (ZG h (Gla 0 [Ii n,Ii g] 0) (ZP (.string nm) (ZC [1,1] (Sw b mst vl vt L c (by omega) hok n g nm (by omega)) h fun w h=>ZP (.tuple #[.agg #[Ii ((A9 (L.map RN.a) (n,g) nm).1.1),Ii ((A9 (L.map RN.a) (n,g) nm).1.2)],Ii ((A9 (L.map RN.a) (n,g) nm).2:Int)]) (ZP (.agg #[Ii ((A9 (L.map RN.a) (n,g) nm).1.1),Ii ((A9 (L.map RN.a) (n,g) nm).1.2)]) (ZP (Ii ((A9 (L.map RN.a) (n,g) nm).2:Int)) (ZN [Ii 0,Ii 0] 34 h fun k2 w h=>ZSs [Ii ((A9 (L.map RN.a) (n,g) nm).1.1),Ii ((A9 (L.map RN.a) (n,g) nm).1.2)] 0 rfl h fun w h=>ZP (Ii ((A9 (L.map RN.a) (n,g) nm).2:Int)) (Qu (ZP (Ii ((A9 (L.map RN.a) (n,g) nm).2:Int)) (ZP (.bool (decide (((A9 (L.map RN.a) (n,g) nm).2:Int)>0))) (Qn (Zd (((A9 (L.map RN.a) (n,g) nm).2:Int)>0) (fun hc3=>?_) fun hc3=>?_))))))))))))))
 refine Qs (ZP (Ii ((A9 (L.map RN.a) (n,g) nm).2:Int)) (ZP (Ii ((A9 (L.map RN.a) (n,g) nm).2:Int)) (Qr (Ap (ZR [Ii ((A9 (L.map RN.a) (n,g) nm).2:Int)] [1,1] h ?_)))))
 have hT:Ci (L.map RN.a) (n,g) nm=(A9 (L.map RN.a) (n,g) nm).2:=if_neg (by omega)
 exact ⟨vl,L,by rw [hT];exact (if_neg (by omega)).symm,by rw [hT];rfl,rfl⟩
 obtain ⟨j,N,i,e,jK,K,hx,hh,he,hen,hE,hxK,hKh⟩:=Afq hok (h:=(n,g)) (nm:=nm) (by omega)
 have hrD:=hok.at_rng hx
 refine Kw (ZP (Pp b) (ZG h (Gla 0 [Ii ((A9 (L.map RN.a) (n,g) nm).1.1),Ii ((A9 (L.map RN.a) (n,g) nm).1.2)] 0) (ZC [1,1] (Cq b mst vl vt L (by omega) hnod jK K hxK ((A9 (L.map RN.a) (n,g) nm).1.1) ((A9 (L.map RN.a) (n,g) nm).1.2) hKh) h fun w h=>ZP (Pp K.nb) (ZP (Pt K.nb 6) (ZG h (Gr 6 K.ve 1 rfl (B5 hxK 6 (by kernel_rfl))) (ZG h (Dh 107 (by kernel_rfl) 1 rfl (Bo hxK)) (ZP (.bool (decide ((K.a.es.length:Int)>0))) (Qn (Zd ((K.a.es.length:Int)>0) (fun hc4=>?_) fun hc4=>?_)))))))))
 refine Qs (ZP (Ii 11) (Qr (Ap (ZR [Ii 11] [0,0] h ?_))))
 have hT0:Ci (L.map RN.a) (n,g) nm=if 0<K.a.es.length then 11 else 0:=by unfold Ci;rw [if_pos (by omega),(Ah hnod hxK hKh)]
 rw [if_pos (by omega)] at hT0
 exact ⟨vl,L,by rw [hT0];rfl,by rw [hT0];rfl,rfl⟩
 refine Ks (ZP (Pp b) (ZG h (Gla 0 [Ii n,Ii g] 3) (ZC [0,0] (Cq b mst vl vt L (by omega) hnod j N hx n g hh) h fun w h=>ZP (Pp N.nb) (Qm (ZP (Pp N.nb) (ZP (Pp N.nb) (ZP (.string nm) ?_)))))))
 refine ZD [1] (Ey vl L j N hx nm (by have:=hok.at_few hx;omega)) h ?_;rintro v_ L_ w (⟨iq5,eq6,he7,hen8,rfl,rfl⟩|⟨hno9,rfl,rfl⟩) h
 have hfliq5:=(List.getElem?_eq_some_iff.1 he7).1
 refine ZD [0] (Fu vl L j N hx iq5 (by have:=hok.at_few hx;omega) (by omega)) h ?_;rintro u11 L_ w ⟨v10,rfl⟩ h
 have hx12:=Cg (Rx N v10 (N.a.es.eraseIdx iq5)) hx
 refine Qm (ZP (Pp N.nb) (ZP (Pp N.nb) (ZP (Pt N.nb 3) (ZG h (Gr 3 (Ii N.a.change) 0 rfl (B5 hx12 3 (by kernel_rfl))) (ZG h (Gw (N.a.change+1)) (ZP (Pp N.nb) (ZP (Pt N.nb 3) ?_)))))))
 refine Fh rfl (b:=N.nb) 3 [Ii (N.a.change+1)] h 0 rfl (by kernel_rfl) (Lq hx12 3 [Ii (N.a.change+1)] (Rw N v10 (N.a.change+1) (N.a.es.eraseIdx iq5)) (Nat.le_of_ble_eq_true (by kernel_rfl)) (by kernel_rfl) rfl rfl rfl rfl rfl) ?_;intro w h
 have hx13:=Cg (Rw N v10 (N.a.change+1) (N.a.es.eraseIdx iq5)) hx12
 refine Qm (ZP (Pp b) (ZG h (Gla 0 [Ii ((A9 (L.map RN.a) (n,g) nm).1.1),Ii ((A9 (L.map RN.a) (n,g) nm).1.2)] 2) ?_))
 have hy1:(L.set j (Rx N v10 (N.a.es.eraseIdx iq5)))[j]?=some (Rx N v10 (N.a.es.eraseIdx iq5)):=List.getElem?_set_self (List.getElem?_eq_some_iff.1 hx).1
 obtain ⟨K1,hK1,hKh1⟩:=V9 (N':=(Rx N v10 (N.a.es.eraseIdx iq5))) hx rfl hxK hKh
 obtain ⟨K2,hK2,hKh2⟩:=V9 (N':=(Rw N v10 (N.a.change+1) (N.a.es.eraseIdx iq5))) hy1 rfl hK1 hKh1
 refine ZD [1,0] (Lu b mst vl vt ((L.set j (Rx N v10 (N.a.es.eraseIdx iq5))).set j (Rw N v10 (N.a.change+1) (N.a.es.eraseIdx iq5))) (c+1) (by omega) ((hok.leave hx _ _).touch (List.getElem?_set_self (List.getElem?_eq_some_iff.1 hx).1) rfl) jK K2 hK2 ((A9 (L.map RN.a) (n,g) nm).1.1) ((A9 (L.map RN.a) (n,g) nm).1.2) hKh2) h ?_;rintro u15 L_ w ⟨v14,L16,hA17,hA17K,rfl⟩ h
 refine Qm (ZP (Ii 0) (Qr (ZR [Ii 0] [0,0] h ?_)))
 have hT0:Ci (L.map RN.a) (n,g) nm=if 0<K.a.es.length then 11 else 0:=by unfold Ci;rw [if_pos (by omega),(Ah hnod hxK hKh)]
 rw [if_neg (by omega)] at hT0
 have h1:(L.set j (Rx N v10 (N.a.es.eraseIdx iq5))).map RN.a=Al (L.map RN.a) (n,g) nm:=Hm hok hx hh he7 hen8 _
 have hn1:=K7 hnod hx (N':=(Rx N v10 (N.a.es.eraseIdx iq5))) rfl
 have h2:((L.set j (Rx N v10 (N.a.es.eraseIdx iq5))).set j (Rw N v10 (N.a.change+1) (N.a.es.eraseIdx iq5))).map RN.a=Ar ((L.set j (Rx N v10 (N.a.es.eraseIdx iq5))).map RN.a) (n,g):=Da hn1 hy1 hh rfl
 exact ⟨v14,L16,by rw [hT0,hA17,h2,h1];rfl,by rw [hT0];rfl,rfl⟩
 exact absurd hen (hno9 e (List.mem_of_getElem? he))
theorem Aal (n g:Int):Ao Tryz.prog 43 #[Pp b,Hg n g] [Rt b mst vl vt,rRL vl L] (fun u L'=>∃ L2:List RN,L2.map RN.a=(if Eq (L.map RN.a) (n,g)=0 then G9 (L.map RN.a) (n,g) 1 else (L.map RN.a))∧u=Ii ((Eq (L.map RN.a) (n,g):Nat):Int)∧L'=[Rt b mst vl vt,rRL vl L2]):=by
 have hl:=hok.hl
 have hnod:=hok.hnod
 have hent:=hok.hent
 have hfew:=hok.hfew
 refine Zo 19 Tryz.func43 fun E w0 w h=>?_
 refine Qs (ZN [Ii n,Ii g] 34 h fun k1 w h=>ZP (Ii 0) (Qm (ZP (Pp b) (ZG h (Gla 0 [Ii n,Ii g] 0) ?_))))
 refine ZD [1,1] (Ij b mst vl vt L n g (by omega)) h ?_;rintro v_ L_ w (⟨hno7,rfl,rfl⟩|⟨j2,N3,hx4,hh5,hkd6,rfl,rfl⟩|⟨j2,N3,hx4,hh5,hkd6,rfl,rfl⟩) h
 refine ZP (Ii 10) (Qu (ZP (Ii 10) (ZP (.bool false) (Fs (ZP (Ii 10) (ZP (Ii 10) (Qr (ZR [Ii 10] [0,0] h ?_))))))))
 have hT:=Xq (A:=L.map RN.a) (h:=(n,g)) (E5 hno7)
 exact ⟨L,by rw [hT];rfl,by rw [hT];rfl,rfl⟩
 refine ZP (Ii 8) (Qu (ZP (Ii 8) (ZP (.bool false) (Fs (ZP (Ii 8) (ZP (Ii 8) (Qr (ZR [Ii 8] [0,0] h ?_))))))))
 have hT:=Ad7 (A:=L.map RN.a) (h:=(n,g)) (Ah hnod hx4 hh5) hkd6
 exact ⟨L,by rw [hT];rfl,by rw [hT];rfl,rfl⟩
 refine ZP (Ii 0) (Qu (ZP (Ii 0) (ZP (.bool true) (Qg (Ai ?_)))))
 have hrD:=hok.at_rng hx4
 refine ZP (Pp b) (ZG h (Gla 0 [Ii n,Ii g] 2) (ZC [0,0] (Cq b mst vl vt L (by omega) hnod j2 N3 hx4 n g hh5) h fun w h=>ZP (Pp N3.nb) (ZP (Pt N3.nb 7) (ZG h (Gr 7 (Ii N3.a.pins) 1 rfl (B5 hx4 7 (by kernel_rfl))) (ZG h (Gw (N3.a.pins+1)) (ZP (Pp N3.nb) (ZP (Pt N3.nb 7) ?_)))))))
 refine Fh rfl (b:=N3.nb) 7 [Ii (N3.a.pins+1)] h 1 rfl (by kernel_rfl) (Lq hx4 7 [Ii (N3.a.pins+1)] (⟨N3.nb,N3.vh,N3.ve,⟨N3.a.h,N3.a.kind,N3.a.change,N3.a.s,N3.a.holes,N3.a.es,N3.a.pins+1⟩⟩:RN) (Nat.le_of_ble_eq_true (by kernel_rfl)) (by kernel_rfl) rfl rfl rfl rfl rfl) ?_;intro w h
 have hx8:=Cg (⟨N3.nb,N3.vh,N3.ve,⟨N3.a.h,N3.a.kind,N3.a.change,N3.a.s,N3.a.holes,N3.a.es,N3.a.pins+1⟩⟩:RN) hx4
 refine Qm (ZP (Ii 0) (ZP (Ii 0) (Qr (ZR [Ii 0] [0,0] h ?_))))
 have hT:=Afs (A:=L.map RN.a) (h:=(n,g)) (Ah hnod hx4 hh5) hkd6
 exact ⟨L.set j2 (⟨N3.nb,N3.vh,N3.ve,⟨N3.a.h,N3.a.kind,N3.a.change,N3.a.s,N3.a.holes,N3.a.es,N3.a.pins+1⟩⟩:RN),by rw [hT];exact Da hnod hx4 hh5 rfl,by rw [hT];rfl,rfl⟩
theorem Ur (n g:Int):Ao Tryz.prog 45 #[Pp b,Hg n g] [Rt b mst vl vt,rRL vl L] (fun u L'=>∃ (v':Value) (L2:List RN),L2.map RN.a=(if Cl (L.map RN.a) (n,g)=0 then G0 (G9 (L.map RN.a) (n,g) (-1)) else (L.map RN.a))∧u=Ii ((Cl (L.map RN.a) (n,g):Nat):Int)∧L'=[Rt b mst v' vt,rRL v' L2]):=by
 have hl:=hok.hl
 have hnod:=hok.hnod
 have hent:=hok.hent
 have hfew:=hok.hfew
 refine Zo 28 Tryz.func45 fun E w0 w h=>?_
 refine Qs (ZN [Ii n,Ii g] 34 h fun k1 w h=>ZP (Ii 0) (Qm (ZP (Pp b) (ZG h (Gla 0 [Ii n,Ii g] 0) ?_))))
 refine ZD [1,1] (Ij b mst vl vt L n g (by omega)) h ?_;rintro v_ L_ w (⟨hno7,rfl,rfl⟩|⟨j2,N3,hx4,hh5,hkd6,rfl,rfl⟩|⟨j2,N3,hx4,hh5,hkd6,rfl,rfl⟩) h
 refine ZP (Ii 10) (Qu (ZP (Ii 10) (ZP (.bool true) (Qg (Qs (ZP (Ii 10) (ZP (Ii 10) (Qr (Ap (ZR [Ii 10] [0,0] h ?_))))))))))
 have hT:Cl (L.map RN.a) (n,g)=10:=by unfold Cl;rw [E5 hno7]
 exact ⟨vl,L,by rw [hT];rfl,by rw [hT];rfl,rfl⟩
 refine ZP (Ii 8) (Qu (ZP (Ii 8) (ZP (.bool true) (Qg (Qs (ZP (Ii 8) (ZP (Ii 8) (Qr (Ap (ZR [Ii 8] [0,0] h ?_))))))))))
 have hT:Cl (L.map RN.a) (n,g)=8:=by unfold Cl;rw [Ah hnod hx4 hh5];simp only [if_neg hkd6]
 exact ⟨vl,L,by rw [hT];rfl,by rw [hT];rfl,rfl⟩
 refine ZP (Ii 0) (Qu (ZP (Ii 0) (ZP (.bool false) (Fs ?_))))
 have hrD:=hok.at_rng hx4
 refine ZP (Pp b) (ZG h (Gla 0 [Ii n,Ii g] 2) (ZC [0,0] (Cq b mst vl vt L (by omega) hnod j2 N3 hx4 n g hh5) h fun w h=>ZP (Pp N3.nb) (Qu (ZP (Pp N3.nb) (ZP (Pp N3.nb) (ZP (Pt N3.nb 7) (ZG h (Gr 7 (Ii N3.a.pins) 1 rfl (B5 hx4 7 (by kernel_rfl))) (ZP (.bool (decide (N3.a.pins=0))) (Qn (Zd (N3.a.pins=0) (fun hc8=>?_) fun hc8=>?_))))))))))
 refine Qs (ZP (Ii 5) (Qr (Ap (ZR [Ii 5] [0,0] h ?_))))
 have hT:Cl (L.map RN.a) (n,g)=5:=by unfold Cl;rw [Ah hnod hx4 hh5];simp only [if_pos hkd6,if_pos (show N3.a.pins=0 by omega)]
 exact ⟨vl,L,by rw [hT];rfl,by rw [hT];rfl,rfl⟩
 refine Ks (ZP (Pp N3.nb) (ZP (Pp N3.nb) (ZP (Pt N3.nb 7) (ZG h (Gr 7 (Ii N3.a.pins) 1 rfl (B5 hx4 7 (by kernel_rfl))) (ZG h (Gw (N3.a.pins - 1)) (ZP (Pp N3.nb) (ZP (Pt N3.nb 7) ?_)))))))
 refine Fh rfl (b:=N3.nb) 7 [Ii (N3.a.pins - 1)] h 1 rfl (by kernel_rfl) (Lq hx4 7 [Ii (N3.a.pins - 1)] (⟨N3.nb,N3.vh,N3.ve,⟨N3.a.h,N3.a.kind,N3.a.change,N3.a.s,N3.a.holes,N3.a.es,N3.a.pins - 1⟩⟩:RN) (Nat.le_of_ble_eq_true (by kernel_rfl)) (by kernel_rfl) rfl rfl rfl rfl rfl) ?_;intro w h
 have hx9:=Cg (⟨N3.nb,N3.vh,N3.ve,⟨N3.a.h,N3.a.kind,N3.a.change,N3.a.s,N3.a.holes,N3.a.es,N3.a.pins - 1⟩⟩:RN) hx4
 refine Qm (ZP (Pp b) ?_)
 refine ZD [0,0] (Nj b mst vl vt (L.set j2 (⟨N3.nb,N3.vh,N3.ve,⟨N3.a.h,N3.a.kind,N3.a.change,N3.a.s,N3.a.holes,N3.a.es,N3.a.pins - 1⟩⟩:RN)) c (by omega) (hok.setC (N':=(⟨N3.nb,N3.vh,N3.ve,⟨N3.a.h,N3.a.kind,N3.a.change,N3.a.s,N3.a.holes,N3.a.es,N3.a.pins - 1⟩⟩:RN)) hx4 rfl rfl ⟨by show 0≤N3.a.change;omega,by show N3.a.change≤c;omega,by show 0≤N3.a.pins - 1;omega,by show N3.a.pins - 1≤c;omega⟩)) h ?_;rintro u11 L_ w ⟨v10,rfl⟩ h
 refine Qm (ZP (Ii 0) (Qr (ZR [Ii 0] [0,0] h ?_)))
 have hT:Cl (L.map RN.a) (n,g)=0:=by unfold Cl;rw [Ah hnod hx4 hh5];simp only [if_pos hkd6,if_neg (show ¬N3.a.pins=0 by omega)]
 have hS:(L.set j2 (⟨N3.nb,N3.vh,N3.ve,⟨N3.a.h,N3.a.kind,N3.a.change,N3.a.s,N3.a.holes,N3.a.es,N3.a.pins - 1⟩⟩:RN)).map RN.a=G9 (L.map RN.a) (n,g) (-1):=Da hnod hx4 hh5 rfl
 refine ⟨v10,(L.set j2 (⟨N3.nb,N3.vh,N3.ve,⟨N3.a.h,N3.a.kind,N3.a.change,N3.a.s,N3.a.holes,N3.a.es,N3.a.pins - 1⟩⟩:RN)).filter (fun N=>El ((L.set j2 (⟨N3.nb,N3.vh,N3.ve,⟨N3.a.h,N3.a.kind,N3.a.change,N3.a.s,N3.a.holes,N3.a.es,N3.a.pins - 1⟩⟩:RN)).map RN.a) N.a),?_,by rw [hT];rfl,rfl⟩
 rw [hT,Pg (p:=El ((L.set j2 (⟨N3.nb,N3.vh,N3.ve,⟨N3.a.h,N3.a.kind,N3.a.change,N3.a.s,N3.a.holes,N3.a.es,N3.a.pins - 1⟩⟩:RN)).map RN.a)),hS]
 rfl
end
section
variable {P:Program} {w:World} {ops:Array Oper} {rest:List Oper} {o:Oper} {a:Act} {Q:Exit→Act→World→Prop}
theorem Un (hg:o.guard=none) (x y:Operand) (T:TypeId) (hop:o.op=.call { callee:=.builtin .max,args:=#[x,y],argTypes:=#[T,T] }) (u v z:Int) (hx:a.eval x=.int .i64 u) (hy:a.eval y=.int .i64 v) (hz:z=max u v)
    (hK:wpList P ops Q rest (a.put o.dst (.int .i64 z)) w):wpList P ops Q (o::rest) a w:=by
  refine wpList_plain hg fun K' hK'=>?_
  have e:(if v>u then v else u)=z:=by rw [hz];split<;>omega
  unfold Oper.wp
  simp [execOp,hop,resolve,invoke,builtin,hx,hy,Builtin.max_,Builtin.max2,Result.andThen,-gt_iff_lt]
  rw [e]
  exact hK' _ _ hK
theorem Tw (hg:o.guard=none) (x y:Operand) (T:TypeId) (hop:o.op=.call { callee:=.builtin .min,args:=#[x,y],argTypes:=#[T,T] }) (u v z:Int) (hx:a.eval x=.int .i64 u) (hy:a.eval y=.int .i64 v) (hz:z=min u v)
    (hK:wpList P ops Q rest (a.put o.dst (.int .i64 z)) w):wpList P ops Q (o::rest) a w:=by
  refine wpList_plain hg fun K' hK'=>?_
  have e:(if v<u then v else u)=z:=by rw [hz];split<;>omega
  unfold Oper.wp
  simp [execOp,hop,resolve,invoke,builtin,hx,hy,Builtin.min_,Builtin.min2,Result.andThen]
  rw [e]
  exact hK' _ _ hK
end
def F5 (kv:Dt) (j:Nat):UInt8:=((Gh kv (j/64))[j % 64]?).getD 0
def D1 (kv:Dt) (p m:Nat):List UInt8:=(List.range m).map fun i=>F5 kv (p+i)
def Gu (sz:Nat) (p n:Int):Nat:=(max 0 (min n (sz - p))).toNat
def Fp (d:Fk) (p n:Int):ByteArray×Bool×Nat:=
  if p<0∨n<0 then (⟨#[]⟩,false,2) else (⟨(D1 d.kv p.toNat (Gu d.size p n)).toArray⟩,decide ((d.size:Int) - Gu d.size p n≤p),0)
theorem Ab1 (m:Nat):(Dc (List.replicate m 0)).toArray=Array.replicate m (.int .u8 0):=by
  simp [Dc]
theorem Uf (w:World) (m:Nat) (hm:m≤281474976710656) :
    (Instr.makeSlice 167 (.int .i64 (m:Int)) (.int .i64 (m:Int))).run Tryz.prog w=.ok (.slice (some ⟨w.heap.size,0,none⟩) m m) (w.alloc (.cells (Dc (List.replicate m 0)).toArray 5)):=by
  obtain ⟨i,hi,hz0,hz1,hz2⟩:=info_parts (show (Tryz.prog.info? 5).map (fun i=>(i.zero,i.size,i.bytes))=some (some (.int .u8 0),1,1) by kernel_rfl)
  have h:=run_make (P:=Tryz.prog) w 167 5 i (.int .u8 0) Tryz.underlying167 hi hz0 .i64 .i64 m m (by omega) (by omega) (by rw [hz2];omega) (by omega)
  rw [h]
  have e:madeCells (Value.cells (.int .u8 0)) ((m:Int).toNat*i.size)=(Dc (List.replicate m 0)).toArray:=by
    rw [hz1,Ab1]
    apply Array.ext
    · simp [madeCells]
    · intro i h1 h2
      simp [madeCells,Value.cells,Nat.mod_one]
  rw [e];simp
theorem Afp (kv:Dt) (p m k:Nat) (hk:k<m):(D1 kv p k++List.replicate (m - k) 0).set k (F5 kv (p+k))=D1 kv p (k+1)++List.replicate (m - (k+1)) 0:=by
  have hl:(D1 kv p k).length=k:=by simp [D1]
  obtain ⟨j,rfl⟩:∃ j,m=k+1+j:=⟨m - (k+1),by omega⟩
  rw [show k+1+j - k=j+1 by omega,show k+1+j - (k+1)=j by omega,List.set_append_right _ _ (by omega),hl,Nat.sub_self]
  simp [D1,List.range_succ,List.replicate_succ]
def RelR (kv:Dt) (p m:Nat) (w:World) (i:Value) (wr:World):Prop:=
  ∃ k:Nat,k≤m∧i=.int .i64 k∧Chg Nil w wr∧wr.heap[w.heap.size]?=some (.cells (Dc (D1 kv p k++List.replicate (m - k) 0)).toArray 5 (0,0))
theorem Zc {kv:Dt} {p m k q r:Nat} {w wr w1:World} {c:UInt8} {o:Obj} (hk:k<m) (hC:Chg Nil w wr) (hb:wr.heap[w.heap.size]?=some (.cells (Dc (D1 kv p k++List.replicate (m - k) 0)).toArray 5 (0,0))) (hC1:Chg (·=wr.heap.size) (wr.alloc o) w1)
    (hq:q=(p+k)/64) (hr:r=(p+k) % 64) (hc:(Gh kv q)[r]?=some c) :
    Chg Nil w (w1.setCell ⟨w.heap.size,k,none⟩ (.int .u8 c.toNat))∧(w1.setCell ⟨w.heap.size,k,none⟩ (.int .u8 c.toNat)).heap[w.heap.size]?=some (.cells (Dc (D1 kv p (k+1)++List.replicate (m - (k+1)) 0)).toArray 5 (0,0)):=by
  have hbl:=lt_of_block hb
  have hz:=hC.size
  have hb1:=hC1.keep (Fj hb o) (by omega)
  have h1:=Co hb1 k (.int .u8 c.toNat)
  have e:c=F5 kv (p+k):=by unfold F5;rw [← hq,← hr,hc];rfl
  rw [Uw,e,Afp kv p m k hk,← e] at h1
  have hset:Chg (·=w.heap.size) w1 (w1.setCell ⟨w.heap.size,k,none⟩ (.int .u8 c.toNat)):=(Chg.refl (·=w.heap.size) w1).setCell (p:=⟨w.heap.size,k,none⟩) (.inr rfl) _
  exact ⟨((hC.alloc o).trans hC1 (fun x hx e=>by omega)).trans hset (fun x hx e=>by omega),h1⟩
theorem Y0 {B:Nat} (ad:Nat→Addr) (b:Nat) (p n:Int) (d:Fk) (S:Nat→Prop) (w:World) (he:Env B ad [2] w) (ht:G8 w b d S) (hp:p≤9223372036854775807) :
    Calls Tryz.prog 91 #[.pointer (some ⟨b,0,none⟩),.int .i64 p,.int .i64 n] w fun e w'=>
      e=.returned (.tuple #[.string (Fp d p n).1,.bool (Fp d p n).2.1,Ab ad (Fp d p n).2.2])∧Chg Nil w w':=by
  obtain ⟨h2,h2l⟩:=he.get (c:=2) (by simp)
  simp only [gl] at h2 h2l
  clear he
  by_cases hbad:p<0∨n<0
  · have e1:Fp d p n=(⟨#[]⟩,false,2):=if_pos hbad
    rw [e1]
    clear e1 ht
    have hgo:p<0∨¬p<0∧n<0:=by omega
    clear hbad
    rcases hgo with h|⟨h,h'⟩
    all_goals
      go_enter Tryz.func91,Tryz.ntmps91
      go_wp2_with fail
      go_quiet (fail)
      go_wp2_with fail
      go_ret3
      exact ⟨rfl,Chg.drewN _ _⟩
  have e1:Fp d p n=(⟨(D1 d.kv p.toNat (Gu d.size p n)).toArray⟩,decide ((d.size:Int) - Gu d.size p n≤p),0):=if_neg hbad
  rw [e1]
  have hp0:0≤p:=by omega
  have hn0:0≤n:=by omega
  have hM0:((Gu d.size p n:Nat):Int)=max 0 (min n ((d.size:Int) - p)):=by unfold Gu;omega
  have hM1:Gu d.size p n≤d.size:=by unfold Gu;omega
  obtain ⟨m,hm⟩:∃ m,m=Gu d.size p n:=⟨_,rfl⟩
  rw [← hm] at hM0 hM1 ⊢
  obtain ⟨p,rfl⟩:∃ k:Nat,p=k:=⟨p.toNat,by omega⟩
  obtain ⟨mn,hmn⟩:∃ mn,mn=min n ((d.size:Int) - p):=⟨_,rfl⟩
  rw [← hmn] at hM0
  have hsum:∀ k:Nat,k<m→p+k<d.size:=fun k hk=>by omega
  have hHM0:=Lib.hid hM0
  have HMN:=Lib.hid hmn
  have HSUM:=Lib.hid hsum
  obtain ⟨⟨mv,T,hb,hmv,hmS⟩,hS,hlt,hsm,hfl⟩:=ht
  have hc0:=Ba hb 0
  have hc1:=Ba hb 1
  simp only [List.getElem?_toArray,List.getElem?_cons_zero,List.getElem?_cons_succ] at hc0 hc1
  have hbl:=lt_of_block hb
  have HB:=Lib.hid hb
  have HMV:=Lib.hid hmv
  have HF:=Lib.hid hfl
  have hmk:=Uf w m (by omega)
  have hm4:m≤4096:=by omega
  have hpn:((p:Int).toNat)=p:=by simp
  rw [hpn]
  clear hb hmv hM0 hmn hm hbad e1 hsum hpn
  go_enter Tryz.func91,Tryz.ntmps91
  go_wp2_with (first|(refine Tw rfl _ _ _ rfl _ _ mn rfl rfl HMN.out ?_)|(refine Un rfl _ _ _ rfl _ _ (m:Int) rfl rfl hHM0.out ?_))
  clear hmk
  go_loopw [33] (fun i wr=>RelR d.kv p m w i wr) (fun i _=>(m - intOf i).toNat)
  case atStart=>exact ⟨0,Nat.zero_le _,rfl,(Chg.refl _ _).alloc _,by simpa [D1] using Bp w (.cells (Dc (List.replicate m 0)).toArray 5)⟩
  case round=>
    rename_i wr _
    obtain ⟨k,hk,rfl,hC,hbb⟩:=hrel
    have hz:=hC.size
    have hbbl:=lt_of_block hbb
    have d0:=(hC.cell (p:=⟨b,0,none⟩) hbl (fun f=>f)).trans hc0
    have d1:=(hC.cell (p:=⟨b,1,none⟩) hbl (fun f=>f)).trans hc1
    by_cases hlt1:k<m
    · have hps:=HSUM.out k hlt1
      obtain ⟨q,hq'⟩:∃ q:Nat,q=(p+k)/64:=⟨_,rfl⟩
      obtain ⟨r,hr'⟩:∃ r:Nat,r=(p+k) % 64:=⟨_,rfl⟩
      have e1:((p:Int)+(k:Int))/64=(q:Int):=by omega
      have e2:((p:Int)+(k:Int)) % 64=(r:Int):=by omega
      have hr64:r<64:=by omega
      have hlk:=Af1 (HMV.out.keep hC (fun _ _ f=>f)) q
      have hd64:=Jd HF.out q
      obtain ⟨c,hcr⟩:∃ c,(Gh d.kv q)[r]?=some c:=⟨(Gh d.kv q)[r]'(by omega),List.getElem?_eq_getElem _⟩
      have hx0:(Dc (Gh d.kv q)).toArray[r]?=some (.int .u8 c.toNat):=by simp [Dc,hcr]
      have hy0:∃ y,(Dc (D1 d.kv p k++List.replicate (m - k) 0)).toArray[k]?=some y:=⟨(Dc (D1 d.kv p k++List.replicate (m - k) 0)).toArray[k]'(by simp [Dc,D1];omega),Array.getElem?_eq_getElem _⟩
      obtain ⟨y0,hy0⟩:=hy0
      have HBB:=Lib.hid hbb
      have HQ:=Lib.hid hq'
      have HRM':=Lib.hid hr'
      have HD:=Lib.hid hd64
      have HCR:=Lib.hid hcr
      have HX:=Lib.hid hx0
      have HY:=Lib.hid hy0
      clear hbb hq' hr' hd64 hcr hx0 hy0
      go_wp2_with (refine Hv rfl 171 _ _ rfl wr.heap.size (Dc (Gh d.kv q)) 64 rfl rfl (Bp wr _) rfl I7 ((Ef _).trans HD.out) (H0 _) ?_;intro w1 hb1 hC1 hz1;have hx1:=(Ba hb1 r).trans HX.out;have hbb1:=hC1.keep (Fj HBB.out _) (by omega);have hy1:=(Ba hbb1 k).trans HY.out;have hf1:=D8 hbb1 k;have HS1:=Lib.hid (Zc hlt1 hC HBB.out hC1 HQ.out HRM'.out HCR.out);clear hb1 hz1 hbb1)
      go_roundw
      case rel=>exact ⟨k+1,by omega,by go_num,HS1.out.1,HS1.out.2⟩
      case measure=>simp [intOf];omega
    · have hks:k=m:=by omega
      have hcv:∀ z,(convert 167 9 (.slice (some ⟨w.heap.size,0,none⟩) m m)).run Tryz.prog (wr.drewN z)=.ok (.string ⟨(D1 d.kv p m).toArray⟩) (wr.drewN z):=fun z=>by
        have hlen:(D1 d.kv p m).length=m:=by simp [D1]
        have:=run_convert_bytes_back (P:=Tryz.prog) (wr.drewN z) 167 9 5 ⟨w.heap.size,0,none⟩ m (D1 d.kv p m) Tryz.underlying167 Tryz.underlying5 Tryz.underlying9 (fun j hj=>by
          rw [Addr.add_lit,Ba ((Chg.drewN (S:=Nil) wr z).keep hbb (fun f=>f)),hks]
          simp [Dc,hj])
        rwa [hlen] at this
      have hgq:decide ((d.size:Int) - (m:Int)≤(p:Int))=decide ((d.size:Int) - (m:Int)≤(p:Int)):=rfl
      clear hks hbb hgq
      go_wp2_with fail
      go_quiet (fail)
      go_wp2_with fail
      go_ret3
      exact ⟨rfl,hC.drewsN _⟩
end Go.Proofs.YtpojpkhpddnmjaaGreatDoor
