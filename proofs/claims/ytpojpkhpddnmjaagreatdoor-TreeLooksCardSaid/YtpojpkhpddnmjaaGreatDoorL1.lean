/- Lemmas: part 1. -/
import Derived.Test.YtpojpkhpddnmjaaGreatDoorProg
import Derived.WalkKit
import Derived.WalkSpells
import Derived.WalkLawsBesides
import Derived.BigQuiet
import Derived.Deep.QuietTactic
import Derived.Deep.RegionWith
import Derived.MapKept
import Derived.Lib.Hide
import Derived.Handy
import Derived.Maps.OwnSet
import Derived.ArgAppend
import Derived.OrdersHeld
import Derived.IntWalk
import Derived.LaidLaws
import Derived.LaidHandle
import Derived.FnData
import Derived.ProofKit
import Derived.Deep.Slices
import Derived.Lib.SmallJoins
import Derived.SizedLaws
import Derived.Deep.MidRow
import Derived.Maps.RangeRun
import Derived.Maps.RangeWalk
import Derived.Laws.MakeOwn
import Derived.Deep.RegionHeld3
import Derived.StillTailTactics
import Derived.LaidEql
import Derived.WideKeyRuns
set_option linter.all false
set_option maxRecDepth 100000
set_option maxHeartbeats 20000000
namespace Go.Proofs.YtpojpkhpddnmjaaGreatDoor
open Go.RowKit
section
open Go.RowKit Go.MapKept
structure Chg (S:Nat→Prop) (w w':World):Prop where
  os:w'.os=w.os
  tape:w'.tape=w.tape
  output:w'.output=w.output
  size:w.heap.size≤w'.heap.size
  block:∀ k,k<w.heap.size→¬S k→w'.heap[k]?=w.heap[k]?
abbrev Nil:Nat→Prop:=fun _=>False
theorem Chg.refl (S:Nat→Prop) (w:World):Chg S w w:=⟨rfl,rfl,rfl,Nat.le_refl _,fun _ _ _=>rfl⟩
theorem Chg.trans {S T:Nat→Prop} {a b c:World} (h:Chg S a b) (k:Chg T b c) (hT:∀ x,x<a.heap.size→T x→S x):Chg S a c:=
  ⟨k.os.trans h.os,k.tape.trans h.tape,k.output.trans h.output,Nat.le_trans h.size k.size,fun i hi hs=>(k.block i (Nat.lt_of_lt_of_le hi h.size) (fun t=>hs (hT i hi t))).trans (h.block i hi hs)⟩
theorem Chg.then {S:Nat→Prop} {a b c:World} (h:Chg S a b) (k:Chg S b c):Chg S a c:=h.trans k (fun _ _ t=>t)
theorem Chg.mono {S T:Nat→Prop} {a b:World} (h:Chg S a b) (hT:∀ x,x<a.heap.size→S x→T x):Chg T a b:=
  ⟨h.os,h.tape,h.output,h.size,fun i hi hs=>h.block i hi (fun t=>hs (hT i hi t))⟩
theorem Chg.nil {S:Nat→Prop} {a b:World} (h:Chg Nil a b):Chg S a b:=h.mono (fun _ _ f=>f.elim)
theorem Chg.drewN {S:Nat→Prop} (w:World) (n:Nat):Chg S w (w.drewN n):=⟨rfl,rfl,rfl,Nat.le_refl _,fun _ _ _=>rfl⟩
theorem Chg.drew {S:Nat→Prop} {a w:World} (h:Chg S a w):Chg S a w.drew:=⟨h.os,h.tape,h.output,h.size,h.block⟩
theorem Chg.drewsN {S:Nat→Prop} {a w:World} (h:Chg S a w) (n:Nat):Chg S a (w.drewN n):=⟨h.os,h.tape,h.output,h.size,h.block⟩
theorem Chg.alloc {S:Nat→Prop} {a w:World} (h:Chg S a w) (o:Obj):Chg S a (w.alloc o):=
  h.then ⟨rfl,rfl,rfl,by simp,fun k hk _=>Below.heap_alloc _ _ _ (by omega)⟩
theorem Chg.setCell {S:Nat→Prop} {a w:World} (h:Chg S a w) {p:Addr} (hp:a.heap.size≤p.block∨S p.block) (u:Value):Chg S a (w.setCell p u):=
  ⟨h.os,h.tape,h.output,by simpa [World.setCell] using h.size,fun k hk hs=>by
    rw [Below.heap_setCell _ _ _ _ (fun e=>by subst e;rcases hp with hp|hp;exact absurd hk (by omega);exact hs hp)]
    exact h.block k hk hs⟩
theorem Chg.below {S:Nat→Prop} {B:Nat} {w w':World} (h:Chg S w w') (hB:B≤w.heap.size) (hS:∀ x,x<w.heap.size→S x→B≤x):Below B w w':=
  ⟨h.os,h.tape,h.output,h.size,fun k hk=>h.block k (by omega) (fun s=>by have:=hS k (by omega) s;omega)⟩
theorem Chg.of_below {S:Nat→Prop} {B:Nat} {w w':World} (h:Below B w w') (hS:∀ x,B≤x→x<w.heap.size→S x):Chg S w w':=
  ⟨h.os,h.tape,h.output,h.size,fun k hk hs=>h.block k (by by_cases c:k<B;exact c;exact absurd (hS k (by omega) hk) hs)⟩
theorem Chg.cell {S:Nat→Prop} {w w':World} (h:Chg S w w') {p:Addr} (hp:p.block<w.heap.size) (hs:¬S p.block):w'.cell? p=w.cell? p:=
  World.cell?_of_block (w:=w) (h.block p.block hp hs)
theorem Chg.frozen {S:Nat→Prop} {w w':World} (h:Chg S w w') {p:Addr} (hp:p.block<w.heap.size) (hs:¬S p.block):w'.frozen? p=w.frozen? p:=
  World.frozen?_of_block (w:=w) (h.block p.block hp hs)
theorem Chg.keep {S:Nat→Prop} {w w':World} (h:Chg S w w') {b:Nat} {o:Obj} (hb:w.heap[b]?=some o) (hs:¬S b):w'.heap[b]?=some o:=
  (h.block b (lt_of_block hb) hs).trans hb
theorem A9 {w:World} {b:Nat} {c:Array Value} {t:TypeId} {f:Nat×Nat} (h:w.heap[b]?=some (.cells c t f)) (i:Nat):w.cell? ⟨b,i,none⟩=c[i]?:=by simp [World.cell?,h]
theorem Ef {w:World} {b:Nat} {c:Array Value} {t:TypeId} (h:w.heap[b]?=some (.cells c t (0,0))) (i:Nat):w.frozen? ⟨b,i,none⟩=false:=by simp [World.frozen?,h]
theorem Ct {w:World} {b:Nat} {c:Array Value} {t:TypeId} {f:Nat×Nat} (h:w.heap[b]?=some (.cells c t f)) (i:Nat) (v:Value) :
    (w.setCell ⟨b,i,none⟩ v).heap[b]?=some (.cells (c.setIfInBounds i v) t f):=by
  simp [World.setCell,Array.getElem?_modify,h]
theorem Bp (w:World) (o:Obj):(w.alloc o).heap[w.heap.size]?=some o:=by
  show (w.heap.push o)[w.heap.size]?=_
  simp
theorem Hu {w:World} {b:Nat} {x:Obj} (h:w.heap[b]?=some x) (o:Obj):(w.alloc o).heap[b]?=some x:=by
  rw [Below.heap_alloc _ _ _ (lt_of_block h)];exact h
section
variable {α β:Type} [DecidableEq α]
def Af (kv:List (α×β)) (k:α):Option β:=match kv with
  | []=>none
  | p::r=>if k=p.1 then some p.2 else Af r k
def Ay (kv:List (α×β)) (k:α) (v:β):List (α×β):=match kv with
  | []=>[(k,v)]
  | p::r=>if k=p.1 then (p.1,v)::r else p::Ay r k v
def Ak (kv:List (α×β)) (k:α):List (α×β):=match kv with
  | []=>[]
  | p::r=>if k=p.1 then r else p::Ak r k
def Hr (kv:List (α×β)) (k:α) (i:Nat):Option (Nat×β):=match kv with
  | []=>none
  | p::r=>if k=p.1 then some (i,p.2) else Hr r k (i+1)
theorem Gh {k:α}:∀ {kv:List (α×β)} {i:Nat},Hr kv k i=none→Af kv k=none∧(∀ v,Ay kv k v=kv++[(k,v)])∧Ak kv k=kv∧∀ p∈kv,p.1≠k
  | [],_,_=>⟨rfl,fun _=>rfl,rfl,fun _ h=>by cases h⟩
  | p::r,i,h=>by
    unfold Hr at h
    by_cases c:k=p.1
    · rw [if_pos c] at h;cases h
    · rw [if_neg c] at h
      obtain ⟨h1,h2,h3,h4⟩:=Gh h
      refine ⟨by simp [Af,c,h1],fun v=>by simp [Ay,c,h2],by simp [Ak,c,h3],fun q hq=>?_⟩
      rcases List.mem_cons.1 hq with rfl|hq
      · exact fun e=>c e.symm
      · exact h4 q hq
theorem Gf {k:α}:∀ {kv:List (α×β)} {i j:Nat} {v:β},Hr kv k i=some (j,v)→∃ n,j=i+n∧kv[n]?=some (k,v)∧Af kv k=some v∧(∀ v',Ay kv k v'=kv.set n (k,v'))∧Ak kv k=kv.eraseIdx n
  | [],_,_,_,h=>by cases h
  | p::r,i,j,v,h=>by
    unfold Hr at h
    by_cases c:k=p.1
    · rw [if_pos c] at h
      cases h
      exact ⟨0,rfl,by simp [c],by simp [Af,c],fun v'=>by simp [Ay,c],by simp [Ak,c]⟩
    · rw [if_neg c] at h
      obtain ⟨n,e,h1,h2,h3,h4⟩:=Gf h
      exact ⟨n+1,by omega,by simpa using h1,by simp [Af,c,h2],fun v'=>by simp [Ay,c,h3],by simp [Ak,c,h4]⟩
structure Ew (P:Program) (K:TypeId) (f:α→Value):Prop where
  chk:∀ em a w,(Instr.checkKey em 10000 K (f a)).run P w=.ok () w
  find:∀ (a:α) (l:List MapEntry) (kv:List (α×Value)) (w:World),l.map (fun e=>(e.key,e.val))=kv.map (fun p=>(f p.1,p.2))→
    (Instr.findKey K (f a) l).run P w=.ok (Hr kv a 0) w
  keep:∀ a w,(Instr.keyThatStays (f a) (f a)).run P w=.ok (f a) w
  inj:∀ a b,f a=f b→a=b
def D9 (w:World) (r:Nat) (f:α→Value) (kv:List (α×Value)):Prop:=
  ∃ es clock,w.heap[r]?=some (.map es clock)∧es.toList.map (fun e=>(e.key,e.val))=kv.map (fun p=>(f p.1,p.2))∧Stamped es clock
def J7 (w:World) (mv:Value) (f:α→Value) (kv:List (α×Value)):Prop:=
  (mv=.map none∧kv=[])∨∃ r,mv=.map (some r)∧D9 w r f kv
theorem D9.keep {S:Nat→Prop} {w w':World} {r:Nat} {f:α→Value} {kv:List (α×Value)} (h:D9 w r f kv) (c:Chg S w w') (hs:¬S r):D9 w' r f kv:=by
  obtain ⟨es,clock,hb,r⟩:=h
  exact ⟨es,clock,c.keep hb hs,r⟩
theorem D9.lt {w:World} {r:Nat} {f:α→Value} {kv:List (α×Value)} (h:D9 w r f kv):r<w.heap.size:=by
  obtain ⟨es,clock,hb,_⟩:=h
  exact lt_of_block hb
variable {P:Program} {K E:TypeId} {f:α→Value} {kv:List (α×Value)} {w:World}
theorem D9.run_lookup {r:Nat} {T:TypeId} {z:Value} (F:Ew P K f) (ht:P.underlying T=some (.map K E)) (hz:(zeroValue E).run P w=.ok z w) (h:D9 w r f kv) (a:α) (ok:Bool) :
    (Instr.lookup T (.map (some r)) (f a) ok).run P w=.ok (if ok then .tuple #[(Af kv a).getD z,.bool (Af kv a).isSome] else (Af kv a).getD z) w:=by
  obtain ⟨es,clock,hb,he,_⟩:=h
  have hfd:=F.find a es.toList kv w he
  simp only [Instr.lookup,Sem.run_bind,run_underlying ht,Result.andThen_ok,MapKept.run_getObj_map hb,F.chk,Sem.run_pure]
  rw [hfd]
  cases hf:Hr kv a 0 with
  | none=>
    simp [(Gh hf).1,hz,Result.andThen_ok]
  | some p=>
    obtain ⟨j,v⟩:=p
    obtain ⟨n,_,_,h3,_⟩:=Gf hf
    simp [h3,Result.andThen_ok]
theorem Ip {T:TypeId} {z:Value} (F:Ew P K f) (ht:P.underlying T=some (.map K E)) (hz:(zeroValue E).run P w=.ok z w) (a:α) (ok:Bool) :
    (Instr.lookup T (.map none) (f a) ok).run P w=.ok (if ok then .tuple #[z,.bool false] else z) w:=by
  simp only [Instr.lookup,Sem.run_bind,run_underlying ht,Result.andThen_ok,F.chk,F.find a [] [] w rfl,Hr,Sem.run_pure]
  simp [hz,Result.andThen_ok]
theorem J7.run_lookup {mv:Value} {T:TypeId} {z:Value} (F:Ew P K f) (ht:P.underlying T=some (.map K E)) (hz:(zeroValue E).run P w=.ok z w) (h:J7 w mv f kv) (a:α) (ok:Bool) :
    (Instr.lookup T mv (f a) ok).run P w=.ok (if ok then .tuple #[(Af kv a).getD z,.bool (Af kv a).isSome] else (Af kv a).getD z) w:=by
  rcases h with ⟨rfl,rfl⟩|⟨r,rfl,h⟩
  · rw [Ip F ht hz a ok];rfl
  · exact h.run_lookup F ht hz a ok
theorem K9 {es:Array MapEntry} (he:es.toList.map (fun e=>(e.key,e.val))=kv.map (fun p=>(f p.1,p.2))):es.toList.map (·.key)=kv.map (fun p=>f p.1):=by
  have:=congrArg (List.map Prod.fst) he
  simpa [List.map_map,Function.comp_def] using this
theorem D9.nodup {r:Nat} (h:D9 w r f kv):(kv.map (·.1)).Nodup:=by
  obtain ⟨es,clock,hb,he,hs⟩:=h
  have h3:=hs.2.2
  rw [K9 he] at h3
  simp only [List.Nodup,List.pairwise_map] at h3 ⊢
  exact h3.imp fun hne e=>hne (congrArg f e)
theorem D9.run_update {r:Nat} {T:TypeId} (F:Ew P K f) (ht:P.underlying T=some (.map K E)) (h:D9 w r f kv) (a:α) (v:Value) :
    ∃ w',(Instr.mapUpdate T (.map (some r)) (f a) v).run P w=.ok () w'∧D9 w' r f (Ay kv a v)∧Chg (·=r) w w'∧w'.heap.size=w.heap.size:=by
  obtain ⟨es,clock,hb,he,hs⟩:=h
  have hch:∀ o:Obj,Chg (·=r) w { w with heap:=w.heap.setIfInBounds r o }:=fun o=>
    ⟨rfl,rfl,rfl,by simp,fun k _ hk=>(heap_set (o':=o) hb).2 k hk⟩
  cases hf:Hr kv a 0 with
  | none=>
    obtain ⟨_,h2,_,h4⟩:=Gh hf
    have hr:(Instr.mapUpdate T (.map (some r)) (f a) v).run P w=.ok () { w with heap:=w.heap.setIfInBounds r (.map (es.push { key:=f a,val:=v,born:=clock }) (clock+1)) }:=by
      simp only [Instr.mapUpdate,Sem.run_bind,run_underlying ht,Result.andThen_ok,MapKept.run_getObj_map hb,F.chk,F.find a es.toList kv w he,hf]
      exact MapKept.run_setObj_map _ hb
    refine ⟨_,hr,⟨_,_,(heap_set hb).1,?_,stamped_push hs ?_⟩,hch _,by simp⟩
    · rw [h2];simp [he]
    · intro x hx e
      have:x.key∈es.toList.map (·.key):=List.mem_map.2 ⟨x,hx,rfl⟩
      rw [K9 he] at this
      obtain ⟨p,hp,e2⟩:=List.mem_map.1 this
      exact h4 p hp (F.inj _ _ (e2.trans e))
  | some p=>
    obtain ⟨j,u⟩:=p
    obtain ⟨n,e0,h1,h2,h3,_⟩:=Gf hf
    have e0':j=n:=by omega
    subst e0'
    have hkey:es[j]?.map (·.key)=some (f a):=by
      have:=congrArg (fun l=>l[j]?) (K9 he)
      simpa [h1] using this
    obtain ⟨en,hen,henk⟩:∃ en,es[j]?=some en∧en.key=f a:=by
      cases hq:es[j]? with
      | none=>rw [hq] at hkey;cases hkey
      | some en=>rw [hq] at hkey;exact ⟨en,rfl,by simpa using hkey⟩
    have hr:(Instr.mapUpdate T (.map (some r)) (f a) v).run P w=.ok () { w with heap:=w.heap.setIfInBounds r (.map (es.modify j fun e=>{ e with key:=f a,val:=v }) clock) }:=by
      simp only [Instr.mapUpdate,Sem.run_bind,run_underlying ht,Result.andThen_ok,MapKept.run_getObj_map hb,F.chk,F.find a es.toList kv w he,hf]
      simp only [hen,Option.map_some,Option.getD_some,henk,F.keep]
      exact MapKept.run_setObj_map _ hb
    refine ⟨_,hr,⟨_,_,(heap_set hb).1,?_,?_⟩,hch _,by simp⟩
    · rw [h3]
      apply List.ext_getElem?
      intro i
      have hi:=congrArg (fun l=>l[i]?) he
      simp only [List.getElem?_map,Array.getElem?_toList,Array.getElem?_modify,List.getElem?_set] at hi ⊢
      by_cases c:j=i
      · subst c
        have hjl:j<kv.length:=(List.getElem?_eq_some_iff.1 h1).1
        simp [hen,hjl]
      · simpa [c] using hi
    · refine stamped_modify hs j _ (fun e _=>rfl) (fun e _ he'=>?_)
      have:e=en:=by rw [hen] at he';exact (Option.some.inj he').symm
      subst this
      exact henk.symm
theorem I8 {γ δ:Type} (g:γ→δ):∀ (l:List γ) (i:Nat),(l.eraseIdx i).map g=(l.map g).eraseIdx i
  | [],_=>by simp
  | _::_,0=>rfl
  | x::l,i+1=>by simp [I8 g l i]
theorem D9.run_delete {r:Nat} {T Kt ty:TypeId} (F:Ew P K f) (ht:P.underlying T=some (.map K E)) (h:D9 w r f kv) (a:α) :
    ∃ w',(Builtin.delete_ #[T,Kt] ty #[.map (some r),f a]).run P w=.ok (.tuple #[]) w'∧D9 w' r f (Ak kv a)∧Chg (·=r) w w'∧w'.heap.size=w.heap.size:=by
  obtain ⟨es,clock,hb,he,hs⟩:=h
  have hch:∀ o:Obj,Chg (·=r) w { w with heap:=w.heap.setIfInBounds r o }:=fun o=>
    ⟨rfl,rfl,rfl,by simp,fun k _ hk=>(heap_set (o':=o) hb).2 k hk⟩
  have hfd:=F.find a es.toList kv w he
  cases hf:Hr kv a 0 with
  | none=>
    obtain ⟨_,_,h3,_⟩:=Gh hf
    have hr:(Builtin.delete_ #[T,Kt] ty #[.map (some r),f a]).run P w=.ok (.tuple #[]) { w with heap:=w.heap.setIfInBounds r (.map es clock) }:=by
      simp only [Builtin.delete_,List.getElem?_toArray,List.getElem?_cons_zero,List.getElem?_cons_succ,Sem.run_bind,run_underlying ht,Result.andThen_ok,MapKept.run_getObj_map hb,F.chk,Sem.run_pure]
      rw [hfd,hf]
      simp only [Result.andThen_ok,Sem.run_bind]
      rw [MapKept.run_setObj_map _ hb]
      rfl
    exact ⟨_,hr,⟨_,_,(heap_set hb).1,by rw [h3];exact he,hs⟩,hch _,by simp⟩
  | some p=>
    obtain ⟨j,u⟩:=p
    obtain ⟨n,e0,h1,h2,_,h3⟩:=Gf hf
    have e0':j=n:=by omega
    subst e0'
    have hr:(Builtin.delete_ #[T,Kt] ty #[.map (some r),f a]).run P w=.ok (.tuple #[]) { w with heap:=w.heap.setIfInBounds r (.map (es.eraseIdxIfInBounds j) clock) }:=by
      simp only [Builtin.delete_,List.getElem?_toArray,List.getElem?_cons_zero,List.getElem?_cons_succ,Sem.run_bind,run_underlying ht,Result.andThen_ok,MapKept.run_getObj_map hb,F.chk,Sem.run_pure]
      rw [hfd,hf]
      simp only [Result.andThen_ok,Sem.run_bind]
      rw [MapKept.run_setObj_map _ hb]
      rfl
    refine ⟨_,hr,⟨_,_,(heap_set hb).1,?_,stamped_erase hs j⟩,hch _,by simp⟩
    rw [h3]
    have hl:es.size=kv.length:=by simpa using congrArg List.length he
    have hj:j<es.size:=by rw [hl];exact (List.getElem?_eq_some_iff.1 h1).1
    simp only [Array.eraseIdxIfInBounds,hj,dite_true,Array.toList_eraseIdx]
    rw [I8,I8,he]
theorem J7.run_len {mv:Value} {T ty:TypeId} (ht:P.underlying T=some (.map K E)) (h:J7 w mv f kv):(Builtin.len_ #[T] ty #[mv]).run P w=.ok (.int .i64 kv.length) w:=by
  rcases h with ⟨rfl,rfl⟩|⟨r,rfl,es,clock,hb,he,_⟩
  · simp only [Builtin.len_,List.getElem?_toArray,List.getElem?_cons_zero,Sem.run_bind,run_underlying ht,Result.andThen_ok,Sem.run_pure];rfl
  · have hl:es.size=kv.length:=by simpa using congrArg List.length he
    simp only [Builtin.len_,List.getElem?_toArray,List.getElem?_cons_zero,Sem.run_bind,run_underlying ht,Result.andThen_ok,MapKept.run_getObj_map hb,Sem.run_pure]
    rw [hl];rfl
theorem R3 (w:World) (f:α→Value):D9 (w.alloc (.map #[] 0)) w.heap.size f []:=⟨#[],0,Bp _ _,rfl,stamped_empty 0⟩
variable {ops:Array Oper} {rest:List Oper} {o:Oper} {a:Act} {Q:Exit→Act→World→Prop}
end
section
variable {α:Type} [DecidableEq α] {P:Program} {K E:TypeId} {f:α→Value} {kv:List (α×Value)} {w:World} {ops:Array Oper} {rest:List Oper} {o:Oper} {a:Act} {Q:Exit→Act→World→Prop}
end
theorem Mu {α:Type} [DecidableEq α] {f:α→Value} {d:TypeDesc} (hs:∀ a b,Instr.sameNow d (f a) (f b)=some (decide (a=b))) (k:α) :
    ∀ (l:List MapEntry) (kv:List (α×Value)) (i:Nat),l.map (fun e=>(e.key,e.val))=kv.map (fun p=>(f p.1,p.2))→Instr.findNow d (f k) l i=some (Hr kv k i)
  | [],[],_,_=>rfl
  | [],_::_,_,h=>by cases h
  | _::_,[],_,h=>by cases h
  | e::l,p::kv,i,h=>by
    simp only [List.map_cons,List.cons.injEq,Prod.mk.injEq] at h
    obtain ⟨⟨h1,h2⟩,h3⟩:=h
    unfold Instr.findNow Hr
    rw [h1,hs]
    by_cases c:k=p.1
    · simp [c,h2]
    · simp [c,Mu hs k l kv (i+1) h3]
theorem Q0 {α:Type} [DecidableEq α] {P:Program} {K:TypeId} {f:α→Value} {d:TypeDesc} (hd:P.underlying K=some d) (hk:∀ a,IsKey d (f a)) (hs:∀ a b,Instr.sameNow d (f a) (f b)=some (decide (a=b)))
    (inj:∀ a b,f a=f b→a=b):Ew P K f where
  chk:=fun em a w=>run_checkKey hd (hk a) em 9999
  find:=fun a l kv w h=>run_findKey hd (Mu hs a l kv 0 h)
  keep:=fun a w=>run_keyThatStays (hk a)
  inj:=inj
def ik (n:Int):Value:=.int .i64 n
theorem Agh {P:Program} {K:TypeId} (hd:P.underlying K=some (.int .i64)):Ew P K ik:=
  Q0 hd (fun _=>rfl) (fun a b=>by simp only [Instr.sameNow,ik,if_true];congr 1) (fun a b h=>by cases h;rfl)
def sk (s:ByteArray):Value:=.string s
theorem Co {P:Program} {K:TypeId} (hd:P.underlying K=some .string):Ew P K sk:=
  Q0 hd (fun _=>trivial) (fun a b=>by
    simp only [Instr.sameNow,sk]
    congr 1
    rw [Bool.eq_iff_iff,bytes_beq];simp) (fun a b h=>by cases h;rfl)
end
def J8 (S S':Nat→Prop) (w w':World):Prop:=∀ x,S' x→S x∨(w.heap.size≤x∧x<w'.heap.size)
theorem J8.refl (S:Nat→Prop) (w w':World):J8 S S w w':=fun x h=>.inl h
def Bb (w:World) (v:Value) (E size n:Nat) (xs:List Value) (S:Nat→Prop):Prop:=
  xs.length=n*size∧((v=.slice none 0 0∧n=0)∨
    ∃ g off cap cs,v=.slice (some ⟨g,off,none⟩) n cap∧w.heap[g]?=some (.cells cs E (0,0))∧n≤cap∧cap≤maxLen∧off+cap*size≤cs.size∧(∀ j u,xs[j]?=some u→cs[off+j]?=some u)∧S g)
theorem Bb.keep {w w':World} {v:Value} {E size n:Nat} {xs:List Value} {S T:Nat→Prop} (h:Bb w v E size n xs S) (c:Chg T w w') (hd:∀ x,S x→¬T x):Bb w' v E size n xs S:=by
  obtain ⟨h1,h2|⟨g,off,cap,cs,e,hb,r⟩⟩:=h
  · exact ⟨h1,.inl h2⟩
  · exact ⟨h1,.inr ⟨g,off,cap,cs,e,c.keep hb (hd g r.2.2.2.2),r⟩⟩
theorem Bb.mono {w:World} {v:Value} {E size n:Nat} {xs:List Value} {S T:Nat→Prop} (h:Bb w v E size n xs S) (hd:∀ x,S x→T x):Bb w v E size n xs T:=by
  obtain ⟨h1,h2|⟨g,off,cap,cs,e,hb,a,b,c,d,s⟩⟩:=h
  · exact ⟨h1,.inl h2⟩
  · exact ⟨h1,.inr ⟨g,off,cap,cs,e,hb,a,b,c,d,hd g s⟩⟩
theorem Tk (w:World) (E size:Nat) (S:Nat→Prop):Bb w (.slice none 0 0) E size 0 [] S:=⟨by simp,.inl ⟨rfl,rfl⟩⟩
theorem Bb.shape {w:World} {v:Value} {E size n:Nat} {xs:List Value} {S:Nat→Prop} (h:Bb w v E size n xs S):∃ a cap,v=.slice a n cap:=by
  obtain ⟨_,⟨rfl,rfl⟩|⟨g,off,cap,cs,e,_⟩⟩:=h
  · exact ⟨none,0,rfl⟩
  · exact ⟨_,cap,e⟩
theorem Bb.place {w:World} {v:Value} {E size n:Nat} {xs:List Value} {S:Nat→Prop} (h:Bb w v E size n xs S) (hn:0<n) :
    ∃ g off cap cs,v=.slice (some ⟨g,off,none⟩) n cap∧w.heap[g]?=some (.cells cs E (0,0))∧n≤cap∧cap≤maxLen∧off+cap*size≤cs.size∧(∀ j u,xs[j]?=some u→w.cell? ⟨g,off+j,none⟩=some u)∧S g∧g<w.heap.size:=by
  obtain ⟨_,⟨_,rfl⟩|⟨g,off,cap,cs,e,hb,h1,h2,h3,h4,h5⟩⟩:=h
  · omega
  · exact ⟨g,off,cap,cs,e,hb,h1,h2,h3,fun j u hj=>by rw [A9 hb];exact h4 j u hj,h5,lt_of_block hb⟩
theorem Bb.of_owns {w:World} {base E size:Nat} {v:Value} {n:Nat} {xs:List Value} {S:Nat→Prop} (h:w.ownsRow base E size v n xs) (hS:∀ x,base≤x→x<w.heap.size→S x):Bb w v E size n xs S:=by
  obtain ⟨h1,⟨a,b⟩|⟨g,cap,cur,e,hg,hb,h2,h3,h4,h5⟩⟩:=h
  · exact ⟨h1,.inl ⟨a,b⟩⟩
  · refine ⟨h1,.inr ⟨g,0,cap,cur,e,hb,h2,h3,by omega,fun j u hj=>?_,hS g hg (lt_of_block hb)⟩⟩
    rw [← h5,List.getElem?_take] at hj
    split at hj
    · simpa using hj
    · cases hj
theorem D8 {T:TypeId} {fz:Nat×Nat} {b:Nat}:∀ (vs:List Value) (o:Nat) (w:World) (cs:Array Value),w.heap[b]?=some (.cells cs T fz)→
    ∃ cs',(w.setCells b o vs).heap[b]?=some (.cells cs' T fz)∧cs'.size=cs.size∧(∀ j,j<vs.length→o+j<cs.size→cs'[o+j]?=vs[j]?)∧(∀ i,i<o∨o+vs.length≤i→cs'[i]?=cs[i]?)
  | [],o,w,cs,h=>⟨cs,h,rfl,fun j hj=>by simp at hj,fun _ _=>rfl⟩
  | v::vs,o,w,cs,h=>by
    obtain ⟨cs',h1,h2,h3,h4⟩:=D8 vs (o+1) _ _ (Ct h o v)
    refine ⟨cs',h1,by simpa using h2,fun j hj hl=>?_,fun i hi=>?_⟩
    · cases j with
      | zero=>rw [h4 (o+0) (.inl (by omega))];simp at hl ⊢;simp [hl]
      | succ j=>
        have:=h3 j (by simpa using hj) (by simp;omega)
        rw [show o+(j+1)=o+1+j by omega,this];simp
    · rw [h4 i (by simp at hi;omega)]
      simp at hi
      rw [Array.getElem?_setIfInBounds_ne (by omega)]
theorem Fe {b:Nat}:∀ (vs:List Value) (o:Nat) (w:World),Chg (·=b) w (w.setCells b o vs)
  | [],_,w=>Chg.refl _ w
  | v::vs,o,w=>Chg.then (S:=(·=b)) ((Chg.refl (·=b) w).setCell (p:=⟨b,o,none⟩) (.inr rfl) v) (Fe vs (o+1) (w.setCell ⟨b,o,none⟩ v))
theorem Kg {b:Nat}:∀ (vs:List Value) (o:Nat) (w:World),(w.setCells b o vs).heap.size=w.heap.size
  | [],_,_=>rfl
  | v::vs,o,w=>by
    show ((w.setCell _ v).setCells b (o+1) vs).heap.size=_
    rw [Kg vs];simp
section
variable {P:Program} {w:World}
theorem Kv {T ty E:TypeId} {z:Value} {size bytes:Nat} (ht:P.underlying T=some (.slice E)) (hinfo:(P.info? E).map (fun i=>(i.zero,i.size,i.bytes))=some (some z,size,bytes)) (hzs:z.cells.size=size) (hsz:0<size)
    {v:Value} {n:Nat} {xs:List Value} {S:Nat→Prop} (h:Bb w v E size n xs S) {a:Addr} {m c:Nat} {news:List Value} (hl:news.length=m*size) (hnews:∀ j u,news[j]?=some u→w.cell? (a.add j)=some u) (h1:∀ u∈news,u.oneCell'=true)
    (h63:n+m≤maxLen) (hb:(n+m)*bytes≤140737488355328) :
    ∃ v' w' S',(Builtin.append_ #[T,T] ty #[v,.slice (some a) m c]).run P w=.ok v' w'∧Bb w' v' E size (n+m) (xs++news) S'∧Chg S w w'∧J8 S S' w w':=by
  obtain ⟨i,hi,hz0,hz1,hz2⟩:=info_parts hinfo
  obtain ⟨hlen,hcase⟩:=h
  have hgrown:∀ {v':Value} {w':World},w'.ownsRow w.heap.size E size v' (n+m) (xs++news)→w.grownBy w' none→∃ S',Bb w' v' E size (n+m) (xs++news) S'∧Chg S w w'∧J8 S S' w w':=fun ho hg=>
    ⟨fun x=>w.heap.size≤x∧x<_,Bb.of_owns ho (fun x h1 h2=>⟨h1,h2⟩),⟨hg.os,hg.tape,hg.output,hg.size,fun k hk _=>hg.block k hk (by simp)⟩,fun x hx=>.inr hx⟩
  rcases hcase with ⟨rfl,rfl⟩|⟨g,off,cap,cs,rfl,hbk,hnc,hcm,hoff,hcells,hS⟩
  · have hx0:xs=[]:=by simpa using hlen
    subst hx0
    obtain ⟨v',w',r,ho,hg,_⟩:=run_append_own (w:=w) (P:=P) w.heap.size T ty E i z size bytes ht hi hz0 hz1 hz2 hzs hsz (.slice none 0 0) 0 [] (World.ownsRow_nil _ _ _ _) a m c news hl hnews h1 h63 hb (Nat.le_refl _)
    obtain ⟨S',h2,h3,h4⟩:=hgrown ho hg
    exact ⟨v',w',S',r,h2,h3,h4⟩
  · by_cases hroom:n+m≤cap
    · have hlt:∀ j,j<news.length→off+n*size+j<cs.size:=fun j hj=>by
        have:(n+m)*size≤cap*size:=Nat.mul_le_mul_right _ hroom
        rw [Nat.add_mul] at this
        omega
      have hr:=run_append_room_cells (w:=w) (P:=P) T ty E i ht hi g off n cap a m c news (by rw [hz1];exact hl) hnews h1 hroom
        (fun j hj=>by rw [hz1,A9 hbk];simp [hlt j hj]) (fun j hj=>Ef hbk _)
      rw [hz1] at hr
      obtain ⟨cs',e1,e2,e3,e4⟩:=D8 news (off+n*size) w cs hbk
      refine ⟨_,_,S,hr,⟨by rw [List.length_append,hlen,hl,Nat.add_mul],.inr ⟨g,off,cap,cs',rfl,e1,hroom,hcm,by rw [e2];exact hoff,fun j u hj=>?_,hS⟩⟩,(Fe _ _ _).mono (fun x _ e=>by subst e;exact hS),J8.refl _ _ _⟩
      rcases Nat.lt_or_ge j xs.length with hj'|hj'
      · rw [List.getElem?_append_left hj'] at hj
        rw [e4 _ (.inl (by omega))]
        exact hcells j u hj
      · rw [List.getElem?_append_right hj'] at hj
        have hjl:=(List.getElem?_eq_some_iff.1 hj).1
        have hk:off+j=off+n*size+(j - xs.length):=by omega
        rw [hk,e3 _ hjl (hlt _ hjl)]
        exact hj
    · obtain ⟨v',w',r,ho,hg⟩:=run_append_arg_grows (w:=w) (P:=P) T ty E i z size bytes ht hi hz0 hz1 hz2 hzs hsz ⟨g,off,none⟩ n cap xs hlen (fun j u hj=>by
        have:=hcells j u hj
        rw [Addr.add_lit,A9 hbk];exact this) a m c news hl hnews (by omega) h63 hb
      obtain ⟨S',h2,h3,h4⟩:=hgrown ho hg
      exact ⟨v',w',S',r,h2,h3,h4⟩
variable {ops:Array Oper} {rest:List Oper} {o:Oper} {a:Act} {Q:Exit→Act→World→Prop}
end
theorem Fp {α:Type} {size:Nat} (enc:α→List Value) (he:∀ a,(enc a).length=size):∀ l:List α,(l.flatMap enc).length=l.length*size
  | []=>by simp
  | a::l=>by simp [he,Fp enc he l,Nat.add_mul];omega
theorem F7 {α:Type} {size:Nat} (enc:α→List Value) (he:∀ a,(enc a).length=size):∀ (l:List α) (i j:Nat) (a:α),l[i]?=some a→j<size→(l.flatMap enc)[i*size+j]?=(enc a)[j]?
  | [],_,_,_,h,_=>by cases h
  | b::l,0,j,a,h,hj=>by
    simp only [List.getElem?_cons_zero,Option.some.injEq] at h
    subst h
    simp only [List.flatMap_cons,Nat.zero_mul,Nat.zero_add]
    rw [List.getElem?_append_left (by rw [he];exact hj)]
  | b::l,i+1,j,a,h,hj=>by
    simp only [List.flatMap_cons]
    rw [List.getElem?_append_right (by rw [he,Nat.add_mul];omega),he,show (i+1)*size+j - size=i*size+j by rw [Nat.add_mul];omega]
    exact F7 enc he l i j a (by simpa using h) hj
theorem Bb.setElem {α:Type} {enc:α→List Value} {w:World} {g off n cap E size:Nat} {l:List α} {S:Nat→Prop} (he:∀ a,(enc a).length=size)
    (h:Bb w (.slice (some ⟨g,off,none⟩) n cap) E size n (l.flatMap enc) S) {k:Nat} (hk:k<l.length) (x:α) :
    Bb (w.setCells g (off+k*size) (enc x)) (.slice (some ⟨g,off,none⟩) n cap) E size n ((l.set k x).flatMap enc) S:=by
  obtain ⟨h1,⟨e,_⟩|⟨g',off',cap',cs,e,hb,h2,h3,h4,h5,h6⟩⟩:=h
  · cases e
  cases e
  obtain ⟨cs',e1,e2,e3,e4⟩:=D8 (enc x) (off+k*size) w cs hb
  have hn:l.length*size=n*size:=by rw [← Fp enc he l];exact h1
  have hks:(k+1)*size≤n*size:=by rw [← hn];exact Nat.mul_le_mul_right _ hk
  have hnc:n*size≤cap*size:=Nat.mul_le_mul_right _ h2
  rw [Nat.add_mul] at hks
  refine ⟨by rw [Fp enc he];simpa using hn,.inr ⟨g,off,cap,cs',rfl,e1,h2,h3,by rw [e2];exact h4,fun j u hj=>?_,h6⟩⟩
  have hjl:=(List.getElem?_eq_some_iff.1 hj).1
  rw [Fp enc he,List.length_set] at hjl
  by_cases hin:k*size≤j∧j<k*size+size
  · obtain ⟨r,rfl⟩:∃ r,j=k*size+r:=⟨j - k*size,by omega⟩
    rw [F7 enc he (l.set k x) k r x (by simp [hk]) (by omega)] at hj
    rw [show off+(k*size+r)=off+k*size+r by omega,e3 r (by rw [he];omega) (by omega)]
    exact hj
  · rw [e4 _ (by rw [he];omega)]
    refine h5 j u ?_
    have hs0:0<size:=by rcases Nat.eq_zero_or_pos size with h|h;(subst h;simp at hjl);exact h
    obtain ⟨i,r,rfl,hr⟩:∃ i r,j=i*size+r∧r<size:=⟨j/size,j % size,by rw [Nat.mul_comm];exact (Nat.div_add_mod j size).symm,Nat.mod_lt _ hs0⟩
    have hi:i<l.length:=by
      rcases Nat.lt_or_ge i l.length with h|h
      · exact h
      · have:=Nat.mul_le_mul_right size h;omega
    have hik:i≠k:=fun e=>by subst e;omega
    obtain ⟨y,hy⟩:∃ y,l[i]?=some y:=⟨l[i],List.getElem?_eq_getElem hi⟩
    rw [F7 enc he (l.set k x) i r y (by rw [List.getElem?_set_ne (fun e=>hik e.symm)];exact hy) hr] at hj
    rw [F7 enc he l i r y hy hr];exact hj
theorem Bb.elem {α:Type} {enc:α→List Value} {w:World} {g off n cap E size:Nat} {l:List α} {S:Nat→Prop} (he:∀ a,(enc a).length=size)
    (h:Bb w (.slice (some ⟨g,off,none⟩) n cap) E size n (l.flatMap enc) S) {k:Nat} {x:α} (hk:l[k]?=some x) (r:Nat) (u:Value) (hu:(enc x)[r]?=some u):w.cell? ⟨g,off+k*size+r,none⟩=some u∧w.frozen? ⟨g,off+k*size+r,none⟩=false∧g<w.heap.size:=by
  obtain ⟨h1,⟨e,_⟩|⟨g',off',cap',cs,e,hb,h2,h3,h4,h5,h6⟩⟩:=h
  · cases e
  cases e
  refine ⟨?_,Ef hb _,lt_of_block hb⟩
  rw [A9 hb,Nat.add_assoc]
  have hr:r<size:=by rw [← he x];exact (List.getElem?_eq_some_iff.1 hu).1
  exact h5 _ u (by rw [F7 enc he l k r x hk hr];exact hu)
theorem Bb.len {α:Type} {enc:α→List Value} {w:World} {v:Value} {n E size:Nat} {l:List α} {S:Nat→Prop} (he:∀ a,(enc a).length=size) (hs:0<size) (h:Bb w v E size n (l.flatMap enc) S):n=l.length:=by
  have:=h.1
  rw [Fp enc he] at this
  exact (Nat.mul_right_cancel hs this).symm
theorem Bb.le {w:World} {v:Value} {n E size:Nat} {xs:List Value} {S:Nat→Prop} (h:Bb w v E size n xs S):n≤9223372036854775807:=by
  rcases Nat.eq_zero_or_pos n with h0|h0
  · omega
  · obtain ⟨_,_,_,_,_,_,h1,h2,_⟩:=h.place h0
    unfold maxLen at h2;omega
structure Res where
  wr:Bool
  foot:Nat→Prop
  fact:World→Prop
  stab:∀ (w w':World),fact w→w.heap.size≤w'.heap.size→(∀ b,foot b→w'.heap[b]?=w.heap[b]?)→fact w'
  alive:∀ (w:World) (b:Nat),fact w→foot b→b<w.heap.size
abbrev Ent:=Bool→Nat→Prop
structure Own (w0:World) (E:Ent) (L:List Res) (w:World):Prop where
  chg:Chg (E true) w0 w
  mono:∀ b,E true b→E false b
  facts:∀ r∈L,r.fact w
  apart:L.Pairwise (fun r s=>r.wr=true∨s.wr=true→∀ b,r.foot b→¬s.foot b)
  may:∀ r∈L,∀ b,r.foot b→E r.wr b∨w0.heap.size≤b
theorem Own.perm {w0 w:World} {E:Ent} {L L':List Res} (h:Own w0 E L w) (p:L.Perm L'):Own w0 E L' w:=
  ⟨h.chg,h.mono,fun r hr=>h.facts r (p.mem_iff.2 hr),p.pairwise h.apart (fun {r s} hrs c b hb hs=>hrs (c.symm) b hs hb),fun r hr=>h.may r (p.mem_iff.2 hr)⟩
theorem Own.left {w0 w:World} {E:Ent} {L M:List Res} (h:Own w0 E (L++M) w):Own w0 E L w:=
  ⟨h.chg,h.mono,fun r hr=>h.facts r (List.mem_append_left _ hr),(List.pairwise_append.1 h.apart).1,fun r hr=>h.may r (List.mem_append_left _ hr)⟩
def Vy (L:List Res):Ent:=fun t b=>∃ r∈L,r.foot b∧(t=true→r.wr=true)
theorem Own.focus {w0 w:World} {E:Ent} {L M:List Res} (h:Own w0 E (L++M) w):Own w (Vy L) L w:=
  ⟨Chg.refl _ _,fun b ⟨r,hr,hb,_⟩=>⟨r,hr,hb,fun e=>by cases e⟩,h.left.facts,h.left.apart,fun r hr b hb=>.inl ⟨r,hr,hb,fun e=>e⟩⟩
theorem Own.unfocus {w0 w w':World} {E:Ent} {L L' M:List Res} (h:Own w0 E (L++M) w) (k:Own w (Vy L) L' w'):Own w0 E (L'++M) w':=by
  obtain ⟨h1,h2,h3,h4,h5⟩:=h
  obtain ⟨k1,k2,k3,k4,k5⟩:=k
  obtain ⟨_,hM,hLM⟩:=List.pairwise_append.1 h4
  have hsz:=h1.size
  refine ⟨h1.trans k1 ?_,h2,?_,?_,?_⟩
  · rintro x hx ⟨r,hr,hb,hw⟩
    rcases h5 r (List.mem_append_left _ hr) x hb with h|h
    · rw [hw rfl] at h;exact h
    · omega
  · intro r hr
    rcases List.mem_append.1 hr with hr|hr
    · exact k3 r hr
    · have hf:=h3 r (List.mem_append_right _ hr)
      refine r.stab w w' hf k1.size (fun b hb=>k1.block b (r.alive w b hf hb) ?_)
      rintro ⟨s,hs,hsb,hw⟩
      exact hLM s hs r hr (.inl (hw rfl)) b hsb hb
  · refine List.pairwise_append.2 ⟨k4,hM,fun r hr s hs hc b hb hsb=>?_⟩
    rcases k5 r hr b hb with ⟨q,hq,hqb,hqw⟩|hge
    · rcases hc with hc|hc
      · exact hLM q hq s hs (.inl (hqw hc)) b hqb hsb
      · exact hLM q hq s hs (.inr hc) b hqb hsb
    · have:=s.alive w b (h3 s (List.mem_append_right _ hs)) hsb
      omega
  · intro r hr b hb
    rcases List.mem_append.1 hr with hr|hr
    · rcases k5 r hr b hb with ⟨q,hq,hqb,hqw⟩|hge
      · rcases h5 q (List.mem_append_left _ hq) b hqb with h|h
        · refine .inl ?_
          cases e:r.wr
          · cases e2:q.wr
            · rw [e2] at h;exact h
            · rw [e2] at h;exact h2 b h
          · rw [hqw e] at h;exact h
        · exact .inr h
      · exact .inr (by omega)
    · exact h5 r (List.mem_append_right _ hr) b hb
def pk:List Nat→List Res→List Res
  | [],_=>[]
  | i::is,L=>match L[i]? with|some r=>r::pk is (L.eraseIdx i)|none=>pk is L
def rs:List Nat→List Res→List Res
  | [],L=>L
  | i::is,L=>rs is (L.eraseIdx i)
theorem Hb {α:Type}:∀ {L:List α} {i:Nat} {r:α},L[i]?=some r→(r::L.eraseIdx i).Perm L
  | [],_,_,h=>by simp at h
  | x::L,0,r,h=>by simp at h;subst h;exact List.Perm.refl _
  | x::L,i+1,r,h=>(List.Perm.swap x r _).trans ((Hb (by simpa using h)).cons x)
theorem Mk:∀ (is:List Nat) (L:List Res),L.Perm (pk is L++rs is L)
  | [],L=>by simp [pk,rs]
  | i::is,L=>by
    unfold pk rs
    cases hi:L[i]? with
    | none=>
      have hl:L.length≤i:=by simpa using hi
      rw [List.eraseIdx_of_length_le hl]
      exact Mk is L
    | some r=>
      exact (Hb hi).symm.trans ((Mk is (L.eraseIdx i)).cons r)
theorem Own.pick {w0 w:World} {E:Ent} {L:List Res} (h:Own w0 E L w) (is:List Nat):Own w0 E (pk is L) w:=(h.perm (Mk is L)).left
theorem Own.pick1 {w0 w:World} {E:Ent} {r:Res} {L:List Res} (h:Own w0 E (r::L) w):Own w0 E L w:=
  ⟨h.chg,h.mono,fun r hr=>h.facts r (List.mem_cons_of_mem _ hr),(List.pairwise_cons.1 h.apart).2,fun r hr=>h.may r (List.mem_cons_of_mem _ hr)⟩
theorem Own.fact {w0 w:World} {E:Ent} {L:List Res} (h:Own w0 E L w) (i:Nat) {r:Res} (hi:L[i]?=some r):r.fact w:=h.facts r (List.mem_of_getElem? hi)
theorem Own.quiet {w0 w w':World} {E:Ent} {L:List Res} (h:Own w0 E L w) (c:Chg Nil w w'):Own w0 E L w':=
  ⟨h.chg.then c.nil,h.mono,fun r hr=>r.stab w w' (h.facts r hr) c.size (fun b hb=>c.block b (r.alive w b (h.facts r hr) hb) (fun f=>f)),h.apart,h.may⟩
theorem Own.drew {w0 w:World} {E:Ent} {L:List Res} (h:Own w0 E L w):Own w0 E L w.drew:=h.quiet ((Chg.refl Nil w).drew)
theorem Own.push {w0 w w':World} {E:Ent} {L:List Res} (h:Own w0 E L w) (c:Chg Nil w w') {r:Res} (hf:r.fact w') (hn:∀ b,r.foot b→w.heap.size≤b):Own w0 E (r::L) w':=by
  have hq:=h.quiet c
  have hsz:=h.chg.size
  refine ⟨hq.chg,hq.mono,fun s hs=>?_,List.pairwise_cons.2 ⟨fun s hs _ b hb hsb=>?_,hq.apart⟩,fun s hs b hb=>?_⟩
  · rcases List.mem_cons.1 hs with rfl|hs
    · exact hf
    · exact hq.facts s hs
  · have:=s.alive w b (h.facts s hs) hsb
    have:=hn b hb
    omega
  · rcases List.mem_cons.1 hs with rfl|hs
    · exact .inr (by have:=hn b hb;omega)
    · exact h.may s hs b hb
theorem Own.upd {w0 w w':World} {E:Ent} {L:List Res} (h:Own w0 E L w) (i:Nat) {r r':Res} (hi:L[i]?=some r) (hw:r.wr=true) (c:Chg r.foot w w') (hf:r'.fact w') (hg:∀ b,r'.foot b→r.foot b∨w.heap.size≤b):Own w0 E (L.set i r') w':=by
  have hl:i<L.length:=(List.getElem?_eq_some_iff.1 hi).1
  have p1:=Hb hi
  have p2:=Hb (L:=L.set i r') (i:=i) (r:=r') (by rw [List.getElem?_set_self hl])
  rw [List.eraseIdx_set_eq] at p2
  have h1:Own w0 E ([r]++L.eraseIdx i) w:=h.perm p1.symm
  have h2:Own w (Vy [r]) [r'] w':=by
    refine ⟨c.mono (fun x _ hx=>⟨r,List.mem_singleton.2 rfl,hx,fun _=>hw⟩),fun b ⟨s,hs,hb,_⟩=>⟨s,hs,hb,fun e=>by cases e⟩,fun s hs=>by rw [List.mem_singleton.1 hs];exact hf,List.pairwise_singleton _ _,fun s hs b hb=>?_⟩
    rw [List.mem_singleton.1 hs] at hb ⊢
    rcases hg b hb with hb|hb
    · exact .inl ⟨r,List.mem_singleton.2 rfl,hb,fun _=>hw⟩
    · exact .inr hb
  exact (h1.unfocus h2).perm p2
def Au (P:Program) (f:FuncId) (args:Array Value) (L:List Res) (Φ:Value→List Res→Prop):Prop:=
  ∀ (E:Ent) (w0 w:World),Own w0 E L w→Calls P f args w fun e w'=>∃ v L',Φ v L'∧e=.returned v∧Own w0 E L' w'
theorem Au.mono {P:Program} {f:FuncId} {args:Array Value} {L:List Res} {Φ Ψ:Value→List Res→Prop} (h:Au P f args L Φ) (hm:∀ v L',Φ v L'→Ψ v L'):Au P f args L Ψ:=
  fun E w0 w ho=>(h E w0 w ho).mono fun e w' ⟨v,L',h1,h2,h3⟩=>⟨v,L',hm v L' h1,h2,h3⟩
def Bw (wr:Bool) (b:Nat) (cs:List Value) (T:TypeId):Res:=
  ⟨wr,(·=b),fun w=>w.heap[b]?=some (.cells cs.toArray T (0,0)),fun w w' h _ hb=>(hb b rfl).trans h,fun w x h e=>by rw [e];exact lt_of_block h⟩
def Gz:Value→Nat→Prop
  | .slice (some a) _ _=>(·=a.block)
  | .map (some r)=>(·=r)
  | _=>fun _=>False
def rSl (wr:Bool) (v:Value) (E k n:Nat) (xs:List Value):Res:=
  ⟨wr,Gz v,fun w=>Bb w v E k n xs (Gz v),fun w w' h hs hb=>by
    obtain ⟨h1,h2|⟨g,off,cap,cs,e,hbk,a,b,c,d,s⟩⟩:=h
    · exact ⟨h1,.inl h2⟩
    · exact ⟨h1,.inr ⟨g,off,cap,cs,e,(hb g s).trans hbk,a,b,c,d,s⟩⟩,
   fun w x h hx=>by
    obtain ⟨h1,⟨rfl,_⟩|⟨g,off,cap,cs,rfl,hbk,_⟩⟩:=h
    · exact hx.elim
    · have:x=g:=hx
      rw [this];exact lt_of_block hbk⟩
theorem Aft (wr:Bool) (E k:Nat) (w:World):(rSl wr (.slice none 0 0) E k 0 []).fact w:=Tk _ _ _ _
def J6 (r:Res) (b off:Nat) (vs:List Value):Prop:=∀ w,r.fact w→∀ j u,vs[j]?=some u→w.cell? ⟨b,off+j,none⟩=some u
theorem Fb {wr:Bool} {b:Nat} {cs:List Value} {T:TypeId} (off:Nat) {vs:List Value} (h:(cs.drop off).take vs.length=vs):J6 (Bw wr b cs T) b off vs:=fun w hf j u hj=>by
  have hq:w.cell? ⟨b,off+j,none⟩=cs[off+j]?:=by rw [A9 hf,List.getElem?_toArray]
  rw [hq]
  have hl:=(List.getElem?_eq_some_iff.1 hj).1
  have h2:=congrArg (fun l=>l[j]?) h
  simp only [List.getElem?_take,List.getElem?_drop,if_pos hl] at h2
  rw [h2];exact hj
def Xa (r:Res) (b off:Nat) (vs:List Value) (r':Res):Prop:=r.wr=true∧∀ w,r.fact w→(∀ j,j<vs.length→(w.cell? ⟨b,off+j,none⟩).isSome=true∧w.frozen? ⟨b,off+j,none⟩=false)∧r'.fact (w.setCells b off vs)∧r.foot b∧∀ x,r'.foot x→r.foot x
theorem Ms {b:Nat} {T:TypeId}:∀ (vs:List Value) (off:Nat) (w:World) (cs:List Value),w.heap[b]?=some (.cells cs.toArray T (0,0))→off+vs.length≤cs.length→
    (w.setCells b off vs).heap[b]?=some (.cells (cs.take off++(vs++cs.drop (off+vs.length))).toArray T (0,0))
  | [],off,w,cs,h,_=>by
    show w.heap[b]?=_
    rw [h]
    simp
  | v::vs,off,w,cs,h,hl=>by
    have h1:=Ct h off v
    rw [List.setIfInBounds_toArray] at h1
    have h2:=Ms vs (off+1) _ _ h1 (by simp at hl ⊢;omega)
    show ((w.setCell ⟨b,off,none⟩ v).setCells b (off+1) vs).heap[b]?=_
    rw [h2]
    simp at hl
    have ho:off<cs.length:=by omega
    congr 3
    apply List.ext_getElem?
    intro i
    have e1:(List.take (off+1) (cs.set off v)).length=off+1:=by simp;omega
    have e2:(List.take off cs).length=off:=by simp;omega
    simp only [List.length_cons]
    rw [List.getElem?_append (l₁:=List.take (off+1) (cs.set off v)),e1,List.getElem?_append (l₁:=List.take off cs),e2]
    by_cases h1:i<off
    · rw [if_pos (by omega),if_pos h1,List.getElem?_take,List.getElem?_take,if_pos (by omega),if_pos h1,List.getElem?_set_ne (by omega)]
    · by_cases h2:i=off
      · subst h2
        rw [if_pos (by omega),if_neg (by omega),List.getElem?_take,if_pos (by omega),List.getElem?_set_self ho]
        simp
      · rw [if_neg (by omega),if_neg h1]
        obtain ⟨d,rfl⟩:∃ d,i=off+1+d:=⟨i - off - 1,by omega⟩
        rw [show off+1+d - (off+1)=d by omega,show off+1+d - off=d+1 by omega,List.cons_append,List.getElem?_cons_succ,List.getElem?_append,List.getElem?_append]
        split
        · rfl
        · rw [List.getElem?_drop,List.getElem?_drop,List.getElem?_set_ne (by omega)]
          congr 1;omega
theorem We {b:Nat} {cs:List Value} {T:TypeId} (off:Nat) (vs:List Value) {cs':List Value} (hl:off+vs.length≤cs.length) (h:cs.take off++(vs++cs.drop (off+vs.length))=cs'):Xa (Bw true b cs T) b off vs (Bw true b cs' T):=
  ⟨rfl,fun w hf=>⟨fun j hj=>⟨by rw [A9 hf];simp;omega,Ef hf _⟩,by rw [← h];exact Ms vs off w cs hf hl,rfl,fun x e=>e⟩⟩
section
variable {P:Program} {a:Act} {w w0:World} {E:Ent} {L:List Res} {K:Act→World→Prop} {Q:Exit→Act→World→Prop}
theorem Acr {o:Oper} (mk:Nat→Value) (cs:List Value) (T:TypeId) (hrun:∀ w,(execOp a.eval o).run P w=.ok (.value (mk w.heap.size)) (w.alloc (.cells cs.toArray T)))
    (h:Own w0 E L w) (hK:∀ b w',Own w0 E (Bw true b cs T::L) w'→K (a.put o.dst (mk b)) w'):o.wp P a w K Q:=by
  unfold Oper.wp;rw [hrun]
  exact hK _ _ (h.push ((Chg.refl Nil w).alloc _) (Bp w _) (fun b hb=>by have:b=w.heap.size:=hb;omega))
def ldv (P:Program) (T:TypeId) (vs:List Value):Option Value:=
  match P.underlying T with
  | some (.struct _)|some (.array _ _)=>(P.info? T).bind fun i=>if i.size=vs.length then some (.agg vs.toArray) else none
  | some _=>match vs with|[v]=>some v|_=>none
  | none=>none
theorem Aas {T:TypeId} {d:TypeDesc} (h:P.underlying T=some d):(isAgg T).run P w=.ok (match d with|.struct _|.array _ _=>true|_=>false) w:=by
  unfold isAgg
  simp only [Sem.run_bind,run_underlying h,Result.andThen_ok]
  cases d<;>rfl
theorem Gk {T:TypeId} {n:Nat} (h:(P.info? T).map (·.size)=some n):(sizeOf T).run P w=.ok n w:=by
  cases hi:P.info? T with
  | none=>rw [hi] at h;cases h
  | some i=>
    rw [hi] at h
    simp only [Option.map_some,Option.some.injEq] at h
    simp [sizeOf,typeInfo,hi,h]
theorem Jm {T:TypeId} {vs:List Value} {v:Value} (hT:ldv P T vs=some v) {b off:Nat} (hc:∀ j u,vs[j]?=some u→w.cell? ⟨b,off+j,none⟩=some u):(loadVar T ⟨b,off,none⟩).run P w=.ok v w:=by
  unfold ldv at hT
  have hagg:(P.info? T).bind (fun i=>if i.size=vs.length then some (Value.agg vs.toArray) else none)=some v→(isAgg T).run P w=.ok true w→(loadVar T ⟨b,off,none⟩).run P w=.ok v w:=fun hT hg=>by
    cases hi:P.info? T with
    | none=>rw [hi] at hT;cases hT
    | some i=>
      rw [hi] at hT
      simp only [Option.bind_some] at hT
      by_cases hs:i.size=vs.length
      · rw [if_pos hs] at hT
        cases hT
        have hz:(sizeOf T).run P w=.ok vs.length w:=Gk (by rw [hi,← hs];rfl)
        have hl:=run_loadCells_list (P:=P) w ⟨b,off,none⟩ vs (fun j u hj=>by rw [Addr.add_lit];exact hc j u hj)
        unfold loadVar
        simp only [Sem.run_bind,hg,Result.andThen_ok,if_true,hz,hl,Sem.run_pure]
      · rw [if_neg hs] at hT;cases hT
  have hsc:∀ u,vs=[u]→some u=some v→(isAgg T).run P w=.ok false w→(loadVar T ⟨b,off,none⟩).run P w=.ok v w:=fun u e e2 hg=>by
    cases e2
    have:=hc 0 v (by rw [e];rfl)
    unfold loadVar
    simp only [Sem.run_bind,hg,Result.andThen_ok,Bool.false_eq_true,if_false]
    rw [run_load]
    simp only [Nat.add_zero] at this
    simp [this]
  cases hu:P.underlying T with
  | none=>rw [hu] at hT;cases hT
  | some d=>
    rw [hu] at hT
    have hg:=Aas (w:=w) hu
    cases d<;>first
      | exact hagg hT hg
      | (match vs,hT with
         | [u],hT=>exact hsc u rfl hT hg)
theorem Or {dst:Option Tmp} {T:TypeId} {x y:Operand} {ty:TypeId} {pos:String} {after:Array Edge} {g:Option (Nat×Bool)} {b off:Nat} (hx:a.eval x=.pointer (some ⟨b,off,none⟩)) {vs:List Value} (hy:(a.eval y).cells=vs.toArray)
    (hs:(P.info? T).map (·.size)=some vs.length) (h1:∀ u∈vs,u.oneCell'=true) (h:Own w0 E L w) (i:Nat) {r r':Res} (hi:L[i]?=some r) (hr:Xa r b off vs r')
    (hK:∀ w',Own w0 E (L.set i r') w'→K (a.put dst undef) w'):Oper.wp P ⟨dst,.store T x y,ty,pos,after,g⟩ a w K Q:=by
  obtain ⟨hw,hr⟩:=hr
  obtain ⟨hc,hf,hfb,hff⟩:=hr w (h.fact i hi)
  have hst:=run_storeCells_cells (P:=P) b off vs 0 w (fun j hj=>(hc j hj).1) (fun j hj=>(hc j hj).2) h1
  rw [Nat.add_zero] at hst
  have hz:∀ w,(sizeOf T).run P w=.ok vs.length w:=fun w=>Gk hs
  unfold Oper.wp
  simp only [execOp,Instr.storeAt,hx,Instr.sureAddr,storeVar,Sem.run_bind,Sem.run_pure,Result.andThen_ok,hz,hy,List.size_toArray,ne_eq,not_true_eq_false,if_false,hst]
  exact hK _ (h.upd i hi hw ((Fe vs off w).mono (fun x _ e=>by rw [e];exact hfb)) hf (fun b hb=>.inl (hff b hb)))
theorem Yc {o:Oper} {f:FuncId} {args:Array Value} (is:List Nat) {Φ:Value→List Res→Prop} (hs:Au P f args (pk is L) Φ) (hrun:∀ w,(execOp a.eval o).run P w=.ok (.enter f args) w)
    (h:Own w0 E L w) (hK:∀ v Lp w',Φ v Lp→Own w0 E (Lp++rs is L) w'→K (a.put o.dst v) w'):o.wp P a w K Q:=by
  unfold Oper.wp;rw [hrun]
  have hp:=h.perm (Mk is L)
  refine (hs _ w w hp.focus).mono ?_
  rintro e w' ⟨v,Lp,hΦ,rfl,ho⟩
  exact hK v Lp w' hΦ (hp.unfocus ho)
theorem sqg {ops:Array Oper} {o:Oper} {rest:List Oper} (hg:Region.wanted o (yielded ops a.tmps)=true) (h:o.wp P a w (wpList P ops Q rest) Q):wpList P ops Q (o::rest) a w:=by
  unfold wpList
  rw [if_pos hg]
  exact .inl h
theorem sqn {ops:Array Oper} {o:Oper} {rest:List Oper} (hg:Region.wanted o (yielded ops a.tmps)=false) (h:wpList P ops Q rest (a.put o.dst undef) w):wpList P ops Q (o::rest) a w:=by
  unfold wpList
  rw [if_neg (by simp [hg])]
  exact h
def H6 (P:Program) (md:Region.Mode) (ops:Array Oper) (Q:Exit→Act→World→Prop) (w0:World) (E:Ent) (brk:Nat→Bool):Nat→Array Bool→List Res→Act→World→Prop
  | 0,listed,_,a,w=>Region.ready md ops listed=[]∧Q .normal a w
  | fuel+1,listed,L,a,w=>
    (Region.ready md ops listed=[]→Q .normal a w)∧
    ∀ i∈Region.ready md ops listed,wpOp P ops Q i (fun a' w'=>if brk i=true then wpAny P md ops Q fuel (listed.setIfInBounds i true) a' w' else Own w0 E L w'∧H6 P md ops Q w0 E brk fuel (listed.setIfInBounds i true) L a' w') a w
variable {ops:Array Oper} {md:Region.Mode} {br:Nat→Bool}
theorem Lv:∀ (fuel:Nat) (listed:Array Bool) (L:List Res) (a:Act) (w:World),H6 P md ops Q w0 E br fuel listed L a w→wpAny P md ops Q fuel listed a w
  | 0,_,_,_,_,h=>h
  | fuel+1,_,_,_,_,h=>⟨h.1,fun i hi=>wpOp_mono (fun a' w' h'=>by
      by_cases hb:br i=true
      · rw [if_pos hb] at h';exact h'
      · rw [if_neg hb] at h';exact Lv fuel _ _ a' w' h'.2) (h.2 i hi)⟩
def Aa5 (md:Region.Mode) (ops:Array Oper) (br:Nat→Bool) (listed:Array Bool) (i c:Nat):Bool:=
  !c.testBit i&&match ops[i]? with
  | none=>false
  | some oi=>(List.range ops.size).all fun j=>j==i||match ops[j]? with
    | none=>false
    | some oj=>if c.testBit j then listed.getD j true||(!br j&&oi.apart ops oj) else !listed.getD j false&&!(oj.after.all fun e=>!Region.binds md e||c.testBit e.on)
theorem Si {i c:Nat} {oi:Oper} {v:Value} {listed0:Array Bool} (hi:ops[i]?=some oi) (hs:Region.noSelect ops=true) (hf:Aa5 md ops br listed0 i c=true)
    (hQ:∀ c a w,Q (.panic c) (a.put oi.dst v) w→Q (.panic c) a w) :
    ∀ (fuel:Nat) (listed:Array Bool) (a:Act) (w:World),listed.size=ops.size→
      (∀ j,listed.getD j false=true→c.testBit j=true)→(∀ j,listed0.getD j true=true→listed.getD j true=true)→
      i∈Region.ready md ops listed→YieldsIf P ops (Own w0 E L) oi v a→Own w0 E L w→
      H6 P md ops Q w0 E br fuel (listed.setIfInBounds i true) L (a.put oi.dst v) w→H6 P md ops Q w0 E br (fuel+1) listed L a w:=by
  have hsel:=Region.noSelect_spec hs
  simp only [Aa5,hi,Bool.and_eq_true,Bool.not_eq_true',List.all_eq_true,List.mem_range] at hf
  obtain ⟨hci,hall⟩:=hf
  intro fuel
  induction fuel with
  | zero=>
    intro listed a w _ _ _ hr hy hS H
    refine ⟨fun h=>(by rw [h] at hr;cases hr),fun j hj=>?_⟩
    by_cases hji:j=i
    · subst hji
      refine hy.wpOp hi hS ?_
      by_cases hb:br j=true
      · rw [if_pos hb];exact H
      · rw [if_neg hb];exact ⟨hS,H⟩
    · have:=ready_mono hj hji
      rw [H.1] at this
      cases this
  | succ fuel ih=>
    intro listed a w hsz hsub hsup hr hy hS H
    refine ⟨fun h=>(by rw [h] at hr;cases hr),fun j hj=>?_⟩
    by_cases hji:j=i
    · subst hji
      refine hy.wpOp hi hS ?_
      by_cases hb:br j=true
      · rw [if_pos hb];exact Lv _ _ _ _ _ H
      · rw [if_neg hb];exact ⟨hS,H⟩
    · obtain ⟨hjun,oj,hoj,hdep⟩:=mem_ready.1 hj
      have hjl:j<ops.size:=(Array.getElem?_eq_some_iff.1 hoj).1
      have hj1:=hall j hjl
      simp only [hoj,Bool.or_eq_true,beq_iff_eq,hji,false_or] at hj1
      have hcj:c.testBit j=true:=by
        cases hc:c.testBit j
        · exfalso
          rw [hc] at hj1
          simp only [Bool.false_eq_true,if_false,Bool.and_eq_true,Bool.not_eq_true'] at hj1
          have:(oj.after.all fun e=>!Region.binds md e||c.testBit e.on)=true:=by
            rw [Array.all_eq_true_iff_forall_mem]
            intro e he
            cases hb:Region.binds md e
            · rfl
            · have:=hsub e.on (hdep e he hb)
              simp [this]
          rw [this] at hj1
          exact absurd hj1.2 (by simp)
        · rfl
      rw [hcj] at hj1
      simp only [if_true,Bool.or_eq_true,Bool.and_eq_true,Bool.not_eq_true'] at hj1
      have hl0:listed0.getD j true=true→False:=fun h=>by rw [hsup j h] at hjun;cases hjun
      obtain ⟨hbj,hap⟩:=hj1.resolve_left hl0
      have h1:=H.2 j (ready_mono hj hji)
      have h2:=wpOp_putIf hoj hap (fun cs b=>hsel i oi cs b hi) (fun cs b=>hsel j oj cs b hoj) hQ hy h1
      refine wpOp_mono (fun a' w' h3=>?_) h2
      simp only [hbj,Bool.false_eq_true,if_false] at h3 ⊢
      refine ⟨h3.2.1,ih (listed.setIfInBounds j true) a' w' (by simpa using hsz) (fun k hk=>?_) (fun k hk=>?_) (ready_mono hr (Ne.symm hji)) h3.1 h3.2.1 ?_⟩
      · by_cases hjk:j=k
        · subst hjk;exact hcj
        · rw [getD_set_ne false hjk] at hk;exact hsub k hk
      · by_cases hjk:j=k
        · subst hjk
          have:j<listed.size:=by omega
          simp [this]
        · rw [getD_set_ne true hjk];exact hsup k hk
      · rw [Array.setIfInBounds_comm _ _ hji]
        exact h3.2.2
def Vx (md:Region.Mode) (ops:Array Oper) (br:Nat→Bool) (listed:Array Bool) (i c:Nat):Bool:=
  listed.size==ops.size&&((List.range ops.size).all fun j=>!listed.getD j false||c.testBit j)&&(Region.ready md ops listed).contains i&&Aa5 md ops br listed i c
theorem Uo {fuel:Nat} {listed:Array Bool} (i c:Nat) {oi:Oper} (hi:ops[i]?=some oi) {v:Value} (hs:Region.noSelect ops=true) (ht:Vx md ops br listed i c=true)
    (hQ:∀ c a w,Q (.panic c) (a.put oi.dst v) w→Q (.panic c) a w) (hy:YieldsIf P ops (Own w0 E L) oi v a) (h:Own w0 E L w)
    (hK:H6 P md ops Q w0 E br fuel (listed.setIfInBounds i true) L (a.put oi.dst v) w):H6 P md ops Q w0 E br (fuel+1) listed L a w:=by
  simp only [Vx,Bool.and_eq_true,beq_iff_eq,List.all_eq_true,List.mem_range,Bool.or_eq_true,Bool.not_eq_true'] at ht
  obtain ⟨⟨⟨h1,h2⟩,h3⟩,h4⟩:=ht
  refine Si hi hs h4 hQ fuel listed a w h1 (fun j hj=>?_) (fun j hj=>hj) (by simpa using h3) hy h hK
  rcases Nat.lt_or_ge j ops.size with hjl|hjl
  · rcases h2 j hjl with h|h
    · rw [h] at hj;cases hj
    · exact h
  · have:listed[j]?=none:=by simp;omega
    simp [this] at hj
def Iz (P:Program) (md:Region.Mode) (ops:Array Oper) (Q:Exit→Act→World→Prop) (w0:World) (E:Ent) (br:Nat→Bool) (fuel:Nat) (listed:Array Bool) (L:List Res) (a:Act) (w:World) (is:List Nat):Prop:=
  ∀ i∈is,wpOp P ops Q i (fun a' w'=>if br i=true then wpAny P md ops Q fuel (listed.setIfInBounds i true) a' w' else Own w0 E L w'∧H6 P md ops Q w0 E br fuel (listed.setIfInBounds i true) L a' w') a w
theorem Iz.nil {fuel:Nat} {listed:Array Bool}:Iz P md ops Q w0 E br fuel listed L a w []:=fun _ h=>by cases h
theorem Xz {i:Nat} {o:Oper} (hi:ops[i]?=some o) (hg:Region.wanted o (yielded ops a.tmps)=true) (h:o.wp P a w K Q):wpOp P ops Q i K a w:=by
  unfold wpOp
  simp only [hi,hg,if_true]
  exact .inl h
theorem Iz.cons {fuel:Nat} {listed:Array Bool} {i:Nat} {is:List Nat} {o:Oper} (hi:ops[i]?=some o) (hb:br i=false) (hg:Region.wanted o (yielded ops a.tmps)=true)
    (h:o.wp P a w (fun a' w'=>Own w0 E L w'∧H6 P md ops Q w0 E br fuel (listed.setIfInBounds i true) L a' w') Q) (hs:Iz P md ops Q w0 E br fuel listed L a w is):Iz P md ops Q w0 E br fuel listed L a w (i::is):=fun j hj=>by
  rcases List.mem_cons.1 hj with rfl|hj
  · simp only [hb,Bool.false_eq_true,if_false];exact Xz hi hg h
  · exact hs j hj
theorem Iz.brk {fuel:Nat} {listed:Array Bool} {i:Nat} {is:List Nat} {o:Oper} (hi:ops[i]?=some o) (hb:br i=true) (hg:Region.wanted o (yielded ops a.tmps)=true)
    (h:o.wp P a w (wpAny P md ops Q fuel (listed.setIfInBounds i true)) Q) (hs:Iz P md ops Q w0 E br fuel listed L a w is):Iz P md ops Q w0 E br fuel listed L a w (i::is):=fun j hj=>by
  rcases List.mem_cons.1 hj with rfl|hj
  · simp only [hb,if_true];exact Xz hi hg h
  · exact hs j hj
theorem So {fuel:Nat} {listed:Array Bool} (is:List Nat) (hr:Region.ready md ops listed=is) (hne:is≠[]) (h:Iz P md ops Q w0 E br fuel listed L a w is):H6 P md ops Q w0 E br (fuel+1) listed L a w:=
  ⟨fun h0=>absurd (hr▸h0) hne,hr▸h⟩
theorem Tt {listed:Array Bool} (hr:Region.ready md ops listed=[]) (h:Q .normal a w):∀ fuel,H6 P md ops Q w0 E br fuel listed L a w
  | 0=>⟨hr,h⟩
  | _+1=>⟨fun _=>h,by rw [hr];simp⟩
theorem Cb {id:Nat} (h:Q .normal a w):Exit.inBlock id Q .normal a w:=h
theorem B7 {id:Nat} (h:Q .ret a w):Exit.inBlock id Q .ret a w:=h
theorem Ea {id:Nat} (h:Q .normal a w):Exit.inBlock id Q (.exit id) a w:=by simp only [Exit.inBlock,if_true];exact h
theorem Afy {id id':Nat} (hne:(id'==id)=false) (h:Q (.exit id') a w):Exit.inBlock id Q (.exit id') a w:=by
  have:¬id'=id:=by simpa using hne
  simp only [Exit.inBlock,if_neg this];exact h
theorem Ad7 {X:Type} {body:Code} (A:X→Act) (R:X→List Res) (G:X→Prop) (μ:X→Nat) (x0:X) (h0:G x0) (ha:A x0=a) (is:List Nat) (hR:R x0=pk is L) (h:Own w0 E L w)
    (round:∀ x w,G x→Own w0 E (R x) w→body.wp P (Exit.then (fun a' w'=>∃ x',(G x'∧μ x'<μ x)∧a'=A x'∧Own w0 E (R x') w') Q) (A x) w):(Code.loop body).wp P Q a w:=by
  intro b k cs
  have key:∀ n x a w,μ x=n→G x→a=A x→Own w0 E (R x) w→
      ∃ e a' w',Q e a' w'∧Arrives P (lone (b.at a (.code body::.inLoop body::k)) cs w) b k cs e a' w':=by
    intro n
    induction n using Nat.strongRecOn with
    | _ n ih=>
      intro x a w hn hG hA hO
      subst hA
      obtain ⟨e,a₁,w₁,hq,harr⟩:=round x w hG hO b (.inLoop body::k) cs
      cases e with
      | normal=>
        obtain ⟨x',⟨hG',hlt⟩,hA',hO'⟩:=hq
        obtain ⟨e₂,a₂,w₂,hq₂,harr₂⟩:=ih (μ x') (hn▸hlt) x' a₁ w₁ rfl hG' hA' hO'
        exact ⟨e₂,a₂,w₂,hq₂,.of_steps (Steps.trans harr (.one step_inLoop)) harr₂⟩
      | exit id=>exact ⟨_,a₁,w₁,hq,.pass (x:=.inLoop body) rfl (fun _ _=>.inl (by simp)) harr⟩
      | goto l=>exact ⟨_,a₁,w₁,hq,.pass (x:=.inLoop body) rfl (fun _ _=>.inl (by simp)) harr⟩
      | ret=>exact ⟨_,a₁,w₁,hq,.pass (x:=.inLoop body) rfl (fun _ _=>.inl (by simp)) harr⟩
      | panic ch=>exact ⟨_,a₁,w₁,hq,.pass (x:=.inLoop body) rfl (fun _ _=>.inl (by simp)) harr⟩
      | outgrown=>exact ⟨_,a₁,w₁,hq,.pass (x:=.inLoop body) rfl (fun _ _=>.inl (by simp)) harr⟩
  obtain ⟨e,a',w',hq,harr⟩:=key _ x0 a w rfl h0 ha.symm (hR▸h.pick is)
  exact ⟨e,a',w',hq,.of_steps (.one step_loop) harr⟩
def Px (P:Program) (L:List Res) (tm:Array Value):List ResultVar→List Value→Prop
  | [],vs=>vs=[]
  | .tmp t::rs,vs=>∃ v vs',vs=v::vs'∧tm.getD t undef=v∧Px P L tm rs vs'
  | .cell p T::rs,vs=>∃ v vs' b off us r,vs=v::vs'∧tm.getD p undef=.pointer (some ⟨b,off,none⟩)∧ldv P T us=some v∧r∈L∧J6 r b off us∧Px P L tm rs vs'
def T0 (tm:Array Value):ResultVar→Sem Value
  | .tmp t=>pure (tm.getD t undef)
  | .cell p T=>do loadVar T (← asAddr (tm.getD p undef))
theorem Oo {tm:Array Value}:∀ (l:List ResultVar) (vs:List Value),Px P L tm l vs→Own w0 E L w→(l.mapM (T0 tm)).run P w=.ok vs w
  | [],vs,h,_=>by
    have:vs=[]:=h
    subst this;rfl
  | .tmp t::l,vs,h,ho=>by
    obtain ⟨v,vs',rfl,hv,h⟩:=h
    have ih:=Oo l vs' h ho
    have e:(T0 tm (.tmp t)).run P w=.ok v w:=by
      show (Pure.pure (tm.getD t undef):Sem Value).run P w=_
      rw [hv];rfl
    simp only [List.mapM_cons,Sem.run_bind,Sem.run_pure,Result.andThen_ok,e,ih]
  | .cell p T::l,vs,h,ho=>by
    obtain ⟨v,vs',b,off,us,r,rfl,hp,hT,hr,hrd,h⟩:=h
    have ih:=Oo l vs' h ho
    have hl:=Jm (P:=P) (w:=w) hT (hrd w (ho.facts r hr))
    have e:(T0 tm (.cell p T)).run P w=.ok v w:=by
      show (asAddr (tm.getD p undef) >>= fun x=>loadVar T x).run P w=_
      rw [Sem.run_bind,hp]
      exact hl
    simp only [List.mapM_cons,Sem.run_bind,Sem.run_pure,Result.andThen_ok,e,ih]
def Ahc (vs:List Value):Value:=match vs with|[v]=>v|_=>.tuple vs.toArray
theorem ret_O {fn:Func} {R:Ending→World→Prop} {tm:Array Value} (vs:List Value) (h:Own w0 E L w) (hr:Px P L tm fn.results.toList vs) (hR:R (.returned (Ahc vs)) w):bodyPost P fn R .ret ⟨tm,[]⟩ w:=by
  refine ⟨rfl,_,?_,hR⟩
  have hm:=Oo fn.results.toList vs hr h
  have e0:(fn.results.mapM (T0 tm))=List.toArray <$> fn.results.toList.mapM (T0 tm):=Array.mapM_eq_mapM_toList
  have e:results fn tm=(fn.results.mapM (T0 tm)) >>= fun vs=>pure (if h:vs.size=1 then vs[0] else .tuple vs):=rfl
  have e1:(fn.results.mapM (T0 tm)).run P w=.ok vs.toArray w:=by
    rw [e0]
    show ((fn.results.toList.mapM (T0 tm)) >>= fun l=>pure l.toArray).run P w=_
    rw [Sem.run_bind,hm,Result.andThen_ok,Sem.run_pure]
  rw [e,Sem.run_bind,e1,Result.andThen_ok,Sem.run_pure]
  congr 1
  match vs with
  | []=>rfl
  | [v]=>rfl
  | _::_::_=>rfl
end
def Dg:Value→Nat
  | .slice (some a) _ _=>a.block
  | .map (some r)=>r
  | _=>0
def B0:Value→Nat
  | .slice (some a) _ _=>a.off
  | _=>0
abbrev A8 {α:Type} (wr:Bool) (v:Value) (T k:Nat) (enc:α→List Value) (l:List α):Res:=rSl wr v T k l.length (l.flatMap enc)
theorem Bb.own {w:World} {v:Value} {T k n:Nat} {xs:List Value} {S:Nat→Prop} (h:Bb w v T k n xs S):Bb w v T k n xs (Gz v)∧∀ b,Gz v b→S b:=by
  obtain ⟨h1,⟨rfl,h2⟩|⟨g,off,cap,cs,rfl,hb,a,b,c,d,s⟩⟩:=h
  · exact ⟨⟨h1,.inl ⟨rfl,h2⟩⟩,fun b hb=>hb.elim⟩
  · exact ⟨⟨h1,.inr ⟨g,off,cap,cs,rfl,hb,a,b,c,d,rfl⟩⟩,fun b hb=>by have:b=g:=hb;rw [this];exact s⟩
theorem rdSl {wr:Bool} {v:Value} {T k n:Nat} {xs:List Value} (p:Nat) {vs:List Value} (h:∀ j u,vs[j]?=some u→xs[p+j]?=some u):J6 (rSl wr v T k n xs) (Dg v) (B0 v+p) vs:=fun w hf j u hj=>by
  obtain ⟨h1,⟨rfl,h2⟩|⟨g,off,cap,cs,rfl,hb,h2,h3,h4,h5,_⟩⟩:=hf
  · have:=h j u hj
    have hx:xs=[]:=by subst h2;simpa using h1
    rw [hx] at this;simp at this
  · show w.cell? ⟨g,off+p+j,none⟩=_
    rw [A9 hb,Nat.add_assoc]
    exact h5 _ u (h j u hj)
theorem wr {x y:Int} (h:y=x∧-9223372036854775808≤x∧x≤9223372036854775807):Value.int .i64 (IntKind.i64.wrap x)=Value.int .i64 y:=by
  rw [IntWalk.i64_in _ ⟨h.2.1,h.2.2⟩,h.1]
theorem rdRow {α:Type} {wr:Bool} {v:Value} {T k:Nat} {enc:α→List Value} {l:List α} (he:∀ a,(enc a).length=k) {i:Nat} {x:α} (hi:l[i]?=some x) (r:Nat) {vs:List Value} (h:((enc x).drop r).take vs.length=vs) :
    J6 (A8 wr v T k enc l) (Dg v) (B0 v+i*k+r) vs:=by
  rw [Nat.add_assoc]
  refine rdSl _ fun j u hj=>?_
  have hl:=(List.getElem?_eq_some_iff.1 hj).1
  have h2:=congrArg (fun l=>l[j]?) h
  simp only [List.getElem?_take,List.getElem?_drop,if_pos hl] at h2
  have hlt:r+j<k:=by
    rw [← he x]
    have:(enc x)[r+j]?=some u:=by rw [h2];exact hj
    exact (List.getElem?_eq_some_iff.1 this).1
  rw [Nat.add_assoc,F7 enc he l i (r+j) x hi hlt,h2];exact hj
theorem L6 {α:Type} {wr:Bool} {v:Value} {T k:Nat} {enc:α→List Value} {l:List α} (he:∀ a,(enc a).length=k) {i:Nat} {x:α} (hi:l[i]?=some x) {vs:List Value} (h:(enc x).take vs.length=vs) :
    J6 (A8 wr v T k enc l) (Dg v) (B0 v+i*k) vs:=rdRow (r:=0) he hi h
theorem Sy {b:Nat} {T:TypeId} {fz:Nat×Nat} {w:World} {cs:Array Value} (vs:List Value) (o:Nat) (h:w.heap[b]?=some (.cells cs T fz)) (hl:o+vs.length≤cs.size) :
    ∃ cs',(w.setCells b o vs).heap[b]?=some (.cells cs' T fz)∧cs'.size=cs.size∧∀ i,cs'[i]?=if o≤i∧i<o+vs.length then vs[i - o]? else cs[i]?:=by
  obtain ⟨cs',h1,h2,h3,h4⟩:=D8 vs o w cs h
  refine ⟨cs',h1,h2,fun i=>?_⟩
  split
  · have:=h3 (i - o) (by omega) (by omega)
    rw [show o+(i - o)=i by omega] at this
    exact this
  · exact h4 i (by omega)
theorem Ts {α:Type} {k:Nat} {enc:α→List Value} (he:∀ a,(enc a).length=k):∀ (l:List α) (i:Nat) (x:α),i<l.length→(l.set i x).flatMap enc=(l.flatMap enc).take (i*k)++(enc x++(l.flatMap enc).drop (i*k+k))
  | [],_,_,h=>by simp at h
  | y::l,0,x,_=>by simp [he y,List.drop_append]
  | y::l,i+1,x,h=>by
    have ih:=Ts he l i x (by simpa using h)
    simp only [List.set_cons_succ,List.flatMap_cons,ih]
    have e1:(enc y++l.flatMap enc).take ((i+1)*k)=enc y++(l.flatMap enc).take (i*k):=by
      rw [List.take_append,he,Nat.add_mul,Nat.one_mul,List.take_of_length_le (by rw [he];omega)];congr 2;omega
    have e2:(enc y++l.flatMap enc).drop ((i+1)*k+k)=(l.flatMap enc).drop (i*k+k):=by
      rw [List.drop_append,he,Nat.add_mul,Nat.one_mul,List.drop_of_length_le (by rw [he];omega),List.nil_append];congr 1;omega
    rw [e1,e2,List.append_assoc]
theorem Ym {α:Type} {v:Value} {T k:Nat} {enc:α→List Value} {l:List α} (he:∀ a,(enc a).length=k) {i:Nat} {x:α} (hi:l[i]?=some x) (r:Nat) (x':α) {vs:List Value} (h:(enc x).take r++(vs++(enc x).drop (r+vs.length))=enc x') (hr:Nat.ble r k=true) :
    Xa (A8 true v T k enc l) (Dg v) (B0 v+i*k+r) vs (A8 true v T k enc (l.set i x')):=by
  refine ⟨rfl,fun w hf=>?_⟩
  have hil:i<l.length:=(List.getElem?_eq_some_iff.1 hi).1
  have hrl:r+vs.length≤k:=by
    have h1:=congrArg List.length h
    have h2:(enc x).length=k:=he x
    have h3:(enc x').length=k:=he x'
    simp only [List.length_append,List.length_take,List.length_drop] at h1
    have:=Nat.le_of_ble_eq_true hr
    omega
  have hik:(i+1)*k≤l.length*k:=Nat.mul_le_mul_right _ hil
  rw [Nat.add_mul,Nat.one_mul] at hik
  obtain ⟨h1,⟨rfl,h2⟩|⟨g,off,cap,cs,rfl,hb,h2,h3,h4,h5,_⟩⟩:=hf
  · have:l.length=0:=h2
    omega
  have hck:l.length*k≤cap*k:=Nat.mul_le_mul_right _ h2
  show (∀ j,j<vs.length→(w.cell? ⟨g,off+i*k+r+j,none⟩).isSome=true∧w.frozen? ⟨g,off+i*k+r+j,none⟩=false)∧Bb (w.setCells g (off+i*k+r) vs) (.slice (some ⟨g,off,none⟩) l.length cap) T k (l.set i x').length ((l.set i x').flatMap enc) _∧_∧_
  refine ⟨fun j hj=>⟨?_,Ef hb _⟩,?_,rfl,fun _ e=>e⟩
  · rw [A9 hb];simp;omega
  obtain ⟨cs',e1,e2,e3⟩:=Sy vs (off+i*k+r) hb (by omega)
  rw [List.length_set]
  refine ⟨by rw [Fp enc he];simp,.inr ⟨g,off,cap,cs',rfl,e1,h2,h3,by rw [e2];exact h4,fun j u hj=>?_,rfl⟩⟩
  rw [Ts he l i x' hil] at hj
  rw [e3]
  have hlx:(l.flatMap enc).length=l.length*k:=Fp enc he l
  rw [List.getElem?_append,List.length_take,hlx,Nat.min_eq_left (by omega)] at hj
  by_cases c1:j<i*k
  · rw [if_pos c1,List.getElem?_take,if_pos c1] at hj
    rw [if_neg (by omega)]
    exact h5 j u hj
  · rw [if_neg c1,List.getElem?_append,he x'] at hj
    by_cases c2:j - i*k<k
    · rw [if_pos c2,← h,List.getElem?_append,List.length_take,he x,Nat.min_eq_left (by omega)] at hj
      by_cases c3:j - i*k<r
      · rw [if_pos c3,List.getElem?_take,if_pos c3] at hj
        rw [if_neg (by omega)]
        refine h5 j u ?_
        rw [← hj,show j=i*k+(j - i*k) by omega,F7 enc he l i (j - i*k) x hi c2]
        simp
      · rw [if_neg c3,List.getElem?_append] at hj
        by_cases c4:j - i*k - r<vs.length
        · rw [if_pos c4] at hj
          rw [if_pos (by omega),← hj]
          congr 1;omega
        · rw [if_neg c4,List.getElem?_drop] at hj
          rw [if_neg (by omega)]
          refine h5 j u ?_
          rw [← hj,show j=i*k+(j - i*k) by omega,F7 enc he l i (j - i*k) x hi c2]
          congr 1;omega
    · rw [if_neg c2,List.getElem?_drop] at hj
      rw [if_neg (by omega)]
      refine h5 j u ?_
      rw [← hj];congr 1;omega
section
variable {P:Program} {a:Act} {w w0:World} {E:Ent} {L:List Res} {K:Act→World→Prop} {Q:Exit→Act→World→Prop} {ops:Array Oper} {rest:List Oper}
def Cl (P:Program) (w0:World) (E:Ent) (L:List Res) (o:Oper) (a:Act) (v:Value):Prop:=∀ w,Own w0 E L w→(execOp a.eval o).run P w=.ok (.value v) w
theorem Az {o:Oper} {v:Value} (hv:∀ w,(execOp a.eval o).run P w=.ok (.value v) w):Cl P w0 E L o a v:=fun w _=>hv w
theorem A4 {o:Oper} {v v':Value} (h:Cl P w0 E L o a v) (e:v=v'):Cl P w0 E L o a v':=e▸h
theorem Je {dst:Option Tmp} {T:TypeId} {x:Operand} {ty:TypeId} {pos:String} {after:Array Edge} {g:Option (Nat×Bool)} {wr:Bool} {b:Nat} {cs:List Value} {T':TypeId} (off:Nat) (vs:List Value) (v:Value)
    (hx:(a.eval x,ldv P T vs,(cs.drop off).take vs.length)=(.pointer (some ⟨b,off,none⟩),some v,vs)) (i:Nat) (hi:L[i]?=some (Bw wr b cs T')):Cl P w0 E L ⟨dst,.load T x,ty,pos,after,g⟩ a v:=fun w h=>by
  obtain ⟨h1,h2,h3⟩:a.eval x=_∧ldv P T vs=_∧(cs.drop off).take vs.length=vs:=by simpa using hx
  have hl:=Jm (P:=P) (w:=w) h2 (Fb off h3 w (h.fact i hi))
  simp only [execOp,Instr.loadAt,h1,Instr.sureAddr,Sem.run_bind,Sem.run_pure,Result.andThen_ok,hl]
theorem Af0 {dst:Option Tmp} {T:TypeId} {x:Operand} {ty:TypeId} {pos:String} {after:Array Edge} {g:Option (Nat×Bool)} {r:Res} {b:Nat} (off:Nat) (vs:List Value) (v:Value)
    (hx:(a.eval x,ldv P T vs)=(.pointer (some ⟨b,off,none⟩),some v)) (i:Nat) (hi:L[i]?=some r) (hr:J6 r b off vs):Cl P w0 E L ⟨dst,.load T x,ty,pos,after,g⟩ a v:=fun w h=>by
  obtain ⟨h1,h2⟩:a.eval x=_∧ldv P T vs=_:=by simpa using hx
  have hl:=Jm (P:=P) (w:=w) h2 (hr w (h.fact i hi))
  simp only [execOp,Instr.loadAt,h1,Instr.sureAddr,Sem.run_bind,Sem.run_pure,Result.andThen_ok,hl]
theorem Bb.val {w:World} {v:Value} {T k n:Nat} {xs:List Value} {S:Nat→Prop} (h:Bb w v T k n xs S):∃ ad cap,v=.slice ad n cap∧n≤cap∧(∀ i,i<n→ad=some ⟨Dg v,B0 v,none⟩):=by
  obtain ⟨h1,⟨rfl,h2⟩|⟨g,off,cap,cs,rfl,hb,h2,h3,h4,h5,_⟩⟩:=h
  · exact ⟨none,0,by rw [h2],by omega,fun i hi=>by omega⟩
  · exact ⟨_,cap,rfl,h2,fun _ _=>rfl⟩
theorem Ki {dst:Option Tmp} {T:TypeId} {x:Operand} {ty:TypeId} {pos:String} {after:Array Edge} {g:Option (Nat×Bool)} {wr:Bool} {v:Value} {d k n:Nat} {xs:List Value} (hx:(a.eval x,P.underlying T)=(v,some (.slice d))) (i:Nat) (hi:L[i]?=some (rSl wr v d k n xs)) :
    Cl P w0 E L ⟨dst,.call { callee:=.builtin .len,args:=#[x],argTypes:=#[T] },ty,pos,after,g⟩ a (.int .i64 n):=fun w h=>by
  obtain ⟨h1,h2⟩:a.eval x=v∧P.underlying T=_:=by simpa using hx
  obtain ⟨ad,cap,e,_,_⟩:=(h.fact i hi:Bb _ _ _ _ _ _ _).val
  subst e
  simp [execOp,resolve,invoke,builtin,Builtin.len_,h1,Sem.run_bind,run_underlying h2,goInt]
theorem Lk {dst:Option Tmp} {T:TypeId} {x y:Operand} {ty:TypeId} {pos:String} {after:Array Edge} {g:Option (Nat×Bool)} {wr:Bool} {v:Value} {d k n:Nat} {xs:List Value} (j:Nat) (hx:(a.eval x,a.eval y,P.underlying T,(P.info? d).map (·.size))=(v,.int .i64 (j:Int),some (.slice d),some k)) (hj:j<n) (i:Nat) (hi:L[i]?=some (rSl wr v d k n xs)) :
    Cl P w0 E L ⟨dst,.indexAddr T x y,ty,pos,after,g⟩ a (.pointer (some ⟨Dg v,B0 v+j*k,none⟩)):=fun w h=>by
  obtain ⟨h1,h2,h3,h4⟩:a.eval x=v∧a.eval y=_∧P.underlying T=_∧(P.info? d).map (·.size)=some k:=by simpa using hx
  obtain ⟨ad,cap,e,_,hp⟩:=(h.fact i hi:Bb _ _ _ _ _ _ _).val
  obtain rfl:=hp j hj
  obtain ⟨B,hB⟩:∃ B,B=Dg v:=⟨_,rfl⟩
  obtain ⟨O,hO⟩:∃ O,O=B0 v:=⟨_,rfl⟩
  rw [← hB,← hO] at e ⊢
  subst e
  have hz:=Gk (w:=w) h4
  have hi1:(0:Int)≤(j:Int)∧(j:Int)<(n:Int):=by omega
  simp only [execOp,Instr.indexAt,h1,h2,asIntOf,Sem.run_bind,Sem.run_pure,Result.andThen_ok,run_underlying h3]
  simp only [Sem.run_ite,hi1,and_self,if_true,Sem.run_bind,hz,Result.andThen_ok,Sem.run_pure,Int.toNat_natCast,Addr.add_lit]
theorem Agl {dst:Option Tmp} {T:TypeId} {x y:Operand} {ty:TypeId} {pos:String} {after:Array Edge} {g:Option (Nat×Bool)} {wr:Bool} {v:Value} {d k n:Nat} {xs:List Value} (j:Nat) {z:Int} (hz:z=(j:Int)) (hx:(a.eval x,a.eval y,P.underlying T,(P.info? d).map (·.size))=(v,.int .i64 z,some (.slice d),some k)) (hj:j<n) (i:Nat) (hi:L[i]?=some (rSl wr v d k n xs)) :
    Cl P w0 E L ⟨dst,.indexAddr T x y,ty,pos,after,g⟩ a (.pointer (some ⟨Dg v,B0 v+j*k,none⟩)):=Lk j (hz▸hx) hj i hi
structure LW (P:Program) (ops:Array Oper) (Q:Exit→Act→World→Prop) (l:List Oper) (a:Act) (w:World):Prop where
  out:wpList P ops Q l a w
structure CW (P:Program) (c:Code) (Q:Exit→Act→World→Prop) (a:Act) (w:World):Prop where
  out:c.wp P Q a w
structure DW (P:Program) (ops:Array Oper) (Q:Exit→Act→World→Prop) (w0:World) (E:Ent) (br:Nat→Bool) (fuel:Nat) (listed:Array Bool) (L:List Res) (a:Act) (w:World):Prop where
  out:H6 P .any ops Q w0 E br fuel listed L a w
theorem Cu {ops:Array Oper} (h:Q .normal a w):LW P ops Q [] a w:=⟨h⟩
theorem sn {ops:Array Oper} {o:Oper} {rest:List Oper} (hg:Region.wanted o (yielded ops a.tmps)=false) (h:LW P ops Q rest (a.put o.dst undef) w):LW P ops Q (o::rest) a w:=⟨sqn hg h.out⟩
theorem Kc {o:Oper} {v:Value} (hg:Region.wanted o (yielded ops a.tmps)=true) (h:Own w0 E L w) (hv:Cl P w0 E L o a v) (hK:LW P ops Q rest (a.put o.dst v) w):LW P ops Q (o::rest) a w:=⟨sqg hg (by unfold Oper.wp;rw [hv w h];exact hK.out)⟩
theorem Ae2 {o:Oper} (v:Value) (hg:Region.wanted o (yielded ops a.tmps)=true) (hv:∀ w,(execOp a.eval o).run P w=.ok (.value v) w) (hK:LW P ops Q rest (a.put o.dst v) w):LW P ops Q (o::rest) a w:=⟨sqg hg (by unfold Oper.wp;rw [hv w];exact hK.out)⟩
theorem sq_m1 {o:Oper} {v:Value} (B:Bool) (hg:Region.wanted o (yielded ops a.tmps)=B) (h:Own w0 E L w) (hv:B=true→Cl P w0 E L o a v) (hK:LW P ops Q rest (a.put o.dst (if B=true then v else undef)) w):LW P ops Q (o::rest) a w:=by
  obtain ⟨hK⟩:=hK
  cases B
  · exact ⟨sqn hg hK⟩
  · exact ⟨sqg hg (by unfold Oper.wp;rw [hv rfl w h];exact hK)⟩
theorem sq_m0 {o:Oper} {v:Value} (B:Bool) (hg:Region.wanted o (yielded ops a.tmps)=!B) (h:Own w0 E L w) (hv:B=false→Cl P w0 E L o a v) (hK:LW P ops Q rest (a.put o.dst (if B=false then v else undef)) w):LW P ops Q (o::rest) a w:=by
  obtain ⟨hK⟩:=hK
  cases B
  · exact ⟨sqg hg (by unfold Oper.wp;rw [hv rfl w h];exact hK)⟩
  · exact ⟨sqn hg hK⟩
theorem Gm {o:Oper} (hg:Region.wanted o (yielded ops a.tmps)=true) (mk:Nat→Value) (cs:List Value) (T:TypeId) (hrun:∀ w,(execOp a.eval o).run P w=.ok (.value (mk w.heap.size)) (w.alloc (.cells cs.toArray T)))
    (h:Own w0 E L w) (hK:∀ b w',Own w0 E (Bw true b cs T::L) w'→LW P ops Q rest (a.put o.dst (mk b)) w'):LW P ops Q (o::rest) a w:=⟨sqg hg (Acr mk cs T hrun h fun b w' h=>(hK b w' h).out)⟩
theorem Af6 {dst:Option Tmp} {T:TypeId} {x y:Operand} {ty:TypeId} {pos:String} {after:Array Edge} {g:Option (Nat×Bool)} {b:Nat} (off:Nat) (vs cs':List Value) {cs:List Value} {T':TypeId} (h:Own w0 E L w) (i:Nat) (hi:L[i]?=some (Bw true b cs T'))
    (hx:(a.eval x,(a.eval y).cells,(P.info? T).map (·.size),Nat.ble (off+vs.length) cs.length,vs.all (·.oneCell'),cs.take off++(vs++cs.drop (off+vs.length)))=(.pointer (some ⟨b,off,none⟩),vs.toArray,some vs.length,true,true,cs'))
    (hK:∀ w',Own w0 E (L.set i (Bw true b cs' T')) w'→K (a.put dst undef) w'):Oper.wp P ⟨dst,.store T x y,ty,pos,after,g⟩ a w K Q:=by
  simp only [Prod.mk.injEq] at hx
  obtain ⟨h1,h2,h3,h4,h5,h6⟩:=hx
  exact Or h1 h2 h3 (List.all_eq_true.1 h5) h i hi (We off vs (Nat.le_of_ble_eq_true h4) h6) hK
theorem Agn {dst:Option Tmp} {T:TypeId} {x y:Operand} {ty:TypeId} {pos:String} {after:Array Edge} {g:Option (Nat×Bool)} {b:Nat} (off:Nat) (vs:List Value) {r r':Res} (h:Own w0 E L w) (i:Nat) (hi:L[i]?=some r)
    (hx:(a.eval x,(a.eval y).cells,(P.info? T).map (·.size),vs.all (·.oneCell'))=(.pointer (some ⟨b,off,none⟩),vs.toArray,some vs.length,true)) (hr:Xa r b off vs r')
    (hK:∀ w',Own w0 E (L.set i r') w'→K (a.put dst undef) w'):Oper.wp P ⟨dst,.store T x y,ty,pos,after,g⟩ a w K Q:=by
  simp only [Prod.mk.injEq] at hx
  obtain ⟨h1,h2,h3,h4⟩:=hx
  exact Or h1 h2 h3 (List.all_eq_true.1 h4) h i hi hr hK
def Jp (P:Program) (d size:Nat):Bool:=match P.info? d with
  | some i=>(match i.zero with|some z=>z.cells.size==size|none=>false)&&(i.size==size&&(Nat.ble i.bytes 1000&&Nat.ble 1 size))
  | none=>false
theorem K0 {d size:Nat} (h:Jp P d size=true):∃ z bytes,(P.info? d).map (fun i=>(i.zero,i.size,i.bytes))=some (some z,size,bytes)∧z.cells.size=size∧bytes≤1000∧0<size:=by
  unfold Jp at h
  cases hi:P.info? d with
  | none=>rw [hi] at h;cases h
  | some i=>
    rw [hi] at h
    simp only [Bool.and_eq_true,beq_iff_eq] at h
    obtain ⟨h1,h2,h3,h4⟩:=h
    cases hz:i.zero with
    | none=>rw [hz] at h1;cases h1
    | some z=>
      rw [hz] at h1
      exact ⟨z,i.bytes,by simp [hz,h2],by simpa using h1,Nat.le_of_ble_eq_true h3,Nat.le_of_ble_eq_true h4⟩
def Ago (v:Value):Prop:=v.cells=#[v]∧v.oneCell'=true
theorem Own.slv {wr:Bool} {v:Value} {T k n:Nat} {xs:List Value} (h:Own w0 E L w) (i:Nat) (hi:L[i]?=some (rSl wr v T k n xs)):Ago v:=by
  obtain ⟨ad,cap,e,_,_⟩:=(h.fact i hi:Bb _ _ _ _ _ _ _).val
  rw [e];exact ⟨rfl,rfl⟩
theorem Ags {dst:Option Tmp} {T:TypeId} {x y:Operand} {ty:TypeId} {pos:String} {after:Array Edge} {g:Option (Nat×Bool)} {b:Nat} {v:Value} (hv:Ago v) (off:Nat) (cs':List Value) {cs:List Value} {T':TypeId} (h:Own w0 E L w) (i:Nat) (hi:L[i]?=some (Bw true b cs T'))
    (hx:(a.eval x,a.eval y,(P.info? T).map (·.size),Nat.ble (off+1) cs.length,cs.take off++(v::cs.drop (off+1)))=(.pointer (some ⟨b,off,none⟩),v,some 1,true,cs'))
    (hK:∀ w',Own w0 E (L.set i (Bw true b cs' T')) w'→K (a.put dst undef) w'):Oper.wp P ⟨dst,.store T x y,ty,pos,after,g⟩ a w K Q:=by
  simp only [Prod.mk.injEq] at hx
  obtain ⟨h1,h2,h3,h4,h6⟩:=hx
  exact Or (vs:=[v]) h1 (by rw [h2];exact hv.1) h3 (fun u hu=>by rw [List.mem_singleton.1 hu];exact hv.2) h i hi (We off [v] (Nat.le_of_ble_eq_true h4) h6) hK
theorem Jh {dst:Option Tmp} {T:TypeId} {x y:Operand} {ty:TypeId} {pos:String} {after:Array Edge} {g:Option (Nat×Bool)} {b:Nat} {v:Value} (hg:Region.wanted ⟨dst,.store T x y,ty,pos,after,g⟩ (yielded ops a.tmps)=true) (hv:Ago v) (off:Nat) (cs':List Value) {cs:List Value} {T':TypeId} (h:Own w0 E L w) (i:Nat) (hi:L[i]?=some (Bw true b cs T'))
    (hx:(a.eval x,a.eval y,(P.info? T).map (·.size),Nat.ble (off+1) cs.length,cs.take off++(v::cs.drop (off+1)))=(.pointer (some ⟨b,off,none⟩),v,some 1,true,cs'))
    (hK:∀ w',Own w0 E (L.set i (Bw true b cs' T')) w'→LW P ops Q rest (a.put dst undef) w'):LW P ops Q (⟨dst,.store T x y,ty,pos,after,g⟩::rest) a w:=⟨sqg hg (Ags hv off cs' h i hi hx fun w' h=>(hK w' h).out)⟩
theorem Aed {α:Type} {enc:α→List Value} {l:List α} {dst:Option Tmp} {T:TypeId} {s x:Operand} {ty:TypeId} {pos:String} {after:Array Edge} {g:Option (Nat×Bool)} {v:Value} {b o size:Nat} {d:TypeId} {r:Res} (c:Nat) (e:α)
    (hx:(a.eval s,a.eval x,P.underlying T,Jp P d size,(enc e).length,(enc e).all (·.oneCell'))=(v,.slice (some ⟨b,o,none⟩) 1 c,some (.slice d),true,size,true))
    (h:Own w0 E L w) (i:Nat) (hi:L[i]?=some (A8 true v d size enc l)) (j:Nat) (hj:L[j]?=some r) (hr:J6 r b o (enc e)) (hb:l.length<100000000000)
    (hK:∀ v' w',Own w0 E (L.set i (A8 true v' d size enc (l++[e]))) w'→K (a.put dst v') w'):Oper.wp P ⟨dst,.call { callee:=.builtin .append,args:=#[s,x],argTypes:=#[T,T] },ty,pos,after,g⟩ a w K Q:=by
  simp only [Prod.mk.injEq] at hx
  obtain ⟨h1,h2,h3,h4',h6,h7⟩:=hx
  obtain ⟨z,bytes,h4,h5,hby,h8⟩:=K0 h4'
  obtain ⟨v',w',S',hrun,hs,hc,hg⟩:=Kv (P:=P) (ty:=ty) (c:=c) h3 h4 h5 h8 (h.fact i hi:Bb _ _ _ _ _ _ _) (a:=⟨b,o,none⟩) (m:=1) (news:=enc e) (by omega)
    (fun j u hu=>by rw [Addr.add_lit];exact hr w (h.fact _ hj) j u hu) (fun u hu=>List.all_eq_true.1 h7 u hu) (by unfold maxLen;omega) (by
      have:(l.length+1)*bytes≤100000000000*1000:=Nat.mul_le_mul (by omega) hby
      omega)
  obtain ⟨hs1,hs2⟩:=hs.own
  unfold Oper.wp
  simp [execOp,resolve,invoke,builtin,h1,h2,hrun,Result.andThen,Oper.upon]
  refine hK _ _ (h.upd i hi rfl hc ?_ (fun b hb=>?_))
  · have:(l++[e]).flatMap enc=l.flatMap enc++enc e:=by simp
    show Bb w' v' d size (l++[e]).length ((l++[e]).flatMap enc) _
    rw [this,List.length_append]
    exact hs1
  · rcases hg b (hs2 b hb) with h|h
    · exact .inl h
    · exact .inr h.1
theorem Yt {o:Oper} {f:FuncId} (args:Array Value) (is:List Nat) {Φ:Value→List Res→Prop} (hg:Region.wanted o (yielded ops a.tmps)=true) (hs:Au P f args (pk is L) Φ) (hrun:∀ w,(execOp a.eval o).run P w=.ok (.enter f args) w)
    (h:Own w0 E L w) (hK:∀ v Lp w',Φ v Lp→Own w0 E (Lp++rs is L) w'→LW P ops Q rest (a.put o.dst v) w'):LW P ops Q (o::rest) a w:=⟨sqg hg (Yc is hs hrun h fun v Lp w' hΦ h=>(hK v Lp w' hΦ h).out)⟩
theorem Agc {dst:Option Tmp} {T:TypeId} {x y:Operand} {ty:TypeId} {pos:String} {after:Array Edge} {g:Option (Nat×Bool)} {b:Nat} (hg:Region.wanted ⟨dst,.store T x y,ty,pos,after,g⟩ (yielded ops a.tmps)=true) (off:Nat) (vs cs':List Value) {cs:List Value} {T':TypeId} (h:Own w0 E L w) (i:Nat) (hi:L[i]?=some (Bw true b cs T'))
    (hx:(a.eval x,(a.eval y).cells,(P.info? T).map (·.size),Nat.ble (off+vs.length) cs.length,vs.all (·.oneCell'),cs.take off++(vs++cs.drop (off+vs.length)))=(.pointer (some ⟨b,off,none⟩),vs.toArray,some vs.length,true,true,cs'))
    (hK:∀ w',Own w0 E (L.set i (Bw true b cs' T')) w'→LW P ops Q rest (a.put dst undef) w'):LW P ops Q (⟨dst,.store T x y,ty,pos,after,g⟩::rest) a w:=⟨sqg hg (Af6 off vs cs' h i hi hx fun w' h=>(hK w' h).out)⟩
theorem Fc {dst:Option Tmp} {T:TypeId} {x y:Operand} {ty:TypeId} {pos:String} {after:Array Edge} {g:Option (Nat×Bool)} {b:Nat} (hg:Region.wanted ⟨dst,.store T x y,ty,pos,after,g⟩ (yielded ops a.tmps)=true) (off:Nat) (vs:List Value) {r r':Res} (h:Own w0 E L w) (i:Nat) (hi:L[i]?=some r)
    (hx:(a.eval x,(a.eval y).cells,(P.info? T).map (·.size),vs.all (·.oneCell'))=(.pointer (some ⟨b,off,none⟩),vs.toArray,some vs.length,true)) (hr:Xa r b off vs r')
    (hK:∀ w',Own w0 E (L.set i r') w'→LW P ops Q rest (a.put dst undef) w'):LW P ops Q (⟨dst,.store T x y,ty,pos,after,g⟩::rest) a w:=⟨sqg hg (Agn off vs h i hi hx hr fun w' h=>(hK w' h).out)⟩
theorem Hc {α:Type} {enc:α→List Value} {l:List α} {dst:Option Tmp} {T:TypeId} {s x:Operand} {ty:TypeId} {pos:String} {after:Array Edge} {g:Option (Nat×Bool)} {v:Value} {b o size:Nat} {d:TypeId} {r:Res} (hg:Region.wanted ⟨dst,.call { callee:=.builtin .append,args:=#[s,x],argTypes:=#[T,T] },ty,pos,after,g⟩ (yielded ops a.tmps)=true) (c:Nat) (e:α)
    (hx:(a.eval s,a.eval x,P.underlying T,Jp P d size,(enc e).length,(enc e).all (·.oneCell'))=(v,.slice (some ⟨b,o,none⟩) 1 c,some (.slice d),true,size,true))
    (h:Own w0 E L w) (i:Nat) (hi:L[i]?=some (A8 true v d size enc l)) (j:Nat) (hj:L[j]?=some r) (hr:J6 r b o (enc e)) (hb:l.length<100000000000)
    (hK:∀ v' w',Own w0 E (L.set i (A8 true v' d size enc (l++[e]))) w'→LW P ops Q rest (a.put dst v') w'):LW P ops Q (⟨dst,.call { callee:=.builtin .append,args:=#[s,x],argTypes:=#[T,T] },ty,pos,after,g⟩::rest) a w:=⟨sqg hg (Aed c e hx h i hi j hj hr hb fun v' w' h=>(hK v' w' h).out)⟩
theorem Own.nilSl (h:Own w0 E L w) (T k:Nat):Own w0 E (rSl true (.slice none 0 0) T k 0 []::L) w:=h.push (Chg.refl _ _) (Aft _ _ _ _) (fun b hb=>(hb:False).elim)
theorem Own.nilRows {α:Type} (h:Own w0 E L w) (T k:Nat) (enc:α→List Value):Own w0 E (A8 true (.slice none 0 0) T k enc []::L) w:=h.nilSl T k
theorem yq {o:Oper} {v:Value} (hg:Region.wanted o (yielded ops a.tmps)=true) (hv:Cl P w0 E L o a v):YieldsIf P ops (Own w0 E L) o v a:=.inl ⟨hg,hv⟩
theorem ym1 {o:Oper} {v:Value} (B:Bool) (hg:Region.wanted o (yielded ops a.tmps)=B) (hv:B=true→Cl P w0 E L o a v):YieldsIf P ops (Own w0 E L) o (if B=true then v else undef) a:=by
  cases B
  · exact .inr ⟨hg,rfl⟩
  · exact .inl ⟨hg,hv rfl⟩
theorem Dt {X:Type} {A:X→Act} {R:X→List Res} {G:X→Prop} {a:Act} {w:World} (f:(Nat→Value)→X) (hG:G (f fun n=>a.tmps.getD n undef)) (ha:a=A (f fun n=>a.tmps.getD n undef)) (is:List Nat) (hR:R (f fun n=>a.tmps.getD n undef)=pk is L) (h:Own w0 E L w) :
    ∃ x',G x'∧a=A x'∧Own w0 E (R x') w:=⟨_,hG,ha,hR▸h.pick is⟩
def Mid (M:Act→World→Prop) (Q:Exit→Act→World→Prop):Exit→Act→World→Prop
  | .normal,a,w=>M a w
  | e,a,w=>Q e a w
theorem c_mid {c:Code} (M:Act→World→Prop) (h:CW P c (Mid M Q) a w) (hM:∀ a w,M a w→Q .normal a w):CW P c Q a w:=
  ⟨wp_mono h.out fun e a w hq=>by cases e<;>first|exact hM _ _ hq|exact hq⟩
def Thn (P:Program) (y:Code) (Q:Exit→Act→World→Prop):Exit→Act→World→Prop
  | .normal,a,w=>CW P y Q a w
  | e,a,w=>Q e a w
theorem Aa {x y:Code} (h:CW P x (Thn P y Q) a w):CW P (.seq x y) Q a w:=⟨wp_seq (wp_mono h.out fun e a w hq=>by cases e<;>first|exact hq.out|exact hq)⟩
theorem B6 (h:Q .normal a w):CW P .skip Q a w:=⟨wp_skip h⟩
theorem Hv (h:Q .ret a w):CW P .ret Q a w:=⟨wp_ret h⟩
theorem C9 {id:Nat} (h:Q (.exit id) a w):CW P (.exit id) Q a w:=⟨wp_exit h⟩
theorem Av {id:Nat} {c:Code} (h:CW P c (Exit.inBlock id Q) a w):CW P (.block id c) Q a w:=⟨wp_block h.out⟩
theorem Agk {c:Operand} {x y:Code} (hc:a.eval c=.bool true) (h:CW P x Q a w):CW P (.cond c x y) Q a w:=⟨wp_cond_true hc h.out⟩
theorem Aes {c:Operand} {x y:Code} (hc:a.eval c=.bool false) (h:CW P y Q a w):CW P (.cond c x y) Q a w:=⟨wp_cond_false hc h.out⟩
theorem Wy {c:Operand} {x y:Code} (t:Bool) (hc:a.eval c=.bool t) (ht:t=true→CW P x Q a w) (hf:t=false→CW P y Q a w):CW P (.cond c x y) Q a w:=⟨wp_cond_split hc (fun e=>(ht e).out) (fun e=>(hf e).out)⟩
theorem Ah {id:Nat} {l:List Oper} (h:LW P l.toArray Q l a w):CW P (.region id l.toArray false) Q a w:=⟨wp_region_lit h.out⟩
def Rnd {X:Type} (w0:World) (E:Ent) (A:X→Act) (R:X→List Res) (G:X→Prop) (μ:X→Nat) (x:X) (Q:Exit→Act→World→Prop):Exit→Act→World→Prop
  | .normal,a,w=>∃ x',(G x'∧μ x'<μ x)∧a=A x'∧Own w0 E (R x') w
  | e,a,w=>Q e a w
theorem Ag5 {X:Type} {body:Code} (A:X→Act) (R:X→List Res) (G:X→Prop) (μ:X→Nat) (x0:X) (h0:G x0) (ha:A x0=a) (is:List Nat) (hR:R x0=pk is L) (h:Own w0 E L w)
    (round:∀ x w,G x→Own w0 E (R x) w→CW P body (Rnd w0 E A R G μ x Q) (A x) w):CW P (.loop body) Q a w:=
  ⟨Ad7 A R G μ x0 h0 ha is hR h fun x w hG hO=>wp_mono (round x w hG hO).out fun e a w hq=>by cases e<;>exact hq⟩
theorem Ek {X:Type} {A:X→Act} {R:X→List Res} {G:X→Prop} {μ:X→Nat} {x:X} {id:Nat} (h:Q (.exit id) a w):Rnd w0 E A R G μ x Q (.exit id) a w:=h
theorem Li {X:Type} {A:X→Act} {R:X→List Res} {G:X→Prop} {μ:X→Nat} {x:X} (h:Q .ret a w):Rnd w0 E A R G μ x Q .ret a w:=h
theorem Ai {y:Code} (h:CW P y Q a w):Thn P y Q .normal a w:=h
theorem D3 {y:Code} {id:Nat} (h:Q (.exit id) a w):Thn P y Q (.exit id) a w:=h
theorem Ar {y:Code} (h:Q .ret a w):Thn P y Q .ret a w:=h
theorem F8 {M:Act→World→Prop} (h:M a w):Mid M Q .normal a w:=h
theorem G1 {M:Act→World→Prop} (h:Q .ret a w):Mid M Q .ret a w:=h
theorem Bn {X:Type} {A:X→Act} {R:X→List Res} {G:X→Prop} {μ:X→Nat} {x:X} {a:Act} {w:World} (f:(Nat→Value)→X) (hG:G (f fun n=>a.tmps.getD n undef)∧μ (f fun n=>a.tmps.getD n undef)<μ x) (ha:a=A (f fun n=>a.tmps.getD n undef)) (is:List Nat) (hR:R (f fun n=>a.tmps.getD n undef)=pk is L) (h:Own w0 E L w) :
    Rnd w0 E A R G μ x Q .normal a w:=⟨_,hG,ha,hR▸h.pick is⟩
theorem Ae5 {f:FuncId} {fn:Func} {c:Code} {args:Array Value} {Φ:Value→List Res→Prop} (tm:Array Value) (hf:P.funcs[f]?=some fn) (hb:fn.body=some c) (ht:args++Array.replicate (fn.ntmps - args.size) undef=tm)
    (h:∀ E w0 w,Own w0 E L w→CW P c (bodyPost P fn fun e w'=>∃ v L',Φ v L'∧e=.returned v∧Own w0 E L' w') ⟨tm,[]⟩ w):Au P f args L Φ:=fun E w0 w ho=>
  calls_of_wp hf hb (by rw [ht];exact (h E w0 w ho).out)
theorem Ph {f:FuncId} {args:Array Value} {v:Value} (h:∀ w,Calls P f args w fun e w'=>e=.returned v∧Chg Nil w w'):Au P f args [] fun u L=>u=v∧L=[]:=fun E w0 w ho=>
  (h w).mono fun e w' ⟨he,hc⟩=>⟨v,[],⟨rfl,rfl⟩,he,ho.quiet hc⟩
theorem B5 {fn:Func} {Φ:Value→List Res→Prop} {a:Act} (vs:List Value) (is:List Nat) (h:Own w0 E L w) (hd:a.defers=[]) (hr:Px P L a.tmps fn.results.toList vs) (hΦ:Φ (Ahc vs) (pk is L)) :
    bodyPost P fn (fun e w'=>∃ v L',Φ v L'∧e=.returned v∧Own w0 E L' w') .ret a w:=by
  obtain ⟨tm,ds⟩:=a
  obtain rfl:ds=[]:=hd
  exact ret_O vs h hr ⟨_,_,hΦ,rfl,h.pick is⟩
theorem Dr {tm:Array Value}:Px P L tm [] []:=rfl
theorem Ei {tm:Array Value} {t:Tmp} {l:List ResultVar} {v:Value} {vs:List Value} (hv:tm.getD t undef=v) (h:Px P L tm l vs):Px P L tm (.tmp t::l) (v::vs):=⟨v,vs,rfl,hv,h⟩
theorem Du {tm:Array Value} {p:Tmp} {T:TypeId} {l:List ResultVar} {vs:List Value} {wr:Bool} {b:Nat} {cs:List Value} {T':TypeId} (off:Nat) (us:List Value) (v:Value) (i:Nat) (hi:L[i]?=some (Bw wr b cs T'))
    (hx:(tm.getD p undef,ldv P T us,(cs.drop off).take us.length)=(.pointer (some ⟨b,off,none⟩),some v,us)) (h:Px P L tm l vs):Px P L tm (.cell p T::l) (v::vs):=by
  simp only [Prod.mk.injEq] at hx
  exact ⟨v,vs,b,off,us,_,rfl,hx.1,hx.2.1,List.mem_of_getElem? hi,Fb off hx.2.2,h⟩
end
def QP (Q:Exit→Act→World→Prop):Prop:=∀ c a d v w,Q (.panic c) (Act.put a d v) w→Q (.panic c) a w
section
variable {P:Program} {a:Act} {w w0:World} {E:Ent} {L:List Res} {K:Act→World→Prop} {Q:Exit→Act→World→Prop} {ops:Array Oper} {br br':Nat→Bool} {fuel:Nat} {listed:Array Bool}
theorem Bz {y:Code} (h:QP Q):QP (Thn P y Q):=fun c a d v w hq=>h c a d v w hq
theorem Ke {id:Nat} (h:QP Q):QP (Exit.inBlock id Q):=fun c a d v w hq=>h c a d v w hq
theorem Aa7 {M:Act→World→Prop} (h:QP Q):QP (Mid M Q):=fun c a d v w hq=>h c a d v w hq
theorem Kx {X:Type} {A:X→Act} {R:X→List Res} {G:X→Prop} {μ:X→Nat} {x:X} (h:QP Q):QP (Rnd w0 E A R G μ x Q):=fun c a d v w hq=>h c a d v w hq
theorem B3 {fn:Func} {R:Ending→World→Prop}:QP (bodyPost P fn R):=fun c a d v w hq=>by
  refine ⟨?_,hq.2⟩
  have:=hq.1
  cases d<;>exact this
theorem Own.sub {M:List Res} (h:Own w0 E M w) (js:List Nat) (e:pk js M=L):Own w0 E L w:=e▸h.pick js
theorem Ael {M:List Res} {id:Nat} {l:List Oper} (n:Nat) (js:List Nat) (hn:(l.toArray.size,P.follows .mixedOrders)=(n,true)) (h:Own w0 E M w) (hK:∀ w',Own w0 E M w'→DW P l.toArray Q w0 E (Nat.testBit 0) n (Array.replicate n false) (pk js M) a w'):CW P (.region id l.toArray true) Q a w:=by
  simp only [Prod.mk.injEq] at hn
  obtain ⟨rfl,hm⟩:=hn
  exact ⟨wp_region_any hm (Lv _ _ _ _ _ (hK _ h.drew).out)⟩
theorem Cq {M:List Res} (i c:Nat) (js:List Nat) {oi:Oper} (hi:ops[i]?=some oi) {v:Value} (ht:(Region.noSelect ops&&Vx .any ops br listed i c)=true) (hQ:QP Q) (hy:YieldsIf P ops (Own w0 E L) oi v a) (h:Own w0 E M w) (e:pk js M=L)
    (hK:DW P ops Q w0 E br fuel (listed.setIfInBounds i true) L (a.put oi.dst v) w):DW P ops Q w0 E br (fuel+1) listed L a w:=by
  rw [Bool.and_eq_true] at ht
  exact ⟨Uo i c hi ht.1 ht.2 (fun c a w h=>hQ c a _ _ w h) hy (h.sub js e) hK.out⟩
theorem Agj (hr:Region.ready .any ops listed=[]) (h:Q .normal a w):DW P ops Q w0 E br fuel listed L a w:=⟨Tt hr h fuel⟩
structure Il (P:Program) (ops:Array Oper) (Q:Exit→Act→World→Prop) (w0:World) (E:Ent) (br:Nat→Bool) (fuel:Nat) (listed:Array Bool) (L:List Res) (a:Act) (w:World) (is:List Nat):Prop where
  out:Iz P .any ops Q w0 E br fuel listed L a w is
theorem A1 (is:List Nat) (hr:Region.ready .any ops listed=is) (hne:is.isEmpty=false) (h:Il P ops Q w0 E br fuel listed L a w is):DW P ops Q w0 E br (fuel+1) listed L a w:=⟨So is hr (fun e=>by rw [e] at hne;cases hne) h.out⟩
theorem Ba:Il P ops Q w0 E br fuel listed L a w []:=⟨Iz.nil⟩
variable {M:List Res} {i:Nat} {is:List Nat}
theorem Ch {o:Oper} (js:List Nat) (hi:ops[i]?=some o) (hb:(br i,Region.wanted o (yielded ops a.tmps))=(false,true)) (mk:Nat→Value) (cs:List Value) (T:TypeId) (hrun:∀ w,(execOp a.eval o).run P w=.ok (.value (mk w.heap.size)) (w.alloc (.cells cs.toArray T)))
    (h:Own w0 E M w) (hK:∀ b w',Own w0 E (Bw true b cs T::M) w'→pk js (Bw true b cs T::M)=L∧DW P ops Q w0 E br fuel (listed.setIfInBounds i true) L (a.put o.dst (mk b)) w') (hs:Il P ops Q w0 E br fuel listed L a w is):Il P ops Q w0 E br fuel listed L a w (i::is):=by
  simp only [Prod.mk.injEq] at hb
  exact ⟨Iz.cons hi hb.1 hb.2 (Acr mk cs T hrun h fun b w' h'=>⟨h'.sub js (hK b w' h').1,(hK b w' h').2.out⟩) hs.out⟩
theorem O0 {o:Oper} {v:Value} (js:List Nat) (hi:ops[i]?=some o) (hb:(br i,Region.wanted o (yielded ops a.tmps))=(false,true)) (hv:Cl P w0 E M o a v) (h:Own w0 E M w) (e:pk js M=L)
    (hK:DW P ops Q w0 E br fuel (listed.setIfInBounds i true) L (a.put o.dst v) w) (hs:Il P ops Q w0 E br fuel listed L a w is):Il P ops Q w0 E br fuel listed L a w (i::is):=by
  simp only [Prod.mk.injEq] at hb
  exact ⟨Iz.cons hi hb.1 hb.2 (by unfold Oper.wp;rw [hv w h];exact ⟨h.sub js e,hK.out⟩) hs.out⟩
theorem Di {o:Oper} {f:FuncId} (args:Array Value) (us:List Nat) (js:List Nat) {Φ:Value→List Res→Prop} (hi:ops[i]?=some o) (hb:(br i,Region.wanted o (yielded ops a.tmps))=(false,true)) (hsp:Au P f args (pk us M) Φ) (hrun:∀ w,(execOp a.eval o).run P w=.ok (.enter f args) w)
    (h:Own w0 E M w) (hK:∀ v Lp w',Φ v Lp→Own w0 E (Lp++rs us M) w'→pk js (Lp++rs us M)=L∧DW P ops Q w0 E br fuel (listed.setIfInBounds i true) L (a.put o.dst v) w') (hs:Il P ops Q w0 E br fuel listed L a w is):Il P ops Q w0 E br fuel listed L a w (i::is):=by
  simp only [Prod.mk.injEq] at hb
  exact ⟨Iz.cons hi hb.1 hb.2 (Yc us hsp hrun h fun v Lp w' hΦ h'=>⟨h'.sub js (hK v Lp w' hΦ h').1,(hK v Lp w' hΦ h').2.out⟩) hs.out⟩
theorem ad_st {dst:Option Tmp} {T:TypeId} {x y:Operand} {ty:TypeId} {pos:String} {after:Array Edge} {g:Option (Nat×Bool)} {b:Nat} (js:List Nat) (hi:ops[i]?=some ⟨dst,.store T x y,ty,pos,after,g⟩) (hb:(br i,Region.wanted ⟨dst,.store T x y,ty,pos,after,g⟩ (yielded ops a.tmps))=(false,true)) (off:Nat) (vs cs':List Value) {cs:List Value} {T':TypeId} (h:Own w0 E M w) (j:Nat) (hj:M[j]?=some (Bw true b cs T'))
    (hx:(a.eval x,(a.eval y).cells,(P.info? T).map (·.size),Nat.ble (off+vs.length) cs.length,vs.all (·.oneCell'),cs.take off++(vs++cs.drop (off+vs.length)))=(.pointer (some ⟨b,off,none⟩),vs.toArray,some vs.length,true,true,cs'))
    (hK:∀ w',Own w0 E (M.set j (Bw true b cs' T')) w'→pk js (M.set j (Bw true b cs' T'))=L∧DW P ops Q w0 E br fuel (listed.setIfInBounds i true) L (a.put dst undef) w') (hs:Il P ops Q w0 E br fuel listed L a w is):Il P ops Q w0 E br fuel listed L a w (i::is):=by
  simp only [Prod.mk.injEq] at hb
  exact ⟨Iz.cons hi hb.1 hb.2 (Af6 off vs cs' h j hj hx fun w' h'=>⟨h'.sub js (hK w' h').1,(hK w' h').2.out⟩) hs.out⟩
theorem Adg {α:Type} {enc:α→List Value} {l:List α} {dst:Option Tmp} {T:TypeId} {s x:Operand} {ty:TypeId} {pos:String} {after:Array Edge} {g:Option (Nat×Bool)} {v:Value} {b o size:Nat} {d:TypeId} {r:Res} (js:List Nat) (hi:ops[i]?=some ⟨dst,.call { callee:=.builtin .append,args:=#[s,x],argTypes:=#[T,T] },ty,pos,after,g⟩) (hb:(br i,Region.wanted ⟨dst,.call { callee:=.builtin .append,args:=#[s,x],argTypes:=#[T,T] },ty,pos,after,g⟩ (yielded ops a.tmps))=(false,true)) (c:Nat) (e:α)
    (hx:(a.eval s,a.eval x,P.underlying T,Jp P d size,(enc e).length,(enc e).all (·.oneCell'))=(v,.slice (some ⟨b,o,none⟩) 1 c,some (.slice d),true,size,true))
    (h:Own w0 E M w) (j:Nat) (hj:M[j]?=some (A8 true v d size enc l)) (k:Nat) (hk:M[k]?=some r) (hr:J6 r b o (enc e)) (hlen:l.length<100000000000)
    (hK:∀ v' w',Own w0 E (M.set j (A8 true v' d size enc (l++[e]))) w'→pk js (M.set j (A8 true v' d size enc (l++[e])))=L∧DW P ops Q w0 E br fuel (listed.setIfInBounds i true) L (a.put dst v') w') (hs:Il P ops Q w0 E br fuel listed L a w is):Il P ops Q w0 E br fuel listed L a w (i::is):=by
  simp only [Prod.mk.injEq] at hb
  exact ⟨Iz.cons hi hb.1 hb.2 (Aed c e hx h j hj k hk hr hlen fun v' w' h'=>⟨h'.sub js (hK v' w' h').1,(hK v' w' h').2.out⟩) hs.out⟩
end
abbrev Ii (x:Int):Value:=.int .i64 x
abbrev Pt (b o:Nat):Value:=.pointer (some ⟨b,o,none⟩)
abbrev Pp (b:Nat):Value:=.pointer (some ⟨b,0,none⟩)
abbrev Hg (n g:Int):Value:=.agg #[.int .i64 n,.int .i64 g]
abbrev Rh (k:Nat) (a b:Int):Res:=Bw true k [.int .i64 a,.int .i64 b] 34
theorem nT {b:Bool} (h:(!b)=true):b=false:=by cases b<;>simp_all
theorem nF {b:Bool} (h:(!b)=false):b=true:=by cases b<;>simp_all
theorem aL {a b:Bool} (h:(a&&b)=true):a=true:=by cases a<;>simp_all
theorem aR {a b:Bool} (h:(a&&b)=true):b=true:=by cases a<;>simp_all
theorem oL {a b:Bool} (h:(a||b)=false):a=false:=by cases a<;>simp_all
theorem oR {a b:Bool} (h:(a||b)=false):b=false:=by cases a<;>simp_all
theorem ndA {p q:Prop} [Decidable p] [Decidable q] (h:(decide p&&decide q)=false):¬(p∧q):=fun hh=>by rw [decide_eq_true hh.1,decide_eq_true hh.2] at h;cases h
theorem dcT {p:Prop} [Decidable p] (h:decide p=true):p:=of_decide_eq_true h
theorem dcF {p:Prop} [Decidable p] (h:decide p=false):¬p:=of_decide_eq_false h
theorem Ce {α:Type} {L:List α} {j:Nat} {N:α} (N':α) (hx:L[j]?=some N):(L.set j N')[j]?=some N':=List.getElem?_set_self (List.getElem?_eq_some_iff.1 hx).1
theorem D2 {α:Type} {L:List α} {j k:Nat} {N:α} (V:α) (hx:L[j]?=some N) (hne:k≠j):(L.set k V)[j]?=some N:=by rw [List.getElem?_set_ne hne];exact hx
theorem Own.pkr {w0 w:World} {E:Ent} {L:List Res} (h:Own w0 E L w) (is:List Nat):Own w0 E (pk is L++rs is L) w:=h.perm (Mk is L)
section
variable {P:Program} {a:Act} {w w0:World} {E:Ent} {L M:List Res} {Q:Exit→Act→World→Prop} {ops:Array Oper} {rest:List Oper} {br:Nat→Bool} {fuel:Nat} {listed:Array Bool}
theorem ZP {o:Oper} (v:Value) (hK:LW P ops Q rest (a.put o.dst v) w) (hg:Region.wanted o (yielded ops a.tmps)=true:=by kernel_rfl) (hv:∀ w,(execOp a.eval o).run P w=.ok (.value v) w:=by intro _;kernel_rfl):LW P ops Q (o::rest) a w:=Ae2 v hg hv hK
def pV (P:Program) (o:Oper) (a:Act) (w:World):Value:=match (execOp a.eval o).run P w with
  | .ok (.value v) _=>v
  | _=>undef
theorem Zm {o:Oper} (hK:LW P ops Q rest (a.put o.dst (pV P o a w)) w) (hg:Region.wanted o (yielded ops a.tmps)=true:=by kernel_rfl) (hv:∀ w',(execOp a.eval o).run P w'=.ok (.value (pV P o a w)) w':=by intro _;kernel_rfl):LW P ops Q (o::rest) a w:=Ae2 _ hg hv hK
theorem ZG {o:Oper} {v:Value} (h:Own w0 E L w) (hv:Cl P w0 E L o a v) (hK:LW P ops Q rest (a.put o.dst v) w) (hg:Region.wanted o (yielded ops a.tmps)=true:=by kernel_rfl):LW P ops Q (o::rest) a w:=Kc hg h hv hK
theorem Zx {o:Oper} (hK:LW P ops Q rest (a.put o.dst undef) w) (hg:Region.wanted o (yielded ops a.tmps)=false:=by kernel_rfl):LW P ops Q (o::rest) a w:=sn hg hK
theorem Gp {o:Oper} (v:Value) (hv:∀ w,(execOp a.eval o).run P w=.ok (.value v) w:=by intro _;kernel_rfl):Cl P w0 E L o a v:=Az hv
theorem Gw {o:Oper} (x:Int) (hb:x=x∧-9223372036854775808≤x∧x≤9223372036854775807:=by omega) (hv:∀ w,(execOp a.eval o).run P w=.ok (.value (.int .i64 (IntKind.i64.wrap x))) w:=by intro _;kernel_rfl):Cl P w0 E L o a (.int .i64 x):=A4 (Az hv) (wr hb)
section
variable {dst:Option Tmp} {T:TypeId} {x y:Operand} {ty:TypeId} {pos:String} {after:Array Edge} {g:Option (Nat×Bool)} {wr:Bool} {b:Nat} {cs:List Value} {T':TypeId} {r:Res}
theorem Ga (off:Nat) (vs:List Value) (v:Value) (i:Nat) (hi:L[i]?=some (Bw wr b cs T'):=by rfl) (hx:(a.eval x,ldv P T vs,(cs.drop off).take vs.length)=(.pointer (some ⟨b,off,none⟩),some v,vs):=by kernel_rfl):Cl P w0 E L ⟨dst,.load T x,ty,pos,after,g⟩ a v:=Je off vs v hx i hi
theorem Gl (off:Nat) (v:Value) (i:Nat) (hi:L[i]?=some (Bw wr b cs T'):=by rfl) (hx:(a.eval x,ldv P T [v],(cs.drop off).take 1)=(.pointer (some ⟨b,off,none⟩),some v,[v]):=by kernel_rfl):Cl P w0 E L ⟨dst,.load T x,ty,pos,after,g⟩ a v:=Je off [v] v hx i hi
theorem Gla (off:Nat) (vs:List Value) (i:Nat) (hi:L[i]?=some (Bw wr b cs T'):=by rfl) (hx:(a.eval x,ldv P T vs,(cs.drop off).take vs.length)=(.pointer (some ⟨b,off,none⟩),some (.agg vs.toArray),vs):=by kernel_rfl):Cl P w0 E L ⟨dst,.load T x,ty,pos,after,g⟩ a (.agg vs.toArray):=Je off vs (.agg vs.toArray) hx i hi
theorem Gr (off:Nat) (v:Value) (i:Nat) (hi:L[i]?=some r) (hr:J6 r b off [v]) (hx:(a.eval x,ldv P T [v])=(.pointer (some ⟨b,off,none⟩),some v):=by kernel_rfl):Cl P w0 E L ⟨dst,.load T x,ty,pos,after,g⟩ a v:=Af0 off [v] v hx i hi hr
theorem Gra (off:Nat) (vs:List Value) (i:Nat) (hi:L[i]?=some r) (hr:J6 r b off vs) (hx:(a.eval x,ldv P T vs)=(.pointer (some ⟨b,off,none⟩),some (.agg vs.toArray)):=by kernel_rfl):Cl P w0 E L ⟨dst,.load T x,ty,pos,after,g⟩ a (.agg vs.toArray):=Af0 off vs (.agg vs.toArray) hx i hi hr
theorem ZS (off:Nat) (vs cs':List Value) (i:Nat) (hi:L[i]?=some (Bw true b cs T')) (h:Own w0 E L w) (hK:∀ w',Own w0 E (L.set i (Bw true b cs' T')) w'→LW P ops Q rest (a.put dst undef) w')
    (hx:(a.eval x,(a.eval y).cells,(P.info? T).map (·.size),Nat.ble (off+vs.length) cs.length,vs.all (·.oneCell'),cs.take off++(vs++cs.drop (off+vs.length)))=(.pointer (some ⟨b,off,none⟩),vs.toArray,some vs.length,true,true,cs'):=by kernel_rfl)
    (hg:Region.wanted ⟨dst,.store T x y,ty,pos,after,g⟩ (yielded ops a.tmps)=true:=by kernel_rfl):LW P ops Q (⟨dst,.store T x y,ty,pos,after,g⟩::rest) a w:=Agc hg off vs cs' h i hi hx hK
theorem ZSs (vs:List Value) (i:Nat) (hi:L[i]?=some (Bw true b cs T')) (h:Own w0 E L w) (hK:∀ w',Own w0 E (L.set i (Bw true b vs T')) w'→LW P ops Q rest (a.put dst undef) w')
    (hx:(a.eval x,(a.eval y).cells,(P.info? T).map (·.size),Nat.ble (0+vs.length) cs.length,vs.all (·.oneCell'),cs.take 0++(vs++cs.drop (0+vs.length)))=(.pointer (some ⟨b,0,none⟩),vs.toArray,some vs.length,true,true,vs):=by kernel_rfl)
    (hg:Region.wanted ⟨dst,.store T x y,ty,pos,after,g⟩ (yielded ops a.tmps)=true:=by kernel_rfl):LW P ops Q (⟨dst,.store T x y,ty,pos,after,g⟩::rest) a w:=Agc hg 0 vs vs h i hi hx hK
theorem As (i:Nat) (js:List Nat) (off:Nat) (vs cs':List Value) (j:Nat) (hj:M[j]?=some (Bw true b cs T')) (h:Own w0 E M w) (hK:∀ w',Own w0 E (M.set j (Bw true b cs' T')) w'→DW P ops Q w0 E br fuel (listed.setIfInBounds i true) L (a.put dst undef) w')
    (hi:ops[i]?=some ⟨dst,.store T x y,ty,pos,after,g⟩:=by rfl) (hr:Region.ready .any ops listed=[i]:=by kernel_rfl)
    (hb:(br i,Region.wanted ⟨dst,.store T x y,ty,pos,after,g⟩ (yielded ops a.tmps))=(false,true):=by kernel_rfl)
    (hx:(a.eval x,(a.eval y).cells,(P.info? T).map (·.size),Nat.ble (off+vs.length) cs.length,vs.all (·.oneCell'),cs.take off++(vs++cs.drop (off+vs.length)))=(.pointer (some ⟨b,off,none⟩),vs.toArray,some vs.length,true,true,cs'):=by kernel_rfl)
    (hp:pk js (M.set j (Bw true b cs' T'))=L:=by kernel_rfl):DW P ops Q w0 E br (fuel+1) listed L a w:=A1 [i] hr rfl (ad_st js hi hb off vs cs' h j hj hx (fun w' h'=>⟨hp,hK w' h'⟩) Ba)
end
theorem ZN {o:Oper} (cs:List Value) (T:TypeId) (h:Own w0 E L w) (hK:∀ b w',Own w0 E (Bw true b cs T::L) w'→LW P ops Q rest (a.put o.dst (.pointer (some ⟨b,0,none⟩))) w') (hg:Region.wanted o (yielded ops a.tmps)=true:=by kernel_rfl)
    (hrun:∀ w,(execOp a.eval o).run P w=.ok (.value (.pointer (some ⟨w.heap.size,0,none⟩))) (w.alloc (.cells cs.toArray T)):=by intro _;kernel_rfl):LW P ops Q (o::rest) a w:=Gm hg (fun b=>.pointer (some ⟨b,0,none⟩)) cs T hrun h hK
theorem An {o:Oper} (i:Nat) (js:List Nat) (cs:List Value) (T:TypeId) (h:Own w0 E M w) (hK:∀ b w',Own w0 E (Bw true b cs T::M) w'→pk js (Bw true b cs T::M)=L∧DW P ops Q w0 E br fuel (listed.setIfInBounds i true) L (a.put o.dst (.pointer (some ⟨b,0,none⟩))) w')
    (hi:ops[i]?=some o:=by rfl) (hr:Region.ready .any ops listed=[i]:=by kernel_rfl) (hb:(br i,Region.wanted o (yielded ops a.tmps))=(false,true):=by kernel_rfl)
    (hrun:∀ w,(execOp a.eval o).run P w=.ok (.value (.pointer (some ⟨w.heap.size,0,none⟩))) (w.alloc (.cells cs.toArray T)):=by intro _;kernel_rfl):DW P ops Q w0 E br (fuel+1) listed L a w:=
  A1 [i] hr rfl (Ch js hi hb (fun b=>.pointer (some ⟨b,0,none⟩)) cs T hrun h hK Ba)
theorem ZC {o:Oper} {f:FuncId} {args:Array Value} {v:Value} {M:List Res} (is:List Nat) (hs:Au P f args (pk is L) fun u L'=>u=v∧L'=M) (h:Own w0 E L w) (hK:∀ w',Own w0 E (M++rs is L) w'→LW P ops Q rest (a.put o.dst v) w') (hg:Region.wanted o (yielded ops a.tmps)=true:=by kernel_rfl)
    (hrun:∀ w,(execOp a.eval o).run P w=.ok (.enter f args) w:=by intro _;kernel_rfl):LW P ops Q (o::rest) a w:=Yt args is hg hs hrun h fun v Lp w' ⟨h1,h2⟩ h=>by subst h1;subst h2;exact hK w' h
theorem ZD {o:Oper} {f:FuncId} {args:Array Value} {Φ:Value→List Res→Prop} (is:List Nat) (hs:Au P f args (pk is L) Φ) (h:Own w0 E L w) (hK:∀ v Lp w',Φ v Lp→Own w0 E (Lp++rs is L) w'→LW P ops Q rest (a.put o.dst v) w') (hg:Region.wanted o (yielded ops a.tmps)=true:=by kernel_rfl)
    (hrun:∀ w,(execOp a.eval o).run P w=.ok (.enter f args) w:=by intro _;kernel_rfl):LW P ops Q (o::rest) a w:=Yt args is hg hs hrun h hK
theorem Ad {o:Oper} {f:FuncId} {args:Array Value} {Φ:Value→List Res→Prop} (i:Nat) (us js:List Nat) (hs:Au P f args (pk us M) Φ) (h:Own w0 E M w) (hK:∀ v Lp w',Φ v Lp→Own w0 E (Lp++rs us M) w'→pk js (Lp++rs us M)=L∧DW P ops Q w0 E br fuel (listed.setIfInBounds i true) L (a.put o.dst v) w')
    (hi:ops[i]?=some o:=by rfl) (hr:Region.ready .any ops listed=[i]:=by kernel_rfl) (hb:(br i,Region.wanted o (yielded ops a.tmps))=(false,true):=by kernel_rfl)
    (hrun:∀ w,(execOp a.eval o).run P w=.ok (.enter f args) w:=by intro _;kernel_rfl):DW P ops Q w0 E br (fuel+1) listed L a w:=
  A1 [i] hr rfl (Di args us js hi hb hs hrun h hK Ba)
theorem Ac {o:Oper} {f:FuncId} {args:Array Value} {v:Value} {N:List Res} (i:Nat) (us js:List Nat) (hs:Au P f args (pk us M) fun u L'=>u=v∧L'=N) (h:Own w0 E M w) (hK:∀ w',Own w0 E (N++rs us M) w'→DW P ops Q w0 E br fuel (listed.setIfInBounds i true) L (a.put o.dst v) w')
    (hi:ops[i]?=some o:=by rfl) (hr:Region.ready .any ops listed=[i]:=by kernel_rfl) (hb:(br i,Region.wanted o (yielded ops a.tmps))=(false,true):=by kernel_rfl)
    (hrun:∀ w,(execOp a.eval o).run P w=.ok (.enter f args) w:=by intro _;kernel_rfl) (hp:pk js (N++rs us M)=L:=by kernel_rfl):DW P ops Q w0 E br (fuel+1) listed L a w:=
  A1 [i] hr rfl (Di args us js hi hb hs hrun h (fun v Lp w' ⟨h1,h2⟩ h=>by subst h1;subst h2;exact ⟨hp,hK w' h⟩) Ba)
theorem Aq {o:Oper} {v:Value} (i:Nat) (js:List Nat) (hi:ops[i]?=some o) (h:Own w0 E M w) (hv:Cl P w0 E M o a v) (hK:DW P ops Q w0 E br fuel (listed.setIfInBounds i true) L (a.put o.dst v) w)
    (hr:Region.ready .any ops listed=[i]:=by kernel_rfl) (hb:(br i,Region.wanted o (yielded ops a.tmps))=(false,true):=by kernel_rfl) (e:pk js M=L:=by kernel_rfl):DW P ops Q w0 E br (fuel+1) listed L a w:=
  A1 [i] hr rfl (O0 js hi hb hv h e hK Ba)
theorem nmB (x:Bool):∃ b:Bool,b=x:=⟨_,rfl⟩
theorem ZB {o:Oper} {b x:Bool} (hb:b=x) (hK:LW P ops Q rest (a.put o.dst (.bool b)) w) (hg:Region.wanted o (yielded ops a.tmps)=true:=by kernel_rfl) (hv:∀ w,(execOp a.eval o).run P w=.ok (.value (.bool x)) w:=by intro _;kernel_rfl):LW P ops Q (o::rest) a w:=by
  subst hb;exact Ae2 _ hg hv hK
theorem ZBc {o:Oper} {b x:Bool} (c:Bool) (hb:b=x) (hK:LW P ops Q rest (a.put o.dst (.bool b)) w) (hg:Region.wanted o (yielded ops a.tmps)=true:=by kernel_rfl) (h1:c=true→∀ w,(execOp a.eval o).run P w=.ok (.value (.bool x)) w:=by intro e;subst e;intro _;kernel_rfl)
    (h0:c=false→∀ w,(execOp a.eval o).run P w=.ok (.value (.bool x)) w:=by intro e;subst e;intro _;kernel_rfl):LW P ops Q (o::rest) a w:=by
  subst hb;exact Ae2 _ hg (fun w=>by cases hc:c;exact h0 hc w;exact h1 hc w) hK
theorem ZM1 {o:Oper} {v:Value} (B:Bool) (h:Own w0 E L w) (hv:B=true→Cl P w0 E L o a v) (hK:LW P ops Q rest (a.put o.dst (if B=true then v else undef)) w) (h1:B=true→Region.wanted o (yielded ops a.tmps)=true:=by intro e;subst e;kernel_rfl)
    (h0:B=false→Region.wanted o (yielded ops a.tmps)=false:=by intro e;subst e;kernel_rfl):LW P ops Q (o::rest) a w:=sq_m1 B (by cases hc:B;exact h0 hc;exact h1 hc) h hv hK
theorem ZM0 {o:Oper} {v:Value} (B:Bool) (h:Own w0 E L w) (hv:B=false→Cl P w0 E L o a v) (hK:LW P ops Q rest (a.put o.dst (if B=false then v else undef)) w) (h1:B=true→Region.wanted o (yielded ops a.tmps)=false:=by intro e;subst e;kernel_rfl)
    (h0:B=false→Region.wanted o (yielded ops a.tmps)=true:=by intro e;subst e;kernel_rfl):LW P ops Q (o::rest) a w:=sq_m0 B (by cases hc:B;exact h0 hc;exact h1 hc) h hv hK
theorem Ds {id:Nat} {l:List Oper} (n:Nat) (js:List Nat) (h:Own w0 E M w) (hK:∀ w',Own w0 E M w'→DW P l.toArray Q w0 E (Nat.testBit 0) n (Array.replicate n false) (pk js M) a w') (hn:(l.toArray.size,P.follows .mixedOrders)=(n,true):=by kernel_rfl):CW P (.region id l.toArray true) Q a w:=Ael n js hn h hK
theorem Dp {oi:Oper} (i c:Nat) (v:Value) (js:List Nat) (h:Own w0 E M w) (hK:DW P ops Q w0 E br fuel (listed.setIfInBounds i true) L (a.put oi.dst v) w) (hi:ops[i]?=some oi:=by rfl) (e:pk js M=L:=by kernel_rfl) (ht:(Region.noSelect ops&&Vx .any ops br listed i c)=true:=by kernel_rfl)
    (hg:Region.wanted oi (yielded ops a.tmps)=true:=by kernel_rfl) (hv:∀ w,(execOp a.eval oi).run P w=.ok (.value v) w:=by intro _;kernel_rfl) (hQ:QP Q:=by repeat (first|exact B3|refine Bz ?_|refine Ke ?_|refine Kx ?_|refine Aa7 ?_)):DW P ops Q w0 E br (fuel+1) listed L a w:=Cq i c js hi ht hQ (yq hg (Az hv)) h e hK
theorem Dq {oi:Oper} {v:Value} (i c:Nat) (js:List Nat) (hi:ops[i]?=some oi) (h:Own w0 E M w) (hv:Cl P w0 E L oi a v) (hK:DW P ops Q w0 E br fuel (listed.setIfInBounds i true) L (a.put oi.dst v) w) (e:pk js M=L:=by kernel_rfl) (ht:(Region.noSelect ops&&Vx .any ops br listed i c)=true:=by kernel_rfl)
    (hg:Region.wanted oi (yielded ops a.tmps)=true:=by kernel_rfl) (hQ:QP Q:=by repeat (first|exact B3|refine Bz ?_|refine Ke ?_|refine Kx ?_|refine Aa7 ?_)):DW P ops Q w0 E br (fuel+1) listed L a w:=Cq i c js hi ht hQ (yq hg hv) h e hK
theorem Dd (hK:Q .normal a w) (hr:Region.ready .any ops listed=[]:=by kernel_rfl):DW P ops Q w0 E br fuel listed L a w:=Agj hr hK
variable {c:Operand} {x y:Code} {id:Nat} {l:List Oper}
theorem Zt (h:CW P x Q a w) (hc:a.eval c=.bool true:=by kernel_rfl):CW P (.cond c x y) Q a w:=Agk hc h
theorem Zf (h:CW P y Q a w) (hc:a.eval c=.bool false:=by kernel_rfl):CW P (.cond c x y) Q a w:=Aes hc h
theorem Zi (t:Bool) (ht:t=true→CW P x Q a w) (hf:t=false→CW P y Q a w) (hc:a.eval c=.bool t:=by kernel_rfl):CW P (.cond c x y) Q a w:=Wy t hc ht hf
theorem Zd (p:Prop) [Decidable p] (ht:p→CW P x Q a w) (hf:¬p→CW P y Q a w) (hc:a.eval c=.bool (decide p):=by kernel_rfl):CW P (.cond c x y) Q a w:=Wy (decide p) hc (fun h=>ht (of_decide_eq_true h)) (fun h=>hf (of_decide_eq_false h))
theorem Zh (p q:Prop) [Decidable p] [Decidable q] (ht:(decide p&&decide q)=true→p→q→CW P x Q a w) (hf:(decide p&&decide q)=false→¬(p∧q)→CW P y Q a w) (hc:a.eval c=.bool (decide p&&decide q):=by kernel_rfl):CW P (.cond c x y) Q a w:=
  Wy (decide p&&decide q) hc (fun h=>by have h':=h;rw [Bool.and_eq_true] at h';exact ht h (of_decide_eq_true h'.1) (of_decide_eq_true h'.2)) (fun h=>hf h fun hh=>by rw [decide_eq_true hh.1,decide_eq_true hh.2] at h;cases h)
theorem Qn (h:CW P y Q a w):LW P ops (Thn P y Q) [] a w:=Cu (Ai h)
theorem Qs (h:LW P l.toArray (Thn P y Q) l a w):CW P (.seq (.region id l.toArray false) y) Q a w:=Aa (Ah h)
theorem Qm (h:LW P l.toArray (Thn P y Q) l a w):LW P ops (Thn P (.seq (.region id l.toArray false) y) Q) [] a w:=Qn (Qs h)
theorem Qt {z:Code} (h:LW P l.toArray (Thn P y (Thn P z Q)) l a w):CW P (.seq (.seq (.region id l.toArray false) y) z) Q a w:=Aa (Qs h)
theorem Qu {z:Code} (h:LW P l.toArray (Thn P y (Thn P z Q)) l a w):LW P ops (Thn P (.seq (.seq (.region id l.toArray false) y) z) Q) [] a w:=Qn (Qt h)
theorem Kn (h:CW P y Q a w):CW P .skip (Thn P y Q) a w:=B6 (Ai h)
theorem Ks (h:LW P l.toArray (Thn P y Q) l a w):CW P .skip (Thn P (.seq (.region id l.toArray false) y) Q) a w:=Kn (Qs h)
theorem Kw {z:Code} (h:LW P l.toArray (Thn P y (Thn P z Q)) l a w):CW P .skip (Thn P (.seq (.seq (.region id l.toArray false) y) z) Q) a w:=Kn (Qt h)
theorem Qf (h:CW P y Q a w) (hc:a.eval c=.bool false:=by kernel_rfl):LW P ops (Thn P (.cond c x y) Q) [] a w:=Qn (Zf h hc)
theorem Qg (h:CW P x Q a w) (hc:a.eval c=.bool true:=by kernel_rfl):LW P ops (Thn P (.cond c x y) Q) [] a w:=Qn (Zt h hc)
theorem Qr (h:Q .ret a w):LW P ops (Thn P .ret Q) [] a w:=Qn (Hv h)
theorem Fs (h:LW P l.toArray (Thn P y Q) l a w) (hc:a.eval c=.bool false:=by kernel_rfl):LW P ops (Thn P (.cond c x .skip) (Thn P (.seq (.region id l.toArray false) y) Q)) [] a w:=Qf (Ks h) hc
theorem Ft {z:Code} (h:LW P l.toArray (Thn P y (Thn P z Q)) l a w) (hc:a.eval c=.bool false:=by kernel_rfl):LW P ops (Thn P (.cond c x .skip) (Thn P (.seq (.seq (.region id l.toArray false) y) z) Q)) [] a w:=Qf (Kw h) hc
def inR (n:Nat):List (Nat×Nat)→Bool
  | []=>false
  | p::l=>(Nat.ble p.1 n&&Nat.ble n p.2)||inR n l
def ovR (n:Nat) (u:Value):List (Nat×Value)→Value
  | []=>u
  | p::l=>bif Nat.beq p.1 n then p.2 else ovR n u l
def mixL (wr:List (Nat×Nat)) (ov:List (Nat×Value)) (J:Nat→Value):Nat→List Value→List Value
  | _,[]=>[]
  | n,v::l=>ovR n (bif inR n wr then J n else v) ov::mixL wr ov J (n+1) l
def Aac (a:Act) (wr:List (Nat×Nat)) (ov:List (Nat×Value)) (J:Nat→Value):Act:=⟨(mixL wr ov J 0 a.tmps.toList).toArray,[]⟩
theorem ZL {X:Type} {body:Code} (wr:List (Nat×Nat)) (ov:X→List (Nat×Value)) (J:X→Nat→Value) (R:X→List Res) (G:X→Prop) (μ:X→Nat) (x0:(Nat→Value)→X) (h0:G (x0 fun n=>a.tmps.getD n undef)) (is:List Nat) (h:Own w0 E L w)
    (round:∀ x w,G x→Own w0 E (R x) w→CW P body (Rnd w0 E (fun x=>Aac a wr (ov x) (J x)) R G μ x Q) (Aac a wr (ov x) (J x)) w) (ha:Aac a wr (ov (x0 fun n=>a.tmps.getD n undef)) (J (x0 fun n=>a.tmps.getD n undef))=a:=by kernel_rfl) (hR:R (x0 fun n=>a.tmps.getD n undef)=pk is L:=by kernel_rfl):CW P (.loop body) Q a w:=
  Ag5 (fun x=>Aac a wr (ov x) (J x)) R G μ (x0 fun n=>a.tmps.getD n undef) h0 ha is hR h round
theorem Zo {f:FuncId} {fn:Func} {c:Code} {args:Array Value} {Φ:Value→List Res→Prop} (n:Nat) (hf:P.funcs[f]?=some fn) (h:∀ E w0 w,Own w0 E L w→CW P c (bodyPost P fn fun e w'=>∃ v L',Φ v L'∧e=.returned v∧Own w0 E L' w') ⟨(args.toList++List.replicate n undef).toArray,[]⟩ w)
    (hb:fn.body=some c:=by rfl) (ht:args++Array.replicate (fn.ntmps - args.size) undef=(args.toList++List.replicate n undef).toArray:=by kernel_rfl):Au P f args L Φ:=Ae5 _ hf hb ht h
theorem ZR {fn:Func} {Φ:Value→List Res→Prop} (vs:List Value) (is:List Nat) (h:Own w0 E L w) (hΦ:Φ (Ahc vs) (pk is L)) (hd:a.defers=[]:=by kernel_rfl) (hr:Px P L a.tmps fn.results.toList vs:=by repeat (first|exact Dr|refine Ei (by kernel_rfl) ?_)) :
    bodyPost P fn (fun e w'=>∃ v L',Φ v L'∧e=.returned v∧Own w0 E L' w') .ret a w:=B5 vs is h hd hr hΦ
end
def gl:Nat→Nat
  | 1=>7
  | 2=>1
  | 3=>2
  | 4=>8
  | 5=>0
  | 6=>4
  | 7=>9
  | 8=>5
  | 9=>3
  | 10=>10
  | 11=>6
  | 12=>11
  | 13=>12
  | 14=>13
  | 15=>14
  | _=>0
def Ag (ad:Nat→Addr) (c:Nat):Value:=if c=0 then .nilIface else .iface 232 (.pointer (some (ad c)))
theorem O8 {ad:Nat→Addr} {c:Nat} (h:c≠0):Ag ad c=.iface 232 (.pointer (some (ad c))):=if_neg h
theorem Nj {ad:Nat→Addr}:Ag ad 0=.nilIface:=rfl
structure Env (B:Nat) (ad:Nat→Addr) (cs:List Nat) (w:World):Prop where
  size:B≤w.heap.size
  glob:∀ c∈cs,w.cell? ⟨gl c,0,none⟩=some (.iface 232 (.pointer (some (ad c))))∧gl c<B
  row:∀ c∈cs,(∃ s,w.cell? (ad c)=some (.string s))∧(∃ x t,w.heap[(ad c).block]?=some (.cells x t (0,0)))∧(ad c).block<B
  dist:∀ c∈cs,∀ d∈cs,c≠d→ad c≠ad d
theorem Env.keep {B:Nat} {ad:Nat→Addr} {cs:List Nat} {S:Nat→Prop} {w w':World} (h:Env B ad cs w) (c:Chg S w w') (hS:∀ x,S x→B≤x):Env B ad cs w':=by
  obtain ⟨h1,h2,h3,h4⟩:=h
  refine ⟨Nat.le_trans h1 c.size,fun x hx=>?_,fun x hx=>?_,h4⟩
  · obtain ⟨a,b⟩:=h2 x hx
    exact ⟨(c.cell (p:=⟨gl x,0,none⟩) (Nat.lt_of_lt_of_le b h1) (fun s=>by have:=hS _ s;simp at this;omega)).trans a,b⟩
  · obtain ⟨⟨s,a⟩,⟨y,t,b⟩,d⟩:=h3 x hx
    exact ⟨⟨s,(c.cell (Nat.lt_of_lt_of_le d h1) (fun s=>by have:=hS _ s;omega)).trans a⟩,⟨y,t,c.keep b (fun s=>by have:=hS _ s;omega)⟩,d⟩
theorem Env.keepN {B:Nat} {ad:Nat→Addr} {cs:List Nat} {w w':World} (h:Env B ad cs w) (c:Chg Nil w w'):Env B ad cs w':=h.keep c (fun _ f=>f.elim)
theorem Env.alloc {B:Nat} {ad:Nat→Addr} {cs:List Nat} {w:World} (h:Env B ad cs w) (o:Obj):Env B ad cs (w.alloc o):=h.keepN ((Chg.refl Nil w).alloc o)
theorem Env.sub {B:Nat} {ad:Nat→Addr} {cs ds:List Nat} {w:World} (h:Env B ad cs w) (hd:∀ c∈ds,c∈cs):Env B ad ds w:=
  ⟨h.size,fun c hc=>h.glob c (hd c hc),fun c hc=>h.row c (hd c hc),fun c hc d hd'=>h.dist c (hd c hc) d (hd d hd')⟩
theorem Env.get {B:Nat} {ad:Nat→Addr} {cs:List Nat} {w:World} (h:Env B ad cs w) {c:Nat} (hc:c∈cs):w.cell? ⟨gl c,0,none⟩=some (.iface 232 (.pointer (some (ad c))))∧gl c<w.heap.size:=
  ⟨(h.glob c hc).1,Nat.lt_of_lt_of_le (h.glob c hc).2 h.size⟩
def Ac4 {H : Type} (text : List UInt8) : DataW H := .iface "*errors.errorString" (.ptr (.agg [.lit (.string text)]))
theorem Tu : "*errors.errorString" = "*" ++ "errors.errorString" := by decide
theorem S1 (u : TypeId) (h : Tryz.prog.typeName? 3 u = some "*errors.errorString") : u = 232 :=
  typeName_ptr_named (nm := "errors.errorString") (by rw [← Tu]; kernel_rfl) (by kernel_rfl) (by decide) u (by rw [← Tu]; exact h)
theorem Aaj:Tryz.prog.cellsOf 9=1:=by kernel_rfl
theorem Sq:Tryz.prog.cellsOf 253=1:=by kernel_rfl
def Aeu (x:String):Prop:=∀ g,Tryz.prog.globalNamed x=some g→(Tryz.prog.globals[g]?).map (·.type)=some 27
theorem Ln {W:World}:∀ (l:List (String×List UInt8)) (ps:List MemPlace),
    DataW.LaidVars Tryz.prog W (l.map fun x=>(x.1,Ac4 x.2)) ps→ps.Nodup→
    (∀ b off,MemPlace.cell b off∈ps→(∃ c t,W.heap[b]?=some (.cells c t (0,0)))∧∀ u v,W.cell? ⟨b,off,none⟩=some (.iface u v)→Value.okWide Tryz.prog W .any 0 u v)→
    (∀ x∈l,Aeu x.1)→
    ∃ ads:List Addr,ads.length=l.length∧ads.Nodup∧(∀ a∈ads,MemPlace.cell a.block a.off∈ps∧a.spot=none)∧
      ∀ (i:Nat) x a,l[i]?=some x→ads[i]?=some a→W.var? Tryz.prog x.1=some #[.iface 232 (.pointer (some a))]∧(∃ s:ByteArray,W.cell? a=some (.string s)∧s.data.toList=x.2)∧∃ c t,W.heap[a.block]?=some (.cells c t (0,0))
  | [],ps,h,_,_,_=>⟨[],rfl,List.nodup_nil,fun a h=>(by cases h),fun i x a h=>(by cases h)⟩
  | (n,text)::l,ps,h,hnd,hrows,hty=>by
    obtain ⟨g,t,cs,fuel,p,q,hg,ht,hv,hd,hr,e⟩:=h
    subst e
    have ht':=hty (n,text) (List.mem_cons_self ..) g hg
    obtain rfl:=Option.some.inj (ht'.symm.trans ht)
    obtain ⟨l0⟩:=cs
    have ok0:∀ u v,l0=[.iface u v]→Value.okWide Tryz.prog W .any 0 u v:=fun u v e=>by
      subst e
      exact (hrows g 0 (by simp [MemPlace.row])).2 u v (by simpa using World.var?_cell hg hv 0)
    obtain ⟨a,s,rfl,hc0,hs0,hz0,rfl⟩:=errorString_of_trod Tryz.underlying27 S1 Tryz.underlying232 Tryz.underlying253 rfl rfl Tryz.underlying9 Sq Aaj hd ok0
    have hsp:a.spot=none:=World.cell?_spot hc0
    rw [List.append_assoc] at hnd
    have hnd2:=(List.nodup_append.1 hnd).2.1
    obtain ⟨hn1,hn2,hn3⟩:=List.nodup_append.1 hnd2
    obtain ⟨ads,h1,h2,h3,h4⟩:=Ln l q hr hn2 (fun b off hm=>hrows b off (by simp [hm])) (fun x hx=>hty x (List.mem_cons_of_mem _ hx))
    have hma:MemPlace.cell a.block a.off∈MemPlace.row a 1:=by simp [MemPlace.row]
    refine ⟨a::ads,by simp [h1],List.nodup_cons.2 ⟨fun hm=>?_,h2⟩,fun b hb=>?_,fun i x b hx hb=>?_⟩
    · exact hn3 _ hma _ (h3 a hm).1 rfl
    · rcases List.mem_cons.1 hb with rfl|hb
      · exact ⟨by simp [hma],hsp⟩
      · exact ⟨by simp [(h3 b hb).1],(h3 b hb).2⟩
    · cases i with
      | zero=>
        simp only [List.getElem?_cons_zero,Option.some.injEq] at hx hb
        subst hx;subst hb
        exact ⟨hv,⟨s,hc0,hs0⟩,(hrows a.block a.off (by simp [hma])).1⟩
      | succ i=>exact h4 i x b (by simpa using hx) (by simpa using hb)
def Js:Nat→String
  | 1 => "pigeonholes/api.ErrText" | 2 => "pigeonholes/api.ErrBound" | 3 => "pigeonholes/api.ErrShape" | 4 => "pigeonholes/api.ErrName" | 5 => "pigeonholes/api.ErrNone"
  | 6 => "pigeonholes/api.ErrExist" | 7 => "pigeonholes/api.ErrDir" | 8 => "pigeonholes/api.ErrFile" | 9 => "pigeonholes/api.ErrFull" | 10 => "pigeonholes/api.ErrStale"
  | 11 => "pigeonholes/api.ErrHeld" | 12 => "pigeonholes/api.ErrSeq" | 13 => "pigeonholes/api.ErrOld" | 14 => "pigeonholes/api.ErrGrace" | _ => "pigeonholes/api.ErrPower"
def Ae6:Nat→List UInt8
  | 1=>[116,101,120,116]|2=>[98,111,117,110,100]|3=>[115,104,97,112,101]|4=>[110,97,109,101]|5=>[110,111,110,101]
  | 6=>[101,120,105,115,116]|7=>[100,105,114]|8=>[102,105,108,101]|9=>[102,117,108,108]|10=>[115,116,97,108,101]
  | 11=>[104,101,108,100]|12=>[115,101,113]|13=>[111,108,100]|14=>[103,114,97,99,101]|_=>[112,111,119,101,114]
def Ji (c:Nat):List UInt8:=[112,105,103,101,111,110,104,111,108,101,115,58,32]++Ae6 c
def Iu (cs:List Nat):List (String×DataW Unit):=cs.map fun c=>(Js c,Ac4 (Ji c))
def Vw (c:Nat):Prop:=Tryz.prog.globalNamed (Js c)=some (gl c)∧(Tryz.prog.globals[gl c]?).map (·.type)=some 27
theorem U0 {W:World} {cs:List Nat} (h:laidMet Tryz.prog (Iu cs) W) (hk:∀ c∈cs,Vw c) :
    ∃ ad,Env W.heap.size ad cs W∧∀ c∈cs,∃ s:ByteArray,W.cell? (ad c)=some (.string s)∧s.data.toList=Ji c:=by
  obtain ⟨ps,hv,hnd,hrows⟩:=h
  have hk':∀ c∈cs,Tryz.prog.globalNamed (Js c)=some (gl c)∧(Tryz.prog.globals[gl c]?).map (·.type)=some 27:=hk
  have e:Iu cs=(cs.map fun c=>(Js c,Ji c)).map fun x=>(x.1,Ac4 x.2):=by simp [Iu]
  rw [e] at hv
  obtain ⟨ads,h1,h2,h3,h4⟩:=Ln _ ps hv hnd hrows (fun x hx g hg=>by
    obtain ⟨c,hc,rfl⟩:=List.mem_map.1 hx
    obtain ⟨a,b⟩:=hk' c hc
    obtain rfl:=Option.some.inj (a.symm.trans hg)
    exact b)
  simp only [List.length_map] at h1
  have get:∀ c∈cs,∃ a,ads[cs.idxOf c]?=some a∧W.var? Tryz.prog (Js c)=some #[.iface 232 (.pointer (some a))]∧(∃ s:ByteArray,W.cell? a=some (.string s)∧s.data.toList=Ji c)∧∃ x t,W.heap[a.block]?=some (.cells x t (0,0)):=fun c hc=>by
    have hi:cs.idxOf c<cs.length:=List.idxOf_lt_length_of_mem hc
    obtain ⟨a,ha⟩:∃ a,ads[cs.idxOf c]?=some a:=⟨ads[cs.idxOf c]'(by omega),List.getElem?_eq_getElem _⟩
    have hx:(cs.map fun c=>(Js c,Ji c))[cs.idxOf c]?=some (Js c,Ji c):=by simp [hi]
    exact ⟨a,ha,h4 _ _ a hx ha⟩
  refine ⟨fun c=>(ads[cs.idxOf c]?).getD default,⟨Nat.le_refl _,fun c hc=>?_,fun c hc=>?_,fun c hc d hd hne he=>?_⟩,fun c hc=>?_⟩
  · obtain ⟨a,ha,hv,_⟩:=get c hc
    simp only [ha,Option.getD_some]
    have hcell:W.cell? ⟨gl c,0,none⟩=some (.iface 232 (.pointer (some a))):=by simpa using World.var?_cell (hk' c hc).1 hv 0
    exact ⟨hcell,World.block_lt_of_cell? _ _ hcell⟩
  · obtain ⟨a,ha,_,⟨s,hs,_⟩,y,t,hr⟩:=get c hc
    simp only [ha,Option.getD_some]
    exact ⟨⟨s,hs⟩,⟨y,t,hr⟩,lt_of_block hr⟩
  · obtain ⟨a,ha,_⟩:=get c hc
    obtain ⟨b,hb,_⟩:=get d hd
    simp only [ha,hb,Option.getD_some] at he
    subst he
    have hi:=(List.getElem?_eq_some_iff.1 ha)
    have hj:=(List.getElem?_eq_some_iff.1 hb)
    obtain ⟨i1,i2⟩:=hi
    obtain ⟨j1,j2⟩:=hj
    have hpw:=List.pairwise_iff_getElem.1 h2
    have:cs.idxOf c=cs.idxOf d:=by
      rcases Nat.lt_trichotomy (cs.idxOf c) (cs.idxOf d) with h|h|h
      · exact absurd (i2.trans j2.symm) (hpw _ _ i1 j1 h)
      · exact h
      · exact absurd (j2.trans i2.symm) (hpw _ _ j1 i1 h)
    have e1:cs[cs.idxOf c]?=some c:=by simp [List.idxOf_lt_length_of_mem hc]
    have e2:cs[cs.idxOf d]?=some d:=by simp [List.idxOf_lt_length_of_mem hd]
    rw [this,e2] at e1
    exact hne (Option.some.inj e1).symm
  · obtain ⟨a,ha,_,⟨s,hs,hs2⟩,_⟩:=get c hc
    simp only [ha,Option.getD_some]
    exact ⟨s,hs,hs2⟩
def Br (B:Nat) (ad:Nat→Addr) (cs:List Nat):Res:=
  ⟨false,fun b=>∃ c∈cs,b=gl c∨b=(ad c).block,fun w=>Env B ad cs w,fun w w' h hs hb=>by
    obtain ⟨h1,h2,h3,h4⟩:=h
    refine ⟨Nat.le_trans h1 hs,fun c hc=>⟨?_,(h2 c hc).2⟩,fun c hc=>⟨?_,?_,(h3 c hc).2.2⟩,h4⟩
    · rw [World.cell?_of_block (w:=w) (hb (gl c) ⟨c,hc,.inl rfl⟩)];exact (h2 c hc).1
    · obtain ⟨s,e⟩:=(h3 c hc).1
      exact ⟨s,by rw [World.cell?_of_block (w:=w) (hb (ad c).block ⟨c,hc,.inr rfl⟩)];exact e⟩
    · obtain ⟨x,t,e⟩:=(h3 c hc).2.1
      exact ⟨x,t,by rw [hb (ad c).block ⟨c,hc,.inr rfl⟩];exact e⟩,
   fun w b h hb=>by
    obtain ⟨c,hc,rfl|rfl⟩:=hb
    · exact (h.get hc).2
    · exact Nat.lt_of_lt_of_le (h.row c hc).2.2 h.size⟩
theorem Ff {B:Nat} {ad:Nat→Addr} {cs:List Nat} {c:Nat} (hc:c∈cs) (h0:Nat.beq c 0=false):J6 (Br B ad cs) (gl c) 0 [Ag ad c]:=fun w h j u hj=>by
  have h1:c≠0:=Nat.ne_of_beq_eq_false h0
  cases j with
  | zero=>
    simp only [List.getElem?_cons_zero,Option.some.injEq] at hj
    rw [← hj,O8 h1]
    exact ((h:Env B ad cs w).get hc).1
  | succ j=>simp at hj
theorem Af9 {α:Type} {R:α→α→Prop}:∀ {L:List α},(∀ r∈L,∀ s∈L,R r s)→L.Pairwise R
  | [],_=>List.Pairwise.nil
  | r::L,h=>List.pairwise_cons.2 ⟨fun s hs=>h r (by simp) s (by simp [hs]),Af9 fun a ha b hb=>h a (by simp [ha]) b (by simp [hb])⟩
section
variable {P:Program} {f:FuncId} {args:Array Value}
theorem Au.reads {L:List Res} {Φ:Value→List Res→Prop} (hs:Au P f args L Φ) {w:World} (hro:L.all (fun r=>!r.wr)=true) (hf:∀ r∈L,r.fact w):Calls P f args w fun e w'=>∃ u L',Φ u L'∧e=.returned u∧Chg Nil w w':=by
  have hr:∀ r∈L,r.wr=false:=fun r h=>by simpa using List.all_eq_true.1 hro r h
  have hp:L.Pairwise (fun r s=>r.wr=true∨s.wr=true→∀ b,r.foot b→¬s.foot b):=by
    refine Af9 fun r h1 s h2 hc=>?_
    rw [hr r h1,hr s h2] at hc
    rcases hc with e|e<;>cases e
  have ho:Own w (Vy L) L w:=⟨Chg.refl _ _,fun b ⟨r,h,hb,_⟩=>⟨r,h,hb,fun e=>by cases e⟩,hf,hp,fun r h b hb=>.inl ⟨r,h,hb,fun e=>e⟩⟩
  refine (hs _ w w ho).mono ?_
  rintro e w' ⟨u,L',h1,h2,h3⟩
  exact ⟨u,L',h1,h2,h3.chg.mono fun x _ ⟨r,h,_,hw⟩=>by have:=hw rfl;rw [hr r h] at this;cases this⟩
end
theorem Nr {α:Type} {Q:Nat→α→Prop}:∀ (n:Nat),(∀ i,i<n→∃ x,Q i x)→∃ l:List α,l.length=n∧∀ (i:Nat) x,l[i]?=some x→Q i x
  | 0,_=>⟨[],rfl,fun i x h=>by cases h⟩
  | n+1,h=>by
    obtain ⟨l,h1,h2⟩:=Nr n (fun i hi=>h i (by omega))
    obtain ⟨x,hx⟩:=h n (by omega)
    refine ⟨l++[x],by simp [h1],fun i y hy=>?_⟩
    rcases Nat.lt_or_ge i n with hi|hi
    · rw [List.getElem?_append_left (by omega)] at hy;exact h2 i y hy
    · rw [List.getElem?_append_right (by omega)] at hy
      have hin:i=n:=by
        have:=(List.getElem?_eq_some_iff.1 hy).1
        simp at this;omega
      subst hin
      simp [h1] at hy;subst hy;exact hx
theorem U3 {w:World} {base:Nat} {a:Addr}:∀ {n:Nat} {cs:List Value},w.cells? base a n=some cs→cs.length=n∧∀ (r:Nat) u,cs[r]?=some u→w.cell? (a.add r)=some u:=by
  intro n cs h
  unfold World.cells? at h
  split at h
  · have key:∀ (l:List Nat) (cs:List Value),l.mapM (fun i=>w.cell? (a.add i))=some cs→cs.length=l.length∧∀ (r:Nat) u,cs[r]?=some u→∃ i:Nat,l[r]?=some i∧w.cell? (a.add i)=some u:=by
      intro l
      induction l with
      | nil=>intro cs h;simp at h;subst h;exact ⟨rfl,fun r u h=>by cases h⟩
      | cons x l ih=>
        intro cs h
        simp only [List.mapM_cons,Option.bind_eq_bind,Option.bind_eq_some_iff] at h
        obtain ⟨v,hv,vs,hvs,hcs⟩:=h
        cases hcs
        obtain ⟨h1,h2⟩:=ih vs hvs
        refine ⟨by simp [h1],fun r u hu=>?_⟩
        cases r with
        | zero=>simp at hu;subst hu;exact ⟨x,rfl,hv⟩
        | succ r=>obtain ⟨i,hi,hc⟩:=h2 r u (by simpa using hu);exact ⟨i,by simpa using hi,hc⟩
    obtain ⟨h1,h2⟩:=key _ cs h
    refine ⟨by simpa using h1,fun r u hu=>?_⟩
    obtain ⟨i,hi,hc⟩:=h2 r u hu
    obtain ⟨hr,e⟩:=List.getElem?_eq_some_iff.1 hi
    simp at e;subst e;exact hc
  · cases h
end Go.Proofs.YtpojpkhpddnmjaaGreatDoor
namespace Go.Proofs.YtpojpkhpddnmjaaGreatDoor
open Go.RowKit Go.ChangeShapes Go.WideShapes
set_option linter.unusedVariables false
set_option linter.unusedSimpArgs false
inductive Sh where
  | int|str|bool|unit
  | and (a b:Sh)
  | slice (s:Sh)
namespace Sh
def D:Sh→Type
  | int=>Int
  | str=>ByteArray
  | bool=>Bool
  | unit=>Unit
  | and a b=>a.D×b.D
  | slice s=>Option Addr×Nat×List s.D
def size:Sh→Nat
  | unit=>0
  | and a b=>a.size+b.size
  | _=>1
def cells:(s:Sh)→s.D→List Value
  | int,d=>[.int .i64 d]
  | str,d=>[.string d]
  | bool,d=>[.bool d]
  | unit,_=>[]
  | and a b,d=>a.cells d.1++b.cells d.2
  | slice _,d=>[.slice d.1 d.2.2.length d.2.1]
def val:(s:Sh)→s.D→Value
  | int,d=>.int .i64 d
  | str,d=>.string d
  | bool,d=>.bool d
  | unit,d=>.agg #[]
  | and a b,d=>.agg (a.cells d.1++b.cells d.2).toArray
  | slice _,d=>.slice d.1 d.2.2.length d.2.1
def At (W:World) (B:Nat):(s:Sh)→s.D→Prop
  | int,d=>-9223372036854775808≤(show Int from d)∧(show Int from d)≤9223372036854775807
  | str,d=>(show ByteArray from d).size≤9223372036854775807
  | and a b,d=>a.At W B d.1∧b.At W B d.2
  | slice s,d=>d.2.2.length≤d.2.1∧d.2.1≤9223372036854775807∧∀ (i:Nat) x,d.2.2[i]?=some x→s.At W B x∧
      ∃ g off,d.1=some ⟨g,off,none⟩∧g<B∧∀ (r:Nat) u,(s.cells x)[r]?=some u→W.cell? ⟨g,off+i*s.size+r,none⟩=some u
  | _,_=>True
def bytes:Sh→Nat
  | int=>8
  | str=>16
  | bool=>1
  | unit=>0
  | and a b=>a.bytes+b.bytes
  | slice _=>24
def Sz:(s:Sh)→s.D→Prop
  | and a b,d=>a.Sz d.1∧b.Sz d.2
  | slice s,d=>d.2.1*s.bytes≤140737488355327∧∀ (i:Nat) x,d.2.2[i]?=some x→s.Sz x
  | str,d=>(show ByteArray from d).size≤140737488355327
  | _,_=>True
theorem Lg:∀ (s:Sh) (d:s.D),(s.cells d).length=s.size
  | int,_=>rfl
  | str,_=>rfl
  | bool,_=>rfl
  | unit,_=>rfl
  | and a b,d=>by simp [cells,size,Lg a,Lg b]
  | slice _,_=>rfl
theorem At.keep {S:Nat→Prop} {W W':World} {B:Nat} (c:Chg S W W') (hB:B≤W.heap.size) (hS:∀ x,S x→B≤x):∀ (s:Sh) (d:s.D),s.At W B d→s.At W' B d
  | int,_,h=>h
  | str,_,h=>h
  | bool,_,h=>h
  | unit,_,h=>h
  | and a b,d,h=>⟨At.keep c hB hS a d.1 h.1,At.keep c hB hS b d.2 h.2⟩
  | slice s,d,h=>⟨h.1,h.2.1,fun i x hx=>by
      obtain ⟨h1,g,off,e,hg,h2⟩:=h.2.2 i x hx
      exact ⟨At.keep c hB hS s x h1,g,off,e,hg,fun r u hu=>(c.cell (p:=⟨g,off+i*s.size+r,none⟩) (Nat.lt_of_lt_of_le hg hB) (fun s=>by have:=hS _ s;simp at this;omega)).trans (h2 r u hu)⟩⟩
def E0 (P:Program) (ok:TypeId→Sh→Bool):List Field→Nat→Sh→Bool
  | [],_,unit=>true
  | f::fs,off,and a b=>ok f.type a&&f.offset==off&&P.cellsOf f.type==a.size&&E0 P ok fs (off+a.size) b
  | _,_,_=>false
def J3 (P:Program):Nat→TypeId→Sh→Bool
  | 0,_,_=>false
  | n+1,t,int=>match P.underlying t with|some (.int .i64)=>true|_=>false
  | n+1,t,str=>match P.underlying t with|some .string=>true|_=>false
  | n+1,t,bool=>match P.underlying t with|some .bool=>true|_=>false
  | n+1,t,slice s=>match P.underlying t with|some (.slice e)=>J3 P n e s&&P.cellsOf e==s.size&&decide (0<s.size)&&decide (s.bytes≤P.bytesOf e)|_=>false
  | n+1,t,s=>match P.underlying t with|some (.struct fs)=>E0 P (J3 P n) fs.toList 0 s&&P.cellsOf t==s.size|_=>false
theorem Vz {H:Type} {P:Program} {enc:TypeId×Value→H} {W:World} {m:Nat} {Z:Prop} (ok:TypeId→Sh→Bool)
    (hok:∀ (t:TypeId) (s:Sh) (cs:List Value) (x:DataW H×List MemPlace),ok t s=true→DataW.trod enc P W 0 (fun _=>true) true m t cs=some x→∃ d:s.D,cs=s.cells d∧s.At W W.heap.size d∧((∀ n∈x.1.weights P t,n≤reachBytes)→s.Sz d)) :
    ∀ (fs:List Field) (off:Nat) (s:Sh) (cs:List Value),E0 P ok fs off s=true→cs.length=off+s.size→
      (∀ (i:Nat) (f:Field),fs[i]?=some f→∃ x,DataW.trod enc P W 0 (fun _=>true) true m f.type ((cs.drop f.offset).take (P.cellsOf f.type))=some x∧(Z→∀ n∈x.1.weights P f.type,n≤reachBytes))→
      ∃ d:s.D,cs.drop off=s.cells d∧s.At W W.heap.size d∧(Z→s.Sz d)
  | [],off,unit,cs,_,hl,_=>⟨(),by simp [cells,size] at hl ⊢;omega,trivial,fun _=>trivial⟩
  | f::fs,off,and a b,cs,hf,hl,hx=>by
    simp only [E0,Bool.and_eq_true,beq_iff_eq] at hf
    obtain ⟨⟨⟨h1,h2⟩,h3⟩,h4⟩:=hf
    obtain ⟨x,hx0,hz0⟩:=hx 0 f rfl
    rw [h2,h3] at hx0
    obtain ⟨d1,e1,a1,z1⟩:=hok f.type a _ x h1 hx0
    obtain ⟨d2,e2,a2,z2⟩:=Vz ok hok fs (off+a.size) b cs h4 (by rw [hl];simp [size];omega) (fun i f' hf'=>hx (i+1) f' (by simpa using hf'))
    refine ⟨(d1,d2),?_,⟨a1,a2⟩,fun z=>⟨z1 (hz0 z),z2 z⟩⟩
    show cs.drop off=a.cells d1++b.cells d2
    rw [← e1,← e2,← List.drop_drop,List.take_append_drop]
  | [],_,int,_,h,_,_=>by simp [E0] at h
  | [],_,str,_,h,_,_=>by simp [E0] at h
  | [],_,bool,_,h,_,_=>by simp [E0] at h
  | [],_,and _ _,_,h,_,_=>by simp [E0] at h
  | [],_,slice _,_,h,_,_=>by simp [E0] at h
  | _::_,_,int,_,h,_,_=>by simp [E0] at h
  | _::_,_,str,_,h,_,_=>by simp [E0] at h
  | _::_,_,bool,_,h,_,_=>by simp [E0] at h
  | _::_,_,unit,_,h,_,_=>by simp [E0] at h
  | _::_,_,slice _,_,h,_,_=>by simp [E0] at h
theorem Ns {H:Type} {P:Program} {enc:TypeId×Value→H} {W:World} {n m:Nat} {t:TypeId} {s:Sh} {cs:List Value} {x:DataW H×List MemPlace}
    (hok:∀ (t:TypeId) (s:Sh) (m:Nat) (cs:List Value) (x:DataW H×List MemPlace),J3 P n t s=true→DataW.trod enc P W 0 (fun _=>true) true m t cs=some x→∃ d:s.D,cs=s.cells d∧s.At W W.heap.size d∧((∀ n∈x.1.weights P t,n≤reachBytes)→s.Sz d))
    (hf:(match P.underlying t with|some (.struct fs)=>E0 P (J3 P n) fs.toList 0 s&&P.cellsOf t==s.size|_=>false)=true)
    (h:DataW.trod enc P W 0 (fun _=>true) true m t cs=some x):∃ d:s.D,cs=s.cells d∧s.At W W.heap.size d∧((∀ n∈x.1.weights P t,n≤reachBytes)→s.Sz d):=by
  split at hf
  · rename_i fs hu
    simp only [Bool.and_eq_true,beq_iff_eq] at hf
    obtain ⟨xs,m',_,hxe,hl,hlen,hfs⟩:=DataW.trod_struct hu h
    obtain ⟨d,e,ha,hz⟩:=Vz (Z:=∀ n∈x.1.weights P t,n≤reachBytes) (J3 P n) (fun t s cs x hf h=>hok t s m' cs x hf h) fs.toList 0 s cs hf.1 (by rw [hl,hf.2];omega) (fun i f hi=>by
      have hi':fs[i]?=some f:=by simpa using hi
      have hlt:i<xs.length:=by rw [hlen];exact (Array.getElem?_eq_some_iff.1 hi').1
      refine ⟨xs[i],(hfs i f hi').trans (List.getElem?_eq_getElem hlt),fun z n hn=>z n ?_⟩
      rw [hxe]
      simp only [DataW.weights,hu]
      exact DataW.weights_mem_each (j:=i) (t:=f.type) (d:=xs[i].1) (by simp [hi']) (by simp [List.getElem?_eq_getElem hlt]) n hn)
    exact ⟨d,by simpa using e,ha,hz⟩
  · cases hf
theorem Km {H:Type} {P:Program} {e:TypeId}:∀ {ds:List (DataW H)} {d:DataW H},d∈ds→∀ n∈d.weights P e,n∈DataW.weightsAll P e ds
  | d0::ds,d,hd,n,hn=>by
    simp only [DataW.weightsAll,List.mem_append]
    rcases List.mem_cons.1 hd with rfl|hd
    · exact .inl hn
    · exact .inr (Km hd n hn)
theorem Mh {H:Type} {P:Program} {enc:TypeId×Value→H} {W:World}:∀ (n:Nat) (t:TypeId) (s:Sh) (m:Nat) (cs:List Value) (x:DataW H×List MemPlace),
    J3 P n t s=true→DataW.trod enc P W 0 (fun _=>true) true m t cs=some x→∃ d:s.D,cs=s.cells d∧s.At W W.heap.size d∧((∀ n∈x.1.weights P t,n≤reachBytes)→s.Sz d)
  | 0,t,s,_,_,_,hf,_=>by simp [J3] at hf
  | n+1,t,int,m,cs,x,hf,h=>by
    unfold J3 at hf
    split at hf
    · rename_i hu
      obtain ⟨k,e,_,wf⟩:=DataW.trod_int hu h
      simp only [Lit.wf,Bool.and_eq_true,decide_eq_true_eq] at wf
      exact ⟨k,e,⟨by simpa [IntKind.min,IntKind.signed,IntKind.bits] using wf.1,by simpa [IntKind.max,IntKind.signed,IntKind.bits] using wf.2⟩,fun _=>trivial⟩
    · cases hf
  | n+1,t,str,m,cs,x,hf,h=>by
    unfold J3 at hf
    split at hf
    · rename_i hu
      obtain ⟨k,e,hx,wf⟩:=DataW.trod_string hu h
      refine ⟨k,e,by unfold maxLen at wf;simp only [At];omega,fun hz=>?_⟩
      have:=hz k.data.toList.length (by rw [hx];simp [DataW.weights])
      have h2:k.data.toList.length=k.size:=Array.length_toList
      rw [h2] at this
      exact Nat.le_trans this (Nat.le_of_lt_succ reachBytes_lt)
    · cases hf
  | n+1,t,bool,m,cs,x,hf,h=>by
    unfold J3 at hf
    split at hf
    · rename_i hu
      obtain ⟨k,e,_⟩:=DataW.trod_bool hu h
      exact ⟨k,e,trivial,fun _=>trivial⟩
    · cases hf
  | n+1,t,slice s,m,cs,x,hf,h=>by
    unfold J3 at hf
    split at hf
    · rename_i e hu
      simp only [Bool.and_eq_true,beq_iff_eq,decide_eq_true_eq] at hf
      obtain ⟨⟨⟨hf1,hsz⟩,hs0⟩,hby⟩:=hf
      rcases Go.Deep.open_slice hu h with ⟨rfl,_⟩|⟨a,len,cap,mm,n',D',Pl,rfl,_,hl,hm,hmm,hxe,hx⟩
      · exact ⟨(none,0,[]),rfl,⟨Nat.le_refl _,by simp,fun i x h=>by cases h⟩,fun _=>⟨by simp,fun i x h=>by cases h⟩⟩
      · simp only [if_true] at hmm
        obtain ⟨l,h1,h2⟩:=Nr (Q:=fun i (y:s.D)=>s.At W W.heap.size y∧((∀ n∈x.1.weights P t,n≤reachBytes)→s.Sz y)∧∃ g off,(some a:Option Addr)=some ⟨g,off,none⟩∧g<W.heap.size∧∀ (r:Nat) u,(s.cells y)[r]?=some u→W.cell? ⟨g,off+i*s.size+r,none⟩=some u) len (fun i hi=>by
          obtain ⟨cs',hc,hd⟩:=hx i (by omega)
          obtain ⟨y,rfl,hy,hyz⟩:=Mh n e s _ _ _ hf1 hd
          rw [hsz] at hc
          obtain ⟨c1,c2⟩:=U3 hc
          obtain ⟨g,off,sp⟩:=a
          have hlen:=Lg s y
          have h0:=c2 0 ((s.cells y)[0]'(by omega)) (List.getElem?_eq_getElem _)
          have hsp:sp=none:=by
            have:=World.cell?_spot h0
            rcases Nat.eq_zero_or_pos (i*s.size) with hz|hz
            · rw [hz] at this;simpa [Addr.add] using this
            · obtain ⟨cs0,hc0,hd0⟩:=hx 0 (by omega)
              obtain ⟨y0,rfl,_⟩:=Mh n e s _ _ _ hf1 hd0
              rw [hsz,Nat.zero_mul] at hc0
              obtain ⟨_,e2⟩:=U3 hc0
              have hlen0:=Lg s y0
              have:=World.cell?_spot (e2 0 ((s.cells y0)[0]'(by omega)) (List.getElem?_eq_getElem _))
              simpa [Addr.add] using this
          subst hsp
          refine ⟨y,hy,fun hz=>hyz (fun k hk=>hz k ?_),g,off,rfl,?_,fun r u hu=>?_⟩
          · rw [hxe]
            simp only [DataW.weights,hu,List.mem_cons,List.mem_append]
            exact .inr (.inl (Km (List.mem_map.2 ⟨i,List.mem_range.2 hi,rfl⟩) k hk))
          · have:=World.block_lt_of_cell? _ _ h0
            simpa [Addr.add_lit] using this
          · have:=c2 r u hu
            rwa [Addr.add_lit,Addr.add_lit] at this)
        refine ⟨(some a,cap,l),by simp [cells,h1],⟨by simpa [h1] using hl,by unfold maxLen at hm;simp only;omega,fun i x hx=>⟨(h2 i x hx).1,(h2 i x hx).2.2⟩⟩,fun hz=>⟨?_,fun i x hx=>(h2 i x hx).2.1 hz⟩⟩
        have:=hz (cap*P.bytesOf e) (by
          rw [hxe]
          simp only [DataW.weights,hu,List.mem_cons,List.length_map,List.length_range]
          refine .inl ?_
          rw [hmm,Nat.add_sub_cancel' hl])
        have h3:=Nat.mul_le_mul_left cap hby
        have h4:=reachBytes_lt
        show cap*s.bytes≤_
        omega
    · cases hf
  | n+1,t,unit,m,cs,x,hf,h=>Ns (fun t s m cs x hf h=>Mh n t s m cs x hf h) hf h
  | n+1,t,and a b,m,cs,x,hf,h=>Ns (fun t s m cs x hf h=>Mh n t s m cs x hf h) hf h
theorem open_val2 {H:Type} {P:Program} {enc:TypeId×Value→H} {W:World} {r:Reach} {b0:Nat} {v:Value} {dd:DataW H} {p:List MemPlace} (n:Nat) (t:TypeId) (s:Sh) (hf:J3 P n t s=true)
    (hv:Value.okWide P W r b0 t v) (h:DataW.Trod enc P W 0 (fun _=>true) true t v dd p):∃ d:s.D,v=s.val d∧s.At W W.heap.size d∧((∀ n∈dd.weights P t,n≤reachBytes)→s.Sz d):=by
  obtain ⟨fuel,hh⟩:=h
  obtain ⟨d,e,ha,hz⟩:=Mh n t s _ _ _ hf hh
  refine ⟨d,?_,ha,hz⟩
  cases n with
  | zero=>simp [J3] at hf
  | succ n=>
    have struct:∀ s:Sh,∀ d:s.D,v.cells.toList=s.cells d→(match P.underlying t with|some (.struct fs)=>E0 P (J3 P n) fs.toList 0 s&&P.cellsOf t==s.size|_=>false)=true→v=.agg (s.cells d).toArray:=fun s d e hf=>by
      split at hf
      · rename_i hu
        obtain ⟨cs,rfl,_⟩:=okWide_struct hu hv
        rw [← e];simp [Value.cells]
      · cases hf
    cases s with
    | int=>
      unfold J3 at hf
      split at hf
      · rename_i hu
        obtain ⟨k,rfl⟩:=okWide_int hu hv
        simpa [Value.cells,cells,val] using e
      · cases hf
    | str=>
      unfold J3 at hf
      split at hf
      · rename_i hu
        obtain ⟨k,rfl⟩:=okWide_string hu hv
        simpa [Value.cells,cells,val] using e
      · cases hf
    | bool=>
      unfold J3 at hf
      split at hf
      · rename_i hu
        obtain ⟨k,rfl⟩:=okWide_bool hu hv
        simpa [Value.cells,cells,val] using e
      · cases hf
    | slice s=>
      unfold J3 at hf
      split at hf
      · rename_i hu
        obtain ⟨a,l,c,rfl⟩:=okWide_slice hu hv
        simpa [Value.cells,cells,val] using e
      · cases hf
    | unit=>exact struct _ d e hf
    | and a b=>exact struct _ d e hf
theorem weights_le {H:Type} {P:Program} {ts:List TypeId} {ds:List (DataW H)} (h:(DataW.weightsEach P ts ds).all (·≤reachBytes)=true) {j:Nat} {t:TypeId} {d:DataW H} (ht:ts[j]?=some t) (hd:ds[j]?=some d) :
    ∀ n∈d.weights P t,n≤reachBytes:=fun n hn=>of_decide_eq_true (List.all_eq_true.1 h n (DataW.weights_mem_each ht hd n hn))
end Sh
end Go.Proofs.YtpojpkhpddnmjaaGreatDoor
namespace Go.Proofs.YtpojpkhpddnmjaaGreatDoor
open Go.RowKit
def Im {α:Type} (v:Value) (k:Nat) (enc:α→List Value) (l:List α):Res:=
  ⟨false,fun b=>b=Dg v∧∃ (i:Nat) (x:α) (r:Nat) (u:Value),l[i]?=some x∧(enc x)[r]?=some u,
   fun w=>(∃ ad cap,v=.slice ad l.length cap∧cap≤9223372036854775807∧l.length≤cap∧(∀ i,i<l.length→ad=some ⟨Dg v,B0 v,none⟩))∧∀ (i:Nat) x,l[i]?=some x→∀ (r:Nat) u,(enc x)[r]?=some u→w.cell? ⟨Dg v,B0 v+i*k+r,none⟩=some u,
   fun w w' h _ hb=>⟨h.1,fun i x hx r u hu=>by rw [World.cell?_of_block (w:=w) (hb (Dg v) ⟨rfl,i,x,r,u,hx,hu⟩)];exact h.2 i x hx r u hu⟩,
   fun w b h ⟨hb,i,x,r,u,hx,hu⟩=>by rw [hb];exact World.block_lt_of_cell? w _ (h.2 i x hx r u hu)⟩
theorem Rz {W:World} {s:Sh} {a0:Option Addr} {cap:Nat} {l:List s.D} (h:(Sh.slice s).At W W.heap.size (a0,cap,l)):(Im (.slice a0 l.length cap) s.size s.cells l).fact W:=by
  obtain ⟨h1,h2,h3⟩:=h
  refine ⟨⟨a0,cap,rfl,h2,h1,fun i hi=>?_⟩,fun i x hx r u hu=>?_⟩
  · obtain ⟨_,g,off,e,_⟩:=h3 i l[i] (List.getElem?_eq_getElem hi)
    have e':a0=_:=e
    rw [e'];rfl
  · obtain ⟨_,g,off,e,_,hc⟩:=h3 i x hx
    have e':a0=_:=e
    subst e'
    exact hc r u hu
theorem Ab8 {α:Type} {v:Value} {k:Nat} {enc:α→List Value} {l:List α} {i:Nat} {x:α} (hi:l[i]?=some x) (r:Nat) {vs:List Value} (h:((enc x).drop r).take vs.length=vs) :
    J6 (Im v k enc l) (Dg v) (B0 v+i*k+r) vs:=fun w hf j u hj=>by
  have hl:=(List.getElem?_eq_some_iff.1 hj).1
  have h2:=congrArg (fun l=>l[j]?) h
  simp only [List.getElem?_take,List.getElem?_drop,if_pos hl] at h2
  rw [Nat.add_assoc]
  exact hf.2 i x hi (r+j) u (by rw [h2];exact hj)
theorem Xt {α:Type} {v:Value} {k:Nat} {enc:α→List Value} {l:List α} {i:Nat} {x:α} (hi:l[i]?=some x) {vs:List Value} (h:(enc x).take vs.length=vs) :
    J6 (Im v k enc l) (Dg v) (B0 v+i*k) vs:=Ab8 (r:=0) hi h
section
variable {P:Program} {a:Act} {w w0:World} {E:Ent} {L:List Res}
theorem Pe {α:Type} {enc:α→List Value} {l:List α} {k:Nat} {dst:Option Tmp} {T:TypeId} {x:Operand} {ty:TypeId} {pos:String} {after:Array Edge} {g:Option (Nat×Bool)} {v:Value} (d:TypeId) (hx:(a.eval x,P.underlying T)=(v,some (.slice d))) (i:Nat) (hi:L[i]?=some (Im v k enc l)) :
    Cl P w0 E L ⟨dst,.call { callee:=.builtin .len,args:=#[x],argTypes:=#[T] },ty,pos,after,g⟩ a (.int .i64 l.length):=fun w h=>by
  obtain ⟨h1,h2⟩:a.eval x=v∧P.underlying T=_:=by simpa using hx
  obtain ⟨⟨ad,cap,e,_⟩,_⟩:=h.fact i hi
  rw [e] at h1
  simp [execOp,resolve,invoke,builtin,Builtin.len_,h1,Sem.run_bind,run_underlying h2,goInt]
theorem Ou {α:Type} {enc:α→List Value} {l:List α} {k:Nat} {dst:Option Tmp} {T:TypeId} {x y:Operand} {ty:TypeId} {pos:String} {after:Array Edge} {g:Option (Nat×Bool)} {v:Value} (d:TypeId) (j:Nat) (hx:(a.eval x,a.eval y,P.underlying T,(P.info? d).map (·.size))=(v,.int .i64 (j:Int),some (.slice d),some k)) (hj:j<l.length) (i:Nat) (hi:L[i]?=some (Im v k enc l)) :
    Cl P w0 E L ⟨dst,.indexAddr T x y,ty,pos,after,g⟩ a (.pointer (some ⟨Dg v,B0 v+j*k,none⟩)):=fun w h=>by
  obtain ⟨h1,h2,h3,h4⟩:a.eval x=v∧a.eval y=_∧P.underlying T=_∧(P.info? d).map (·.size)=some k:=by simpa using hx
  obtain ⟨⟨ad,cap,e,_,_,hp⟩,_⟩:=h.fact i hi
  obtain rfl:=hp j hj
  obtain ⟨B,hB⟩:∃ B,B=Dg v:=⟨_,rfl⟩
  obtain ⟨O,hO⟩:∃ O,O=B0 v:=⟨_,rfl⟩
  rw [← hB,← hO] at e ⊢
  subst e
  have hz:=Gk (w:=w) h4
  have hi1:(0:Int)≤(j:Int)∧(j:Int)<(l.length:Int):=by omega
  simp only [execOp,Instr.indexAt,h1,h2,asIntOf,Sem.run_bind,Sem.run_pure,Result.andThen_ok,run_underlying h3]
  simp only [Sem.run_ite,hi1,and_self,if_true,Sem.run_bind,hz,Result.andThen_ok,Sem.run_pure,Int.toNat_natCast,Addr.add_lit]
end
def Ma (k:Nat) (v:Value) (lo hi:Nat):Value:=match v with
  | .slice a _ cap=>.slice (if cap=lo then a else a.map (·.add (lo*k))) (hi - lo) (cap - lo)
  | v=>v
def J4 (r:Res) (v:Value) (n:Nat) (xs:List Value):Prop:=∀ w,r.fact w→(∃ ad cap,v=.slice ad n cap∧n≤cap∧cap≤9223372036854775807∧∀ i,i<n→ad=some ⟨Dg v,B0 v,none⟩)∧∀ j u,xs[j]?=some u→w.cell? ⟨Dg v,B0 v+j,none⟩=some u
theorem Afj {wr:Bool} {v:Value} {T k n:Nat} {xs:List Value}:J4 (rSl wr v T k n xs) v n xs:=fun w hf=>by
  refine ⟨?_,fun j u hj=>?_⟩
  · obtain ⟨h1,⟨rfl,h2⟩|⟨g,off,cap,cs,rfl,hb,h2,h3,h4,h5,_⟩⟩:=hf
    · exact ⟨none,0,by rw [h2],by omega,by omega,fun i hi=>by omega⟩
    · exact ⟨_,cap,rfl,h2,by unfold maxLen at h3;omega,fun _ _=>rfl⟩
  · have:=rdSl (wr:=wr) (v:=v) (T:=T) (k:=k) (n:=n) (xs:=xs) 0 (vs:=xs) (fun j u h=>by rw [Nat.zero_add];exact h) w hf j u hj
    simpa using this
theorem Adh {α:Type} {v:Value} {k:Nat} {enc:α→List Value} {l:List α} (he:∀ a,(enc a).length=k) (hk:0<k):J4 (Im v k enc l) v l.length (l.flatMap enc):=fun w hf=>by
  obtain ⟨⟨ad,cap,e,h2,h1,h3⟩,h4⟩:=hf
  refine ⟨⟨ad,cap,e,h1,h2,h3⟩,fun j u hj=>?_⟩
  have hjl:=(List.getElem?_eq_some_iff.1 hj).1
  rw [Fp enc he] at hjl
  have hi:j/k<l.length:=Nat.div_lt_of_lt_mul (by rw [Nat.mul_comm];exact hjl)
  obtain ⟨x,hx⟩:∃ x,l[j/k]?=some x:=⟨_,List.getElem?_eq_getElem hi⟩
  have hjm:j=j/k*k+j % k:=by rw [Nat.mul_comm];exact (Nat.div_add_mod j k).symm
  have:=h4 (j/k) x hx (j % k) u (by rw [← F7 enc he l (j/k) (j % k) x hx (Nat.mod_lt _ hk),← hjm];exact hj)
  rw [Nat.add_assoc,← hjm] at this
  exact this
section
variable {P:Program} {a:Act} {w w0:World} {E:Ent} {L M:List Res} {K:Act→World→Prop} {Q:Exit→Act→World→Prop} {ops:Array Oper} {rest:List Oper}
def Fl (d:Int):Option Value→Option Int
  | none=>some d
  | some (.int _ i)=>some i
  | _=>none
theorem Jf {d:Int} {V:Option Value} {z:Int} (h:Fl d V=some z):(V=none∧z=d)∨∃ k,V=some (.int k z):=by
  cases V with
  | none=>exact .inl ⟨rfl,by simpa [Fl] using h.symm⟩
  | some v=>cases v<;>simp [Fl] at h;subst h;exact .inr ⟨_,rfl⟩
theorem N2 {LV HV:Option Value} {l h n cap:Nat} (hlo:Fl 0 LV=some (l:Int)) (hhi:Fl (n:Int) HV=some (h:Int)) (hlh:l≤h) (hn:h≤n) (hc:n≤cap):(Instr.sliceBounds true n cap LV HV none).run P w=.ok (l,h,cap) w:=by
  have e1:(0:Int)≤(l:Int)∧(l:Int)≤(h:Int):=by omega
  have e2:(0:Int)≤(h:Int)∧(h:Int)≤(cap:Int):=by omega
  have e3:(l:Int).toNat=l:=Int.toNat_natCast l
  have e4:(h:Int).toNat=h:=Int.toNat_natCast h
  have hhc:h≤cap:=by omega
  rcases Jf hlo with ⟨rfl,hl⟩|⟨kl,rfl⟩<;>rcases Jf hhi with ⟨rfl,hh⟩|⟨kh,rfl⟩
  · obtain rfl:l=0:=by omega
    obtain rfl:h=n:=by omega
    rfl
  · obtain rfl:l=0:=by omega
    simp only [Instr.sliceBounds,Instr.sliceBound,asIntOf,Sem.run_bind,Sem.run_pure,Result.andThen_ok]
    simp [e2,hhc,hlh]
  · obtain rfl:h=n:=by omega
    simp [Instr.sliceBounds,Instr.sliceBound,asIntOf,e1,hlh,hhc]
  · simp [Instr.sliceBounds,Instr.sliceBound,asIntOf,e1,e2,hlh,hhc]
theorem g_sub {r:Res} {dst:Option Tmp} {T:TypeId} {x:Operand} {lo hi:Option Operand} {ty:TypeId} {pos:String} {after:Array Edge} {g:Option (Nat×Bool)} {v:Value} {n k:Nat} {xs:List Value} {d:TypeId} (l h:Nat)
    (hx:(a.eval x,P.underlying T,(P.info? d).map (·.size))=(v,some (.slice d),some k)) (hlo:Fl 0 (lo.map a.eval)=some (l:Int)) (hhi:Fl (n:Int) (hi.map a.eval)=some (h:Int)) (hlh:l≤h) (hn:h≤n) (i:Nat) (hi':L[i]?=some r) (hr:J4 r v n xs) :
    Cl P w0 E L ⟨dst,.slice T x lo hi none,ty,pos,after,g⟩ a (Ma k v l h):=fun w ho=>by
  obtain ⟨h1,h3,h4⟩:a.eval x=v∧P.underlying T=_∧(P.info? d).map (·.size)=some k:=by simpa using hx
  obtain ⟨⟨ad,cap,e,hc1,hc2,_⟩,_⟩:=hr w (ho.fact i hi')
  have hz:=Gk (w:=w) h4
  have hb:=N2 (P:=P) (w:=w) hlo hhi hlh hn hc1
  rw [e] at h1
  simp only [execOp,Instr.sliceAt,h1,Option.map_none,Sem.run_bind,run_underlying h3,Result.andThen_ok,Instr.slice,hb,hz,Sem.run_pure]
  rw [e]
  rfl
theorem bnd {d t:Int} {l:Nat} {k:IntKind} (h:t=(l:Int)):Fl d (some (.int k t))=some (l:Int):=by subst h;rfl
theorem Wx {r:Res} {dst:Option Tmp} {T:TypeId} {x:Operand} {lo hi:Option Operand} {ty:TypeId} {pos:String} {after:Array Edge} {g:Option (Nat×Bool)} {v:Value} {n k:Nat} {xs:List Value} {d:TypeId} {LV HV:Option Value} (l h:Nat)
    (hx:(a.eval x,P.underlying T,(P.info? d).map (·.size),lo.map a.eval,hi.map a.eval)=(v,some (.slice d),some k,LV,HV)) (hlo:Fl 0 LV=some (l:Int)) (hhi:Fl (n:Int) HV=some (h:Int)) (hlh:l≤h) (hn:h≤n) (i:Nat) (hi':L[i]?=some r) (hr:J4 r v n xs) :
    Cl P w0 E L ⟨dst,.slice T x lo hi none,ty,pos,after,g⟩ a (Ma k v l h):=by
  simp only [Prod.mk.injEq] at hx
  obtain ⟨e1,e2,e3,e4,e5⟩:=hx
  exact g_sub l h (by rw [e1,e2,e3]) (by rw [e4];exact hlo) (by rw [e5];exact hhi) hlh hn i hi' hr
theorem Ace {α:Type} {enc:α→List Value} {k:Nat} (he:∀ a,(enc a).length=k) {l:List α} {lo hi:Nat} (hlo:lo≤hi) (hhi:hi≤l.length) {j:Nat} {u:Value} (h:(((l.take hi).drop lo).flatMap enc)[j]?=some u):(l.flatMap enc)[lo*k+j]?=some u:=by
  have e1:l=l.take lo++((l.take hi).drop lo++l.drop hi):=by
    rw [← List.append_assoc,show l.take lo=(l.take hi).take lo by rw [List.take_take,Nat.min_eq_left hlo],List.take_append_drop,List.take_append_drop]
  have hl:((l.take lo).flatMap enc).length=lo*k:=by rw [Fp enc he,List.length_take,Nat.min_eq_left (by omega)]
  have hj:=(List.getElem?_eq_some_iff.1 h).1
  rw [e1,List.flatMap_append,List.flatMap_append,List.getElem?_append_right (by omega),hl,Nat.add_sub_cancel_left,List.getElem?_append_left hj]
  exact h
theorem Jx {T ty E:TypeId} {i:TypeInfo} (ht:P.underlying T=some (.slice E)) (hi:P.info? E=some i) {v:Value} {n c k:Nat} {xs:List Value} {S:Nat→Prop} (h:Bb w v E k n xs S) :
    (Builtin.append_ #[T,T] ty #[v,.slice none 0 c]).run P w=.ok v w:=by
  obtain ⟨hlen,⟨rfl,rfl⟩|⟨g,off,cap,cs,rfl,hbk,hnc,hcm,hoff,hcells,hS⟩⟩:=h
  · simp [Builtin.append_,run_underlying ht,sizeOf,typeInfo,hi,Builtin.lenOf,Builtin.firstCells]
  · simp [Builtin.append_,run_underlying ht,sizeOf,typeInfo,hi,Builtin.lenOf,Builtin.firstCells,hnc,storeCells]
theorem X9 {α:Type} {enc:α→List Value} {l l2:List α} {dst:Option Tmp} {T:TypeId} {s x:Operand} {ty:TypeId} {pos:String} {after:Array Edge} {g:Option (Nat×Bool)} {v v2:Value} {size:Nat} {d:TypeId} {r:Res} (lo hi:Nat)
    (hx:(a.eval s,a.eval x,P.underlying T,Jp P d size)=(v,Ma size v2 lo hi,some (.slice d),true)) (he:∀ x,(enc x).length=size) (h1:∀ x,(enc x).all (·.oneCell')=true) (hlo:lo≤hi) (hhi:hi≤l2.length)
    (h:Own w0 E L w) (i:Nat) (hi':L[i]?=some (A8 true v d size enc l)) (j:Nat) (hj:L[j]?=some r) (hr:J4 r v2 l2.length (l2.flatMap enc)) (hb:l.length+(hi - lo)<100000000000)
    (hK:∀ v' w',Own w0 E (L.set i (A8 true v' d size enc (l++(l2.take hi).drop lo))) w'→K (a.put dst v') w'):Oper.wp P ⟨dst,.call { callee:=.builtin .append,args:=#[s,x],argTypes:=#[T,T] },ty,pos,after,g⟩ a w K Q:=by
  simp only [Prod.mk.injEq] at hx
  obtain ⟨hs,hx,h3,h4'⟩:=hx
  obtain ⟨z,bytes,h4,h5,hby,h8⟩:=K0 h4'
  obtain ⟨⟨ad,cap,rfl,hnc,hcm,had⟩,hcells⟩:=hr w (h.fact j hj)
  have hlen:((l2.take hi).drop lo).length=hi - lo:=by rw [List.length_drop,List.length_take];omega
  have key:∃ v' w' S',(Builtin.append_ #[T,T] ty #[v,a.eval x]).run P w=.ok v' w'∧Bb w' v' d size (l.length+(hi - lo)) (l.flatMap enc++((l2.take hi).drop lo).flatMap enc) S'∧Chg (Gz v) w w'∧J8 (Gz v) S' w w':=by
    have hf:Bb w v d size l.length (l.flatMap enc) (Gz v):=h.fact i hi'
    have go:∀ (q:Addr) (c:Nat),a.eval x=.slice (some q) (hi - lo) c→(∀ jj u,(((l2.take hi).drop lo).flatMap enc)[jj]?=some u→w.cell? (q.add jj)=some u)→∃ v' w' S',(Builtin.append_ #[T,T] ty #[v,a.eval x]).run P w=.ok v' w'∧Bb w' v' d size (l.length+(hi - lo)) (l.flatMap enc++((l2.take hi).drop lo).flatMap enc) S'∧Chg (Gz v) w w'∧J8 (Gz v) S' w w':=fun q c e hq=>by
      rw [e]
      refine Kv (P:=P) (ty:=ty) (c:=c) h3 h4 h5 h8 hf (a:=q) (m:=hi - lo) (news:=((l2.take hi).drop lo).flatMap enc) (by rw [Fp enc he,hlen]) hq (fun u hu=>?_) (by unfold maxLen;omega) ?_
      · obtain ⟨y,_,hy⟩:=List.mem_flatMap.1 hu
        exact List.all_eq_true.1 (h1 y) u hy
      · have:(l.length+(hi - lo))*bytes≤100000000000*1000:=Nat.mul_le_mul (by omega) hby
        omega
    by_cases h0:hi - lo=0
    · have hnil:(l2.take hi).drop lo=[]:=List.length_eq_zero_iff.1 (by rw [hlen];exact h0)
      cases hq:(if cap=lo then ad else ad.map (·.add (lo*size))) with
      | some q=>
        refine go q (cap - lo) (by rw [hx];simp only [Ma,hq]) (fun jj u hj=>?_)
        rw [hnil] at hj;simp at hj
      | none=>
        obtain ⟨ii,hii,_⟩:=info_parts h4
        refine ⟨v,w,Gz v,?_,?_,Chg.refl _ _,J8.refl _ _ _⟩
        · rw [hx]
          simp only [Ma,hq,h0]
          exact Jx h3 hii hf
        · rw [hnil,h0];simpa using hf
    · have hal:=had 0 (by omega)
      refine go ⟨Dg (.slice ad l2.length cap),B0 (.slice ad l2.length cap)+lo*size,none⟩ (cap - lo) ?_ (fun jj u hj=>?_)
      · rw [hx]
        simp only [Ma]
        rw [if_neg (by omega)]
        conv=>lhs;rw [hal]
        simp only [Option.map_some,Addr.add_lit]
      · rw [Addr.add_lit]
        have:=hcells (lo*size+jj) u (Ace he hlo hhi hj)
        rw [← Nat.add_assoc] at this
        exact this
  obtain ⟨v',w',S',hrun,hs',hc,hg⟩:=key
  obtain ⟨hs1,hs2⟩:=hs'.own
  unfold Oper.wp
  simp [execOp,resolve,invoke,builtin,hs,hrun,Result.andThen,Oper.upon]
  refine hK _ _ (h.upd i hi' rfl hc ?_ (fun b hb=>?_))
  · show Bb w' v' d size (l++(l2.take hi).drop lo).length ((l++(l2.take hi).drop lo).flatMap enc) _
    rw [List.flatMap_append,List.length_append,hlen]
    exact hs1
  · rcases hg b (hs2 b hb) with h|h
    · exact .inl h
    · exact .inr h.1
variable {fuel:Nat}
theorem Yq {α:Type} {enc:α→List Value} {l l2:List α} {dst:Option Tmp} {T:TypeId} {s x:Operand} {ty:TypeId} {pos:String} {after:Array Edge} {g:Option (Nat×Bool)} {v v2:Value} {size:Nat} {d:TypeId} {r:Res} (hg:Region.wanted ⟨dst,.call { callee:=.builtin .append,args:=#[s,x],argTypes:=#[T,T] },ty,pos,after,g⟩ (yielded ops a.tmps)=true) (lo hi:Nat)
    (hx:(a.eval s,a.eval x,P.underlying T,Jp P d size)=(v,Ma size v2 lo hi,some (.slice d),true)) (he:∀ x,(enc x).length=size) (h1:∀ x,(enc x).all (·.oneCell')=true) (hlo:lo≤hi) (hhi:hi≤l2.length)
    (h:Own w0 E L w) (i:Nat) (hi':L[i]?=some (A8 true v d size enc l)) (j:Nat) (hj:L[j]?=some r) (hr:J4 r v2 l2.length (l2.flatMap enc)) (hb:l.length+(hi - lo)<100000000000)
    (hK:∀ v' w',Own w0 E (L.set i (A8 true v' d size enc (l++(l2.take hi).drop lo))) w'→LW P ops Q rest (a.put dst v') w'):LW P ops Q (⟨dst,.call { callee:=.builtin .append,args:=#[s,x],argTypes:=#[T,T] },ty,pos,after,g⟩::rest) a w:=⟨sqg hg (X9 lo hi hx he h1 hlo hhi h i hi' j hj hr hb fun v' w' h=>(hK v' w' h).out)⟩
theorem H4 {α:Type} {enc:α→List Value} {wr:Bool} {v:Value} {T k:Nat} {l:List α}:J4 (A8 wr v T k enc l) v l.length (l.flatMap enc):=Afj
end
def Ci {α:Type} (wr:Bool) (r:Nat) (f:α→Value) (kv:List (α×Value)):Res:=
  ⟨wr,(·=r),fun w=>D9 w r f kv,fun w w' h _ hb=>by
    obtain ⟨es,clock,h1,h2⟩:=h
    exact ⟨es,clock,(hb r rfl).trans h1,h2⟩,fun w b h e=>by
    have:b=r:=e
    obtain ⟨es,clock,h1,h2⟩:=h
    rw [this];exact lt_of_block h1⟩
section
variable {α:Type} [DecidableEq α] {P:Program} {a:Act} {w w0:World} {En:Ent} {L M:List Res} {Ka:Act→World→Prop} {Q:Exit→Act→World→Prop} {ops:Array Oper} {rest:List Oper} {K E:TypeId} {f:α→Value} {kv:List (α×Value)}
variable {dst:Option Tmp} {m x v:Operand} {T ty:TypeId} {pos:String} {after:Array Edge} {g:Option (Nat×Bool)} {r:Nat}
theorem H7 {wr ok:Bool} {z:Value} (F:Ew P K f) (k:α) (hx:(a.eval m,a.eval x,P.underlying T)=(.map (some r),f k,some (.map K E))) (hz:∀ w,(zeroValue E).run P w=.ok z w) (i:Nat) (hi:L[i]?=some (Ci wr r f kv)) :
    Cl P w0 En L ⟨dst,.lookup T m x ok,ty,pos,after,g⟩ a (if ok then .tuple #[(Af kv k).getD z,.bool (Af kv k).isSome] else (Af kv k).getD z):=fun w ho=>by
  simp only [Prod.mk.injEq] at hx
  have h:D9 w r f kv:=ho.fact i hi
  simp [execOp,hx.1,hx.2.1,h.run_lookup F hx.2.2 (hz w) k ok,Result.andThen]
theorem Sw {ok:Bool} {z:Value} (F:Ew P K f) (k:α) (hx:(a.eval m,a.eval x,P.underlying T)=(.map none,f k,some (.map K E))) (hz:∀ w,(zeroValue E).run P w=.ok z w) :
    Cl P w0 En L ⟨dst,.lookup T m x ok,ty,pos,after,g⟩ a (if ok then .tuple #[z,.bool false] else z):=fun w ho=>by
  simp only [Prod.mk.injEq] at hx
  simp [execOp,hx.1,hx.2.1,Ip F hx.2.2 (hz w) k ok,Result.andThen]
theorem Ye (F:Ew P K f) (k:α) (u:Value) (hx:(a.eval m,a.eval x,a.eval v,P.underlying T)=(.map (some r),f k,u,some (.map K E))) (h:Own w0 En L w) (i:Nat) (hi:L[i]?=some (Ci true r f kv))
    (hK:∀ w',Own w0 En (L.set i (Ci true r f (Ay kv k u))) w'→Ka (a.put dst undef) w'):Oper.wp P ⟨dst,.mapUpdate T m x v,ty,pos,after,g⟩ a w Ka Q:=by
  simp only [Prod.mk.injEq] at hx
  have hm:D9 w r f kv:=h.fact i hi
  obtain ⟨w',hr,h1,h2,h3⟩:=hm.run_update F hx.2.2.2 k u
  unfold Oper.wp
  simp [execOp,hx.1,hx.2.1,hx.2.2.1,hr,Result.andThen,Oper.upon]
  exact hK _ (h.upd i hi rfl h2 h1 fun b hb=>.inl hb)
theorem Yh {Kt:TypeId} (F:Ew P K f) (k:α) (hx:(a.eval m,a.eval x,P.underlying T)=(.map (some r),f k,some (.map K E))) (h:Own w0 En L w) (i:Nat) (hi:L[i]?=some (Ci true r f kv))
    (hK:∀ w',Own w0 En (L.set i (Ci true r f (Ak kv k))) w'→Ka (a.put dst (.tuple #[])) w'):Oper.wp P ⟨dst,.call { callee:=.builtin .delete,args:=#[m,x],argTypes:=#[T,Kt] },ty,pos,after,g⟩ a w Ka Q:=by
  simp only [Prod.mk.injEq] at hx
  have hm:D9 w r f kv:=h.fact i hi
  obtain ⟨w',hr,h1,h2,h3⟩:=hm.run_delete (Kt:=Kt) (ty:=ty) F hx.2.2 k
  unfold Oper.wp
  simp [execOp,resolve,invoke,builtin,hx.1,hx.2.1,hr,Result.andThen,Oper.upon]
  exact hK _ (h.upd i hi rfl h2 h1 fun b hb=>.inl hb)
theorem X8 {o:Oper} (f:α→Value) (hrun:∀ w,(execOp a.eval o).run P w=.ok (.value (.map (some w.heap.size))) (w.alloc (.map #[] 0)))
    (h:Own w0 En L w) (hK:∀ b w',Own w0 En (Ci true b f []::L) w'→Ka (a.put o.dst (.map (some b))) w'):o.wp P a w Ka Q:=by
  unfold Oper.wp;rw [hrun]
  exact hK _ _ (h.push ((Chg.refl Nil w).alloc _) (R3 w f) (fun b hb=>by have:b=w.heap.size:=hb;omega))
theorem X7 {o:Oper} (hg:Region.wanted o (yielded ops a.tmps)=true) (f:α→Value) (hrun:∀ w,(execOp a.eval o).run P w=.ok (.value (.map (some w.heap.size))) (w.alloc (.map #[] 0)))
    (h:Own w0 En L w) (hK:∀ b w',Own w0 En (Ci true b f []::L) w'→LW P ops Q rest (a.put o.dst (.map (some b))) w'):LW P ops Q (o::rest) a w:=⟨sqg hg (X8 f hrun h fun b w' h=>(hK b w' h).out)⟩
theorem Fn (hg:Region.wanted ⟨dst,.mapUpdate T m x v,ty,pos,after,g⟩ (yielded ops a.tmps)=true) (F:Ew P K f) (k:α) (u:Value) (hx:(a.eval m,a.eval x,a.eval v,P.underlying T)=(.map (some r),f k,u,some (.map K E))) (h:Own w0 En L w) (i:Nat) (hi:L[i]?=some (Ci true r f kv))
    (hK:∀ w',Own w0 En (L.set i (Ci true r f (Ay kv k u))) w'→LW P ops Q rest (a.put dst undef) w'):LW P ops Q (⟨dst,.mapUpdate T m x v,ty,pos,after,g⟩::rest) a w:=⟨sqg hg (Ye F k u hx h i hi fun w' h=>(hK w' h).out)⟩
theorem E1 {Kt:TypeId} (hg:Region.wanted ⟨dst,.call { callee:=.builtin .delete,args:=#[m,x],argTypes:=#[T,Kt] },ty,pos,after,g⟩ (yielded ops a.tmps)=true) (F:Ew P K f) (k:α) (hx:(a.eval m,a.eval x,P.underlying T)=(.map (some r),f k,some (.map K E))) (h:Own w0 En L w) (i:Nat) (hi:L[i]?=some (Ci true r f kv))
    (hK:∀ w',Own w0 En (L.set i (Ci true r f (Ak kv k))) w'→LW P ops Q rest (a.put dst (.tuple #[])) w'):LW P ops Q (⟨dst,.call { callee:=.builtin .delete,args:=#[m,x],argTypes:=#[T,Kt] },ty,pos,after,g⟩::rest) a w:=⟨sqg hg (Yh F k hx h i hi fun w' h=>(hK w' h).out)⟩
theorem E3 {wr:Bool} (hx:(a.eval x,P.underlying T)=(.map (some r),some (.map K E))) (i:Nat) (hi:L[i]?=some (Ci wr r f kv)) :
    Cl P w0 En L ⟨dst,.call { callee:=.builtin .len,args:=#[x],argTypes:=#[T] },ty,pos,after,g⟩ a (.int .i64 (kv.length:Int)):=fun w ho=>by
  simp only [Prod.mk.injEq] at hx
  have h:D9 w r f kv:=ho.fact i hi
  have hr:=J7.run_len (ty:=ty) hx.2 (.inr ⟨r,rfl,h⟩)
  simp [execOp,resolve,invoke,builtin,hx.1,hr,Result.andThen]
variable {br:Nat→Bool} {fuel i:Nat} {listed:Array Bool} {is:List Nat}
theorem Yn {o:Oper} (js:List Nat) (hi:ops[i]?=some o) (hb:(br i,Region.wanted o (yielded ops a.tmps))=(false,true)) (f:α→Value) (hrun:∀ w,(execOp a.eval o).run P w=.ok (.value (.map (some w.heap.size))) (w.alloc (.map #[] 0)))
    (h:Own w0 En M w) (hK:∀ b w',Own w0 En (Ci true b f []::M) w'→pk js (Ci true b f []::M)=L∧DW P ops Q w0 En br fuel (listed.setIfInBounds i true) L (a.put o.dst (.map (some b))) w') (hs:Il P ops Q w0 En br fuel listed L a w is):Il P ops Q w0 En br fuel listed L a w (i::is):=by
  simp only [Prod.mk.injEq] at hb
  exact ⟨Iz.cons hi hb.1 hb.2 (X8 f hrun h fun b w' h'=>⟨h'.sub js (hK b w' h').1,(hK b w' h').2.out⟩) hs.out⟩
theorem Yf (js:List Nat) (hi:ops[i]?=some ⟨dst,.mapUpdate T m x v,ty,pos,after,g⟩) (hb:(br i,Region.wanted ⟨dst,.mapUpdate T m x v,ty,pos,after,g⟩ (yielded ops a.tmps))=(false,true)) (F:Ew P K f) (k:α) (u:Value) (hx:(a.eval m,a.eval x,a.eval v,P.underlying T)=(.map (some r),f k,u,some (.map K E))) (h:Own w0 En M w) (j:Nat) (hj:M[j]?=some (Ci true r f kv))
    (hK:∀ w',Own w0 En (M.set j (Ci true r f (Ay kv k u))) w'→pk js (M.set j (Ci true r f (Ay kv k u)))=L∧DW P ops Q w0 En br fuel (listed.setIfInBounds i true) L (a.put dst undef) w') (hs:Il P ops Q w0 En br fuel listed L a w is):Il P ops Q w0 En br fuel listed L a w (i::is):=by
  simp only [Prod.mk.injEq] at hb
  exact ⟨Iz.cons hi hb.1 hb.2 (Ye F k u hx h j hj fun w' h'=>⟨h'.sub js (hK w' h').1,(hK w' h').2.out⟩) hs.out⟩
theorem Iy {Kt:TypeId} (js:List Nat) (hi:ops[i]?=some ⟨dst,.call { callee:=.builtin .delete,args:=#[m,x],argTypes:=#[T,Kt] },ty,pos,after,g⟩) (hb:(br i,Region.wanted ⟨dst,.call { callee:=.builtin .delete,args:=#[m,x],argTypes:=#[T,Kt] },ty,pos,after,g⟩ (yielded ops a.tmps))=(false,true)) (F:Ew P K f) (k:α) (hx:(a.eval m,a.eval x,P.underlying T)=(.map (some r),f k,some (.map K E))) (h:Own w0 En M w) (j:Nat) (hj:M[j]?=some (Ci true r f kv))
    (hK:∀ w',Own w0 En (M.set j (Ci true r f (Ak kv k))) w'→pk js (M.set j (Ci true r f (Ak kv k)))=L∧DW P ops Q w0 En br fuel (listed.setIfInBounds i true) L (a.put dst (.tuple #[])) w') (hs:Il P ops Q w0 En br fuel listed L a w is):Il P ops Q w0 En br fuel listed L a w (i::is):=by
  simp only [Prod.mk.injEq] at hb
  exact ⟨Iz.cons hi hb.1 hb.2 (Yh F k hx h j hj fun w' h'=>⟨h'.sub js (hK w' h').1,(hK w' h').2.out⟩) hs.out⟩
end
section
open Go.RowKit Go.MapKept
theorem beqB (x y:ByteArray):(x.toList==y.toList)=decide (x=y):=by
  rw [← beq_toListBytes,Bool.eq_iff_iff,bytes_beq];simp
theorem Qv {x y:ByteArray}:Value.bool (x.toList==y.toList)=Value.bool (decide (x=y)):=by rw [beqB]
theorem Ag4 {x y:ByteArray}:Value.bool (!(x.toList==y.toList))=Value.bool (!decide (x=y)):=by rw [beqB]
section
variable {P:Program} {a:Act} {w w0:World} {E:Ent} {L:List Res} {dst:Option Tmp} {x y:Operand} {T T2 ty:TypeId} {pos:String} {after:Array Edge} {g:Option (Nat×Bool)}
theorem Afk {v1 v2:Value} {b:Bool} (hx:(a.eval x,a.eval y)=(v1,v2)) (h1:∀ w,(eqGuard .eql T x y v1 v2).run P w=.ok () w) (h2:∀ w,(Op.equal T v1 v2).run P w=.ok b w) (h3:binOp .eql T v1 v2=do pure (.bool (← Op.equal T v1 v2))) :
    Cl P w0 E L ⟨dst,.binOp .eql T x y T2,ty,pos,after,g⟩ a (.bool b):=fun w _=>by
  simp only [Prod.mk.injEq] at hx
  simp only [execOp,hx.1,hx.2,h3,Sem.run_bind,h1,h2,Result.andThen_ok,Sem.run_pure]
theorem Yi {v1 v2:Value} {b:Bool} (hx:(a.eval x,a.eval y)=(v1,v2)) (h1:∀ w,(eqGuard .neq T x y v1 v2).run P w=.ok () w) (h2:∀ w,(Op.equal T v1 v2).run P w=.ok b w) (h3:binOp .neq T v1 v2=do pure (.bool (!(← Op.equal T v1 v2)))) :
    Cl P w0 E L ⟨dst,.binOp .neq T x y T2,ty,pos,after,g⟩ a (.bool (!b)):=fun w _=>by
  simp only [Prod.mk.injEq] at hx
  simp only [execOp,hx.1,hx.2,h3,Sem.run_bind,h1,h2,Result.andThen_ok,Sem.run_pure]
theorem eqH (n1 g1 n2 g2:Int) (w:World):(Op.equal 34 (.agg #[.int .i64 n1,.int .i64 g1]) (.agg #[.int .i64 n2,.int .i64 g2])).run Tryz.prog w=.ok (decide (n1=n2)&&decide (g1=g2)) w:=by
  unfold Op.equal
  rw [show Op.maxDepth=9999+1 from rfl,run_equalIn_struct w 9999 34 _ _ (by kernel_rfl) (by kernel_rfl)]
  by_cases c1:n1=n2<;>by_cases c2:g1=g2<;>simp [go_sem,c1,c2]
theorem Fm {n1 g1 n2 g2:Int} (hx:(a.eval x,a.eval y)=(.agg #[.int .i64 n1,.int .i64 g1],.agg #[.int .i64 n2,.int .i64 g2])):Cl Tryz.prog w0 E L ⟨dst,.binOp .eql 34 x y T2,ty,pos,after,g⟩ a (.bool (decide (n1=n2)&&decide (g1=g2))):=
  Afk hx (fun w=>by kernel_rfl) (eqH n1 g1 n2 g2) rfl
theorem Ez {n1 g1 n2 g2:Int} (hx:(a.eval x,a.eval y)=(.agg #[.int .i64 n1,.int .i64 g1],.agg #[.int .i64 n2,.int .i64 g2])):Cl Tryz.prog w0 E L ⟨dst,.binOp .neq 34 x y T2,ty,pos,after,g⟩ a (.bool (!(decide (n1=n2)&&decide (g1=g2)))):=
  Yi hx (fun w=>by kernel_rfl) (eqH n1 g1 n2 g2) rfl
end
end
section
variable {P:Program} {a:Act} {w w0:World} {E:Ent} {L M:List Res} {K:Act→World→Prop} {Q:Exit→Act→World→Prop} {ops:Array Oper} {rest:List Oper}
variable {dst:Option Tmp} {x y:Operand} {T T2 ty:TypeId} {pos:String} {after:Array Edge} {g:Option (Nat×Bool)} {v:Value} {d k n:Nat} {xs:List Value}
theorem Z7 (a:Addr):a.add 0=a:=by
  obtain ⟨b,o,s⟩:=a
  unfold Addr.add
  split<;>simp_all
theorem K7 {k n m cap:Nat} {ad:Option Addr}:Ma k (.slice ad n cap) 0 m=.slice ad m cap:=by
  have e:ad.map (·.add (0*k))=ad:=by
    cases ad with
    | none=>rfl
    | some a=>simp [Z7]
  show Value.slice (if cap=0 then ad else ad.map (·.add (0*k))) (m - 0) (cap - 0)=_
  rw [e];simp
theorem Afv {α:Type} {enc:α→List Value} {l l2:List α} {s:Operand} {v2:Value} {size:Nat} {d:TypeId} {r:Res}
    (hx:(a.eval s,a.eval x,P.underlying T,Jp P d size)=(v,v2,some (.slice d),true)) (he:∀ x,(enc x).length=size) (h1:∀ x,(enc x).all (·.oneCell')=true)
    (h:Own w0 E L w) (i:Nat) (hi':L[i]?=some (A8 true v d size enc l)) (j:Nat) (hj:L[j]?=some r) (hr:J4 r v2 l2.length (l2.flatMap enc)) (hb:l.length+l2.length<100000000000)
    (hK:∀ v' w',Own w0 E (L.set i (A8 true v' d size enc (l++l2))) w'→K (a.put dst v') w'):Oper.wp P ⟨dst,.call { callee:=.builtin .append,args:=#[s,x],argTypes:=#[T,T] },ty,pos,after,g⟩ a w K Q:=by
  simp only [Prod.mk.injEq] at hx
  obtain ⟨hs,hx2,h3,h4'⟩:=hx
  rcases Nat.eq_zero_or_pos l2.length with h0|h0
  · have hnil:l2=[]:=List.length_eq_zero_iff.1 h0
    subst hnil
    obtain ⟨z,bytes,h4,h5,hby,h8⟩:=K0 h4'
    obtain ⟨⟨ad,cap,e,_,_,_⟩,_⟩:=hr w (h.fact j hj)
    have hf:Bb w v d size l.length (l.flatMap enc) (Gz v):=h.fact i hi'
    cases ad with
    | none=>
      obtain ⟨ii,hii,_⟩:=info_parts h4
      have hrun:=Jx (ty:=ty) (c:=cap) h3 hii hf
      unfold Oper.wp
      subst e
      simp only [List.length_nil] at hx2
      simp [execOp,resolve,invoke,builtin,hs,hx2,hrun,Result.andThen,Oper.upon]
      refine hK v w ?_
      have e2:L.set i (A8 true v d size enc (l++[]))=L:=by
        rw [List.append_nil]
        apply List.ext_getElem?
        intro j
        rw [List.getElem?_set]
        split
        · subst_vars;split
          · exact hi'.symm
          · rename_i hh;rw [List.getElem?_eq_none (by omega)]
        · rfl
      rw [e2];exact h
    | some q=>
      obtain ⟨v',w',S',hrun,hs',hc,hg⟩:=Kv (P:=P) (ty:=ty) (c:=cap) h3 h4 h5 h8 hf (a:=q) (m:=0) (news:=[]) (by simp) (fun jj u hu=>by simp at hu) (fun u hu=>by simp at hu) (by unfold maxLen;omega) (by
        have:(l.length+0)*bytes≤100000000000*1000:=Nat.mul_le_mul (by simp at hb;omega) hby
        omega)
      obtain ⟨hs1,hs2⟩:=hs'.own
      unfold Oper.wp
      subst e
      simp only [List.length_nil] at hx2
      simp [execOp,resolve,invoke,builtin,hs,hx2,hrun,Result.andThen,Oper.upon]
      refine hK _ _ (h.upd i hi' rfl hc ?_ (fun b hb=>?_))
      · show Bb w' v' d size (l++[]).length ((l++[]).flatMap enc) (Gz v')
        rw [List.append_nil];simpa using hs1
      · rcases hg b (hs2 b hb) with h|h
        · exact .inl h
        · exact .inr h.1
  · obtain ⟨⟨ad,cap,e,_,_,had⟩,_⟩:=hr w (h.fact j hj)
    have hv:Ma size v2 0 l2.length=v2:=by
      rw [e];exact K7
    refine X9 (l2:=l2) 0 l2.length (by rw [hs,hx2,h3,h4',hv]) he h1 (Nat.zero_le _) (Nat.le_refl _) h i hi' j hj hr (by omega) fun v' w' h'=>hK v' w' ?_
    rw [List.take_length,List.drop_zero] at h'
    exact h'
theorem Afg {α:Type} {enc:α→List Value} {l l2:List α} {s:Operand} {v2:Value} {size:Nat} {d:TypeId} {r:Res} (hg:Region.wanted ⟨dst,.call { callee:=.builtin .append,args:=#[s,x],argTypes:=#[T,T] },ty,pos,after,g⟩ (yielded ops a.tmps)=true)
    (hx:(a.eval s,a.eval x,P.underlying T,Jp P d size)=(v,v2,some (.slice d),true)) (he:∀ x,(enc x).length=size) (h1:∀ x,(enc x).all (·.oneCell')=true)
    (h:Own w0 E L w) (i:Nat) (hi':L[i]?=some (A8 true v d size enc l)) (j:Nat) (hj:L[j]?=some r) (hr:J4 r v2 l2.length (l2.flatMap enc)) (hb:l.length+l2.length<100000000000)
    (hK:∀ v' w',Own w0 E (L.set i (A8 true v' d size enc (l++l2))) w'→LW P ops Q rest (a.put dst v') w'):LW P ops Q (⟨dst,.call { callee:=.builtin .append,args:=#[s,x],argTypes:=#[T,T] },ty,pos,after,g⟩::rest) a w:=
  ⟨sqg hg (Afv hx he h1 h i hi' j hj hr hb fun v' w' h=>(hK v' w' h).out)⟩
end
section
variable {P:Program} {a:Act} {w w0:World} {E:Ent} {L M:List Res} {K:Act→World→Prop} {Q:Exit→Act→World→Prop} {ops:Array Oper} {br:Nat→Bool} {fuel:Nat} {listed:Array Bool} {i:Nat} {is:List Nat}
end
structure FamAt {α:Type} (T:TypeId) (enc:α→List Value) (l:List (Nat×α)) (w:World):Prop where
  dist:(l.map (fun e=>e.1)).Nodup
  at_:∀ e∈l,w.heap[e.1]?=some (.cells (enc e.2).toArray T (0,0))
def rFam {α:Type} (wr:Bool) (T:TypeId) (enc:α→List Value) (l:List (Nat×α)):Res:=
  ⟨wr,fun b=>∃ e∈l,e.1=b,fun w=>FamAt T enc l w,
   fun w w' h _ hb=>⟨h.1,fun e he=>(hb e.1 ⟨e,he,rfl⟩).trans (h.2 e he)⟩,fun w b h ⟨e,he,hb⟩=>by rw [← hb];exact lt_of_block (h.2 e he)⟩
section
variable {α:Type} {enc:α→List Value} {T:TypeId} {l:List (Nat×α)} {i b:Nat} {x:α}
end
section
variable {α:Type} {enc:α→List Value} {T:TypeId} {l:List (Nat×α)} {w0 w:World} {E:Ent} {M:List Res}
end
section
open Go.RowKit Go.MapKept
theorem Lz {w:World} {b:Nat} {cs:List Value} {t:TypeId} {f:Nat×Nat} (h:w.heap[b]?=some (.cells cs.toArray t f)):w.rangeAt b 0 cs:=fun j v hv=>by
  rw [A9 h];simpa using hv
theorem P4 {w:World} {b:Nat} {c:Array Value} {t:TypeId} (h:w.heap[b]?=some (.cells c t (0,0))):w.there b 0 c.size:=fun j hj=>by
  rw [A9 h,Ef h]
  simp [hj]
theorem M2 {w:World} {b:Nat} {c0:Array Value} {t:TypeId} {cs:List Value} (hb:w.heap[b]?=some (.cells c0 t (0,0))) (hc0:c0.size=cs.length):(w.setCells b 0 cs).heap[b]?=some (.cells cs.toArray t (0,0)):=by
  obtain ⟨cs',e1,e2,e3,_⟩:=D8 cs 0 w c0 hb
  have e:cs'=cs.toArray:=by
    apply Array.ext_getElem?
    intro j
    rcases Nat.lt_or_ge j cs.length with hj|hj
    · have:=e3 j hj (by omega)
      rw [Nat.zero_add] at this
      rw [this];simp
    · rw [Array.getElem?_eq_none (by omega),Array.getElem?_eq_none (by simpa using hj)]
  rw [← e];exact e1
theorem Qp {w:World} {b r:Nat} {cs vs:List Value} {t:TypeId} (hb:w.heap[b]?=some (.cells cs.toArray t (0,0))) (hr:r+vs.length=cs.length):(w.setCells b r vs).heap[b]?=some (.cells (cs.take r++vs).toArray t (0,0)):=by
  obtain ⟨cs',e1,e2,e3,e4⟩:=D8 vs r w cs.toArray hb
  have e:cs'=(cs.take r++vs).toArray:=by
    apply Array.ext_getElem?
    intro j
    simp only [List.size_toArray] at e2 e3
    rw [show ((cs.take r++vs).toArray)[j]?=(cs.take r++vs)[j]? by simp]
    rcases Nat.lt_or_ge j r with hj|hj
    · rw [e4 j (.inl hj),List.getElem?_append_left (by rw [List.length_take];omega),List.getElem?_take,if_pos hj];simp
    · obtain ⟨i,rfl⟩:∃ i,j=r+i:=⟨j - r,by omega⟩
      have hl:(cs.take r).length=r:=by rw [List.length_take];omega
      rw [List.getElem?_append_right (by omega),hl,Nat.add_sub_cancel_left]
      rcases Nat.lt_or_ge i vs.length with hi|hi
      · exact e3 i hi (by omega)
      · rw [Array.getElem?_eq_none (by omega),List.getElem?_eq_none (by omega)]
  rw [← e];exact e1
section
variable {P:Program} {ops:Array Oper} {rest:List Oper} {op:Oper} {a:Act} {w:World} {Q:Exit→Act→World→Prop}
theorem I1 (hgd:op.guard=none) (ty:TypeId) (x y:Operand) (ho:op.op=.store ty x y) (b:Nat) (cs:List Value) (n:Nat) (hx:a.eval x=.pointer (some ⟨b,0,none⟩)) (hy:a.eval y=.agg cs.toArray)
    {c0:Array Value} {t:TypeId} (hb:w.heap[b]?=some (.cells c0 t (0,0))) (hc0:c0.size=n) (hi:(P.info? ty).map (·.size)=some n) (hn:cs.length=n) (h1:∀ v∈cs,v.oneCell'=true)
    (h:∀ w',w'.heap[b]?=some (.cells cs.toArray t (0,0))→Chg (·=b) w w'→w'.heap.size=w.heap.size→wpList P ops Q rest (a.put op.dst undef) w'):wpList P ops Q (op::rest) a w:=by
  subst hn
  have ht:=P4 hb
  rw [hc0] at ht
  obtain ⟨cs',e1,e2,e3,_⟩:=D8 cs 0 w c0 hb
  have e:cs'=cs.toArray:=by
    apply Array.ext_getElem?
    intro j
    rcases Nat.lt_or_ge j cs.length with hj|hj
    · have:=e3 j hj (by omega)
      rw [Nat.zero_add] at this
      rw [this];simp
    · rw [Array.getElem?_eq_none (by omega),Array.getElem?_eq_none (by simpa using hj)]
  subst e
  exact wpList_store_mid hgd ty x y ho b 0 cs.toArray hx hy (by simpa using ht) (by simpa using hi) (all_oneCell_toArray h1) (h _ e1 (Fe _ _ _) (Kg _ _ _))
theorem Mp (hgd:op.guard=none) (ty:TypeId) (x:Operand) (ho:op.op=.load ty x) (b:Nat) (cs:List Value) (n:Nat) (d:TypeDesc) (hx:a.eval x=.pointer (some ⟨b,0,none⟩))
    {t:TypeId} {f:Nat×Nat} (hb:w.heap[b]?=some (.cells cs.toArray t f)) (hu:P.underlying ty=some d) (hd:d.isRow=true) (hi:(P.info? ty).map (·.size)=some n) (hn:cs.length=n)
    (h:wpList P ops Q rest (a.put op.dst (.agg cs.toArray)) w):wpList P ops Q (op::rest) a w:=
  wpList_load_mid hgd ty x ho b 0 hx cs d (Lz hb) hu hd (by rw [hn];exact hi) h
end
section
variable {α:Type} [DecidableEq α] {f:α→Value} {kv:List (α×Value)} {w:World}
def Gt (w:World) (b r:Nat) (f:α→Value) (kv:List (α×Value)) (vis:α→Bool):Prop:=
  ∃ es clock since seen c0,w.heap[b]?=some (.map es clock)∧es.toList.map (fun e=>(e.key,e.val))=kv.map (fun p=>(f p.1,p.2))∧Stamped es clock∧
    w.heap[r]?=some (.mapIter (some b) since seen c0)∧(∀ x∈es.toList,x.born<since)∧since≤c0∧since≤clock∧∀ x∈es.toList,∀ k,x.key=f k→vis k=seen.contains x.born
theorem Gt.map {b r:Nat} {vis:α→Bool} (h:Gt w b r f kv vis):D9 w b f kv:=by
  obtain ⟨es,clock,_,_,_,h1,h2,h3,_⟩:=h
  exact ⟨es,clock,h1,h2,h3⟩
theorem Gt.keep {S:Nat→Prop} {w':World} {b r:Nat} {vis:α→Bool} (h:Gt w b r f kv vis) (c:Chg S w w') (hb:¬S b) (hr:¬S r):Gt w' b r f kv vis:=by
  obtain ⟨es,clock,since,seen,c0,h1,h2,h3,h4,rest⟩:=h
  exact ⟨es,clock,since,seen,c0,c.keep h1 hb,h2,h3,c.keep h4 hr,rest⟩
theorem Gt.lt {b r:Nat} {vis:α→Bool} (h:Gt w b r f kv vis):b<w.heap.size∧r<w.heap.size∧b≠r:=by
  obtain ⟨es,clock,since,seen,c0,h1,h2,h3,h4,_⟩:=h
  refine ⟨lt_of_block h1,lt_of_block h4,fun e=>?_⟩
  subst e;rw [h1] at h4;cases h4
variable {P:Program} {K E:TypeId}
theorem W2 {b:Nat} {T:TypeId} (ht:P.underlying T=some (.map K E)) (h:D9 w b f kv) :
    ∃ w',(Instr.range T (.map (some b))).run P w=.ok (.pointer (some ⟨w.heap.size,0,none⟩)) w'∧Gt w' b w.heap.size f kv (fun _=>false)∧Chg Nil w w'∧w'.heap.size=w.heap.size+1:=by
  obtain ⟨es,clock,hb,he,hs⟩:=h
  refine ⟨_,run_range_map w T K E b es clock ht hb,⟨es,clock,clock,#[],clock,Hu hb _,he,hs,Bp _ _,hs.1,Nat.le_refl _,Nat.le_refl _,fun x _ k _=>by simp⟩,(Chg.refl Nil w).alloc _,by simp⟩
theorem Z2 {b r:Nat} {vis:α→Bool} (h:Gt w b r f kv vis) (inj:∀ a b,f a=f b→a=b) (ty:TypeId) :
    ((∀ p∈kv,vis p.1=true)∧(Instr.next (.pointer (some ⟨r,0,none⟩)) false ty).run P w=.ok (.tuple #[.bool false]) w)∨
    ∃ k v w',(k,v)∈kv∧vis k=false∧(Instr.next (.pointer (some ⟨r,0,none⟩)) false ty).run P w=.ok (.tuple #[.bool true,f k,v]) w'∧
      Gt w' b r f kv (fun x=>vis x||decide (x=k))∧Chg (·=r) w w'∧w'.heap.size=w.heap.size∧(Instr.entry (.pointer (some ⟨r,0,none⟩))).run P w'=.ok (.tuple #[f k,v]) w':=by
  have hne:=h.lt.2.2
  obtain ⟨es,clock,since,seen,c0,hb,he,hs,hr,hold,hsc,hsk,hvis⟩:=h
  have hst:=(stamped_iff es clock).1 hs
  have memkv:∀ x∈es.toList,∃ k,(k,x.val)∈kv∧x.key=f k:=fun x hx=>by
    have:(x.key,x.val)∈kv.map (fun p=>(f p.1,p.2)):=by rw [← he];exact List.mem_map.2 ⟨x,hx,rfl⟩
    obtain ⟨p,hp,e⟩:=List.mem_map.1 this
    simp only [Prod.mk.injEq] at e
    exact ⟨p.1,by rw [← e.2];exact hp,e.1.symm⟩
  rcases run_next_at (P:=P) w ty r b since c0 seen es clock hr hb hold hsc with ⟨h0,hrun⟩|⟨e,hem',w1,hal,hrun⟩
  · left
    refine ⟨fun p hp=>?_,hrun⟩
    have:(f p.1,p.2)∈es.toList.map (fun e=>(e.key,e.val)):=by rw [he];exact List.mem_map.2 ⟨p,hp,rfl⟩
    obtain ⟨x,hx,ex⟩:=List.mem_map.1 this
    simp only [Prod.mk.injEq] at ex
    rw [hvis x hx p.1 ex.1]
    exact all_seen es seen h0 x hx
  · right
    obtain ⟨hem,hes⟩:=mem_left hem'
    obtain ⟨k,hk,hkey⟩:=memkv e hem
    have hr1:w1.heap[r]?=some (.mapIter (some b) since seen c0):=by rcases hal with rfl|rfl<;>exact hr
    have hb1:w1.heap[b]?=some (.map es clock):=by rcases hal with rfl|rfl<;>exact hb
    have hset:=heap_set (o':=.mapIter (some b) since (seen.push e.born) clock) hr1
    have hb':(ChangeMaps.setBlock w1 r (.mapIter (some b) since (seen.push e.born) clock)).heap[b]?=some (.map es clock):=(hset.2 b (fun e1=>hne e1)).trans hb1
    refine ⟨k,e.val,_,hk,by rw [hvis e hem k hkey];exact hes,by rw [← hkey];exact hrun,
      ⟨es,clock,since,seen.push e.born,clock,hb',he,hs,hset.1,hold,hsk,hsk,fun x hx j hj=>?_⟩,?_,?_,by rw [← hkey];exact run_entry_at _ r b since seen es clock e hset.1 hb' hem hst.2.1⟩
    · show (vis j||decide (j=k))=_
      rw [hvis x hx j hj,contains_push]
      congr 1
      by_cases hbe:x.born=e.born
      · have:=born_inj hst.2.1 hx hem hbe
        subst this
        have:j=k:=inj _ _ (hj.symm.trans hkey)
        simp [this]
      · have hjk:j≠k:=fun ejk=>by
          subst ejk
          have:=entry_eq_of_key hst.2.2 hx hem (hj.trans hkey.symm)
          subst this
          exact hbe rfl
        simp [hbe,hjk]
    · rcases hal with rfl|rfl<;>exact ⟨rfl,rfl,rfl,by simp [ChangeMaps.setBlock],fun i _ hi=>hset.2 i (fun e1=>hi e1)⟩
    · rcases hal with rfl|rfl<;>simp [ChangeMaps.setBlock]
theorem Pj {b r:Nat} {vis:α→Bool} {T Kt ty:TypeId} (F:Ew P K f) (ht:P.underlying T=some (.map K E)) (h:Gt w b r f kv vis) (a:α) :
    ∃ w',(Builtin.delete_ #[T,Kt] ty #[.map (some b),f a]).run P w=.ok (.tuple #[]) w'∧Gt w' b r f (Ak kv a) vis∧Chg (·=b) w w'∧w'.heap.size=w.heap.size:=by
  have hne:=h.lt.2.2
  obtain ⟨es,clock,since,seen,c0,hb,he,hs,hr,hold,hsc,hsk,hvis⟩:=h
  have hch:∀ o:Obj,Chg (·=b) w { w with heap:=w.heap.setIfInBounds b o }:=fun o=>
    ⟨rfl,rfl,rfl,by simp,fun k _ hk=>(heap_set (o':=o) hb).2 k hk⟩
  have hfd:=F.find a es.toList kv w he
  cases hf:Hr kv a 0 with
  | none=>
    obtain ⟨_,_,h3,_⟩:=Gh hf
    have hr':(Builtin.delete_ #[T,Kt] ty #[.map (some b),f a]).run P w=.ok (.tuple #[]) { w with heap:=w.heap.setIfInBounds b (.map es clock) }:=by
      simp only [Builtin.delete_,List.getElem?_toArray,List.getElem?_cons_zero,List.getElem?_cons_succ,Sem.run_bind,run_underlying ht,Result.andThen_ok,MapKept.run_getObj_map hb,F.chk,Sem.run_pure]
      rw [hfd,hf]
      simp only [Result.andThen_ok,Sem.run_bind]
      rw [MapKept.run_setObj_map _ hb]
      rfl
    exact ⟨_,hr',⟨es,clock,since,seen,c0,(heap_set hb).1,by rw [h3];exact he,hs,((heap_set hb).2 r (Ne.symm hne)).trans hr,hold,hsc,hsk,hvis⟩,hch _,by simp⟩
  | some p=>
    obtain ⟨j,u⟩:=p
    obtain ⟨n,e0,h1,h2,_,h3⟩:=Gf hf
    have e0':j=n:=by omega
    subst e0'
    have hl:es.size=kv.length:=by simpa using congrArg List.length he
    have hj:j<es.size:=by rw [hl];exact (List.getElem?_eq_some_iff.1 h1).1
    have hsub:(es.eraseIdxIfInBounds j).toList=es.toList.eraseIdx j:=by
      simp only [Array.eraseIdxIfInBounds,hj,dite_true,Array.toList_eraseIdx]
    have hr':(Builtin.delete_ #[T,Kt] ty #[.map (some b),f a]).run P w=.ok (.tuple #[]) { w with heap:=w.heap.setIfInBounds b (.map (es.eraseIdxIfInBounds j) clock) }:=by
      simp only [Builtin.delete_,List.getElem?_toArray,List.getElem?_cons_zero,List.getElem?_cons_succ,Sem.run_bind,run_underlying ht,Result.andThen_ok,MapKept.run_getObj_map hb,F.chk,Sem.run_pure]
      rw [hfd,hf]
      simp only [Result.andThen_ok,Sem.run_bind]
      rw [MapKept.run_setObj_map _ hb]
      rfl
    have hmem:∀ x∈(es.eraseIdxIfInBounds j).toList,x∈es.toList:=fun x hx=>by rw [hsub] at hx;exact (List.eraseIdx_sublist _ _).subset hx
    refine ⟨_,hr',⟨es.eraseIdxIfInBounds j,clock,since,seen,c0,(heap_set hb).1,?_,stamped_erase hs j,((heap_set hb).2 r (Ne.symm hne)).trans hr,fun x hx=>hold x (hmem x hx),hsc,hsk,fun x hx=>hvis x (hmem x hx)⟩,hch _,by simp⟩
    rw [h3,hsub,I8,I8,he]
variable {ops:Array Oper} {rest:List Oper} {o:Oper} {a:Act} {Q:Exit→Act→World→Prop}
theorem Qx (hg:o.guard=none) (m:Operand) (T:TypeId) (hop:o.op=Op.range T m) (K E:TypeId) (ht:P.underlying T=some (.map K E)) (b:Nat) (hm:a.eval m=.map (some b)) (h:D9 w b f kv)
    (hK:∀ w',Gt w' b w.heap.size f kv (fun _=>false)→Chg Nil w w'→w'.heap.size=w.heap.size+1→wpList P ops Q rest (a.put o.dst (.pointer (some ⟨w.heap.size,0,none⟩))) w'):wpList P ops Q (o::rest) a w:=by
  refine wpList_plain hg fun K' hK'=>?_
  obtain ⟨w',hrun,r1,r2,r3⟩:=W2 ht h
  unfold Oper.wp
  simp [execOp,hop,hm,hrun,Result.andThen]
  exact hK' _ _ (hK w' r1 r2 r3)
theorem Sj (hg:o.guard=none) (it:Operand) (hop:o.op=Op.next it false) (b r:Nat) (hit:a.eval it=.pointer (some ⟨r,0,none⟩)) (vis:α→Bool) (h:Gt w b r f kv vis) (inj:∀ a b,f a=f b→a=b)
    (hDone:(∀ p∈kv,vis p.1=true)→wpList P ops Q rest (a.put o.dst (.tuple #[.bool false])) w)
    (hMore:∀ k v w',(k,v)∈kv→vis k=false→Gt w' b r f kv (fun x=>vis x||decide (x=k))→Chg (·=r) w w'→w'.heap.size=w.heap.size→
      (Instr.entry (.pointer (some ⟨r,0,none⟩))).run P w'=.ok (.tuple #[f k,v]) w'→wpList P ops Q rest (a.put o.dst (.tuple #[.bool true,f k,v])) w'):wpList P ops Q (o::rest) a w:=by
  refine wpList_plain hg fun K' hK'=>?_
  unfold Oper.wp
  rcases Z2 (P:=P) h inj o.type with ⟨h0,hrun⟩|⟨k,v,w',hk,hv,hrun,hi,hc,hz,hen⟩
  · simp [execOp,hop,hit,hrun,Result.andThen]
    exact hK' _ _ (hDone h0)
  · simp [execOp,hop,hit,hrun,Result.andThen]
    exact hK' _ _ (hMore k v w' hk hv hi hc hz hen)
theorem Me (hg:o.guard=none) (m x:Operand) (T Kt:TypeId) (hop:o.op=Op.call { callee:=.builtin .delete,args:=#[m,x],argTypes:=#[T,Kt] }) (K E:TypeId) (ht:P.underlying T=some (.map K E)) (F:Ew P K f)
    (b r:Nat) (hm:a.eval m=.map (some b)) (vis:α→Bool) (h:Gt w b r f kv vis) (k:α) (hx:a.eval x=f k)
    (hK:∀ w',Gt w' b r f (Ak kv k) vis→Chg (·=b) w w'→w'.heap.size=w.heap.size→wpList P ops Q rest (a.put o.dst (.tuple #[])) w'):wpList P ops Q (o::rest) a w:=by
  refine wpList_plain hg fun K' hK'=>?_
  obtain ⟨w',hr,h1,h2,h3⟩:=Pj (Kt:=Kt) (ty:=o.type) F ht h k
  unfold Oper.wp
  simp [execOp,hop,resolve,invoke,builtin,hm,hx,hr,Result.andThen]
  exact hK' _ _ (hK w' h1 h2 h3)
end
end
section
open Go.MapKept
section
variable {α:Type} [DecidableEq α] {f:α→Value} {kv:List (α×Value)} {w:World} {P:Program}
end
section
variable {α:Type} [DecidableEq α] {P:Program} {a:Act} {w w0:World} {En:Ent} {L M:List Res} {Ka:Act→World→Prop} {Q:Exit→Act→World→Prop} {ops:Array Oper} {rest:List Oper} {K E:TypeId} {f:α→Value} {kv:List (α×Value)}
variable {dst:Option Tmp} {m x v:Operand} {T ty:TypeId} {pos:String} {after:Array Edge} {g:Option (Nat×Bool)} {b r:Nat} {vis:α→Bool}
def rIter (b r:Nat) (f:α→Value) (kv:List (α×Value)) (vis:α→Bool):Res:=
  ⟨true,fun x=>x=b∨x=r,fun w=>Gt w b r f kv vis,fun w w' h _ hb=>by
    obtain ⟨es,clock,since,seen,c0,h1,h2,h3,h4,rest⟩:=h
    exact ⟨es,clock,since,seen,c0,(hb b (.inl rfl)).trans h1,h2,h3,(hb r (.inr rfl)).trans h4,rest⟩,fun w x h hx=>by
    obtain ⟨h1,h2,_⟩:=h.lt
    rcases hx with rfl|rfl
    · exact h1
    · exact h2⟩
end
end
def I7:Res:=⟨true,fun _=>False,fun _=>True,fun _ _ _ _ _=>trivial,fun _ _ _ h=>h.elim⟩
def Rf (r s:Res):Prop:=∀ b,r.foot b→¬s.foot b
def D7 (l:List Res):Res:=
  ⟨true,fun b=>∃ r∈l,r.foot b,fun w=>(∀ r∈l,r.wr=true∧r.fact w)∧l.Pairwise Rf,
   fun w w' h hs hb=>⟨fun r hr=>⟨(h.1 r hr).1,r.stab w w' (h.1 r hr).2 hs fun b hf=>hb b ⟨r,hr,hf⟩⟩,h.2⟩,fun w b h ⟨r,hr,hb⟩=>r.alive w b (h.1 r hr).2 hb⟩
section
variable {w0 w:World} {E:Ent} {M:List Res} {l:List Res}
theorem Own.less {r r':Res} (h:Own w0 E (r::M) w) (hw:r.wr=true) (hw':r'.wr=true) (hf:r'.fact w) (hb:∀ b,r'.foot b→r.foot b):Own w0 E (r'::M) w:=
  ⟨h.chg,h.mono,fun s hs=>by
    rcases List.mem_cons.1 hs with rfl|hs
    · exact hf
    · exact h.facts s (List.mem_cons_of_mem _ hs),List.pairwise_cons.2 ⟨fun s hs _ b hb'=>(List.pairwise_cons.1 h.apart).1 s hs (.inl hw) b (hb b hb'),(List.pairwise_cons.1 h.apart).2⟩,fun s hs b hb'=>by
    rcases List.mem_cons.1 hs with rfl|hs
    · have:=h.may r (by simp) b (hb b hb');rw [hw] at this;rw [hw'];exact this
    · exact h.may s (List.mem_cons_of_mem _ hs) b hb'⟩
theorem Own.allSplit (h:Own w0 E (D7 l::M) w):Own w0 E (l++M) w:=by
  have hf:=h.fact 0 rfl
  have ha:=List.pairwise_cons.1 h.apart
  refine ⟨h.chg,h.mono,fun s hs=>?_,List.pairwise_append.2 ⟨hf.2.imp (S:=fun (r s:Res)=>r.wr=true∨s.wr=true→∀ b,r.foot b→¬s.foot b) (fun hp _=>hp),ha.2,fun r hr s hs _ b hb=>ha.1 s hs (.inl rfl) b ⟨r,hr,hb⟩⟩,fun s hs b hb=>?_⟩
  · rcases List.mem_append.1 hs with hs|hs
    · exact (hf.1 s hs).2
    · exact h.facts s (List.mem_cons_of_mem _ hs)
  · rcases List.mem_append.1 hs with hs|hs
    · rw [(hf.1 s hs).1];exact h.may (D7 l) (by simp) b ⟨s,hs,hb⟩
    · exact h.may s (List.mem_cons_of_mem _ hs) b hb
theorem Own.allJoin (l:List Res) (hw:∀ r∈l,r.wr=true) (h:Own w0 E (l++M) w):Own w0 E (D7 l::M) w:=by
  obtain ⟨a1,a2,a3⟩:=List.pairwise_append.1 h.apart
  refine ⟨h.chg,h.mono,fun s hs=>?_,List.pairwise_cons.2 ⟨fun s hs _ b ⟨r,hr,hb⟩=>a3 r hr s hs (.inl (hw r hr)) b hb,a2⟩,fun s hs b hb=>?_⟩
  · rcases List.mem_cons.1 hs with rfl|hs
    · refine ⟨fun r hr=>⟨hw r hr,h.facts r (List.mem_append_left _ hr)⟩,?_⟩
      exact List.Pairwise.imp_of_mem (fun {r s} hr hs hp b hb=>hp (.inl (hw r hr)) b hb) a1
    · exact h.facts s (List.mem_append_right _ hs)
  · rcases List.mem_cons.1 hs with rfl|hs
    · obtain ⟨r,hr,hb⟩:=hb
      have:=h.may r (List.mem_append_left _ hr) b hb
      rw [hw r hr] at this;exact this
    · exact h.may s (List.mem_append_right _ hs) b hb
theorem H2 {α:Type} {R:α→α→Prop} (hs:∀ a b,R a b→R b a):∀ (l:List α) (i:Nat) (y:α),l.Pairwise R→(∀ j z,l[j]?=some z→j≠i→R y z)→(l.set i y).Pairwise R
  | [],_,_,_,_=>by simp
  | x::l,0,y,h,hy=>by
    obtain ⟨_,h2⟩:=List.pairwise_cons.1 h
    refine List.pairwise_cons.2 ⟨fun z hz=>?_,h2⟩
    obtain ⟨j,hj⟩:=List.getElem?_of_mem hz
    exact hy (j+1) z (by simpa using hj) (by omega)
  | x::l,i+1,y,h,hy=>by
    obtain ⟨h1,h2⟩:=List.pairwise_cons.1 h
    rw [List.set_cons_succ]
    refine List.pairwise_cons.2 ⟨fun z hz=>?_,H2 hs l i y h2 fun j z hj hn=>hy (j+1) z (by simpa using hj) (by omega)⟩
    rcases List.mem_or_eq_of_mem_set hz with hz|rfl
    · exact h1 z hz
    · exact hs _ _ (hy 0 x rfl (by omega))
theorem Jk (r s:Res) (h:Rf r s):Rf s r:=fun b hs hr=>h b hr hs
theorem P1 {l:List Res} (h:l.Pairwise Rf) {i j:Nat} {r s:Res} (hi:l[i]?=some r) (hj:l[j]?=some s) (hn:j≠i):Rf r s:=by
  obtain ⟨hi1,hi2⟩:=List.getElem?_eq_some_iff.1 hi
  obtain ⟨hj1,hj2⟩:=List.getElem?_eq_some_iff.1 hj
  have hp:=List.pairwise_iff_getElem.1 h
  rcases Nat.lt_or_ge i j with hl|hl
  · have:=hp i j hi1 hj1 hl;rw [hi2,hj2] at this;exact this
  · have:=hp j i hj1 hi1 (by omega);rw [hi2,hj2] at this;exact Jk _ _ this
theorem Own.allOpen (h:Own w0 E (D7 l::M) w) {k:Nat} {r:Res} (hk:l[k]?=some r):Own w0 E (r::D7 (l.set k I7)::M) w:=by
  have hf:=h.fact 0 rfl
  have hr:=hf.1 r (List.mem_of_getElem? hk)
  have h1:Own w0 E (D7 [r,D7 (l.set k I7)]::M) w:=by
    refine h.less rfl rfl ⟨fun s hs=>?_,List.pairwise_cons.2 ⟨fun s hs b hb=>?_,List.pairwise_singleton _ _⟩⟩ ?_
    · simp only [List.mem_cons,List.mem_nil_iff,or_false] at hs
      rcases hs with rfl|rfl
      · exact hr
      · refine ⟨rfl,fun s hs=>?_,H2 Jk l k I7 hf.2 fun j z _ _ b hb=>hb.elim⟩
        rcases List.mem_or_eq_of_mem_set hs with hs|rfl
        · exact hf.1 s hs
        · exact ⟨rfl,trivial⟩
    · rw [List.mem_singleton.1 hs]
      rintro ⟨s,hs,hsb⟩
      obtain ⟨j,hj⟩:=List.getElem?_of_mem hs
      by_cases e:k=j
      · subst e
        rw [List.getElem?_set_self (List.getElem?_eq_some_iff.1 hk).1] at hj
        cases hj;exact hsb
      · rw [List.getElem?_set_ne e] at hj
        exact P1 hf.2 hk hj (fun e'=>e e'.symm) b hb hsb
    · rintro b ⟨s,hs,hb⟩
      simp only [List.mem_cons,List.mem_nil_iff,or_false] at hs
      rcases hs with rfl|rfl
      · exact ⟨_,List.mem_of_getElem? hk,hb⟩
      · obtain ⟨s,hs,hb⟩:=hb
        rcases List.mem_or_eq_of_mem_set hs with hs|rfl
        · exact ⟨s,hs,hb⟩
        · exact hb.elim
  exact h1.allSplit
theorem Own.allSet {r:Res} (h:Own w0 E (r::D7 l::M) w) (k:Nat) (hr:r.wr=true):Own w0 E (D7 (l.set k r)::M) w:=by
  have h1:Own w0 E (D7 [r,D7 l]::M) w:=h.allJoin [r,D7 l] (by simp [hr,D7])
  have hf:=h1.fact 0 rfl
  have hl:=(hf.1 (D7 l) (by simp)).2
  have hr2:=(hf.1 r (by simp)).2
  have hp:=(List.pairwise_cons.1 hf.2).1 (D7 l) (by simp)
  refine h1.less rfl rfl ⟨fun s hs=>?_,H2 Jk l k r hl.2 fun j z hj _ b hb hz=>hp b hb ⟨z,List.mem_of_getElem? hj,hz⟩⟩ ?_
  · rcases List.mem_or_eq_of_mem_set hs with hs|rfl
    · exact hl.1 s hs
    · exact ⟨hr,hr2⟩
  · rintro b ⟨s,hs,hb⟩
    rcases List.mem_or_eq_of_mem_set hs with hs|rfl
    · exact ⟨D7 l,by simp,s,hs,hb⟩
    · exact ⟨s,by simp,hb⟩
theorem Own.allAdd {r:Res} (h:Own w0 E (r::D7 l::M) w) (hr:r.wr=true):Own w0 E (D7 (l++[r])::M) w:=by
  have h1:Own w0 E (D7 [r,D7 l]::M) w:=h.allJoin [r,D7 l] (by simp [hr,D7])
  have hf:=h1.fact 0 rfl
  have hl:=(hf.1 (D7 l) (by simp)).2
  have hr2:=(hf.1 r (by simp)).2
  have hp:=(List.pairwise_cons.1 hf.2).1 (D7 l) (by simp)
  refine h1.less rfl rfl ⟨fun s hs=>?_,List.pairwise_append.2 ⟨hl.2,List.pairwise_singleton _ _,fun s hs t ht b hb hb'=>?_⟩⟩ ?_
  · rcases List.mem_append.1 hs with hs|hs
    · exact hl.1 s hs
    · rw [List.mem_singleton.1 hs];exact ⟨hr,hr2⟩
  · rw [List.mem_singleton.1 ht] at hb'
    exact hp b hb' ⟨s,hs,hb⟩
  · rintro b ⟨s,hs,hb⟩
    rcases List.mem_append.1 hs with hs|hs
    · exact ⟨D7 l,by simp,s,hs,hb⟩
    · rw [List.mem_singleton.1 hs] at hb;exact ⟨r,by simp,hb⟩
theorem Own.allSub {l':List Res} (h:Own w0 E (D7 l::M) w) (hs:l'.Sublist l):Own w0 E (D7 l'::M) w:=by
  have hf:=h.fact 0 rfl
  exact h.less rfl rfl ⟨fun s hs'=>hf.1 s (hs.subset hs'),hf.2.sublist hs⟩ fun b ⟨s,hs',hb⟩=>⟨s,hs.subset hs',hb⟩
theorem Own.addNone (h:Own w0 E M w) {r:Res} (hr:∀ w,r.fact w) (hb:∀ b,¬r.foot b):Own w0 E (r::M) w:=
  ⟨h.chg,h.mono,fun s hs=>by
    rcases List.mem_cons.1 hs with rfl|hs
    · exact hr w
    · exact h.facts s hs,List.pairwise_cons.2 ⟨fun s _ _ b hb'=>(hb b hb').elim,h.apart⟩,fun s hs b hb'=>by
    rcases List.mem_cons.1 hs with rfl|hs
    · exact (hb b hb').elim
    · exact h.may s hs b hb'⟩
theorem Own.allNil (h:Own w0 E M w):Own w0 E (D7 []::M) w:=h.addNone (fun w=>⟨fun r hr=>(by cases hr),List.Pairwise.nil⟩) fun b ⟨r,hr,_⟩=>by cases hr
end
section
variable {w0 w:World} {E:Ent} {M:List Res} {α:Type} {f:α→Res} {l:List α} {k:Nat} {x:α}
theorem Own.mapOpen (h:Own w0 E (D7 (l.map f)::M) w) (hk:l[k]?=some x):Own w0 E (f x::D7 ((l.map f).set k I7)::M) w:=h.allOpen (by rw [List.getElem?_map,hk];rfl)
theorem Own.mapSet (x:α) (h:Own w0 E (f x::D7 ((l.map f).set k I7)::M) w) (hr:(f x).wr=true):Own w0 E (D7 ((l.set k x).map f)::M) w:=by
  have h1:=h.allSet k hr
  rw [List.set_set,← List.map_set] at h1
  exact h1
theorem Own.mapPut (x:α) (k:Nat) (h:Own w0 E (f x::D7 (l.map f)::M) w) (hr:(f x).wr=true):Own w0 E (D7 ((l.set k x).map f)::M) w:=by
  have h1:=h.allSet k hr
  rw [← List.map_set] at h1
  exact h1
theorem Own.mapAdd (x:α) (h:Own w0 E (f x::D7 (l.map f)::M) w) (hr:(f x).wr=true):Own w0 E (D7 ((l++[x]).map f)::M) w:=by
  have h1:=h.allAdd hr
  rw [List.map_append]
  exact h1
end
abbrev Hdl:=Int×Int
abbrev Bj:=ByteArray×Hdl
structure AN where
  h:Hdl
  kind:Int
  change:Int
  s:ByteArray
  holes:List Bool
  es:List Bj
  pins:Int
structure RN where
  nb:Nat
  vh:Value
  ve:Value
  a:AN
def e3C (e:Bj):List Value:=[.string e.1,.int .i64 e.2.1,.int .i64 e.2.2]
theorem D0 (e:Bj):(e3C e).length=3:=rfl
def hlC (b:Bool):List Value:=[.bool b]
theorem X6 (b:Bool):(hlC b).length=1:=rfl
def ptB (b:Nat):List Value:=[.pointer (some ⟨b,0,none⟩)]
def ptN (N:RN):List Value:=[.pointer (some ⟨N.nb,0,none⟩)]
theorem Gy (N:RN):(ptN N).length=1:=rfl
def rnC (N:RN):List Value:=[.int .i64 N.a.h.1,.int .i64 N.a.h.2,.int .i64 N.a.kind,.int .i64 N.a.change,.string N.a.s,N.vh,N.ve,.int .i64 N.a.pins]
def F4 (N:RN):Res:=Bw true N.nb (rnC N) 93
def rnH (N:RN):Res:=A8 true N.vh 4 1 hlC N.a.holes
def rnE (N:RN):Res:=A8 true N.ve 107 3 e3C N.a.es
def Ir (N:RN):Res:=D7 [F4 N,rnH N,rnE N]
def I3 (L:List RN):Res:=D7 (L.map Ir)
def Mi (L:List RN) (k:Nat):Res:=D7 ((L.map Ir).set k I7)
def rRL (vl:Value) (L:List RN):Res:=D7 [A8 true vl 88 1 ptB (L.map RN.nb),I3 L]
theorem Ac8 (L:List RN):(L.map RN.nb).flatMap ptB=L.flatMap ptN:=by
  induction L with
  | nil=>rfl
  | cons N L ih=>simp only [List.map_cons,List.flatMap_cons,ih];rfl
section
variable {w0 w:World} {E:Ent} {M:List Res} {L:List RN} {k j:Nat} {N:RN} {vl:Value}
theorem Own.rlOpen (h:Own w0 E (rRL vl L::M) w):Own w0 E (A8 true vl 88 1 ptB (L.map RN.nb)::I3 L::M) w:=Own.allSplit (l:=[A8 true vl 88 1 ptB (L.map RN.nb),I3 L]) h
theorem Own.rlClose (h:Own w0 E (A8 true vl 88 1 ptB (L.map RN.nb)::I3 L::M) w):Own w0 E (rRL vl L::M) w:=Own.allJoin [A8 true vl 88 1 ptB (L.map RN.nb),I3 L] (by
  intro r hr
  simp only [List.mem_cons,List.mem_nil_iff,or_false] at hr
  rcases hr with rfl|rfl<;>rfl) h
theorem Own.rnOpen (h:Own w0 E (I3 L::M) w) (hk:L[k]?=some N):Own w0 E (F4 N::rnH N::rnE N::Mi L k::M) w:=Own.allSplit (l:=[F4 N,rnH N,rnE N]) (h.mapOpen hk)
theorem Own.rnClose (N':RN) (h:Own w0 E (F4 N'::rnH N'::rnE N'::Mi L k::M) w):Own w0 E (I3 (L.set k N')::M) w:=Own.mapSet (f:=Ir) N' (Own.allJoin [F4 N',rnH N',rnE N'] (by
  intro r hr
  simp only [List.mem_cons,List.mem_nil_iff,or_false] at hr
  rcases hr with rfl|rfl|rfl<;>rfl) h) rfl
theorem H9 {α:Type}:∀ (l:List α) (k:Nat) (x:α),l[k]?=some x→l.set k x=l
  | [],_,_,_=>rfl
  | y::l,0,x,h=>by simp at h;subst h;rfl
  | y::l,k+1,x,h=>by rw [List.set_cons_succ,H9 l k x (by simpa using h)]
theorem Own.rnAdd (N':RN) (h:Own w0 E (F4 N'::rnH N'::rnE N'::I3 L::M) w):Own w0 E (I3 (L++[N'])::M) w:=Own.mapAdd (f:=Ir) N' (Own.allJoin [F4 N',rnH N',rnE N'] (by
  intro r hr
  simp only [List.mem_cons,List.mem_nil_iff,or_false] at hr
  rcases hr with rfl|rfl|rfl<;>rfl) h) rfl
theorem Own.rnSub {L':List RN} (h:Own w0 E (I3 L::M) w) (hs:L'.Sublist L):Own w0 E (I3 L'::M) w:=Own.allSub h (hs.map _)
theorem Own.rnNil (h:Own w0 E M w):Own w0 E (I3 []::M) w:=h.allNil
end
section
variable {w0 w:World} {E:Ent} {M:List Res} {L:List RN} {k j:Nat} {N:RN} {vl:Value}
theorem Own.rtOpen (h:Own w0 E (rRL vl L::M) w) (hk:L[k]?=some N):Own w0 E (F4 N::rnH N::rnE N::Mi L k::A8 true vl 88 1 ptB (L.map RN.nb)::M) w:=
  Own.rnOpen ((h.rlOpen.perm (List.Perm.swap _ _ _))) hk
end
section
variable {L:List RN} {j:Nat} {N:RN} {vl:Value}
theorem Mf {w:World} (hf:(rRL vl L).fact w):(A8 true vl 88 1 ptB (L.map RN.nb)).fact w∧(I3 L).fact w:=⟨(hf.1 _ (List.mem_cons_self ..)).2,(hf.1 _ (List.mem_cons_of_mem _ (List.mem_cons_self ..))).2⟩
theorem P9 {w:World} (hf:(I3 L).fact w) (hx:L[j]?=some N):(F4 N).fact w∧(rnH N).fact w∧(rnE N).fact w:=by
  have h1:=(hf.1 (Ir N) (List.mem_map.2 ⟨N,List.mem_of_getElem? hx,rfl⟩)).2
  exact ⟨(h1.1 _ (List.mem_cons_self ..)).2,(h1.1 _ (List.mem_cons_of_mem _ (List.mem_cons_self ..))).2,(h1.1 _ (List.mem_cons_of_mem _ (List.mem_cons_of_mem _ (List.mem_cons_self ..)))).2⟩
theorem Cc (hx:L[j]?=some N) (off:Nat) {vs:List Value} (h:((rnC N).drop off).take vs.length=vs):J6 (rRL vl L) N.nb off vs:=fun w hf=>Fb off h w (P9 (Mf hf).2 hx).1
theorem Df:J4 (rRL vl L) vl L.length (L.flatMap ptN):=fun w hf=>by
  have:=(H4 (enc:=ptB) (l:=L.map RN.nb)) w (Mf hf).1
  rw [List.length_map,Ac8] at this
  exact this
theorem Bo (hx:L[j]?=some N):J4 (rRL vl L) N.ve N.a.es.length (N.a.es.flatMap e3C):=fun w hf=>H4 w (P9 (Mf hf).2 hx).2.2
theorem wrRN (hx:L[j]?=some N) (off:Nat) (vs:List Value) (N':RN) (hl:off+vs.length≤(rnC N).length) (h:(rnC N).take off++(vs++(rnC N).drop (off+vs.length))=rnC N') (h1:N'.nb=N.nb) (h2:N'.vh=N.vh) (h3:N'.ve=N.ve) (h4:N'.a.holes=N.a.holes) (h5:N'.a.es=N.a.es) :
    Xa (I3 L) N.nb off vs (I3 (L.set j N')):=by
  have hw:=(We (b:=N.nb) (cs:=rnC N) (T:=93) off vs hl h).2
  have hH:rnH N'=rnH N:=by unfold rnH;rw [h2,h4]
  have hE:rnE N'=rnE N:=by unfold rnE;rw [h3,h5]
  have hC:F4 N'=Bw true N.nb (rnC N') 93:=by unfold F4;rw [h1]
  have hfoot:∀ b,(Ir N').foot b↔(Ir N).foot b:=fun b=>by
    constructor
    · rintro ⟨r,hr,hb⟩
      simp only [List.mem_cons,List.mem_nil_iff,or_false] at hr
      rcases hr with rfl|rfl|rfl
      · exact ⟨F4 N,by simp,by have q:b=N'.nb:=hb;show b=N.nb;rw [q,h1]⟩
      · exact ⟨rnH N,by simp,hH▸hb⟩
      · exact ⟨rnE N,by simp,hE▸hb⟩
    · rintro ⟨r,hr,hb⟩
      simp only [List.mem_cons,List.mem_nil_iff,or_false] at hr
      rcases hr with rfl|rfl|rfl
      · exact ⟨F4 N',by simp,by have q:b=N.nb:=hb;show b=N'.nb;rw [q,h1]⟩
      · exact ⟨rnH N',by simp,by rw [hH];exact hb⟩
      · exact ⟨rnE N',by simp,by rw [hE];exact hb⟩
  refine ⟨rfl,fun w hf=>?_⟩
  obtain ⟨p1,p2,p3⟩:=P9 hf hx
  obtain ⟨c1,c2,c3,c4⟩:=hw w p1
  have hmj:(L.map Ir)[j]?=some (Ir N):=by rw [List.getElem?_map,hx];rfl
  have hres:=(hf.1 (Ir N) (List.mem_of_getElem? hmj)).2
  have hnb:(Ir N).foot N.nb:=⟨F4 N,by simp,rfl⟩
  have hch:Chg (·=N.nb) w (w.setCells N.nb off vs):=Fe vs off w
  have hkeep:∀ r:Res,r.fact w→¬r.foot N.nb→r.fact (w.setCells N.nb off vs):=fun r hr hn=>r.stab w _ hr hch.size fun b hb=>hch.block b (r.alive w b hr hb) (fun e=>by have e':b=N.nb:=e;exact hn (e'▸hb))
  have hp:=hres.2
  have hap1:¬(rnH N).foot N.nb:=fun hb=>(List.pairwise_cons.1 hp).1 (rnH N) (by simp) N.nb rfl hb
  have hap2:¬(rnE N).foot N.nb:=fun hb=>(List.pairwise_cons.1 hp).1 (rnE N) (by simp) N.nb rfl hb
  refine ⟨c1,?_,⟨Ir N,List.mem_of_getElem? hmj,hnb⟩,?_⟩
  · show (D7 ((L.set j N').map Ir)).fact _
    rw [List.map_set]
    refine ⟨fun r hr=>?_,H2 Jk _ j _ hf.2 fun i z hz hij b hb hzb=>?_⟩
    · obtain ⟨i,hi⟩:=List.getElem?_of_mem hr
      by_cases e:j=i
      · subst e
        rw [List.getElem?_set_self (List.getElem?_eq_some_iff.1 hmj).1] at hi
        cases hi
        refine ⟨rfl,fun r hr=>?_,?_⟩
        · simp only [List.mem_cons,List.mem_nil_iff,or_false] at hr
          rcases hr with rfl|rfl|rfl
          · exact ⟨rfl,by rw [hC];exact c2⟩
          · exact ⟨rfl,by rw [hH];exact hkeep _ p2 hap1⟩
          · exact ⟨rfl,by rw [hE];exact hkeep _ p3 hap2⟩
        · rw [hH,hE]
          obtain ⟨q1,q2⟩:=List.pairwise_cons.1 hp
          refine List.pairwise_cons.2 ⟨fun s hs b hb hsb=>q1 s hs b ?_ hsb,q2⟩
          have q:b=N'.nb:=hb
          show b=N.nb
          rw [q,h1]
      · rw [List.getElem?_set_ne e] at hi
        have hr':=hf.1 r (List.mem_of_getElem? hi)
        exact ⟨hr'.1,hkeep r hr'.2 (P1 hf.2 hmj hi (fun e'=>e e'.symm) N.nb hnb)⟩
    · exact P1 hf.2 hmj hz hij b ((hfoot b).1 hb) hzb
  · rintro x ⟨r,hr,hb⟩
    rw [List.map_set] at hr
    rcases List.mem_or_eq_of_mem_set hr with hr|rfl
    · exact ⟨r,hr,hb⟩
    · exact ⟨Ir N,List.mem_of_getElem? hmj,(hfoot x).1 hb⟩
theorem Ac9 (h:L[j]?=some N) {N':RN} (h1:N'.nb=N.nb):(L.set j N').map RN.nb=L.map RN.nb:=by
  rw [List.map_set,h1]
  exact H9 _ _ _ (by rw [List.getElem?_map,h];rfl)
theorem Own.rtClose {w0 w:World} {E:Ent} {M:List Res} (hk:L[j]?=some N) (N':RN) (h1:N'.nb=N.nb) (h:Own w0 E (F4 N'::rnH N'::rnE N'::Mi L j::A8 true vl 88 1 ptB (L.map RN.nb)::M) w):Own w0 E (rRL vl (L.set j N')::M) w:=by
  have h2:=h.rnClose N'
  rw [← Ac9 hk h1] at h2
  exact Own.rlClose (h2.perm (List.Perm.swap _ _ _))
theorem L3 (hx:L[j]?=some N) (off:Nat) (vs:List Value) (N':RN) (hl:off+vs.length≤(rnC N).length) (h:(rnC N).take off++(vs++(rnC N).drop (off+vs.length))=rnC N') (h1:N'.nb=N.nb) (h2:N'.vh=N.vh) (h3:N'.ve=N.ve) (h4:N'.a.holes=N.a.holes) (h5:N'.a.es=N.a.es) :
    Xa (rRL vl L) N.nb off vs (rRL vl (L.set j N')):=by
  obtain ⟨_,hw⟩:=wrRN hx off vs N' hl h h1 h2 h3 h4 h5
  refine ⟨rfl,fun w hf=>?_⟩
  obtain ⟨f1,f2⟩:=Mf hf
  obtain ⟨c1,c2,c3,c4⟩:=hw w f2
  have hch:Chg (·=N.nb) w (w.setCells N.nb off vs):=Fe vs off w
  have hap:=(List.pairwise_cons.1 hf.2).1 (I3 L) (by simp)
  have hrow:A8 true vl 88 1 ptB ((L.set j N').map RN.nb)=A8 true vl 88 1 ptB (L.map RN.nb):=by rw [Ac9 hx h1]
  refine ⟨c1,⟨fun r hr=>?_,?_⟩,⟨I3 L,by simp,c3⟩,?_⟩
  · simp only [List.mem_cons,List.mem_nil_iff,or_false] at hr
    rcases hr with rfl|rfl
    · refine ⟨rfl,?_⟩
      rw [hrow]
      exact Res.stab _ w _ f1 hch.size fun b hb=>hch.block b (Res.alive _ w b f1 hb) (fun e=>by have e':b=N.nb:=e;exact hap b hb (e'▸c3))
    · exact ⟨rfl,c2⟩
  · refine List.pairwise_cons.2 ⟨fun s hs b hb hsb=>?_,List.pairwise_singleton _ _⟩
    rw [List.mem_singleton.1 hs] at hsb
    rw [hrow] at hb
    exact hap b hb (c4 b hsb)
  · rintro x ⟨r,hr,hb⟩
    simp only [List.mem_cons,List.mem_nil_iff,or_false] at hr
    rcases hr with rfl|rfl
    · rw [hrow] at hb;exact ⟨_,by simp,hb⟩
    · exact ⟨I3 L,by simp,c4 x hb⟩
end
def Lx (x y:ByteArray):Bool:=Go.Op.bytesLess x.toList y.toList
def Bs (A:List AN) (h:Hdl):Option AN:=A.find? fun N=>N.h==h
def C6 (nm:ByteArray) (h:Hdl) (s:Bool×List Bj) (e:Bj):Bool×List Bj:=if !s.1&&Lx nm e.1 then (true,s.2++[(nm,h)]++[e]) else (s.1,s.2++[e])
def Lt (nm:ByteArray) (h:Hdl) (es:List Bj):Bool×List Bj:=es.foldl (C6 nm h) (false,[])
def Bi (nm:ByteArray) (h:Hdl) (es:List Bj):List Bj:=if (Lt nm h es).1 then (Lt nm h es).2 else (Lt nm h es).2++[(nm,h)]
theorem Rp {es:List Bj} {k:Nat} {x:Bj} (hx:es[k]?=some x) (nm:ByteArray) (h:Hdl):Lt nm h (es.take (k+1))=C6 nm h (Lt nm h (es.take k)) x:=by
  unfold Lt;rw [List.take_add_one,hx,List.foldl_append];rfl
def Bg (A:List AN) (h:Hdl):Bool:=match Bs A h with|some N=>decide (N.kind=2)|none=>false
def F1 (es:List Bj) (h:Hdl):Nat:=es.countP fun e=>e.2==h
def Be (A:List AN) (h:Hdl):Nat:=(A.map fun M=>F1 M.es h).sum
def Dv (A:List AN) (N:AN):Int:=if N.kind=2 then 2+((N.es.countP fun e=>Bg A e.2:Nat):Int) else (Be A N.h:Int)
def upA (A:List AN) (h:Hdl):Hdl:=match A.find? fun M=>M.es.any fun e=>e.2==h with|some M=>M.h|none=>h
section
variable {P:Program} {a:Act} {w w0:World} {E:Ent} {L:List Res}
theorem Dh {dst:Option Tmp} {T:TypeId} {x:Operand} {ty:TypeId} {pos:String} {after:Array Edge} {g:Option (Nat×Bool)} {v:Value} {n:Nat} {xs:List Value} {r:Res} (d:TypeId) (hx:(a.eval x,P.underlying T)=(v,some (.slice d))) (i:Nat) (hi:L[i]?=some r) (hr:J4 r v n xs) :
    Cl P w0 E L ⟨dst,.call { callee:=.builtin .len,args:=#[x],argTypes:=#[T] },ty,pos,after,g⟩ a (.int .i64 (n:Int)):=fun w h=>by
  obtain ⟨h1,h2⟩:a.eval x=v∧P.underlying T=_:=by simpa using hx
  obtain ⟨⟨ad,cap,e,_⟩,_⟩:=hr w (h.fact i hi)
  rw [e] at h1
  simp [execOp,resolve,invoke,builtin,Builtin.len_,h1,Sem.run_bind,run_underlying h2,goInt]
theorem Dn {dst:Option Tmp} {T:TypeId} {x y:Operand} {ty:TypeId} {pos:String} {after:Array Edge} {g:Option (Nat×Bool)} {v:Value} {n k:Nat} {xs:List Value} {r:Res} (d:TypeId) (j:Nat) {z:Int} (hz:z=(j:Int)) (hx:(a.eval x,a.eval y,P.underlying T,(P.info? d).map (·.size))=(v,.int .i64 z,some (.slice d),some k)) (hj:j<n) (i:Nat) (hi:L[i]?=some r) (hr:J4 r v n xs) :
    Cl P w0 E L ⟨dst,.indexAddr T x y,ty,pos,after,g⟩ a (.pointer (some ⟨Dg v,B0 v+j*k,none⟩)):=fun w h=>by
  subst hz
  obtain ⟨h1,h2,h3,h4⟩:a.eval x=v∧a.eval y=_∧P.underlying T=_∧(P.info? d).map (·.size)=some k:=by simpa using hx
  obtain ⟨⟨ad,cap,e,_,_,hp⟩,_⟩:=hr w (h.fact i hi)
  obtain rfl:=hp j hj
  obtain ⟨B,hB⟩:∃ B,B=Dg v:=⟨_,rfl⟩
  obtain ⟨O,hO⟩:∃ O,O=B0 v:=⟨_,rfl⟩
  rw [← hB,← hO] at e ⊢
  subst e
  have hz:=Gk (w:=w) h4
  have hi1:(0:Int)≤(j:Int)∧(j:Int)<(n:Int):=by omega
  simp only [execOp,Instr.indexAt,h1,h2,asIntOf,Sem.run_bind,Sem.run_pure,Result.andThen_ok,run_underlying h3]
  simp only [Sem.run_ite,hi1,and_self,if_true,Sem.run_bind,hz,Result.andThen_ok,Sem.run_pure,Int.toNat_natCast,Addr.add_lit]
theorem rdS {α:Type} {r:Res} {v:Value} {k n:Nat} {enc:α→List Value} {l:List α} (hs:J4 r v n (l.flatMap enc)) (he:∀ a,(enc a).length=k) {i:Nat} {x:α} (hi:l[i]?=some x) (o:Nat) {vs:List Value} (h:((enc x).drop o).take vs.length=vs) :
    J6 r (Dg v) (B0 v+i*k+o) vs:=fun w hf j u hj=>by
  have hl:=(List.getElem?_eq_some_iff.1 hj).1
  have h2:=congrArg (fun l=>l[j]?) h
  simp only [List.getElem?_take,List.getElem?_drop,if_pos hl] at h2
  have hlt:o+j<k:=by
    rw [← he x]
    have:(enc x)[o+j]?=some u:=by rw [h2];exact hj
    exact (List.getElem?_eq_some_iff.1 this).1
  have:=(hs w hf).2 (i*k+(o+j)) u (by rw [F7 enc he l i (o+j) x hi hlt,h2];exact hj)
  rw [show B0 v+i*k+o+j=B0 v+(i*k+(o+j)) by omega]
  exact this
theorem K3 {α:Type} {r:Res} {v:Value} {k n:Nat} {enc:α→List Value} {l:List α} (hs:J4 r v n (l.flatMap enc)) (he:∀ a,(enc a).length=k) {i:Nat} {x:α} (hi:l[i]?=some x) {vs:List Value} (h:(enc x).take vs.length=vs) :
    J6 r (Dg v) (B0 v+i*k) vs:=rdS hs he hi 0 h
end
abbrev Rw (N:RN) (v:Value) (c:Int) (es:List Bj):RN:=⟨N.nb,N.vh,v,⟨N.a.h,N.a.kind,c,N.a.s,N.a.holes,es,N.a.pins⟩⟩
abbrev Rx (N:RN) (v:Value) (es:List Bj):RN:=⟨N.nb,N.vh,v,⟨N.a.h,N.a.kind,N.a.change,N.a.s,N.a.holes,es,N.a.pins⟩⟩
abbrev Rt (b:Nat) (m:Int) (vl vt:Value):Res:=Bw true b [.int .i64 m,vl,vt] 87
theorem Pq {w:World} {a:Option Addr} {n cap E size m:Nat} {xs:List Value} {S:Nat→Prop} (hn:Bb w (.slice a n cap) E size m xs S):n=m:=by
  obtain ⟨_,⟨e,h⟩|⟨g',off',cap',cs,e,_⟩⟩:=hn
  · cases e;omega
  · cases e;rfl
theorem Qe (z:Value) (n:Nat) (hz:z.cells=#[z]):madeCells z.cells n=(List.replicate n z).toArray:=by
  rw [hz]
  apply Array.ext
  · simp [madeCells]
  · intro i h1 h2
    simp [madeCells,Nat.mod_one]
theorem W9 {P:Program} {T E:TypeId} {z:Value} {bytes:Nat} (ht:P.underlying T=some (.slice E)) (hinfo:(P.info? E).map (fun i=>(i.zero,i.size,i.bytes))=some (some z,1,bytes)) (hz:z.cells=#[z]) (w:World) (n:Nat) (hb:bytes*n≤281474976710656) (hn:n≤9223372036854775807) :
    (Instr.makeSlice T (.int .i64 (n:Int)) (.int .i64 (n:Int))).run P w=.ok (.slice (some ⟨w.heap.size,0,none⟩) n n) (w.alloc (.cells (List.replicate n z).toArray E)):=by
  obtain ⟨i,hi,hz0,hz1,hz2⟩:=info_parts hinfo
  have h:=run_make (P:=P) w T E i z ht hi hz0 .i64 .i64 n n (by omega) (by omega) (by rw [hz2];have:=Int.ofNat_le.2 hb;simpa using this) (by omega)
  rw [h,hz1,Nat.mul_one,Qe z _ hz,Int.toNat_natCast]
theorem T5 {α:Type} (c:α→Value) (n:Nat) (a:α):(List.replicate n a).flatMap (fun x=>[c x])=List.replicate n (c a):=by
  induction n with
  | zero=>rfl
  | succ n ih=>rw [List.replicate_succ,List.flatMap_cons,ih,List.replicate_succ];rfl
theorem I2 {w:World} {g n E:Nat} {z:Value} (hn:n≤9223372036854775807) (hb:w.heap[g]?=some (.cells (List.replicate n z).toArray E (0,0))):Bb w (.slice (some ⟨g,0,none⟩) n n) E 1 n (List.replicate n z) (·=g):=by
  refine ⟨by simp,.inr ⟨g,0,n,_,rfl,hb,Nat.le_refl _,by unfold maxLen;omega,by simp,fun j u hj=>?_,rfl⟩⟩
  rw [Nat.zero_add,List.getElem?_toArray];exact hj
theorem Nf (w:World) (b i:Nat) (v:Value):Chg (·=b) w (w.setCell ⟨b,i,none⟩ v):=(Chg.refl (·=b) w).setCell (p:=⟨b,i,none⟩) (.inr rfl) v
section
variable {P:Program} {w:World} {ops:Array Oper} {o:Oper} {a:Act} {K:Act→World→Prop} {Q:Exit→Act→World→Prop} {Eo:Prop}
variable {α:Type} [DecidableEq α] {Kt E:TypeId} {f:α→Value} {kv:List (α×Value)}
theorem Jy {next:Act→World→Prop} {T:TypeId} (ht:P.underlying T=some (.map Kt E)) (F:Ew P Kt f)
    {r:Nat} (hM:D9 w r f kv) (k:α) {x val:Value} (hx:x=f k)
    (hK:∀ w',D9 w' r f (Ay kv k val)→Chg (·=r) w w'→w'.heap.size=w.heap.size→next (a.put o.dst undef) w') :
    Oper.upon P o a next Q (((Instr.mapUpdate T (.map (some r)) x val).run P w).andThen fun _ w'=>.ok .skip w'):=by
  subst hx
  obtain ⟨w',hr,h1,h2,h3⟩:=hM.run_update F ht k val
  rw [hr]
  exact hK w' h1 h2 h3
end
theorem Bb.tail {α:Type} {enc:α→List Value} {w:World} {g off n cap E size:Nat} {l:List α} {S:Nat→Prop} (he:∀ a,(enc a).length=size) (hn:1≤n)
    (h:Bb w (.slice (some ⟨g,off,none⟩) n cap) E size n (l.flatMap enc) S):Bb w (.slice (some ⟨g,off+size,none⟩) (n - 1) (cap - 1)) E size (n - 1) (l.tail.flatMap enc) S:=by
  obtain ⟨h1,⟨e,_⟩|⟨g',off',cap',cs,e,hb,h2,h3,h4,h5,h6⟩⟩:=h
  · cases e
  cases e
  have hle:1*size≤n*size:=Nat.mul_le_mul_right _ hn
  have hle2:n*size≤cap*size:=Nat.mul_le_mul_right _ h2
  match l,h1,h5 with
  | [],h1,h5=>
    simp only [List.flatMap_nil,List.length_nil,Nat.one_mul] at h1 hle
    have hs0:size=0:=by omega
    subst hs0
    exact ⟨by simp,.inr ⟨g,off,cap - 1,cs,rfl,hb,by omega,by omega,by omega,fun j u hj=>(by cases hj),h6⟩⟩
  | x::l,h1,h5=>
    simp only [List.flatMap_cons,List.length_append,he] at h1
    refine ⟨by simp only [List.tail_cons,Nat.sub_mul];omega,.inr ⟨g,off+size,cap - 1,cs,rfl,hb,by omega,by omega,by rw [Nat.sub_mul];omega,fun j u hj=>?_,h6⟩⟩
    have:=h5 (size+j) u (by
      simp only [List.flatMap_cons]
      rw [List.getElem?_append_right (by rw [he];omega),he,Nat.add_sub_cancel_left];exact hj)
    rw [Nat.add_assoc];exact this
def J5 (p:Option Nat):Value:=.pointer (p.map fun b=>⟨b,0,none⟩)
def Acq (p:Option Nat):List Value:=[J5 p]
def Aei (n:Int):List Value:=[.int .i64 n]
theorem Ij (p:Option Nat):(Acq p).length=1:=rfl
theorem Mj (p:Int):(Aei p).length=1:=rfl
structure E9 (w:World) (b:Nat) (ps:List (Option Nat)) (gs:List Int) (vl vg:Value) (T:TypeId) (Sl Sg:Nat→Prop):Prop where
  blk:w.heap[b]?=some (.cells #[vl,vg] T (0,0))
  l:Bb w vl 140 1 ps.length (ps.flatMap Acq) Sl
  g:Bb w vg 3 1 gs.length (gs.flatMap Aei) Sg
  bl:¬Sl b
  bg:¬Sg b
  lg:∀ x,Sl x→¬Sg x
  lt1:∀ x,Sl x→x<w.heap.size
  lt2:∀ x,Sg x→x<w.heap.size
section
variable {w w':World} {b:Nat} {ps:List (Option Nat)} {gs:List Int} {vl vg:Value} {T:TypeId} {Sl Sg S:Nat→Prop}
theorem E9.keep {U:Nat→Prop} (h:E9 w b ps gs vl vg T Sl Sg) (c:Chg U w w') (hb:¬U b) (hl:∀ x,Sl x→¬U x) (hg:∀ x,Sg x→¬U x):E9 w' b ps gs vl vg T Sl Sg:=
  ⟨c.keep h.blk hb,h.l.keep c hl,h.g.keep c hg,h.bl,h.bg,h.lg,fun x hx=>Nat.lt_of_lt_of_le (h.lt1 x hx) c.size,fun x hx=>Nat.lt_of_lt_of_le (h.lt2 x hx) c.size⟩
theorem E9.same (h:E9 w b ps gs vl vg T Sl Sg) (c:Chg Nil w w'):E9 w' b ps gs vl vg T Sl Sg:=h.keep c (fun f=>f) (fun _ _ f=>f) (fun _ _ f=>f)
theorem E9.setL {g off n cap k:Nat} {p:Option Nat} (h:E9 w b ps gs (.slice (some ⟨g,off,none⟩) n cap) vg T Sl Sg) (hk:k<ps.length):E9 (w.setCell ⟨g,off+k,none⟩ (J5 p)) b (ps.set k p) gs (.slice (some ⟨g,off,none⟩) n cap) vg T Sl Sg:=by
  have hnn:n=ps.length:=Pq h.l
  obtain ⟨g',off',cap',cs,e,hb9,_,_,_,_,hg,hgl⟩:=h.l.place (by omega)
  cases e
  have hset:=Bb.setElem Ij h.l (k:=k) hk p
  have hse:w.setCells g (off+k*1) (Acq p)=w.setCell ⟨g,off+k,none⟩ (J5 p):=by rw [Nat.mul_one];rfl
  rw [hse] at hset
  have c:=Nf w g (off+k) (J5 p)
  exact ⟨c.keep h.blk (fun e=>h.bl (e▸hg)),by simpa using hset,h.g.keep c (fun x hx e=>h.lg g hg (e▸hx)),h.bl,h.bg,h.lg,fun x hx=>Nat.lt_of_lt_of_le (h.lt1 x hx) c.size,fun x hx=>Nat.lt_of_lt_of_le (h.lt2 x hx) c.size⟩
theorem E9.setG {g off n cap k:Nat} {p:Int} (h:E9 w b ps gs vl (.slice (some ⟨g,off,none⟩) n cap) T Sl Sg) (hk:k<gs.length):E9 (w.setCell ⟨g,off+k,none⟩ (.int .i64 p)) b ps (gs.set k p) vl (.slice (some ⟨g,off,none⟩) n cap) T Sl Sg:=by
  have hnn:n=gs.length:=Pq h.g
  obtain ⟨g',off',cap',cs,e,hb9,_,_,_,_,hg,hgl⟩:=h.g.place (by omega)
  cases e
  have hset:=Bb.setElem Mj h.g (k:=k) hk p
  have hse:w.setCells g (off+k*1) (Aei p)=w.setCell ⟨g,off+k,none⟩ (.int .i64 p):=by rw [Nat.mul_one];rfl
  rw [hse] at hset
  have c:=Nf w g (off+k) (.int .i64 p)
  exact ⟨c.keep h.blk (fun e=>h.bg (e▸hg)),h.l.keep c (fun x hx e=>h.lg x hx (e▸hg)),by simpa using hset,h.bl,h.bg,h.lg,fun x hx=>Nat.lt_of_lt_of_le (h.lt1 x hx) c.size,fun x hx=>Nat.lt_of_lt_of_le (h.lt2 x hx) c.size⟩
end
def F2:List (Option Nat)→Option Nat
  | []=>none
  | none::_=>some 0
  | some _::r=>(F2 r).map (·+1)
theorem O7:∀ (ps:List (Option Nat)) (k:Nat),(∀ j,j<k→∃ b,ps[j]?=some (some b))→ps[k]?=some none→F2 ps=some k
  | [],k,_,h=>by simp at h
  | none::r,k,h,_=>by
    rcases k with _|k
    · rfl
    · obtain ⟨b,hb⟩:=h 0 (by omega);simp at hb
  | some a::r,k,h,hk=>by
    rcases k with _|k
    · simp at hk
    · have:=O7 r k (fun j hj=>by simpa using h (j+1) (by omega)) (by simpa using hk)
      simp [F2,this]
theorem Ly:∀ (ps:List (Option Nat)),(∀ j,j<ps.length→∃ b,ps[j]?=some (some b))→F2 ps=none
  | [],_=>rfl
  | none::r,h=>by obtain ⟨b,hb⟩:=h 0 (by simp);simp at hb
  | some a::r,h=>by
    have:=Ly r (fun j hj=>by simpa using h (j+1) (by simp;omega))
    simp [F2,this]
theorem Vi:∀ (ps:List (Option Nat)) (k:Nat),F2 ps=some k→ps[k]?=some none
  | [],k,h=>by cases h
  | none::r,k,h=>by simp [F2] at h;subst h;rfl
  | some a::r,k,h=>by
    simp only [F2,Option.map_eq_some_iff] at h
    obtain ⟨j,hj,rfl⟩:=h
    simpa using Vi r j hj
def Jd (ps:List (Option Nat)):Int:=match F2 ps with|some k=>k|none=>-1
def Bk (ps:List (Option Nat)) (gs:List Int) (n g:Int):Option Nat:=
  if n<0∨(ps.length:Int)≤n then none else match ps[n.toNat]?,gs[n.toNat]? with
    | some (some b),some x=>if x - 1=g then some b else none
    | _,_=>none
def Fj:List (Option Nat)→Nat
  | []=>0
  | none::r=>Fj r
  | some _::r=>Fj r+1
theorem Ov:∀ l:List (Option Nat),Fj l≤l.length
  | []=>Nat.le_refl _
  | none::r=>by have:=Ov r;simp [Fj];omega
  | some _::r=>by have:=Ov r;simp [Fj];omega
theorem W1 (l:List (Option Nat)) (k:Nat) (p:Option Nat) (h:l[k]?=some p):Fj (l.take (k+1))=Fj (l.take k)+(if p.isSome then 1 else 0):=by
  have:∀ (a b:List (Option Nat)),Fj (a++b)=Fj a+Fj b:=by
    intro a b
    induction a with
    | nil=>simp [Fj]
    | cons x a ih=>cases x<;>simp [Fj,ih];omega
  rw [List.take_add_one,h,this]
  cases p<;>simp [Fj]
theorem Nw {P:Program} (w:World) {tp te:TypeId} (a:Addr) (hp:P.underlying tp=some (.pointer te)):(binOp .eql tp (.pointer none) (.pointer (some a))).run P w=.ok (.bool false) w:=by
  have h:∀ d:Nat,(Op.equalIn (d+1) tp (.pointer none) (.pointer (some a))).run P w=.ok false w:=fun d=>by
    simp [Op.equalIn,run_underlying hp]
  simp only [binOp]
  simp [Op.equal,Op.maxDepth,h 9999]
def Agv (ps:List (Option Nat)) (w:World) (i:Value) (wr:World):Prop:=∃ k:Nat,k≤ps.length∧i=.int .i64 k∧Chg Nil w wr∧∀ j,j<k→∃ b,ps[j]?=some (some b)
theorem Qa (v:Value) (ps:List (Option Nat)) (S:Nat→Prop) (w:World) (hs:Bb w v 140 1 ps.length (ps.flatMap Acq) S) (hl:ps.length≤300) :
    Calls Tryz.prog 66 #[v,.pointer none] w fun e w'=>e=.returned (.int .i64 (Jd ps))∧Chg Nil w w':=by
  obtain ⟨a,cap,rfl⟩:=hs.shape
  have HS:=Lib.hid hs
  clear hs
  go_enter Tryz.func66,Tryz.ntmps66
  go_wp2_with fail
  go_loopw [8] (fun i wr=>Agv ps w i wr) (fun i _=>(ps.length - intOf i).toNat)
  case atStart=>exact ⟨0,Nat.zero_le _,rfl,Chg.refl _ _,fun j hj=>absurd hj (Nat.not_lt_zero _)⟩
  case round=>
    obtain ⟨k,hk,rfl,hC,hall⟩:=hrel
    have HALL:=Lib.hid hall
    clear hall
    by_cases hlt:k<ps.length
    · have j1:(k:Int)<(ps.length:Int):=by omega
      have j0:(0:Int)≤(k:Int):=by omega
      obtain ⟨g,off,cap',cs,e,_,hn,_,_,_,_,_⟩:=HS.out.place (by omega)
      cases e
      obtain ⟨p,hp⟩:∃ p,ps[k]?=some p:=⟨ps[k],List.getElem?_eq_getElem _⟩
      have y0:=((HS.out.keep hC (fun _ _ f=>f)).elem Ij hp 0 _ rfl).1
      simp only [Nat.mul_one,Nat.add_zero] at y0
      have hkc:k<cap:=by omega
      have HP:=Lib.hid hp
      clear hp
      cases p with
      | none=>
        simp only [J5,Option.map_none] at y0
        have hr:Jd ps=k:=by unfold Jd;rw [O7 ps k HALL.out HP.out]
        have HR:=Lib.hid hr
        clear hr
        go_wp2_with fail
        go_ret
        exact ⟨by rw [HR.out];rfl,hC⟩
      | some b=>
        simp only [J5,Option.map_some] at y0
        have HN:Hid (∀ j,j<k+1→∃ b,ps[j]?=some (some b)):=Lib.hid (fun j hj=>by
          rcases Nat.lt_or_ge j k with h|h
          · exact HALL.out j h
          · obtain rfl:j=k:=by omega
            exact ⟨b,HP.out⟩)
        have hq:=fun W=>Nw (P:=Tryz.prog) W (⟨b,0,none⟩:Addr) Tryz.underlying140
        go_wp2_with fail
        go_roundw
        case rel=>exact ⟨k+1,by omega,by go_num,hC,HN.out⟩
        case measure=>simp [intOf];omega
    · obtain rfl:k=ps.length:=by omega
      have hr:Jd ps=-1:=by unfold Jd;rw [Ly ps HALL.out]
      have HR:=Lib.hid hr
      clear hr
      go_wp2_with fail
      go_ret
      exact ⟨by rw [HR.out];rfl,hC⟩
def N0 (n g:Int):Value:=.agg #[.int .i64 n,.int .i64 g]
theorem Ads {ps:List (Option Nat)} {gs:List Int} {n g:Int} (h:n<0∨(ps.length:Int)≤n):Bk ps gs n g=none:=if_pos h
theorem Hp {ps:List (Option Nat)} {gs:List Int} {k:Nat} {g x:Int} {p:Option Nat} (h1:ps[k]?=some p) (h2:gs[k]?=some x):Bk ps gs k g=p.bind (fun b=>if x - 1=g then some b else none):=by
  obtain ⟨hl,_⟩:=List.getElem?_eq_some_iff.1 h1
  unfold Bk
  rw [if_neg (by omega)]
  simp only [Int.toNat_natCast,h1,h2]
  cases p<;>rfl
theorem Sb {B:Nat} (ad:Nat→Addr) (b:Nat) (n g:Int) (ps:List (Option Nat)) (gs:List Int) (vl vg:Value) (T:TypeId) (Sl Sg:Nat→Prop) (w:World) (he:Env B ad [10] w) (ht:E9 w b ps gs vl vg T Sl Sg) (hl:ps.length=gs.length) (hr:∀ x∈gs,0≤x∧x≤1000000) :
    Calls Tryz.prog 67 #[.pointer (some ⟨b,0,none⟩),N0 n g] w fun e w'=>e=.returned (.tuple #[J5 (Bk ps gs n g),Ag ad (if (Bk ps gs n g).isSome then 0 else 10)])∧Chg Nil w w':=by
  obtain ⟨q1,q1l⟩:=he.get (c:=10) (by simp)
  simp only [gl] at q1 q1l
  have e0:=A9 ht.blk 0
  have e1:=A9 ht.blk 1
  have gb:=lt_of_block ht.blk
  simp at e0 e1
  have HT:=Lib.hid ht
  obtain ⟨al,cl,rfl⟩:=ht.l.shape
  obtain ⟨ag,cg,rfl⟩:=ht.g.shape
  have HL:=Lib.hid hl
  have HRG:=Lib.hid hr
  clear he ht hl hr
  unfold N0
  by_cases hbad:n<0∨(ps.length:Int)≤n
  · rw [Ads hbad]
    have hgo:n<0∨(¬n<0∧(ps.length:Int)≤n):=by omega
    clear hbad
    rcases hgo with h|⟨h,h'⟩
    case' inl=>have hd:decide (n<0)=true:=by simpa using h
    case' inr=>have hd:decide (n<0)=false:=by simp;omega
    all_goals
      go_enter Tryz.func67,Tryz.ntmps67
      go_wp2_with fail
      go_quiet (fail)
      go_wp2_with fail
      go_quiet (fail)
      go_wp2_with fail
      go_ret2
      exact ⟨rfl,by repeat (first|exact Chg.refl _ _|exact Chg.drewN _ _|refine Chg.drew ?_|refine Chg.drewsN ?_ _|refine Chg.alloc ?_ _)⟩
  obtain ⟨k,rfl⟩:∃ k:Nat,n=k:=⟨n.toNat,by omega⟩
  have hk:k<ps.length:=by omega
  have hkg:k<gs.length:=by have:=HL.out;omega
  obtain ⟨p,hp⟩:∃ p,ps[k]?=some p:=⟨ps[k],List.getElem?_eq_getElem hk⟩
  obtain ⟨x,hx⟩:∃ x,gs[k]?=some x:=⟨gs[k],List.getElem?_eq_getElem hkg⟩
  rw [Hp hp hx]
  have hxr:=HRG.out x (List.mem_of_getElem? hx)
  obtain ⟨g1,o1,c1,cs1,e,_,n1,_,_,_,_,gl1⟩:=HT.out.l.place (by omega)
  cases e
  obtain ⟨g2,o2,c2,cs2,e,_,n2,_,_,_,_,gl2⟩:=HT.out.g.place (by omega)
  cases e
  have y1:=(HT.out.l.elem Ij hp 0 _ rfl).1
  have y2:=(HT.out.g.elem Mj hx 0 _ rfl).1
  simp only [Nat.mul_one,Nat.add_zero] at y1 y2
  have d1:decide ((k:Int)<0)=false:=decide_eq_false (by omega)
  have d2:decide (ps.length≤k)=false:=decide_eq_false (by omega)
  have j0:(0:Int)≤(k:Int):=by omega
  have j1:(k:Int)<(ps.length:Int):=by omega
  have j2:(k:Int)<(gs.length:Int):=by omega
  have kc1:k<cl:=by omega
  have kc2:k<cg:=by omega
  clear hp hx hbad
  cases p with
  | none=>
    simp only [J5,Option.map_none] at y1
    simp only [Option.bind_none,Option.isSome_none,Bool.false_eq_true,if_false]
    go_enter Tryz.func67,Tryz.ntmps67
    go_wp2_with fail
    go_quiet (fail)
    go_wp2_with fail
    go_quiet (fail)
    go_wp2_with fail
    go_ret2
    exact ⟨rfl,by repeat (first|exact Chg.refl _ _|exact Chg.drewN _ _|refine Chg.drew ?_|refine Chg.drewsN ?_ _|refine Chg.alloc ?_ _)⟩
  | some nb=>
    simp only [J5,Option.map_some] at y1
    have hw:IntKind.i64.wrap (x - 1)=x - 1:=IntWalk.i64_in _ (by omega)
    by_cases hg:x - 1=g
    · have d3:decide (x - 1=g)=true:=by simpa using hg
      simp only [Option.bind_some,if_pos hg,Option.isSome_some,if_true,Nj]
      go_enter Tryz.func67,Tryz.ntmps67
      go_wp2_with fail
      go_quiet (fail)
      go_wp2_with fail
      go_quiet (fail)
      go_wp2_with fail
      go_ret2
      exact ⟨rfl,by repeat (first|exact Chg.refl _ _|exact Chg.drewN _ _|refine Chg.drew ?_|refine Chg.drewsN ?_ _|refine Chg.alloc ?_ _)⟩
    · have d3:decide (x - 1=g)=false:=by simpa using hg
      simp only [Option.bind_some,if_neg hg,Option.isSome_none,Bool.false_eq_true,if_false]
      go_enter Tryz.func67,Tryz.ntmps67
      go_wp2_with fail
      go_quiet (fail)
      go_wp2_with fail
      go_quiet (fail)
      go_wp2_with fail
      go_ret2
      exact ⟨rfl,by repeat (first|exact Chg.refl _ _|exact Chg.drewN _ _|refine Chg.drew ?_|refine Chg.drewsN ?_ _|refine Chg.alloc ?_ _)⟩
theorem Acl:(Tryz.prog.info? 140).map (fun i=>(i.zero,i.size,i.bytes))=some (some (.pointer none),1,8):=by kernel_rfl
theorem Abn:(Tryz.prog.info? 3).map (fun i=>(i.zero,i.size,i.bytes))=some (some (.int .i64 0),1,8):=by kernel_rfl
theorem Aeb {B:Nat} (ad:Nat→Addr) (b k nb:Nat) (g:Int) (ps:List (Option Nat)) (gs:List Int) (vl vg:Value) (T:TypeId) (Sl Sg:Nat→Prop) (w:World) (he:Env B ad [10] w) (ht:E9 w b ps gs vl vg T Sl Sg) (hl:ps.length=gs.length) (hr:∀ x∈gs,0≤x∧x≤1000000) (hk:k<ps.length) (hs:Bk ps gs k g=some nb) :
    Calls Tryz.prog 90 #[.pointer (some ⟨b,0,none⟩),N0 k g] w fun e w'=>e=.returned .nilIface∧Chg Sl w w'∧E9 w' b (ps.set k none) gs vl vg T Sl Sg:=by
  have ha:=(Chg.refl Nil w).alloc (.cells #[.int .i64 k,.int .i64 g] 34)
  have hbx:=Bp w (.cells #[.int .i64 (k:Int),.int .i64 g] 34)
  have HAT:=Lib.hid (Sb (B:=B) ad b k g ps gs vl vg T Sl Sg _ (he.keepN ha) (ht.same ha) hl hr)
  rw [hs] at HAT
  have HA:=Lib.hid ha
  have HBX:=Lib.hid hbx
  have HT:=Lib.hid (ht.same ha)
  obtain ⟨g1,o1,c1,cs1,rfl,_,n1,_,_,_,hS1,gl1⟩:=HT.out.l.place (by omega)
  clear he ht hl hr hs ha hbx
  unfold N0 at *
  go_enter Tryz.func90,Tryz.ntmps90
  go_wp2_with fail
  refine HAT.out.mono ?_
  rintro e w2 ⟨rfl,hc2⟩
  simp only [Option.isSome_some,if_true,J5,Option.map_some,Nj]
  have HR:=Lib.hid (HT.out.same hc2)
  have e0:=A9 HR.out.blk 0
  have gb:=lt_of_block HR.out.blk
  have hb2:=hc2.keep HBX.out (fun f=>f)
  have b0:=A9 hb2 0
  have gx:=lt_of_block hb2
  simp at e0 b0
  have y:=HR.out.l.elem Ij (List.getElem?_eq_getElem hk) 0 _ rfl
  have y0:=y.1
  have y1:=y.2.1
  have y2:=y.2.2
  simp only [Nat.mul_one,Nat.add_zero] at y0 y1
  have j0:(0:Int)≤(k:Int):=by omega
  have j1:(k:Int)<(ps.length:Int):=by omega
  have kc:k<c1:=by omega
  have HC2:=Lib.hid hc2
  clear y hb2 hc2
  go_wp2_with fail
  go_region
  go_wp2_with fail
  go_ret
  refine ⟨rfl,?_,?_⟩
  · exact (((HA.out.nil (S:=Sl)).trans HC2.out (fun _ _ f=>f.elim)).setCell (p:=⟨g1,o1+k,none⟩) (.inr hS1) _).drew
  · exact ((HR.out.setL (p:=none) hk).same ((Chg.refl Nil _).drew))
def RelCt (ps:List (Option Nat)) (w:World) (c i:Value) (wr:World):Prop:=∃ k:Nat,k≤ps.length∧c=.int .i64 (Fj (ps.take k))∧i=.int .i64 k∧Chg Nil w wr
theorem Wb (b:Nat) (ps:List (Option Nat)) (gs:List Int) (vl vg:Value) (T:TypeId) (Sl Sg:Nat→Prop) (w:World) (ht:E9 w b ps gs vl vg T Sl Sg) (hl:ps.length≤300) :
    Calls Tryz.prog 47 #[.pointer (some ⟨b,0,none⟩)] w fun e w'=>e=.returned (.int .i64 (Fj ps))∧Chg Nil w w':=by
  have e0:=A9 ht.blk 0
  simp at e0
  obtain ⟨al,cl,rfl⟩:=ht.l.shape
  have HT:=Lib.hid ht
  clear ht
  go_enter Tryz.func47,Tryz.ntmps47
  go_wp2_with fail
  go_loopw [3,11] (fun c i wr=>RelCt ps w c i wr) (fun _ i _=>(ps.length - intOf i).toNat)
  case atStart=>exact ⟨0,Nat.zero_le _,rfl,rfl,Chg.refl _ _⟩
  case round=>
    obtain ⟨k,hk,rfl,rfl,hC⟩:=hrel
    by_cases hlt:k<ps.length
    · obtain ⟨p,hp⟩:∃ p,ps[k]?=some p:=⟨ps[k],List.getElem?_eq_getElem hlt⟩
      obtain ⟨g1,o1,c1,cs1,e,_,n1,_,_,_,_,gl1⟩:=HT.out.l.place (by omega)
      cases e
      have y1:=((HT.out.l.keep hC (fun _ _ f=>f)).elem Ij hp 0 _ rfl).1
      simp only [Nat.mul_one,Nat.add_zero] at y1
      have j0:(0:Int)≤(k:Int):=by omega
      have j1:(k:Int)<(ps.length:Int):=by omega
      have kc:k<cl:=by omega
      have hu:=W1 ps k p hp
      have hu1:=Ov (ps.take k)
      have hu2:(ps.take k).length=k:=by simp;omega
      obtain ⟨u,hu3⟩:∃ u,u=Fj (ps.take k):=⟨_,rfl⟩
      rw [← hu3] at hu hu1 ⊢
      have hub:u≤k:=by omega
      have HU:=Lib.hid hu
      clear hu hu1 hu2 hu3 hp
      cases p with
      | none=>
        simp only [J5,Option.map_none] at y1
        go_wp2_with fail
        go_roundw
        case rel=>exact ⟨k+1,by omega,by rw [HU.out];simp,by go_num,hC⟩
        case measure=>simp [intOf];omega
      | some nb=>
        simp only [J5,Option.map_some] at y1
        go_wp2_with fail
        go_roundw
        case rel=>exact ⟨k+1,by omega,by rw [HU.out];simp,by go_num,hC⟩
        case measure=>simp [intOf];omega
    · obtain rfl:k=ps.length:=by omega
      have hu:ps.take ps.length=ps:=List.take_of_length_le (Nat.le_refl _)
      rw [hu]
      clear hu
      go_wp2_with fail
      go_ret
      exact ⟨rfl,hC⟩
theorem Mo (w:World) (c1 c2 c3:Array Value) (T1 T2 T3:TypeId):(((w.alloc (.cells c1 T1)).alloc (.cells c2 T2)).alloc (.cells c3 T3)).heap[w.heap.size]?=some (.cells c1 T1 (0,0))∧
    (((w.alloc (.cells c1 T1)).alloc (.cells c2 T2)).alloc (.cells c3 T3)).heap[w.heap.size+1]?=some (.cells c2 T2 (0,0))∧(((w.alloc (.cells c1 T1)).alloc (.cells c2 T2)).alloc (.cells c3 T3)).heap[w.heap.size+1+1]?=some (.cells c3 T3 (0,0)):=by
  have q1:=Bp w (.cells c1 T1)
  have q2:=Bp (w.alloc (.cells c1 T1)) (.cells c2 T2)
  have q3:=Bp ((w.alloc (.cells c1 T1)).alloc (.cells c2 T2)) (.cells c3 T3)
  refine ⟨(((Chg.refl Nil _).alloc _).alloc _).keep q1 (fun f=>f),?_,?_⟩
  · have:=((Chg.refl Nil _).alloc (.cells c3 T3)).keep q2 (fun f=>f);simpa using this
  · simpa using q3
theorem Yp {W:World} {b g1 g2 n:Nat} {T:TypeId} (hn:n≤300) (hb:W.heap[b]?=some (.cells #[.slice (some ⟨g1,0,none⟩) n n,.slice (some ⟨g2,0,none⟩) n n] T (0,0)))
    (h1:W.heap[g1]?=some (.cells (Array.replicate n (.pointer none)) 140 (0,0))) (h2:W.heap[g2]?=some (.cells (Array.replicate n (.int .i64 0)) 3 (0,0))) (d1:¬b=g1) (d2:¬b=g2) (d3:¬g1=g2) :
    E9 W b (List.replicate n none) (List.replicate n 0) (.slice (some ⟨g1,0,none⟩) n n) (.slice (some ⟨g2,0,none⟩) n n) T (·=g1) (·=g2):=by
  have hx1:(List.replicate n (none:Option Nat)).flatMap Acq=List.replicate n (.pointer none):=T5 J5 n none
  have hx2:(List.replicate n (0:Int)).flatMap Aei=List.replicate n (.int .i64 0):=T5 (fun x=>.int .i64 x) n 0
  refine ⟨hb,?_,?_,d1,d2,fun x e1 e2=>d3 (e1▸e2),fun x e=>(by subst e;exact lt_of_block h1),fun x e=>(by subst e;exact lt_of_block h2)⟩
  · rw [hx1,List.length_replicate];exact I2 (by omega) (by simpa using h1)
  · rw [hx2,List.length_replicate];exact I2 (by omega) (by simpa using h2)
def Agf (w:World) (n:Nat) (e:Ending) (w':World):Prop:=∃ b vl vg T Sl Sg,e=.returned (.tuple #[.pointer (some ⟨b,0,none⟩),.nilIface])∧Chg Nil w w'∧E9 w' b (List.replicate n none) (List.replicate n 0) vl vg T Sl Sg∧w.heap.size≤b∧(∀ x,Sl x→w.heap.size≤x)∧(∀ x,Sg x→w.heap.size≤x)
theorem Abr (n:Nat) (w:World) (h1:1≤n) (h2:n≤300):Calls Tryz.prog 29 #[.int .i64 n] w (Agf w n):=by
  have g1:¬(n:Int)<1:=by omega
  have g2:¬300<(n:Int):=by omega
  have hm1:=fun W=>W9 (P:=Tryz.prog) (T:=136) Tryz.underlying136 Acl rfl W n (by omega) (by omega)
  have hm2:=fun W=>W9 (P:=Tryz.prog) (T:=84) Tryz.underlying84 Abn rfl W n (by omega) (by omega)
  go_enter Tryz.func29,Tryz.ntmps29
  go_wp2_with fail
  go_region
  all_goals
    go_wp2_with fail
    go_ret2
  · obtain ⟨q1,q2,q3⟩:=Mo w (Array.replicate n (.pointer none)) (Array.replicate n (.int .i64 0)) #[.slice (some ⟨w.heap.size,0,none⟩) n n,.slice (some ⟨w.heap.size+1,0,none⟩) n n] 140 3 138
    exact ⟨w.heap.size+1+1,_,_,_,_,_,rfl,(((((Chg.refl Nil w).alloc _).alloc _).alloc _).drew),(Yp h2 q3 q1 q2 (by omega) (by omega) (by omega)).same ((Chg.refl Nil _).drew),by omega,fun x e=>(by have:x=_:=e;omega),fun x e=>(by have:x=_:=e;omega)⟩
  · obtain ⟨q1,q2,q3⟩:=Mo w (Array.replicate n (.int .i64 0)) (Array.replicate n (.pointer none)) #[.slice (some ⟨w.heap.size+1,0,none⟩) n n,.slice (some ⟨w.heap.size,0,none⟩) n n] 3 140 138
    exact ⟨w.heap.size+1+1,_,_,_,_,_,rfl,(((((Chg.refl Nil w).alloc _).alloc _).alloc _).drew),(Yp h2 q3 q2 q1 (by omega) (by omega) (by omega)).same ((Chg.refl Nil _).drew),by omega,fun x e=>(by have:x=_:=e;omega),fun x e=>(by have:x=_:=e;omega)⟩
theorem Z5 {B:Nat} (ad:Nat→Addr) (b:Nat) (kind:Int) (ps:List (Option Nat)) (gs:List Int) (vl vg:Value) (T:TypeId) (Sl Sg:Nat→Prop) (w:World) (he:Env B ad [9] w) (ht:E9 w b ps gs vl vg T Sl Sg) (hk:kind=1∨kind=2) (hl:ps.length≤300) (hf:F2 ps=none) :
    Calls Tryz.prog 30 #[.pointer (some ⟨b,0,none⟩),.int .i64 kind] w fun e w'=>e=.returned (.tuple #[N0 0 0,Ag ad 9])∧Chg Nil w w':=by
  have ha:=(Chg.refl Nil w).alloc (.cells #[.int .i64 0,.int .i64 0] 34)
  have hix:Jd ps=-1:=by unfold Jd;rw [hf]
  have HIX:=Lib.hid (Qa vl ps Sl _ (ht.same ha).l hl)
  rw [hix] at HIX
  have HE:=Lib.hid (he.keepN ha)
  obtain ⟨_,q9⟩:=he.get (c:=9) (by simp)
  simp only [gl] at q9
  have hne:¬(3=w.heap.size):=Nat.ne_of_lt q9
  have HA:=Lib.hid ha
  have HBX:=Lib.hid (Bp w (.cells #[.int .i64 (0:Int),.int .i64 0] 34))
  have e0:=A9 (ht).blk 0
  have gb:=lt_of_block ht.blk
  simp at e0
  clear he ht hl hf hix ha
  unfold N0
  rcases hk with rfl|rfl
  all_goals
    go_enter Tryz.func30,Tryz.ntmps30
    go_wp2_with fail
    refine HIX.out.mono ?_
    rintro e w2 ⟨rfl,hc2⟩
    obtain ⟨q1,q1l⟩:=(HE.out.keepN hc2).get (c:=9) (by simp)
    simp only [gl] at q1 q1l
    have hb2:=hc2.keep HBX.out (fun f=>f)
    have x0:=A9 hb2 0
    have x1:=A9 hb2 1
    have f0:=Ef hb2 0
    have f1:=Ef hb2 1
    have gx:=lt_of_block hb2
    simp at x0 x1
    clear hb2
    go_wp2_with fail
    go_region
    go_wp2_with fail
    have k0:((w2.setCell ⟨w.heap.size,0,none⟩ (.int .i64 0)).setCell ⟨w.heap.size,1,none⟩ (.int .i64 0)).drew.cell? ⟨w.heap.size,0,none⟩=some (.int .i64 0):=by have:=A9 (Ct (Ct (hc2.keep HBX.out (fun f=>f)) 0 (.int .i64 0)) 1 (.int .i64 0)) 0;simpa using this
    have k1:((w2.setCell ⟨w.heap.size,0,none⟩ (.int .i64 0)).setCell ⟨w.heap.size,1,none⟩ (.int .i64 0)).drew.cell? ⟨w.heap.size,1,none⟩=some (.int .i64 0):=by have:=A9 (Ct (Ct (hc2.keep HBX.out (fun f=>f)) 0 (.int .i64 0)) 1 (.int .i64 0)) 1;simpa using this
    have hC:=((((HA.out.then hc2).setCell (p:=⟨w.heap.size,0,none⟩) (.inl (by simp)) (.int .i64 0)).setCell (p:=⟨w.heap.size,1,none⟩) (.inl (by simp)) (.int .i64 0)).drew)
    revert k0 k1 hC
    generalize ((w2.setCell ⟨w.heap.size,0,none⟩ (.int .i64 0)).setCell ⟨w.heap.size,1,none⟩ (.int .i64 0)).drew=w3
    intro k0 k1 hC
    (try simp only [Exit.inBlock,Exit.then])
    refine bodyPost_ret (by simp [results,Tryz.results30,go_sem,k0,k1];try rfl) rfl ?_
    exact ⟨rfl,hC⟩
def Afs (w:World) (b k nb:Nat) (kind:Int) (ps:List (Option Nat)) (gs:List Int) (x:Int) (vl vg:Value) (T:TypeId) (Sl Sg:Nat→Prop) (e:Ending) (w':World):Prop:=
  e=.returned (.tuple #[N0 k x,.nilIface])∧Chg (fun y=>Sl y∨Sg y) w w'∧E9 w' b (ps.set k (some nb)) (gs.set k (x+1)) vl vg T Sl Sg∧
    ∃ dp,w'.heap[nb]?=some (.cells #[.int .i64 kind,.int .i64 0,.int .i64 0,.int .i64 0,.int .i64 0,.int .i64 0,dp] 143 (0,0))∧
      ((kind=2∧dp=.pointer none)∨(kind=1∧dp=.pointer (some ⟨nb+1,0,none⟩)∧w'.heap[nb+1]?=some (.cells #[.int .i64 0,.map none] 146 (0,0))))
theorem Vh {w w2:World} {b k g1 o1 n1 c1 g2 o2 n2 c2 bx nb:Nat} {y0 y1:Value} {ps:List (Option Nat)} {gs:List Int} {z:Int} {T:TypeId} {Sl Sg:Nat→Prop} {TH:TypeId}
    (h:E9 w2 b ps gs (.slice (some ⟨g1,o1,none⟩) n1 c1) (.slice (some ⟨g2,o2,none⟩) n2 c2) T Sl Sg) (hc:Chg Nil w w2) (hx:w2.heap[bx]?=some (.cells #[y0,y1] TH (0,0))) (hbx:w.heap.size≤bx) (hs1:Sl g1) (hs2:Sg g2) (hb:b<w.heap.size) (hl1:∀ y,Sl y→y<w.heap.size) (hl2:∀ y,Sg y→y<w.heap.size) (hk:k<ps.length) (hkg:k<gs.length) (vk vx:Value) :
    ∃ W,W=((((w2.setCell ⟨g1,o1+k,none⟩ (J5 (some nb))).setCell ⟨g2,o2+k,none⟩ (.int .i64 z)).setCell ⟨bx,0,none⟩ vk).setCell ⟨bx,1,none⟩ vx)∧
      E9 W b (ps.set k (some nb)) (gs.set k z) (.slice (some ⟨g1,o1,none⟩) n1 c1) (.slice (some ⟨g2,o2,none⟩) n2 c2) T Sl Sg∧W.heap[bx]?=some (.cells #[vk,vx] TH (0,0))∧Chg (fun y=>Sl y∨Sg y) w W∧W.heap.size=w2.heap.size:=by
  refine ⟨_,rfl,?_,?_,?_,by simp⟩
  · have h1:=(h.setL (p:=some nb) hk).setG (p:=z) hkg
    have c3:=(Nf ((w2.setCell ⟨g1,o1+k,none⟩ (J5 (some nb))).setCell ⟨g2,o2+k,none⟩ (.int .i64 z)) bx 0 vk).then (Nf _ bx 1 vx)
    exact h1.keep c3 (fun e=>by have:b=bx:=e;omega) (fun y hy e=>by have:y=bx:=e;have:=hl1 y hy;omega) (fun y hy e=>by have:y=bx:=e;have:=hl2 y hy;omega)
  · have c1:=(Nf w2 g1 (o1+k) (J5 (some nb))).keep hx (fun e=>by have:bx=g1:=e;have:=hl1 g1 hs1;omega)
    have c2:=(Nf _ g2 (o2+k) (.int .i64 z)).keep c1 (fun e=>by have:bx=g2:=e;have:=hl2 g2 hs2;omega)
    have:=Ct (Ct c2 0 vk) 1 vx
    simpa using this
  · exact (((hc.nil (S:=fun y=>Sl y∨Sg y)).setCell (p:=⟨g1,o1+k,none⟩) (.inr (.inl hs1)) _).setCell (p:=⟨g2,o2+k,none⟩) (.inr (.inr hs2)) _ |>.setCell (p:=⟨bx,0,none⟩) (.inl hbx) _).setCell (p:=⟨bx,1,none⟩) (.inl hbx) _
theorem Yj (b k:Nat) (kind x:Int) (ps:List (Option Nat)) (gs:List Int) (vl vg:Value) (T:TypeId) (Sl Sg:Nat→Prop) (w:World) (ht:E9 w b ps gs vl vg T Sl Sg) (hk:kind=1∨kind=2) (hl:ps.length≤300) (hlg:ps.length=gs.length) (hf:F2 ps=some k) (hx:gs[k]?=some x) (hxr:0≤x∧x≤1000000) :
    Calls Tryz.prog 30 #[.pointer (some ⟨b,0,none⟩),.int .i64 kind] w fun e w'=>∃ nb,w.heap.size≤nb∧Afs w b k nb kind ps gs x vl vg T Sl Sg e w':=by
  have ha:=(Chg.refl Nil w).alloc (.cells #[.int .i64 0,.int .i64 0] 34)
  have hix:Jd ps=k:=by unfold Jd;rw [hf]
  have HIX:=Lib.hid (Qa vl ps Sl _ (ht.same ha).l hl)
  rw [hix] at HIX
  have HA:=Lib.hid ha
  have HBX:=Lib.hid (Bp w (.cells #[.int .i64 (0:Int),.int .i64 0] 34))
  have HT:=Lib.hid ht
  have e0:=A9 ht.blk 0
  have gb:=lt_of_block ht.blk
  simp at e0
  have hpk:=Vi ps k hf
  have hkl:k<ps.length:=(List.getElem?_eq_some_iff.1 hpk).1
  have hkg:k<gs.length:=(List.getElem?_eq_some_iff.1 hx).1
  obtain ⟨g1,o1,c1,cs1,rfl,_,n1,_,_,_,hS1,gl1⟩:=ht.l.place (by omega)
  obtain ⟨g2,o2,c2,cs2,rfl,_,n2,_,_,_,hS2,gl2⟩:=ht.g.place (by omega)
  have hg12:¬g1=g2:=fun e=>ht.lg g1 hS1 (e▸hS2)
  have hbg1:¬b=g1:=fun e=>ht.bl (e▸hS1)
  have hbg2:¬b=g2:=fun e=>ht.bg (e▸hS2)
  have j0:(0:Int)≤(k:Int):=by omega
  have j1:(k:Int)<(ps.length:Int):=by omega
  have j2:(k:Int)<(gs.length:Int):=by omega
  have kc1:k<c1:=by omega
  have kc2:k<c2:=by omega
  have hw1:IntKind.i64.wrap (x+1)=x+1:=IntWalk.i64_in _ (by omega)
  have hw2:IntKind.i64.wrap (x+1 - 1)=x:=by rw [IntWalk.i64_in _ (by omega)];omega
  have HX:=Lib.hid hx
  have HLG:=Lib.hid hlg
  have HL1:=Lib.hid ht.lt1
  have HL2:=Lib.hid ht.lt2
  clear ht hl hf hix ha hpk hx hlg
  rcases hk with rfl|rfl
  case inl=>
    go_enter Tryz.func30,Tryz.ntmps30
    go_wp2_with fail
    refine HIX.out.mono ?_
    rintro e w2 ⟨rfl,hc2⟩
    have hT2:=(HT.out.same HA.out).same hc2
    have b0:=A9 hT2.blk 0
    have b1:=A9 hT2.blk 1
    have gb2:=lt_of_block hT2.blk
    simp at b0 b1
    have y1:=hT2.l.elem Ij (List.getElem?_eq_getElem hkl) 0 _ rfl
    have y2:=hT2.g.elem Mj HX.out 0 _ rfl
    have y10:=y1.1
    have y11:=y1.2.1
    have y12:=y1.2.2
    have y20:=y2.1
    have y21:=y2.2.1
    have y22:=y2.2.2
    simp only [Nat.mul_one,Nat.add_zero] at y10 y11 y20 y21
    have hb2:=hc2.keep HBX.out (fun f=>f)
    have x0:=A9 hb2 0
    have x1:=A9 hb2 1
    have f0:=Ef hb2 0
    have f1:=Ef hb2 1
    have gx:=lt_of_block hb2
    simp at x0 x1
    have nx1:¬w.heap.size=g1:=by omega
    have nx2:¬w.heap.size=g2:=by omega
    have nxb:¬w.heap.size=b:=by omega
    have HT2:=Lib.hid hT2
    have HC2:=Lib.hid hc2
    have HB2:=Lib.hid hb2
    clear hT2 hb2 hc2 y1 y2
    go_wp2_with fail
    obtain ⟨W,hW,q1,q2,q3,q4⟩:=Vh (nb:=w2.heap.size) (z:=x+1) HT2.out (HA.out.then HC2.out) HB2.out (Nat.le_refl _) hS1 hS2 gb HL1.out HL2.out hkl hkg (.int .i64 k) (.int .i64 x)
    simp only [J5,Option.map_some] at hW
    rw [← hW]
    clear hW
    have zz:=(HA.out.then HC2.out).size
    have n1':=Bp W (.cells #[.int .i64 1,.int .i64 0,.int .i64 0,.int .i64 0,.int .i64 0,.int .i64 0,.pointer (some ⟨w2.heap.size+1,0,none⟩)] 143)
    rw [q4] at n1'
    have n2':=((Chg.refl Nil _).alloc (.cells #[.int .i64 0,.map none] 146)).keep n1' (fun f=>f)
    have n3':=Bp (W.alloc (.cells #[.int .i64 1,.int .i64 0,.int .i64 0,.int .i64 0,.int .i64 0,.int .i64 0,.pointer (some ⟨w2.heap.size+1,0,none⟩)] 143)) (.cells #[.int .i64 0,.map none] 146)
    simp only [World.size_alloc,q4] at n3'
    have cA:=((Chg.refl Nil W).alloc (.cells #[.int .i64 1,.int .i64 0,.int .i64 0,.int .i64 0,.int .i64 0,.int .i64 0,.pointer (some ⟨w2.heap.size+1,0,none⟩)] 143)).alloc (.cells #[.int .i64 0,.map none] 146)
    have q5:=cA.keep q2 (fun f=>f)
    have k0:=A9 q5 0
    have k1:=A9 q5 1
    simp only [List.getElem?_toArray,List.getElem?_cons_zero,List.getElem?_cons_succ] at k0 k1
    revert n2' n3' cA k0 k1
    generalize (W.alloc (.cells #[.int .i64 1,.int .i64 0,.int .i64 0,.int .i64 0,.int .i64 0,.int .i64 0,.pointer (some ⟨w2.heap.size+1,0,none⟩)] 143)).alloc (.cells #[.int .i64 0,.map none] 146)=w5
    intro n2' n3' cA k0 k1
    (try simp only [Exit.inBlock,Exit.then])
    refine bodyPost_ret (by simp [results,Tryz.results30,go_sem,k0,k1];try rfl) rfl ?_
    exact ⟨w2.heap.size,zz,rfl,q3.trans cA (fun _ _ f=>f.elim),q1.same cA,_,n2',.inr ⟨rfl,rfl,n3'⟩⟩
  case inr=>
    go_enter Tryz.func30,Tryz.ntmps30
    go_wp2_with fail
    refine HIX.out.mono ?_
    rintro e w2 ⟨rfl,hc2⟩
    have hT2:=(HT.out.same HA.out).same hc2
    have b0:=A9 hT2.blk 0
    have b1:=A9 hT2.blk 1
    have gb2:=lt_of_block hT2.blk
    simp at b0 b1
    have y1:=hT2.l.elem Ij (List.getElem?_eq_getElem hkl) 0 _ rfl
    have y2:=hT2.g.elem Mj HX.out 0 _ rfl
    have y10:=y1.1
    have y11:=y1.2.1
    have y12:=y1.2.2
    have y20:=y2.1
    have y21:=y2.2.1
    have y22:=y2.2.2
    simp only [Nat.mul_one,Nat.add_zero] at y10 y11 y20 y21
    have hb2:=hc2.keep HBX.out (fun f=>f)
    have x0:=A9 hb2 0
    have x1:=A9 hb2 1
    have f0:=Ef hb2 0
    have f1:=Ef hb2 1
    have gx:=lt_of_block hb2
    simp at x0 x1
    have nx1:¬w.heap.size=g1:=by omega
    have nx2:¬w.heap.size=g2:=by omega
    have nxb:¬w.heap.size=b:=by omega
    have HT2:=Lib.hid hT2
    have HC2:=Lib.hid hc2
    have HB2:=Lib.hid hb2
    clear hT2 hb2 hc2 y1 y2
    go_wp2_with fail
    obtain ⟨W,hW,q1,q2,q3,q4⟩:=Vh (nb:=w2.heap.size) (z:=x+1) HT2.out (HA.out.then HC2.out) HB2.out (Nat.le_refl _) hS1 hS2 gb HL1.out HL2.out hkl hkg (.int .i64 k) (.int .i64 x)
    simp only [J5,Option.map_some] at hW
    rw [← hW]
    clear hW
    have zz:=(HA.out.then HC2.out).size
    have n1':=Bp W (.cells #[.int .i64 2,.int .i64 0,.int .i64 0,.int .i64 0,.int .i64 0,.int .i64 0,.pointer none] 143)
    rw [q4] at n1'
    have cA:=((Chg.refl Nil W).alloc (.cells #[.int .i64 2,.int .i64 0,.int .i64 0,.int .i64 0,.int .i64 0,.int .i64 0,.pointer none] 143))
    have q5:=cA.keep q2 (fun f=>f)
    have k0:=A9 q5 0
    have k1:=A9 q5 1
    simp only [List.getElem?_toArray,List.getElem?_cons_zero,List.getElem?_cons_succ] at k0 k1
    revert n1' cA k0 k1
    generalize (W.alloc (.cells #[.int .i64 2,.int .i64 0,.int .i64 0,.int .i64 0,.int .i64 0,.int .i64 0,.pointer none] 143))=w5
    intro n1' cA k0 k1
    (try simp only [Exit.inBlock,Exit.then])
    refine bodyPost_ret (by simp [results,Tryz.results30,go_sem,k0,k1];try rfl) rfl ?_
    exact ⟨w2.heap.size,zz,rfl,q3.trans cA (fun _ _ f=>f.elim),q1.same cA,_,n1',.inl ⟨rfl,rfl⟩⟩
def B1 (b:Nat) (ps:List (Option Nat)) (gs:List Int) (vl vg:Value) (T:TypeId) (Sl Sg:Nat→Prop):Res:=
  ⟨true,fun x=>x=b∨Sl x∨Sg x,fun w=>E9 w b ps gs vl vg T Sl Sg,fun w w' h hs hb=>by
    have hsl:∀ (E k n:Nat) (v:Value) (xs:List Value) (S:Nat→Prop),(∀ x,S x→w'.heap[x]?=w.heap[x]?)→Bb w v E k n xs S→Bb w' v E k n xs S:=fun E k n v xs S hS h=>by
      obtain ⟨h1,h2|⟨g,off,cap,cs,e,hbk,a,b,c,d,s⟩⟩:=h
      · exact ⟨h1,.inl h2⟩
      · exact ⟨h1,.inr ⟨g,off,cap,cs,e,(hS g s).trans hbk,a,b,c,d,s⟩⟩
    exact ⟨(hb b (.inl rfl)).trans h.blk,hsl _ _ _ _ _ _ (fun x hx=>hb x (.inr (.inl hx))) h.l,hsl _ _ _ _ _ _ (fun x hx=>hb x (.inr (.inr hx))) h.g,h.bl,h.bg,h.lg,fun x hx=>Nat.lt_of_lt_of_le (h.lt1 x hx) hs,fun x hx=>Nat.lt_of_lt_of_le (h.lt2 x hx) hs⟩,
   fun w x h hx=>by
    rcases hx with rfl|hx|hx
    · exact lt_of_block h.blk
    · exact h.lt1 x hx
    · exact h.lt2 x hx⟩
theorem Qk (n:Nat) (h1:1≤n) (h2:n≤300):Au Tryz.prog 29 #[.int .i64 n] [] fun u L=>∃ b vl vg T Sl Sg,u=.tuple #[.pointer (some ⟨b,0,none⟩),.nilIface]∧L=[B1 b (List.replicate n none) (List.replicate n 0) vl vg T Sl Sg]:=fun E w0 w ho=>
  (Abr n w h1 h2).mono fun e w' ⟨b,vl,vg,T,Sl,Sg,he,hc,ht,hb,hl,hg⟩=>⟨_,_,⟨b,vl,vg,T,Sl,Sg,rfl,rfl⟩,he,ho.push hc (r:=B1 b _ _ vl vg T Sl Sg) ht fun x hx=>by
    rcases hx with rfl|hx|hx
    · exact hb
    · exact hl x hx
    · exact hg x hx⟩
theorem Qy (b k:Nat) (x:Int) (ps:List (Option Nat)) (gs:List Int) (vl vg:Value) (T:TypeId) (Sl Sg:Nat→Prop) (hl:ps.length≤300) (hlg:ps.length=gs.length) (hf:F2 ps=some k) (hx:gs[k]?=some x) (hxr:0≤x∧x≤1000000) :
    Au Tryz.prog 30 #[.pointer (some ⟨b,0,none⟩),.int .i64 2] [B1 b ps gs vl vg T Sl Sg] fun u L=>∃ nb,u=.tuple #[N0 k x,.nilIface]∧L=[Bw true nb [.int .i64 2,.int .i64 0,.int .i64 0,.int .i64 0,.int .i64 0,.int .i64 0,.pointer none] 143,B1 b (ps.set k (some nb)) (gs.set k (x+1)) vl vg T Sl Sg]:=fun E w0 w ho=>by
  have ht:E9 w b ps gs vl vg T Sl Sg:=ho.fact 0 rfl
  refine (Yj b k 2 x ps gs vl vg T Sl Sg w ht (.inr rfl) hl hlg hf hx hxr).mono ?_
  rintro e w' ⟨nb,hnb,he,hc,ht',dp,hb',⟨_,rfl⟩|⟨h2,_⟩⟩
  · have hfo:∀ y,(B1 b ps gs vl vg T Sl Sg).foot y→y<w.heap.size:=fun y hy=>(B1 b ps gs vl vg T Sl Sg).alive w y ht hy
    refine ⟨_,_,⟨nb,rfl,rfl⟩,he,Own.unfocus (L:=[B1 b ps gs vl vg T Sl Sg]) (L':=[Bw true nb [.int .i64 2,.int .i64 0,.int .i64 0,.int .i64 0,.int .i64 0,.int .i64 0,.pointer none] 143,B1 b (ps.set k (some nb)) (gs.set k (x+1)) vl vg T Sl Sg]) (M:=[]) ho ⟨hc.mono fun y _ hy=>⟨_,List.mem_singleton.2 rfl,.inr hy,fun e=>e⟩,fun y ⟨q,h1,h2,_⟩=>⟨q,h1,h2,fun e=>by cases e⟩,?_,?_,?_⟩⟩
    · intro q hq
      simp only [List.mem_cons,List.mem_nil_iff,or_false] at hq
      rcases hq with rfl|rfl
      · exact hb'
      · exact ht'
    · refine List.pairwise_cons.2 ⟨fun q hq _ y hy hz=>?_,List.pairwise_singleton _ _⟩
      rw [List.mem_singleton.1 hq] at hz
      have h3:y=nb:=hy
      have:=hfo y hz
      omega
    · intro q hq y hy
      simp only [List.mem_cons,List.mem_nil_iff,or_false] at hq
      rcases hq with rfl|rfl
      · have h3:y=nb:=hy
        exact .inr (by omega)
      · exact .inl ⟨_,List.mem_singleton.2 rfl,hy,fun e=>e⟩
  · cases h2
theorem F0 {B:Nat} (ad:Nat→Addr) (b nb:Nat) (n g:Int) (ps:List (Option Nat)) (gs:List Int) (vl vg:Value) (T:TypeId) (Sl Sg:Nat→Prop) (hl:ps.length=gs.length) (hr:∀ x∈gs,0≤x∧x≤1000000) (ha:Bk ps gs n g=some nb) :
    Au Tryz.prog 67 #[.pointer (some ⟨b,0,none⟩),.agg #[.int .i64 n,.int .i64 g]] [B1 b ps gs vl vg T Sl Sg,Br B ad [10]] fun u L=>u=.tuple #[.pointer (some ⟨nb,0,none⟩),.nilIface]∧L=[B1 b ps gs vl vg T Sl Sg,Br B ad [10]]:=fun E w0 w ho=>
  (Sb ad b n g ps gs vl vg T Sl Sg w (ho.fact 1 rfl) (ho.fact 0 rfl) hl hr).mono fun e w' ⟨he,hc⟩=>⟨_,_,⟨rfl,rfl⟩,by rw [he,ha];rfl,ho.quiet hc⟩
theorem P7 {α β γ:Type} [DecidableEq α] (g:β→γ):∀ (kv:List (α×β)) (k:α),Af (kv.map fun p=>(p.1,g p.2)) k=(Af kv k).map g
  | [],_=>rfl
  | p::r,k=>by
    simp only [List.map_cons,Af]
    split
    · rfl
    · exact P7 g r k
theorem Vb {α β γ:Type} [DecidableEq α] (g:β→γ):∀ (kv:List (α×β)) (k:α) (v:β),Ay (kv.map fun p=>(p.1,g p.2)) k (g v)=(Ay kv k v).map fun p=>(p.1,g p.2)
  | [],_,_=>rfl
  | p::r,k,v=>by
    simp only [List.map_cons,Ay]
    split
    · rfl
    · simp [Vb g r k v]
theorem Vd {α β γ:Type} [DecidableEq α] (g:β→γ):∀ (kv:List (α×β)) (k:α),Ak (kv.map fun p=>(p.1,g p.2)) k=(Ak kv k).map fun p=>(p.1,g p.2)
  | [],_=>rfl
  | p::r,k=>by
    simp only [List.map_cons,Ak]
    split
    · rfl
    · simp [Vd g r k]
theorem J7.keep {α:Type} [DecidableEq α] {S:Nat→Prop} {w w':World} {mv:Value} {f:α→Value} {kv:List (α×Value)} (h:J7 w mv f kv) (c:Chg S w w') (hs:∀ r,mv=.map (some r)→¬S r):J7 w' mv f kv:=by
  rcases h with h|⟨r,rfl,h⟩
  · exact .inl h
  · exact .inr ⟨r,rfl,h.keep c (hs r rfl)⟩
theorem Kz {α β:Type} [DecidableEq α]:∀ {kv:List (α×β)} {k:α} {v:β},Af kv k=some v→(k,v)∈kv
  | [],_,_,h=>by cases h
  | p::r,k,v,h=>by
    unfold Af at h
    split at h
    · rename_i c;cases h;subst c;exact List.mem_cons_self ..
    · exact List.mem_cons_of_mem _ (Kz h)
abbrev Dy:=List (Int×List UInt8)
structure Fo where
  size:Nat
  kv:Dy
def Dx (l:List UInt8):List Value:=l.map fun c=>.int .u8 c.toNat
def P0 (l:List UInt8):Value:=.agg (Dx l).toArray
def Ge (kv:Dy):List (Int×Value):=kv.map fun p=>(p.1,P0 p.2)
def Nh:List UInt8:=List.replicate 64 0
def G9 (kv:Dy) (q:Nat):List UInt8:=(Af kv (q:Int)).getD Nh
def Ql (kv:Dy) (i:Nat) (c:UInt8):Dy:=Ay kv ((i/64:Nat):Int) ((G9 kv (i/64)).set (i % 64) c)
def F9 (kv:Dy) (i:Nat):List UInt8→Dy
  | []=>kv
  | c::s=>F9 (Ql kv i c) (i+1) s
theorem Ol (kv:Dy) (i:Nat) (c:UInt8):∀ (l:List UInt8) (kv:Dy) (i:Nat),F9 kv i (l++[c])=Ql (F9 kv i l) (i+l.length) c
  | [],_,_=>rfl
  | d::l,kv,i=>by
    simp only [List.cons_append,F9,Ol kv i c l,List.length_cons]
    congr 1;omega
def I0 (kv:Dy):Prop:=∀ p∈kv,p.2.length=64∧0≤p.1∧p.1<64
theorem Ky {kv:Dy} (h:I0 kv) (q:Nat):(G9 kv q).length=64:=by
  unfold G9
  cases hg:Af kv (q:Int) with
  | none=>simp [Nh]
  | some l=>exact (h _ (Kz hg)).1
theorem M9 {kv:Dy} (h:I0 kv) (k:Int) {l:List UInt8} (hl:l.length=64) (hk:0≤k∧k<64):I0 (Ay kv k l):=by
  induction kv with
  | nil=>intro p hp;simp only [Ay,List.mem_singleton] at hp;subst hp;exact ⟨hl,hk⟩
  | cons q r ih=>
    intro p hp
    unfold Ay at hp
    split at hp
    · rename_i c
      rcases List.mem_cons.1 hp with rfl|hp
      · exact ⟨hl,by rw [← c];exact hk⟩
      · exact h p (List.mem_cons_of_mem _ hp)
    · rcases List.mem_cons.1 hp with rfl|hp
      · exact h p (List.mem_cons_self ..)
      · exact ih (fun p hp=>h p (List.mem_cons_of_mem _ hp)) p hp
theorem Rs {kv:Dy} (h:I0 kv) (i:Nat) (hi:i<4096) (c:UInt8):I0 (Ql kv i c):=M9 h _ (by simp [Ky h]) (by omega)
theorem Jn:∀ (s:List UInt8) {kv:Dy} (i:Nat),i+s.length≤4096→I0 kv→I0 (F9 kv i s)
  | [],_,_,_,h=>h
  | c::s,kv,i,hi,h=>by
    simp only [List.length_cons] at hi
    exact Jn s (i+1) (by omega) (Rs h i (by omega) c)
theorem Er (l:List UInt8):(Dx l).length=l.length:=by simp [Dx]
theorem Ib (l:List UInt8):∀ v∈Dx l,v.oneCell'=true:=by
  intro v hv
  obtain ⟨c,_,rfl⟩:=List.mem_map.1 hv
  rfl
theorem Adb (l:List UInt8) (r:Nat) (c:UInt8):(Dx l).toArray.setIfInBounds r (.int .u8 c.toNat)=(Dx (l.set r c)).toArray:=by
  simp [Dx,List.map_set]
theorem Vv (kv:Dy) (k:Int) (l:List UInt8):Ay (Ge kv) k (P0 l)=Ge (Ay kv k l):=Vb P0 kv k l
theorem Jr:(Tryz.prog.info? 171).map (·.size)=some 64:=by kernel_rfl
theorem Uz (w:World):(zeroValue 171).run Tryz.prog w=.ok (P0 Nh) w:=by kernel_rfl
structure Hf (w:World) (b:Nat) (d:Fo) (S:Nat→Prop):Prop where
  at_:∃ mv T,w.heap[b]?=some (.cells #[.int .i64 d.size,mv] T (0,0))∧J7 w mv ik (Ge d.kv)∧∀ r,mv=.map (some r)→S r
  own:S b
  lt:∀ x,S x→x<w.heap.size
  small:d.size≤4096
  full:I0 d.kv
theorem Hf.keep {S T:Nat→Prop} {w w':World} {b:Nat} {d:Fo} (h:Hf w b d S) (c:Chg T w w') (hd:∀ x,S x→¬T x):Hf w' b d S:=by
  obtain ⟨⟨mv,E,h1,h2,h3⟩,h4,h5,h6,h7⟩:=h
  exact ⟨⟨mv,E,c.keep h1 (hd b h4),h2.keep c (fun r hr=>hd r (h3 r hr)),h3⟩,h4,fun x hx=>Nat.lt_of_lt_of_le (h5 x hx) c.size,h6,h7⟩
theorem K5:Ew Tryz.prog 3 ik:=Agh Tryz.underlying3
theorem dlook {w:World} {mv:Value} {kv:Dy} (h:J7 w mv ik (Ge kv)) (q:Nat):(Instr.lookup 144 mv (.int .i64 q) false).run Tryz.prog w=.ok (.agg (Dx (G9 kv q)).toArray) w:=by
  have hk:=h.run_lookup (T:=144) K5 Tryz.underlying144 (Uz w) (q:Int) false
  rw [show (Value.int .i64 (q:Int))=ik (q:Int) from rfl,hk]
  simp only [Ge,P7,Bool.false_eq_true,if_false,G9]
  cases Af kv (q:Int)<;>rfl
theorem Ag9 {wr w1:World} {b rm r:Nat} {o ob:Obj} {M:List (Int×Value)} {l:List UInt8} {c:UInt8} {T:TypeId} (hM:D9 wr rm ik M) (hC1:Chg (·=wr.heap.size) (wr.alloc o) w1) (hb:w1.heap[b]?=some ob) (hbl:b<wr.heap.size)
    (hb1:w1.heap[wr.heap.size]?=some (.cells (Dx l).toArray T (0,0))) :
    (w1.setCell ⟨wr.heap.size,r,none⟩ (.int .u8 c.toNat)).heap[wr.heap.size]?=some (.cells (Dx (l.set r c)).toArray T (0,0))∧D9 (w1.setCell ⟨wr.heap.size,r,none⟩ (.int .u8 c.toNat)) rm ik M∧
      (w1.setCell ⟨wr.heap.size,r,none⟩ (.int .u8 c.toNat)).heap[b]?=some ob∧Chg Nil wr (w1.setCell ⟨wr.heap.size,r,none⟩ (.int .u8 c.toNat)):=by
  have h1:=Ct hb1 r (.int .u8 c.toNat)
  rw [Adb] at h1
  have hml:=hM.lt
  have hset:Chg (·=wr.heap.size) w1 (w1.setCell ⟨wr.heap.size,r,none⟩ (.int .u8 c.toNat)):=(Chg.refl (·=wr.heap.size) w1).setCell (p:=⟨wr.heap.size,r,none⟩) (.inr rfl) _
  have hC:Chg Nil wr (w1.setCell ⟨wr.heap.size,r,none⟩ (.int .u8 c.toNat)):=(((Chg.refl Nil wr).alloc o).trans hC1 (fun x hx e=>by omega)).trans hset (fun x hx e=>by omega)
  exact ⟨h1,hM.keep hC (fun f=>f),hset.keep hb (by omega),hC⟩
theorem Aam (s:ByteArray) (k:Nat) (h:k<s.size):s.data.toList.take (k+1)=s.data.toList.take k++[s[k]]:=by
  rw [List.take_succ_eq_append_getElem (by simpa using h)];rfl
def RelW (kv:Dy) (p n:Nat) (s:List UInt8) (b rm sz:Nat) (T:TypeId) (S:Nat→Prop) (w:World) (i:Value) (wr:World):Prop:=
  ∃ k:Nat,k≤n∧i=.int .i64 k∧Chg S w wr∧wr.heap[b]?=some (.cells #[.int .i64 sz,.map (some rm)] T (0,0))∧D9 wr rm ik (Ge (F9 kv p (s.take k)))
theorem Zb {kv:Dy} {p k:Nat} {s:ByteArray} {b rm q r:Nat} {S:Nat→Prop} {w wr w3 W X:World} {kv':Dy} {nl:List UInt8} {ob:Obj} (hk:k<s.size) (hCw:Chg S w wr) (hb:wr.heap[b]?=some ob) (hne:b≠rm) (hR:S rm∨w.heap.size≤rm)
    (hC2:Chg Nil wr W) (hX:Chg (·=rm) W X) (hC3:Chg (·=rm) X w3) (hA3:D9 w3 rm ik (Ay (Ge kv') q (P0 nl))) (hkv:kv'=F9 kv p (s.data.toList.take k)) (hnl:nl=(G9 kv' q).set r s[k]) (hq:q=(p+k)/64) (hr:r=(p+k) % 64) :
    Chg S w w3∧w3.heap[b]?=some ob∧D9 w3 rm ik (Ge (F9 kv p (s.data.toList.take (k+1)))):=by
  have hz:=hCw.size
  have c1:=hX.then hC3
  have c2:Chg (·=rm) wr w3:=(hC2.nil).then c1
  refine ⟨hCw.trans c2 (fun x hx e=>by have:x=rm:=e;subst this;rcases hR with h|h;exact h;omega),c2.keep hb hne,?_⟩
  rw [Aam s k hk,Ol kv p,← hkv]
  rw [Vv] at hA3
  have hlen:(s.data.toList.take k).length=k:=by
    rw [List.length_take,Array.length_toList]
    have:s.data.size=s.size:=rfl
    omega
  rw [hlen]
  unfold Ql
  rw [← hq,← hr,← hnl]
  exact hA3
def Ck (d:Fo) (p:Int) (s:ByteArray):Fo×Nat:=
  if p<0∨4096<p∨4096 - p<s.size then (d,2) else if s.size=0 then (d,0) else (⟨max d.size (p.toNat+s.size),F9 d.kv p.toNat s.data.toList⟩,0)
theorem Lj {s:ByteArray} (h:s.size=0):s=⟨#[]⟩:=by
  obtain ⟨a⟩:=s
  have:a=#[]:=Array.eq_empty_of_size_eq_zero h
  subst this;rfl
theorem N5 {s:ByteArray} (h:0<s.size):s.toList.isEmpty=false:=by
  cases hl:s.toList with
  | nil=>
    rw [ByteArray.toList_eq] at hl
    have h0:s.data.size=0:=by rw [← Array.length_toList,hl];rfl
    have h1:s.size=s.data.size:=rfl
    omega
  | cons a l=>rfl
theorem Xw {w wr:World} {b rm n:Nat} {v:Int} {kv:Dy} {S:Nat→Prop} {T:TypeId} {z:Value} (hS:S b) (hlt:∀ x,S x→x<w.heap.size) (hC:Chg S w wr) (hb:wr.heap[b]?=some (.cells #[z,.map (some rm)] T (0,0)))
    (hM:D9 wr rm ik (Ge kv)) (hrm:S rm∨w.heap.size≤rm) (hv:v=n) (hsm:n≤4096) (hf:I0 kv) :
    Chg S w (wr.setCell ⟨b,0,none⟩ (.int .i64 v))∧∃ S',Hf (wr.setCell ⟨b,0,none⟩ (.int .i64 v)) b ⟨n,kv⟩ S'∧J8 S S' w (wr.setCell ⟨b,0,none⟩ (.int .i64 v)):=by
  subst hv
  have hbl:=hlt b hS
  have hz:=hC.size
  have hml:=hM.lt
  have hne:rm≠b:=fun e=>by
    subst e
    obtain ⟨es,clock,h,_⟩:=hM
    rw [hb] at h;cases h
  have hb2:=Ct hb 0 (.int .i64 n)
  simp at hb2
  have hset:Chg (·=b) wr (wr.setCell ⟨b,0,none⟩ (.int .i64 n)):=(Chg.refl (·=b) wr).setCell (p:=⟨b,0,none⟩) (.inr rfl) _
  refine ⟨hC.setCell (.inr hS) _,fun x=>S x∨x=rm,⟨⟨_,T,hb2,.inr ⟨rm,rfl,hM.keep hset hne⟩,fun r hr=>by cases hr;exact .inr rfl⟩,.inl hS,?_,hsm,hf⟩,?_⟩
  · rintro x (h|rfl)
    · have:=hlt x h;simp;omega
    · have:=hM.lt;simpa using this
  · rintro x (h|rfl)
    · exact .inl h
    · rcases hrm with h|h
      · exact .inl h
      · right;simp;omega
theorem Ag1 {w:World} {b rm:Nat} {cs:Array Value} {T:TypeId} {f:Nat×Nat} {M:List (Int×Value)} (hb:w.heap[b]?=some (.cells cs T f)) (hM:D9 w rm ik M):b≠rm:=fun e=>by
  subst e
  obtain ⟨es,clock,h,_⟩:=hM
  rw [hb] at h;cases h
theorem Wm {B:Nat} (ad:Nat→Addr) (b:Nat) (p:Int) (s:ByteArray) (d:Fo) (S:Nat→Prop) (w:World) (he:Env B ad [2] w) (ht:Hf w b d S) :
    Calls Tryz.prog 74 #[.pointer (some ⟨b,0,none⟩),.int .i64 p,.string s] w fun e w'=>
      e=.returned (Ag ad (Ck d p s).2)∧Chg S w w'∧∃ S',Hf w' b (Ck d p s).1 S'∧J8 S S' w w':=by
  have HT:=Lib.hid ht
  obtain ⟨h2,h2l⟩:=he.get (c:=2) (by simp)
  simp only [gl] at h2 h2l
  clear he
  by_cases hbad:p<0∨4096<p∨4096 - p<s.size
  · have e1:Ck d p s=(d,2):=if_pos hbad
    rw [e1]
    clear e1 ht
    have hgo:p<0∨¬p<0∧4096<p∨¬p<0∧p≤4096∧4096 - p<s.size:=by omega
    clear hbad
    rcases hgo with h|⟨h,h'⟩|⟨h,h',h''⟩
    all_goals
      go_enter Tryz.func74,Tryz.ntmps74
      go_wp2_with fail
      go_ret
      exact ⟨rfl,Chg.refl _ _,S,HT.out,J8.refl _ _ _⟩
  by_cases h0:s.size=0
  · have e1:Ck d p s=(d,0):=by rw [Ck,if_neg hbad,if_pos h0]
    obtain rfl:=Lj h0
    rw [e1]
    have g1:¬p<0:=by omega
    have g2:p≤4096:=by omega
    have g3:¬(4096 - p<0):=by omega
    clear e1 ht hbad h0
    go_enter Tryz.func74,Tryz.ntmps74
    go_wp2_with fail
    go_ret
    exact ⟨rfl,Chg.refl _ _,S,HT.out,J8.refl _ _ _⟩
  obtain ⟨p,rfl⟩:∃ n:Nat,p=n:=⟨p.toNat,by omega⟩
  have e1:Ck d p s=(⟨max d.size (p+s.size),F9 d.kv p s.data.toList⟩,0):=by rw [Ck,if_neg hbad,if_neg h0];rfl
  rw [e1]
  have g1:¬((p:Int)<0):=by omega
  have g2:(p:Int)≤4096:=by omega
  have g3:¬(4096 - (p:Int)<(s.size:Int)):=by omega
  have g4:=N5 (s:=s) (by omega)
  have g5:s.size≤4096 - p:=by omega
  have g6:max d.size (p+s.size)≤4096:=by have:=ht.small;omega
  have hsml:=ht.small
  have HF:=Lib.hid ht.full
  clear hbad h0 e1
  obtain ⟨⟨mv,T,hb,hm,hmS⟩,hS,hlt,_,_⟩:=ht
  have hbl:=lt_of_block hb
  have hc0:=A9 hb 0
  have hc1:=A9 hb 1
  have hf0:=Ef hb 1
  simp only [List.getElem?_toArray,List.getElem?_cons_zero,List.getElem?_cons_succ] at hc0 hc1
  rcases hm with ⟨rfl,hkv⟩|⟨rm,rfl,hA⟩
  have HB:=Lib.hid hb
  have hmm:=@run_makeMap Tryz.prog
  have hq:=fun W=>run_eql_map_nil (P:=Tryz.prog) W 144 3 171 none Tryz.underlying144
  have hkv0:d.kv=[]:=by simpa [Ge] using hkv
  have HK:=Lib.hid hkv0
  have HA0:D9 ((w.setCell ⟨b,1,none⟩ (.map (some w.heap.size))).alloc (.map #[] 0)) w.heap.size ik (Ge d.kv):=by
    rw [hkv0]
    have:=R3 (w.setCell ⟨b,1,none⟩ (.map (some w.heap.size))) ik
    rw [World.size_setCell] at this
    exact this
  have HB0:((w.setCell ⟨b,1,none⟩ (.map (some w.heap.size))).alloc (.map #[] 0)).heap[b]?=some (.cells #[.int .i64 d.size,.map (some w.heap.size)] T (0,0)):=by
    refine Hu ?_ _
    have:=Ct hb 1 (.map (some w.heap.size))
    simpa using this
  have HC0:Chg S w ((w.setCell ⟨b,1,none⟩ (.map (some w.heap.size))).alloc (.map #[] 0)):=((Chg.refl S w).setCell (p:=⟨b,1,none⟩) (.inr hS) _).alloc _
  obtain ⟨rm,hrm⟩:∃ rm,rm=w.heap.size:=⟨_,rfl⟩
  obtain ⟨w0,hw0⟩:∃ w0,w0=(w.setCell ⟨b,1,none⟩ (.map (some w.heap.size))).alloc (.map #[] 0):=⟨_,rfl⟩
  rw [← hw0] at HA0 HB0 HC0
  rw [← hrm] at HA0 HB0
  have HA:=Lib.hid HA0
  have HB2:=Lib.hid HB0
  have HR:Hid (S rm∨w.heap.size≤rm):=Lib.hid (.inr (by rw [hrm];exact Nat.le_refl _))
  have HW:=Lib.hid hw0
  have HRM:=Lib.hid hrm
  clear hb hkv hkv0 HA0 HB0 hw0 hrm hmS HK
  go_enter Tryz.func74,Tryz.ntmps74
  go_wp2_with fail
  rw [← HW.out]
  rotate_left
  have hq:=fun W=>run_eql_map_nil (P:=Tryz.prog) W 144 3 171 (some rm) Tryz.underlying144
  have HA:=Lib.hid hA
  have HB2:=Lib.hid hb
  have HR:Hid (S rm∨w.heap.size≤rm):=Lib.hid (.inl (hmS rm rfl))
  have HC0:=Chg.refl S w
  clear hA hb hmS
  go_enter Tryz.func74,Tryz.ntmps74
  go_wp2_with fail
  rotate_left
  all_goals
    go_loopw [37] (fun i wr=>RelW d.kv p s.size s.data.toList b rm d.size T S w i wr) (fun i _=>(s.size - intOf i).toNat)
    case atStart=>exact ⟨0,Nat.zero_le _,rfl,HC0,HB2.out,by simpa [F9] using HA.out⟩
    case round=>
      rename_i wr _
      obtain ⟨k,hk,rfl,hC,hbr,hM⟩:=hrel
      have hne:=Ag1 hbr hM
      have hbl2:=lt_of_block hbr
      by_cases hlt1:k<s.size
      · have hf1:=Jn (s.data.toList.take k) p (by have:=List.length_take_le k s.data.toList;omega) HF.out
        obtain ⟨kv',hkv⟩:∃ kv',kv'=F9 d.kv p (s.data.toList.take k):=⟨_,rfl⟩
        rw [← hkv] at hM hf1
        obtain ⟨q,hq'⟩:∃ q:Nat,q=(p+k)/64:=⟨_,rfl⟩
        obtain ⟨r,hr'⟩:∃ r:Nat,r=(p+k) % 64:=⟨_,rfl⟩
        have e1:((p:Int)+(k:Int))/64=(q:Int):=by omega
        have e2:((p:Int)+(k:Int)) % 64=(r:Int):=by omega
        have hr64:r<64:=by omega
        have hlk:=dlook (.inr ⟨rm,rfl,hM⟩) q
        have hd64:=Ky hf1 q
        have d1:=A9 hbr 1
        simp only [List.getElem?_toArray,List.getElem?_cons_zero,List.getElem?_cons_succ] at d1
        have hml:=hM.lt
        have HBR:=Lib.hid hbr
        have HKV:=Lib.hid hkv
        have HQ:=Lib.hid hq'
        have HRM':=Lib.hid hr'
        have HD:=Lib.hid hd64
        have HM:=Lib.hid hM
        obtain ⟨x0,hx0⟩:∃ x0,(Dx (G9 kv' q)).toArray[r]?=some x0:=⟨(Dx (G9 kv' q)).toArray[r]'(by simp [Er,HD.out];omega),Array.getElem?_eq_getElem _⟩
        have HX:=Lib.hid hx0
        clear hbr hkv hq' hr' hd64 hM hx0
        go_wp2_with (refine I1 rfl 171 _ _ rfl wr.heap.size (Dx (G9 kv' q)) 64 rfl rfl (Bp wr _) rfl Jr ((Er _).trans HD.out) (Ib _) ?_;intro w1 hb1 hC1 hz1;have hx1:=(A9 hb1 r).trans HX.out;have hf1:=Ef hb1 r;have HB1:=Lib.hid hb1;have HZ1:=Lib.hid hz1;have HBR1:=Lib.hid (hC1.keep (Hu HBR.out _) (by omega));clear hb1 hz1)
        obtain ⟨m1,m2,m3,m4⟩:=Ag9 (r:=r) (c:=s[k]) HM.out hC1 HBR1.out hbl2 HB1.out
        obtain ⟨nl,hnl⟩:∃ nl,nl=(G9 kv' q).set r s[k]:=⟨_,rfl⟩
        rw [← hnl] at m1
        have hn:(Dx nl).length=64:=by rw [Er,hnl];simp [HD.out]
        have hu:=Tryz.underlying171
        have hi:(Tryz.prog.info? 171).map (·.size)=some (Dx nl).length:=by rw [hn];exact Jr
        have ho:=Ib nl
        have HRg:=Lib.hid (fun x (hx:Chg (·=rm) (w1.setCell ⟨wr.heap.size,r,none⟩ (.int .u8 s[k].toNat)) x)=>And.intro (A9 (hx.keep m3 hne) 1) (Lz (hx.keep m1 (by omega))))
        simp only [List.getElem?_toArray,List.getElem?_cons_zero,List.getElem?_cons_succ] at HRg
        have HM2:=Lib.hid m2
        have HC2:=Lib.hid m4
        have HNL:=Lib.hid hnl
        clear m1 m2 m3 m4 hnl
        go_region_held3 (fun w'=>w'.cell? ⟨b,1,none⟩=some (.map (some rm))∧w'.rangeAt wr.heap.size 0 (Dx nl))
          (first|exact HK3.out.1|(refine HRg.out _ ?_;repeat (first|exact Chg.refl _ _|refine Chg.drew ?_|refine Chg.drewsN ?_ _|refine Chg.alloc ?_ _)))
          ((refine Jy (val:=P0 nl) Tryz.underlying144 K5 (HM2.out.keep (S:=Nil) (by repeat (first|exact Chg.refl _ _|refine Chg.drew ?_|refine Chg.drewsN ?_ _|refine Chg.alloc ?_ _)) (fun f=>f)) (q:Int) rfl ?_;intro w3 hA3 hC3 hz3;have HK3:=Lib.hid (And.intro (HRg.out _ (Chg.then (by repeat (first|exact Chg.refl _ _|refine Chg.drew ?_|refine Chg.drewsN ?_ _|refine Chg.alloc ?_ _)) hC3)) (Zb hlt1 hC HBR.out hne HR.out HC2.out (by repeat (first|exact Chg.refl _ _|refine Chg.drew ?_|refine Chg.drewsN ?_ _|refine Chg.alloc ?_ _)) hC3 hA3 HKV.out HNL.out HQ.out HRM'.out))))
        go_wp2_with fail
        go_roundw
        case rel=>exact ⟨k+1,by omega,by go_num,HK3.out.2.1,HK3.out.2.2.1,HK3.out.2.2.2⟩
        case measure=>simp [intOf];omega
      · have hks:k=s.size:=by omega
        have htk:s.data.toList.take k=s.data.toList:=List.take_of_length_le (by rw [Array.length_toList,hks];exact Nat.le_refl _)
        rw [htk] at hM
        have d0:=A9 hbr 0
        have d2:=Ef hbr 0
        simp only [List.getElem?_toArray,List.getElem?_cons_zero,List.getElem?_cons_succ] at d0
        have HBR:=Lib.hid hbr
        have HM:=Lib.hid hM
        clear hks htk hbr hM
        by_cases hmx:(d.size:Int)<(p:Int)+(s.size:Int)
        all_goals
          go_wp2_with fail
          go_ret
          exact ⟨rfl,Xw hS hlt hC HBR.out HM.out HR.out (by omega) g6 (Jn _ _ (by have e:s.data.toList.length=s.size:=Array.length_toList;omega) HF.out)⟩
theorem Zv (b:Nat) (d:Fo) (S:Nat→Prop) (w:World) (ht:Hf w b d S) :
    Calls Tryz.prog 81 #[.pointer (some ⟨b,0,none⟩)] w fun e w'=>e=.returned (.int .i64 d.size)∧w=w':=by
  obtain ⟨⟨mv,T,hb,_⟩,_⟩:=ht
  have hc0:=A9 hb 0
  simp only [List.getElem?_toArray,List.getElem?_cons_zero] at hc0
  clear hb
  go_enter Tryz.func81,Tryz.ntmps81
  go_wp2
  go_ret
  exact ⟨rfl,rfl⟩
structure DQ where
  db:Nat
  d:Fo
  S:Nat→Prop
def DQ.size (q:DQ):Int:=q.d.size
def Ve (q:DQ):Res:=
  ⟨true,q.S,fun w=>Hf w q.db q.d q.S,fun w w' h hs hb=>by
    obtain ⟨⟨mv,T,h1,h2,h3⟩,h4,h5,h6,h7⟩:=h
    refine ⟨⟨mv,T,(hb _ h4).trans h1,?_,h3⟩,h4,fun x hx=>Nat.lt_of_lt_of_le (h5 x hx) hs,h6,h7⟩
    rcases h2 with h2|⟨r,e,h2⟩
    · exact .inl h2
    · exact .inr ⟨r,e,by
        obtain ⟨es,clock,q1,q2⟩:=h2
        exact ⟨es,clock,(hb r (h3 r e)).trans q1,q2⟩⟩,fun w b h hb=>h.lt b hb⟩
structure ND where
  nb:Nat
  kind:Int
  size:Int
  links:Int
  change:Int
  upn:Int
  upg:Int
  dq:Option DQ
def Ab7 (d:Option DQ):Value:=.pointer (d.map fun q=>⟨q.db,0,none⟩)
def Fi:Option DQ→Res
  | none=>I7
  | some q=>Ve q
def Ie (N:ND):Res:=Bw true N.nb [.int .i64 N.kind,.int .i64 N.size,.int .i64 N.links,.int .i64 N.change,.int .i64 N.upn,.int .i64 N.upg,Ab7 N.dq] 143
def Pr:Option ND→Res
  | none=>I7
  | some N=>D7 [Ie N,Fi N.dq]
theorem Rk (d:Option DQ):(Fi d).wr=true:=by cases d<;>rfl
def Cm (l:List (Option ND)):Res:=D7 (l.map Pr)
def Ad4 (l:List (Option ND)) (k:Nat):Res:=D7 ((l.map Pr).set k I7)
section
variable {w0 w:World} {E:Ent} {M:List Res} {l:List (Option ND)} {k:Nat} {N:ND}
theorem Own.ndOpen (h:Own w0 E (Cm l::M) w) (hk:l[k]?=some (some N)):Own w0 E (Ie N::Fi N.dq::Ad4 l k::M) w:=
  Own.allSplit (l:=[Ie N,Fi N.dq]) (h.mapOpen hk)
theorem Own.ndClose (N':ND) (h:Own w0 E (Ie N'::Fi N'.dq::Ad4 l k::M) w):Own w0 E (Cm (l.set k (some N'))::M) w:=
  Own.mapSet (f:=Pr) (some N') (Own.allJoin [Ie N',Fi N'.dq] (by
    intro r hr
    simp only [List.mem_cons,List.mem_nil_iff,or_false] at hr
    rcases hr with rfl|rfl
    · rfl
    · exact Rk _) h) rfl
theorem Kj {α:Type}:∀ (l:List α) (k:Nat) (x:α),l[k]?=some x→l.set k x=l
  | [],_,_,_=>rfl
  | y::l,0,x,h=>by simp at h;subst h;rfl
  | y::l,k+1,x,h=>by rw [List.set_cons_succ,Kj l k x (by simpa using h)]
theorem Own.ndBack (hk:l[k]?=some (some N)) (h:Own w0 E (Ie N::Fi N.dq::Ad4 l k::M) w):Own w0 E (Cm l::M) w:=by
  have h1:=h.ndClose N
  rw [Kj l k _ hk] at h1
  exact h1
theorem Own.ndPut (N':ND) (k:Nat) (h:Own w0 E (Ie N'::Fi N'.dq::Cm l::M) w):Own w0 E (Cm (l.set k (some N'))::M) w:=
  Own.mapPut (f:=Pr) (some N') k (Own.allJoin [Ie N',Fi N'.dq] (by
    intro r hr
    simp only [List.mem_cons,List.mem_nil_iff,or_false] at hr
    rcases hr with rfl|rfl
    · rfl
    · exact Rk _) h) rfl
theorem Own.ndFree (k:Nat) (h:Own w0 E (Cm l::M) w):Own w0 E (Cm (l.set k none)::M) w:=
  Own.mapPut (f:=Pr) none k (h.addNone (r:=I7) (fun _=>trivial) (fun _ h=>h)) rfl
theorem O1:∀ n:Nat,((List.replicate n (none:Option ND)).map Pr).Pairwise Rf
  | 0=>List.Pairwise.nil
  | n+1=>List.pairwise_cons.2 ⟨fun s _ b hb=>hb.elim,O1 n⟩
theorem Own.ndNew (n:Nat) (h:Own w0 E M w):Own w0 E (Cm (List.replicate n none)::M) w:=by
  have hm:∀ r∈(List.replicate n (none:Option ND)).map Pr,r=I7:=by
    intro r hr
    simp only [List.map_replicate] at hr
    exact List.eq_of_mem_replicate hr
  exact h.addNone (r:=Cm (List.replicate n none)) (fun w=>⟨fun r hr=>by rw [hm r hr];exact ⟨rfl,trivial⟩,O1 n⟩) fun b ⟨r,hr,hb⟩=>by rw [hm r hr] at hb;exact hb
end
theorem Au.after {P:Program} {f:FuncId} {args:Array Value} {L:List Res} {Φ Ψ:Value→List Res→Prop} (h:Au P f args L Φ) (hm:∀ E w0 w u L1,Φ u L1→Own w0 E L1 w→∃ L2,Ψ u L2∧Own w0 E L2 w):Au P f args L Ψ:=
  fun E w0 w ho=>(h E w0 w ho).mono fun e w' ⟨v,L',h1,h2,h3⟩=>by
    obtain ⟨L2,h4,h5⟩:=hm E w0 w' v L' h1 h3
    exact ⟨v,L2,h4,h2,h5⟩
theorem Au.frame {P:Program} {f:FuncId} {args:Array Value} {L:List Res} {Φ:Value→List Res→Prop} (h:Au P f args L Φ) (M:List Res):Au P f args (L++M) fun u L'=>∃ L1,Φ u L1∧L'=L1++M:=
  fun E w0 w ho=>(h (Vy L) w w ho.focus).mono fun e w' ⟨v,L',h1,h2,h3⟩=>⟨v,L'++M,⟨L',h1,rfl⟩,h2,ho.unfocus h3⟩
theorem Pn (b k:Nat) (x:Int) (ps:List (Option Nat)) (gs:List Int) (vl vg:Value) (T:TypeId) (Sl Sg:Nat→Prop) (hl:ps.length≤300) (hlg:ps.length=gs.length) (hf:F2 ps=some k) (hx:gs[k]?=some x) (hxr:0≤x∧x≤1000000) :
    Au Tryz.prog 30 #[.pointer (some ⟨b,0,none⟩),.int .i64 1] [B1 b ps gs vl vg T Sl Sg] fun u L=>∃ nb db,u=.tuple #[N0 k x,.nilIface]∧L=[Bw true nb [.int .i64 1,.int .i64 0,.int .i64 0,.int .i64 0,.int .i64 0,.int .i64 0,.pointer (some ⟨db,0,none⟩)] 143,Bw true db [.int .i64 0,.map none] 146,B1 b (ps.set k (some nb)) (gs.set k (x+1)) vl vg T Sl Sg]:=fun E w0 w ho=>by
  have ht:E9 w b ps gs vl vg T Sl Sg:=ho.fact 0 rfl
  refine (Yj b k 1 x ps gs vl vg T Sl Sg w ht (.inl rfl) hl hlg hf hx hxr).mono ?_
  rintro e w' ⟨nb,hnb,he,hc,ht',dp,hb',⟨h2,_⟩|⟨_,rfl,hd⟩⟩
  · cases h2
  · have hfo:∀ y,(B1 b ps gs vl vg T Sl Sg).foot y→y<w.heap.size:=fun y hy=>(B1 b ps gs vl vg T Sl Sg).alive w y ht hy
    refine ⟨_,_,⟨nb,nb+1,rfl,rfl⟩,he,Own.unfocus (L:=[B1 b ps gs vl vg T Sl Sg]) (L':=[Bw true nb [.int .i64 1,.int .i64 0,.int .i64 0,.int .i64 0,.int .i64 0,.int .i64 0,.pointer (some ⟨nb+1,0,none⟩)] 143,Bw true (nb+1) [.int .i64 0,.map none] 146,B1 b (ps.set k (some nb)) (gs.set k (x+1)) vl vg T Sl Sg]) (M:=[]) ho ⟨hc.mono fun y _ hy=>⟨_,List.mem_singleton.2 rfl,.inr hy,fun e=>e⟩,fun y ⟨q,h1,h2,_⟩=>⟨q,h1,h2,fun e=>by cases e⟩,?_,?_,?_⟩⟩
    · intro q hq
      simp only [List.mem_cons,List.mem_nil_iff,or_false] at hq
      rcases hq with rfl|rfl|rfl
      · exact hb'
      · exact hd
      · exact ht'
    · refine List.pairwise_cons.2 ⟨fun q hq _ y hy hz=>?_,List.pairwise_cons.2 ⟨fun q hq _ y hy hz=>?_,List.pairwise_singleton _ _⟩⟩
      · have h3:y=nb:=hy
        simp only [List.mem_cons,List.mem_nil_iff,or_false] at hq
        rcases hq with rfl|rfl
        · have h4:y=nb+1:=hz
          omega
        · have:=hfo y hz
          omega
      · rw [List.mem_singleton.1 hq] at hz
        have h3:y=nb+1:=hy
        have:=hfo y hz
        omega
    · intro q hq y hy
      simp only [List.mem_cons,List.mem_nil_iff,or_false] at hq
      rcases hq with rfl|rfl|rfl
      · have h3:y=nb:=hy
        exact .inr (by omega)
      · have h3:y=nb+1:=hy
        exact .inr (by omega)
      · exact .inl ⟨_,List.mem_singleton.2 rfl,hy,fun e=>e⟩
def Cs (nb:Nat) (kind:Int) (dq:Option DQ):ND:=⟨nb,kind,0,0,0,0,0,dq⟩
def Hs (db:Nat):DQ:=⟨db,⟨0,[]⟩,(·=db)⟩
theorem Own.newData {w0 w:World} {E:Ent} {M:List Res} {db:Nat} (h:Own w0 E (Bw true db [.int .i64 0,.map none] 146::M) w):Own w0 E (Fi (some (Hs db))::M) w:=by
  have hc:=h.fact 0 rfl
  refine h.less rfl rfl ⟨⟨.map none,_,hc,.inl ⟨rfl,rfl⟩,fun r hr=>by cases hr⟩,rfl,fun x hx=>?_,Nat.zero_le _,fun p hp=>by cases hp⟩ fun b hb=>hb
  have:x=db:=hx
  rw [this];exact lt_of_block hc
theorem Mt (b k:Nat) (x:Int) (ps:List (Option Nat)) (gs:List Int) (vl vg:Value) (T:TypeId) (Sl Sg:Nat→Prop) (l:List (Option ND)) (hl:ps.length≤300) (hlg:ps.length=gs.length) (hf:F2 ps=some k) (hx:gs[k]?=some x) (hxr:0≤x∧x≤1000000) :
    Au Tryz.prog 30 #[.pointer (some ⟨b,0,none⟩),.int .i64 2] [B1 b ps gs vl vg T Sl Sg,Cm l] fun u L=>∃ nb,u=.tuple #[N0 k x,.nilIface]∧L=[B1 b (ps.set k (some nb)) (gs.set k (x+1)) vl vg T Sl Sg,Cm (l.set k (some (Cs nb 2 none)))]:=
  ((Qy b k x ps gs vl vg T Sl Sg hl hlg hf hx hxr).frame [Cm l]).after fun E w0 w u L1 h1 ho=>by
    obtain ⟨L2,⟨nb,rfl,rfl⟩,rfl⟩:=h1
    refine ⟨_,⟨nb,rfl,rfl⟩,?_⟩
    have h2:=Own.addNone (r:=I7) ho (fun _=>trivial) (fun _ h=>h)
    have h3:Own w0 E (Ie (Cs nb 2 none)::Fi none::Cm l::[B1 b (ps.set k (some nb)) (gs.set k (x+1)) vl vg T Sl Sg]) w:=h2.pick [1,0,1,0]
    exact (h3.ndPut (Cs nb 2 none) k).pick [1,0]
theorem Tb (b k:Nat) (x:Int) (ps:List (Option Nat)) (gs:List Int) (vl vg:Value) (T:TypeId) (Sl Sg:Nat→Prop) (l:List (Option ND)) (hl:ps.length≤300) (hlg:ps.length=gs.length) (hf:F2 ps=some k) (hx:gs[k]?=some x) (hxr:0≤x∧x≤1000000) :
    Au Tryz.prog 30 #[.pointer (some ⟨b,0,none⟩),.int .i64 1] [B1 b ps gs vl vg T Sl Sg,Cm l] fun u L=>∃ nb db,u=.tuple #[N0 k x,.nilIface]∧L=[B1 b (ps.set k (some nb)) (gs.set k (x+1)) vl vg T Sl Sg,Cm (l.set k (some (Cs nb 1 (some (Hs db)))))]:=
  ((Pn b k x ps gs vl vg T Sl Sg hl hlg hf hx hxr).frame [Cm l]).after fun E w0 w u L1 h1 ho=>by
    obtain ⟨L2,⟨nb,db,rfl,rfl⟩,rfl⟩:=h1
    refine ⟨_,⟨nb,db,rfl,rfl⟩,?_⟩
    have h3:Own w0 E (Bw true db [.int .i64 0,.map none] 146::[Ie (Cs nb 1 (some (Hs db))),B1 b (ps.set k (some nb)) (gs.set k (x+1)) vl vg T Sl Sg,Cm l]) w:=ho.pick [1,0,0,0]
    have h5:Own w0 E (Ie (Cs nb 1 (some (Hs db)))::Fi (some (Hs db))::Cm l::[B1 b (ps.set k (some nb)) (gs.set k (x+1)) vl vg T Sl Sg]) w:=(h3.newData).pick [1,0,1,0]
    exact (h5.ndPut (Cs nb 1 (some (Hs db))) k).pick [1,0]
theorem Va (n:Nat) (h1:1≤n) (h2:n≤300):Au Tryz.prog 29 #[.int .i64 n] [] fun u L=>∃ b vl vg T Sl Sg,u=.tuple #[.pointer (some ⟨b,0,none⟩),.nilIface]∧L=[B1 b (List.replicate n none) (List.replicate n 0) vl vg T Sl Sg,Cm (List.replicate n none)]:=
  (Qk n h1 h2).after fun E w0 w u L1 h1 ho=>by
    obtain ⟨b,vl,vg,T,Sl,Sg,rfl,rfl⟩:=h1
    exact ⟨_,⟨b,vl,vg,T,Sl,Sg,rfl,rfl⟩,(ho.ndNew n).pick [1,0]⟩
theorem Wd {B:Nat} (ad:Nat→Addr) (b:Nat) (n g:Int) (ps:List (Option Nat)) (gs:List Int) (vl vg:Value) (T:TypeId) (Sl Sg:Nat→Prop) (hl:ps.length=gs.length) (hr:∀ x∈gs,0≤x∧x≤1000000) :
    Au Tryz.prog 67 #[.pointer (some ⟨b,0,none⟩),.agg #[.int .i64 n,.int .i64 g]] [B1 b ps gs vl vg T Sl Sg,Br B ad [10]] fun u L=>(∃ nb,Bk ps gs n g=some nb∧u=.tuple #[.pointer (some ⟨nb,0,none⟩),.nilIface]∧L=[B1 b ps gs vl vg T Sl Sg,Br B ad [10]])∨(Bk ps gs n g=none∧u=.tuple #[.pointer none,Ag ad 10]∧L=[B1 b ps gs vl vg T Sl Sg,Br B ad [10]]):=fun E w0 w ho=>
  (Sb ad b n g ps gs vl vg T Sl Sg w (ho.fact 1 rfl) (ho.fact 0 rfl) hl hr).mono fun e w' ⟨he,hc⟩=>by
    cases ha:Bk ps gs n g with
    | none=>rw [ha] at he;exact ⟨_,_,.inr ⟨rfl,rfl,rfl⟩,he,ho.quiet hc⟩
    | some nb=>rw [ha] at he;exact ⟨_,_,.inl ⟨nb,rfl,rfl,rfl⟩,he,ho.quiet hc⟩
theorem Qi (b:Nat) (ps:List (Option Nat)) (gs:List Int) (vl vg:Value) (T:TypeId) (Sl Sg:Nat→Prop) (hl:ps.length≤300):Au Tryz.prog 47 #[.pointer (some ⟨b,0,none⟩)] [B1 b ps gs vl vg T Sl Sg] fun u L=>u=.int .i64 (Fj ps:Nat)∧L=[B1 b ps gs vl vg T Sl Sg]:=fun E w0 w ho=>
  (Wb b ps gs vl vg T Sl Sg w (ho.fact 0 rfl) hl).mono fun e w' ⟨he,hc⟩=>⟨_,_,⟨rfl,rfl⟩,he,ho.quiet hc⟩
theorem Xi (q:DQ):Au Tryz.prog 81 #[.pointer (some ⟨q.db,0,none⟩)] [Fi (some q)] fun u L=>u=.int .i64 q.size∧L=[Fi (some q)]:=fun E w0 w ho=>
  (Zv q.db q.d q.S w (ho.fact 0 rfl)).mono fun e w' ⟨he,hc⟩=>⟨_,_,⟨rfl,rfl⟩,he,hc▸ho⟩
theorem Kf {B:Nat} (ad:Nat→Addr) (q:DQ) (p:Int) (s:ByteArray):Au Tryz.prog 74 #[.pointer (some ⟨q.db,0,none⟩),.int .i64 p,.string s] [Fi (some q),Br B ad [2]] fun u L=>∃ S',u=Ag ad (Ck q.d p s).2∧L=[Fi (some ⟨q.db,(Ck q.d p s).1,S'⟩),Br B ad [2]]:=fun E w0 w ho=>
  (Wm ad q.db p s q.d q.S w (ho.fact 1 rfl) (ho.fact 0 rfl)).mono fun e w' ⟨he,hc,S',h1,h2⟩=>⟨_,_,⟨S',rfl,rfl⟩,he,Own.upd ho 0 (r:=Ve q) (r':=Ve ⟨q.db,(Ck q.d p s).1,S'⟩) rfl rfl hc h1 fun b hb=>(h2 b hb).imp id fun q=>q.1⟩
def hk (h:Int×Int):Value:=.agg #[.int .i64 h.1,.int .i64 h.2]
theorem hk_eq (a b:Int×Int) (w:World):(Op.equal 34 (hk a) (hk b)).run Tryz.prog w=.ok (decide (a=b)) w:=by
  obtain ⟨a1,a2⟩:=a
  obtain ⟨b1,b2⟩:=b
  refine (eqH a1 a2 b1 b2 w).trans (congrArg (fun x=>Result.ok x w) ?_)
  by_cases c1:a1=b1<;>by_cases c2:a2=b2<;>simp [c1,c2]
theorem Ae7 (a:Int×Int) (w:World):(Instr.keyThatStays (hk a) (hk a)).run Tryz.prog w=.ok (hk a) w:=by
  have:Instr.sameBits 10000 (hk a) (hk a)=true:=by simp [Instr.sameBits,hk]
  simp [Instr.keyThatStays,this]
theorem Yl (a:Int×Int) (w:World):∀ (l:List MapEntry) (kv:List ((Int×Int)×Value)) (i:Nat),l.map (fun e=>(e.key,e.val))=kv.map (fun p=>(hk p.1,p.2))→
    (Instr.findAsking 34 (hk a) l i).run Tryz.prog w=.ok (Hr kv a i) w
  | [],[],_,_=>rfl
  | [],_::_,_,h=>by cases h
  | _::_,[],_,h=>by cases h
  | e::l,p::kv,i,h=>by
    simp only [List.map_cons,List.cons.injEq,Prod.mk.injEq] at h
    obtain ⟨⟨h1,h2⟩,h3⟩:=h
    unfold Instr.findAsking Hr
    simp only [Sem.run_bind,h1,hk_eq,Result.andThen_ok]
    by_cases c:a=p.1
    · simp [c,h2]
    · simp [c,Yl a w l kv (i+1) h3]
theorem Dk:Ew Tryz.prog 34 hk where
  chk:=fun em a w=>by kernel_rfl
  find:=fun a l kv w h=>(run_findKey_eq (P:=Tryz.prog) w (k:=34) (by decide +kernel) (hk a) l).trans (Yl a w l kv 0 h)
  keep:=Ae7
  inj:=fun a b h=>by
    obtain ⟨a1,a2⟩:=a
    obtain ⟨b1,b2⟩:=b
    simp [hk] at h
    simp [h]
structure DN where
  h:Int×Int
  mb:Nat
  es:List (ByteArray×(Int×Int))
def Bt (d:DN):(Int×Int)×Value:=(d.h,.map (some d.mb))
def Bd (e:ByteArray×(Int×Int)):ByteArray×Value:=(e.1,hk e.2)
def Cw (p:(Int×Int)×Int):(Int×Int)×Value:=(p.1,.int .i64 p.2)
def Rg (d:DN):Res:=Ci true d.mb sk (d.es.map Bd)
def Eh (ds:List DN):Res:=D7 (ds.map Rg)
def Su (ds:List DN) (j:Nat):Res:=D7 ((ds.map Rg).set j I7)
section
variable {w0 w:World} {E:Ent} {M:List Res} {ds:List DN} {j:Nat} {d:DN}
theorem Own.dirOpen (h:Own w0 E (Eh ds::M) w) (hj:ds[j]?=some d):Own w0 E (Rg d::Su ds j::M) w:=h.mapOpen hj
theorem Own.dirClose (d':DN) (h:Own w0 E (Rg d'::Su ds j::M) w):Own w0 E (Eh (ds.set j d')::M) w:=h.mapSet d' rfl
theorem Own.dirBack (hj:ds[j]?=some d) (h:Own w0 E (Rg d::Su ds j::M) w):Own w0 E (Eh ds::M) w:=by
  have h1:=h.dirClose d
  rw [Kj ds j d hj] at h1
  exact h1
theorem Own.dirAdd (d:DN) (h:Own w0 E (Rg d::Eh ds::M) w):Own w0 E (Eh (ds++[d])::M) w:=h.mapAdd d rfl
end
theorem Bx:∀ {ds:List DN} {j:Nat} {d d':DN},ds[j]?=some d→d'.h=d.h→d'.mb=d.mb→(ds.set j d').map Bt=ds.map Bt
  | [],_,_,_,h,_,_=>by simp at h
  | x::ds,0,d,d',h,h1,h2=>by
    simp at h
    subst h
    simp [Bt,h1,h2]
  | x::ds,j+1,d,d',h,h1,h2=>by simp [Bx (ds:=ds) (j:=j) (d:=d) (by simpa using h) h1 h2]
theorem Gi (s:ByteArray) (x:Int×Int):∀ es:List (ByteArray×(Int×Int)),Ay (es.map Bd) s (hk x)=(Ay es s x).map Bd
  | []=>rfl
  | p::r=>by
    simp only [List.map_cons,Ay]
    by_cases c:s=p.1
    · rw [if_pos (show s=(Bd p).1 from c),if_pos c];rfl
    · rw [if_neg (show ¬s=(Bd p).1 from c),if_neg c,List.map_cons,Gi s x r]
theorem Ja (s:ByteArray):∀ es:List (ByteArray×(Int×Int)),Af (es.map Bd) s=(Af es s).map hk
  | []=>rfl
  | p::r=>by
    simp only [List.map_cons,Af]
    by_cases c:s=p.1
    · rw [if_pos (show s=(Bd p).1 from c),if_pos c];rfl
    · rw [if_neg (show ¬s=(Bd p).1 from c),if_neg c,Ja s r]
theorem B9 {s:ByteArray} {x:Int×Int} {es:List (ByteArray×(Int×Int))} (h:Af es s=some x):Af (es.map Bd) s=some (hk x):=by rw [Ja,h];rfl
theorem Ed {s:ByteArray} {es:List (ByteArray×(Int×Int))} (h:Af es s=none):Af (es.map Bd) s=none:=by rw [Ja,h];rfl
theorem C4 {x:Int×Int}:∀ {ds:List DN},(∀ d∈ds,d.h≠x)→Af (ds.map Bt) x=none
  | [],_=>rfl
  | p::r,h=>by
    simp only [List.map_cons,Af]
    rw [if_neg (fun e:x=(Bt p).1=>h p (by simp) e.symm)]
    exact C4 fun d hd=>h d (List.mem_cons_of_mem _ hd)
theorem C1:∀ {ds:List DN} {j:Nat} {d:DN},(ds.map (·.h)).Nodup→ds[j]?=some d→Af (ds.map Bt) d.h=some (.map (some d.mb))
  | [],_,_,_,h=>by simp at h
  | x::ds,0,d,_,h=>by
    simp at h
    subst h
    simp [Af,Bt]
  | x::ds,j+1,d,hn,h=>by
    obtain ⟨h1,h2⟩:=List.nodup_cons.1 (show (x.h::ds.map (·.h)).Nodup from hn)
    have h3:ds[j]?=some d:=by simpa using h
    simp only [List.map_cons,Af]
    rw [if_neg (fun e:d.h=(Bt x).1=>h1 (List.mem_map.2 ⟨d,List.mem_of_getElem? h3,e⟩))]
    exact C1 h2 h3
theorem X4 {h:Int×Int} {mb:Nat} {es:List (ByteArray×(Int×Int))}:∀ {ds:List DN},(∀ d∈ds,d.h≠h)→Ay (ds.map Bt) h (.map (some mb))=(ds++[(⟨h,mb,es⟩:DN)]).map Bt
  | [],_=>rfl
  | p::r,hn=>by
    simp only [List.map_cons,Ay,List.cons_append]
    rw [if_neg (fun e:h=(Bt p).1=>hn p (by simp) e.symm),X4 (es:=es) fun d hd=>hn d (List.mem_cons_of_mem _ hd)]
def Am (N:ND):Int:=match N.dq with|none=>N.size|some q=>q.size
abbrev Rb (b tb most dm pm:Nat):Res:=Bw true b [.pointer (some ⟨tb,0,none⟩),.int .i64 (most:Int),.int .i64 0,.int .i64 0,.map (some dm),.map (some pm)] 80
abbrev Dw (d:DN) (es:List (ByteArray×(Int×Int))):DN:={ d with es:=es }
end Go.Proofs.YtpojpkhpddnmjaaGreatDoor
