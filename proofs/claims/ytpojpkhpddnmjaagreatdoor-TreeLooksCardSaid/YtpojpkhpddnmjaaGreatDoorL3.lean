/- Lemmas: part 3. -/
import Derived.Test.YtpojpkhpddnmjaaGreatDoorL2
import Derived.Deep.LoopGhost
import Derived.IntWalk
import Derived.Lib.SliceRun
import Derived.Deep.RegionWith
import Derived.Laws.Concat
import Derived.Sort.Walk0
set_option linter.all false
set_option maxRecDepth 100000
set_option maxHeartbeats 20000000
namespace Go.Proofs.YtpojpkhpddnmjaaGreatDoor
open Go.RowKit
theorem Pg (k n:Int) (cs:List Value) (nb:Nat) (w:World) (hk:0≤k∧k<64) (hn:w.cell? ⟨nb,0,none⟩=some (.int .i64 n)) :
    Calls Tryz.prog 96 #[.int .i64 k,.agg cs.toArray,.pointer (some ⟨nb,0,none⟩)] w fun e w'=>e=.returned (.bool (decide (n≤k*64)))∧Chg Nil w w':=by
  obtain ⟨hk0,hk1⟩:=hk
  have hnl:=World.block_lt_of_cell? _ _ hn
  go_enter Tryz.func96,Tryz.ntmps96
  go_wp2
  go_ret
  exact ⟨rfl,(Chg.refl _ _).alloc _⟩
def Gc:Array Value:=#[.int .u8 0,.int .u8 0,.int .u8 0,.int .u8 0,.int .u8 0,.int .u8 0,.int .u8 0,.int .u8 0,.int .u8 0,.int .u8 0,.int .u8 0,.int .u8 0,.int .u8 0,.int .u8 0,.int .u8 0,.int .u8 0,.int .u8 0,.int .u8 0,.int .u8 0,.int .u8 0,.int .u8 0,.int .u8 0,.int .u8 0,.int .u8 0,.int .u8 0,.int .u8 0,.int .u8 0,.int .u8 0,.int .u8 0,.int .u8 0,.int .u8 0,.int .u8 0,.int .u8 0,.int .u8 0,.int .u8 0,.int .u8 0,.int .u8 0,.int .u8 0,.int .u8 0,.int .u8 0,.int .u8 0,.int .u8 0,.int .u8 0,.int .u8 0,.int .u8 0,.int .u8 0,.int .u8 0,.int .u8 0,.int .u8 0,.int .u8 0,.int .u8 0,.int .u8 0,.int .u8 0,.int .u8 0,.int .u8 0,.int .u8 0,.int .u8 0,.int .u8 0,.int .u8 0,.int .u8 0,.int .u8 0,.int .u8 0,.int .u8 0,.int .u8 0]
theorem Chg.setCells {S:Nat→Prop} {a w:World} (h:Chg S a w) {b:Nat} (hp:a.heap.size≤b∨S b) (o:Nat) (vs:List Value):Chg S a (w.setCells b o vs):=
  h.trans (Fe vs o w) (fun x hx e=>by have:x=b:=e;subst this;rcases hp with hp|hp;omega;exact hp)
def Gu (n:Int) (vis:Int→Bool) (kv:Dy):Dy:=kv.filter fun p=>!(vis p.1&&decide (n≤p.1*64))
theorem Rn (n:Int) (kv:Dy):Gu n (fun _=>false) kv=kv:=by simp [Gu]
theorem T4 {n:Int} {vis:Int→Bool} {kv:Dy} {p:Int×List UInt8} (h:p∈Gu n vis kv):p∈kv:=(List.mem_filter.1 h).1
theorem Y4 {n k:Int} {vis:Int→Bool} {kv:Dy} (h:¬n≤k*64):Gu n (fun x=>vis x||decide (x=k)) kv=Gu n vis kv:=by
  unfold Gu
  refine List.filter_congr (fun p _=>?_)
  by_cases e:p.1=k
  · simp [e,h]
  · simp [e]
theorem Iw {α β:Type} [DecidableEq α] (k:α) (P:α×β→Bool):∀ (kv:List (α×β)),(kv.map (·.1)).Nodup→Ak (kv.filter P) k=kv.filter fun p=>P p&&!decide (p.1=k)
  | [],_=>rfl
  | p::r,h=>by
    simp only [List.map_cons,List.nodup_cons] at h
    by_cases e:p.1=k
    · have hr:∀ q∈r,¬q.1=k:=fun q hq e2=>h.1 (by rw [e,← e2];exact List.mem_map.2 ⟨q,hq,rfl⟩)
      have h1:r.filter (fun p=>P p&&!decide (p.1=k))=r.filter P:=List.filter_congr (fun q hq=>by simp [hr q hq])
      have h2:Ak (r.filter P) k=r.filter P:=by
        have:∀ l:List (α×β),(∀ q∈l,¬q.1=k)→Ak l k=l:=by
          intro l
          induction l with
          | nil=>intro _;rfl
          | cons q l ih=>
            intro hl
            unfold Ak
            rw [if_neg (fun e=>hl q (List.mem_cons_self ..) e.symm),ih (fun q hq=>hl q (List.mem_cons_of_mem _ hq))]
        exact this _ (fun q hq=>hr q ((List.mem_filter.1 hq).1))
      by_cases hp:P p=true
      · simp [List.filter_cons,hp,e,Ak,h1]
      · simp [List.filter_cons,hp,e,h1,h2]
    · have e':¬k=p.1:=fun x=>e x.symm
      by_cases hp:P p=true
      · simp [List.filter_cons,hp,e,Ak,e',Iw k P r h.2]
      · simp [List.filter_cons,hp,e,Iw k P r h.2]
theorem Vu {n k:Int} {vis:Int→Bool} {kv:Dy} (h:n≤k*64) (hk:vis k=false) (hd:(kv.map (·.1)).Nodup):Ak (Gu n vis kv) k=Gu n (fun x=>vis x||decide (x=k)) kv:=by
  unfold Gu
  rw [Iw k _ kv hd]
  refine List.filter_congr (fun p _=>?_)
  by_cases e:p.1=k
  · simp [e,h]
  · simp [e]
theorem Abe {n:Int} {vis:Int→Bool} {kv:Dy} (h:∀ p∈Gu n vis kv,vis p.1=true):Gu n vis kv=kv.filter fun p=>!decide (n≤p.1*64):=by
  unfold Gu at *
  refine List.filter_congr (fun p hp=>?_)
  cases hv:vis p.1 with
  | true=>simp
  | false=>
    have:=h p (List.mem_filter.2 ⟨hp,by simp [hv]⟩)
    rw [hv] at this;cases this
def Fq (vis:Int→Bool) (kv:Dy):Nat:=(kv.filter fun p=>!vis p.1).length
theorem M3 {vis:Int→Bool} {k:Int} {l:List UInt8}:∀ {kv:Dy},(k,l)∈kv→vis k=false→Fq (fun x=>vis x||decide (x=k)) kv<Fq vis kv
  | [],h,_=>by cases h
  | p::r,h,hk=>by
    have mono:∀ kv:Dy,Fq (fun x=>vis x||decide (x=k)) kv≤Fq vis kv:=by
      intro kv
      unfold Fq
      rw [← List.countP_eq_length_filter,← List.countP_eq_length_filter]
      exact List.countP_mono_left (fun p _ hp=>by simp at hp ⊢;exact hp.1)
    rcases List.mem_cons.1 h with rfl|h
    · have:=mono r
      simp only [Fq,List.filter_cons,hk,Bool.false_or,decide_true,Bool.not_true,Bool.not_false,if_true,Bool.false_eq_true,if_false,List.length_cons] at this ⊢
      omega
    · have:=M3 h hk
      unfold Fq at this ⊢
      simp only [List.filter_cons]
      cases hv:vis p.1<;>by_cases e:p.1=k<;>simp [e,hv] at this ⊢<;>omega
theorem Wc {vis:Int→Bool} {kv kv':Dy} (h:kv'.Sublist kv):Fq vis kv'≤Fq vis kv:=(h.filter _).length_le
theorem Ac0 {n k:Int} {vis:Int→Bool} {kv:Dy}:(Gu n (fun x=>vis x||decide (x=k)) kv).Sublist (Gu n vis kv):=by
  have:Gu n (fun x=>vis x||decide (x=k)) kv=(Gu n vis kv).filter (fun p=>!(decide (p.1=k)&&decide (n≤p.1*64))):=by
    unfold Gu;rw [List.filter_filter];refine List.filter_congr (fun p _=>?_)
    show (!((vis p.1||decide (p.1=k))&&decide (n≤p.1*64)))=_
    cases vis p.1<;>cases decide (p.1=k)<;>cases decide (n≤p.1*64)<;>rfl
  rw [this];exact List.filter_sublist
def RelD (kv:Dy) (n:Int) (rm r:Nat) (w:World) (g:Nat) (wr:World):Prop:=
  ∃ vis,Gt wr rm r ik (Ge (Gu n vis kv)) vis∧g=Fq vis (Gu n vis kv)∧Chg (fun x=>x=rm∨w.heap.size≤x) w wr
theorem Wf {w:World} {rm:Nat} {kv:Dy} (h:D9 w rm ik (Ge kv)):(kv.map (·.1)).Nodup:=by
  have:=h.nodup
  simpa [Ge,List.map_map,Function.comp_def] using this
theorem Abh {k:Int} {v:Value} {kv:Dy} (h:(k,v)∈Ge kv):∃ l,(k,l)∈kv∧v=P0 l:=by
  obtain ⟨p,hp,e⟩:=List.mem_map.1 h
  simp only [Prod.mk.injEq] at e
  obtain ⟨rfl,rfl⟩:=e
  exact ⟨p.2,hp,rfl⟩
theorem U6 (rm nb:Nat) (n:Int) (kv:Dy) (w:World) (hA:D9 w rm ik (Ge kv)) (hf:I0 kv) (hn:w.cell? ⟨nb,0,none⟩=some (.int .i64 n)) (hne:nb≠rm) :
    Calls Tryz.prog 95 #[.map (some rm),.func (.func 96) #[] #[.pointer (some ⟨nb,0,none⟩)]] w fun e w'=>
      e=.returned (.tuple #[])∧Chg (·=rm) w w'∧D9 w' rm ik (Ge (kv.filter fun p=>!decide (n≤p.1*64))):=by
  have HD:=Lib.hid (Wf hA)
  have hnl:=World.block_lt_of_cell? _ _ hn
  have hml:=hA.lt
  have HA:=Lib.hid hA
  have HF:=Lib.hid hf
  clear hA hf
  go_enter Tryz.func95,Tryz.ntmps95
  go_wp2_with (at_range;refine Qx rfl _ 144 rfl _ _ Tryz.underlying144 rm rfl HA.out ?_;intro w0 hi0 hC0 hz0)
  go_loopg [8] (Fq (fun _=>false) kv) (fun g v wr=>RelD kv n rm w.heap.size w g wr)
  case atStart=>exact ⟨fun _=>false,by rw [Rn];exact hi0,by rw [Rn],hC0.mono (fun _ _ f=>f.elim)⟩
  case round=>
    obtain ⟨vis,hi,hg,hC⟩:=hrel
    have HG:=Lib.hid hg
    have HI:=Lib.hid hi
    clear hg hi hi0
    rename_i wr
    have d0:=(hC.cell (p:=⟨nb,0,none⟩) hnl (fun h=>by rcases h with h|h;exact hne h;simp at h;omega)).trans hn
    have hz:=hC.size
    go_wp2_with (at_next;refine Sj rfl _ rfl rm w.heap.size rfl vis HI.out K5.inj ?_ ?_)
    · intro hall
      go_wp2
      go_end0
      refine ⟨rfl,hC.mono (fun x hx h=>by rcases h with h|h;exact h;omega),?_⟩
      have hm:=HI.out.map
      rw [Abe (fun p hp=>?_)] at hm
      · exact hm
      · exact hall _ _ (List.mem_map.2 ⟨p,hp,rfl⟩)
    · intro k v w1 hk hv hi1 hC1 hz1 hen
      obtain ⟨l,hkl,rfl⟩:=Abh hk
      have hl64:=(HF.out _ (T4 hkl)).1
      have hk0:=(HF.out _ (T4 hkl)).2
      simp only at hl64 hk0
      have HKL:=Lib.hid hkl
      have HV:=Lib.hid hv
      have HI1:=Lib.hid hi1
      have HL:=Lib.hid hl64
      have hil:=HI.out.lt
      have e0:=(hC1.cell (p:=⟨nb,0,none⟩) (by simp;omega) (fun h=>by have:nb=w.heap.size:=h;omega)).trans d0
      simp only [ik,P0] at hen
      clear hk hkl hv hi1 hl64 hz1
      have hC2w:∀ {w2:World} {o:Obj},Chg (·=w1.heap.size) (w1.alloc o) w2→Gt w2 rm w.heap.size ik (Ge (Gu n vis kv)) (fun x=>vis x||decide (x=k))∧w2.cell? ⟨nb,0,none⟩=some (.int .i64 n)∧Chg (fun x=>x=rm∨w.heap.size≤x) w w2:=fun {w2 o} hC2=>by
        have c:Chg Nil w1 w2:=((Chg.refl Nil w1).alloc o).trans hC2 (fun x hx e=>by have:x=w1.heap.size:=e;omega)
        have hz1:=hC1.size
        exact ⟨HI1.out.keep c (fun f=>f) (fun f=>f),(c.cell (p:=⟨nb,0,none⟩) (by simp;omega) (fun f=>f)).trans e0,(hC.trans hC1 (fun x hx e=>.inr (by have:x=w.heap.size:=e;omega))).then c.nil⟩
      simp only [ik,P0]
      clear hC1
      by_cases hkn:n≤k*64
      · go_wp2_with (first
          | (refine I1 rfl 171 _ _ rfl w1.heap.size (Dx l) 64 rfl rfl (Bp w1 _) rfl Jr ((Er _).trans HL.out) (Ib _) ?_;intro w2 hb2 hC2 hz2;have HB2:=Lib.hid hb2;have g2:=hC2w hC2;clear hb2 hz2)
          | (refine Mp rfl 171 _ rfl w1.heap.size (Dx l) 64 _ rfl HB2.out Tryz.underlying171 rfl Jr ((Er _).trans HL.out) ?_)
          | (go_at_call 96;refine (Pg k n (Dx l) nb _ hk0 g2.2.1).mono ?_;rintro e w3 ⟨rfl,hC3⟩;have hi3:=g2.1.keep hC3 (fun f=>f) (fun f=>f);have HC3:=Lib.hid (g2.2.2.then hC3.nil))
          | (at_delete;refine Me rfl _ _ 144 3 rfl _ _ Tryz.underlying144 K5 rm w.heap.size rfl _ hi3 k rfl ?_;intro w4 hi4 hC4 hz4))
        have hst:Ak (Ge (Gu n vis kv)) k=Ge (Gu n (fun x=>vis x||decide (x=k)) kv):=by
          rw [← Vu hkn HV.out HD.out];exact Vd P0 _ k
        rw [hst] at hi4
        have hlt:Fq (fun x=>vis x||decide (x=k)) (Gu n (fun x=>vis x||decide (x=k)) kv)<Fq vis (Gu n vis kv):=by
          have h1:=M3 HKL.out HV.out
          have h2:=Wc (vis:=fun x=>vis x||decide (x=k)) (Ac0 (n:=n) (k:=k) (vis:=vis) (kv:=kv))
          omega
        go_roundg (Fq (fun x=>vis x||decide (x=k)) (Gu n (fun x=>vis x||decide (x=k)) kv))
        case measure=>rw [HG.out];exact hlt
        case rel=>exact ⟨_,hi4,rfl,HC3.out.trans hC4 (fun x hx e=>.inl e)⟩
      · go_wp2_with (first
          | (refine I1 rfl 171 _ _ rfl w1.heap.size (Dx l) 64 rfl rfl (Bp w1 _) rfl Jr ((Er _).trans HL.out) (Ib _) ?_;intro w2 hb2 hC2 hz2;have HB2:=Lib.hid hb2;have g2:=hC2w hC2;clear hb2 hz2)
          | (refine Mp rfl 171 _ rfl w1.heap.size (Dx l) 64 _ rfl HB2.out Tryz.underlying171 rfl Jr ((Er _).trans HL.out) ?_)
          | (go_at_call 96;refine (Pg k n (Dx l) nb _ hk0 g2.2.1).mono ?_;rintro e w3 ⟨rfl,hC3⟩;have hi3:=g2.1.keep hC3 (fun f=>f) (fun f=>f);have HC3:=Lib.hid (g2.2.2.then hC3.nil)))
        have hst:Gu n (fun x=>vis x||decide (x=k)) kv=Gu n vis kv:=Y4 (by omega)
        rw [← hst] at hi3
        have hlt:Fq (fun x=>vis x||decide (x=k)) (Gu n (fun x=>vis x||decide (x=k)) kv)<Fq vis (Gu n vis kv):=by
          rw [hst];exact M3 HKL.out HV.out
        go_roundg (Fq (fun x=>vis x||decide (x=k)) (Gu n (fun x=>vis x||decide (x=k)) kv))
        case measure=>rw [HG.out];exact hlt
        case rel=>exact ⟨_,hi3,rfl,HC3.out⟩
def Jz (kv:Dy) (n:Nat):Dy:=match Af kv ((n/64:Nat):Int) with
  | none=>kv
  | some l=>Ay kv ((n/64:Nat):Int) (l.take (n % 64)++List.replicate (64 - n % 64) 0)
def B2 (d:Fo) (n:Int):Fo×Nat:=
  if n<0∨4096<n then (d,2) else if n<d.size then (⟨n.toNat,Jz (d.kv.filter fun p=>!decide (n≤p.1*64)) n.toNat⟩,0) else (⟨n.toNat,d.kv⟩,0)
theorem Adi {w:World} {mv:Value} {kv:Dy} (h:J7 w mv ik (Ge kv)) (q:Nat):(Instr.lookup 144 mv (.int .i64 q) true).run Tryz.prog w=.ok (.tuple #[.agg (Dx (G9 kv q)).toArray,.bool (Af kv (q:Int)).isSome]) w:=by
  have hk:=h.run_lookup (T:=144) K5 Tryz.underlying144 (Uz w) (q:Int) true
  rw [show (Value.int .i64 (q:Int))=ik (q:Int) from rfl,hk]
  simp only [Ge,P7,if_true,G9]
  cases Af kv (q:Int)<;>rfl
theorem Aep (w:World):(zeroValue 5).run Tryz.prog w=.ok (.int .u8 0) w:=by kernel_rfl
theorem V9 (g r:Nat) (w:World) (hr:r<64):(Instr.sliceAt 171 (.pointer (some ⟨g,0,none⟩)) (some (.int .i64 (r:Int))) none none).run Tryz.prog w=.ok (.slice (some ⟨g,r,none⟩) (64 - r) (64 - r)) w:=by
  have hsz:(sizeOf 5).run Tryz.prog w=.ok 1 w:=by kernel_rfl
  have hne:¬64=r:=by omega
  simp [Instr.sliceAt,Instr.sliceBounds,run_underlying Tryz.underlying171,Instr.sureAddr,hsz,hne,Addr.add_lit,run_sliceBound (P:=Tryz.prog) w .i64 (r:Int) 64 .sliceB (by omega) (by omega)]
theorem W0 (g r:Nat) (w:World) (cs:List Value) (hr:r<64) (hb:w.heap[g]?=some (.cells cs.toArray 171 (0,0))) (hl:cs.length=64) (ty:TypeId) :
    (Builtin.clear_ #[167] ty #[.slice (some ⟨g,r,none⟩) (64 - r) (64 - r)]).run Tryz.prog w=.ok (.tuple #[]) (w.setCells g r (Dx (List.replicate (64 - r) 0))):=by
  have e:Dx (List.replicate (64 - r) 0)=List.replicate (64 - r) (.int .u8 0):=by simp [Dx]
  rw [e]
  exact Lib.run_clear_slice w 167 5 ty (.int .u8 0) Tryz.underlying167 Aep rfl rfl g r (64 - r) (64 - r) (by omega) (fun j hj=>by rw [A9 hb];simp [hl];omega) (fun j hj=>Ef hb _)
def Ow (mv:Value):Nat→Prop:=fun x=>mv=.map (some x)
theorem R4 (mv:Value) (nb:Nat) (n:Int) (kv:Dy) (w:World) (hM:J7 w mv ik (Ge kv)) (hf:I0 kv) (hn:w.cell? ⟨nb,0,none⟩=some (.int .i64 n)) (hne:¬Ow mv nb) :
    Calls Tryz.prog 95 #[mv,.func (.func 96) #[] #[.pointer (some ⟨nb,0,none⟩)]] w fun e w'=>
      e=.returned (.tuple #[])∧Chg (Ow mv) w w'∧J7 w' mv ik (Ge (kv.filter fun p=>!decide (n≤p.1*64))):=by
  rcases hM with ⟨rfl,hkv⟩|⟨rm,rfl,hA⟩
  · have hk0:kv=[]:=by simpa [Ge] using hkv
    subst hk0
    have hrg:=run_range_nilMap (P:=Tryz.prog) w 144 _ _ Tryz.underlying144
    have hnx:∀ ty,(Instr.next (.pointer (some ⟨w.heap.size,0,none⟩)) false ty).run Tryz.prog (w.alloc (.mapIter none 0 #[] 0))=_:=fun ty=>run_next_nilMap _ ty 0 0 #[]
    clear hkv
    go_enter Tryz.func95,Tryz.ntmps95
    go_wp2
    refine wp_loop_rounds 1 ?_
    rw [rounds_succ]
    go_wp2
    go_end0
    exact ⟨rfl,(Chg.refl _ _).alloc _,.inl ⟨rfl,rfl⟩⟩
  · refine (U6 rm nb n kv w hA hf hn (fun e=>hne (by unfold Ow;rw [e]))).mono ?_
    rintro e w' ⟨h1,h2,h3⟩
    exact ⟨h1,h2.mono (fun x _ e=>by have:x=rm:=e;subst this;rfl),.inr ⟨rm,rfl,h3⟩⟩
structure Xu (b n:Nat) (d:Fo) (mv:Value) (T:TypeId) (S:Nat→Prop) (w w2:World) (kv2:Dy):Prop where
  chg:Chg S w w2
  blk:w2.heap[b]?=some (.cells #[.int .i64 d.size,mv] T (0,0))
  box:w2.heap[w.heap.size]?=some (.cells #[.int .i64 n] 3 (0,0))
  map:J7 w2 mv ik (Ge kv2)
  full:I0 kv2
theorem Oy {w wr:World} {b n:Nat} {v:Int} {mv:Value} {kv:Dy} {S:Nat→Prop} {T:TypeId} {z:Value} (hS:S b) (hlt:∀ x,S x→x<w.heap.size) (hmS:∀ r,mv=.map (some r)→S r) (hC:Chg S w wr) (hb:wr.heap[b]?=some (.cells #[z,mv] T (0,0)))
    (hM:J7 wr mv ik (Ge kv)) (hv:v=n) (hsm:n≤4096) (hf:I0 kv) :
    Chg S w (wr.setCell ⟨b,0,none⟩ (.int .i64 v))∧∃ S',Hf (wr.setCell ⟨b,0,none⟩ (.int .i64 v)) b ⟨n,kv⟩ S'∧J8 S S' w (wr.setCell ⟨b,0,none⟩ (.int .i64 v)):=by
  rcases hM with ⟨rfl,hkv⟩|⟨rm,rfl,hA⟩
  · subst hv
    have hb2:=Ct hb 0 (.int .i64 n)
    simp at hb2
    have hz:=hC.size
    exact ⟨hC.setCell (.inr hS) _,S,⟨⟨_,T,hb2,.inl ⟨rfl,hkv⟩,fun r h=>by cases h⟩,hS,fun x hx=>by have:=hlt x hx;simp;omega,hsm,hf⟩,J8.refl _ _ _⟩
  · exact Xw hS hlt hC hb hA (.inl (hmS rm rfl)) hv hsm hf
theorem Uv {B:Nat} (ad:Nat→Addr) (b n:Nat) (d:Fo) (S:Nat→Prop) (w:World) (mv:Value) (T:TypeId) (hS:S b) (hlt:∀ x,S x→x<w.heap.size) (hsm:d.size≤4096) (hfl:I0 d.kv) (hn:n<d.size)
    (hb:w.heap[b]?=some (.cells #[.int .i64 d.size,mv] T (0,0))) (hmv:J7 w mv ik (Ge d.kv)) (hmS:∀ r,mv=.map (some r)→S r) (hok:(Af (d.kv.filter fun p=>!decide ((n:Int)≤p.1*64)) ((n/64:Nat):Int)).isSome=false) :
    Calls Tryz.prog 77 #[.pointer (some ⟨b,0,none⟩),.int .i64 n] w fun e w'=>
      e=.returned .nilIface∧Chg S w w'∧∃ S',Hf w' b ⟨n,Jz (d.kv.filter fun p=>!decide ((n:Int)≤p.1*64)) n⟩ S'∧J8 S S' w w':=by
  have hc0:=A9 hb 0
  have hc1:=A9 hb 1
  simp only [List.getElem?_toArray,List.getElem?_cons_zero,List.getElem?_cons_succ] at hc0 hc1
  have hbl:=lt_of_block hb
  have g0:(0:Int)≤(n:Int):=by omega
  have g1:(n:Int)≤4096:=by omega
  have g2:(n:Int)<(d.size:Int):=by omega
  obtain ⟨q,hq⟩:∃ q:Nat,q=n/64:=⟨_,rfl⟩
  obtain ⟨r,hr⟩:∃ r:Nat,r=n % 64:=⟨_,rfl⟩
  have e1:(n:Int)/64=(q:Int):=by omega
  have e2:(n:Int) % 64=(r:Int):=by omega
  have hr64:r<64:=by omega
  have hnb:¬Ow mv b:=fun e=>by
    rcases hmv with ⟨h,_⟩|⟨rm,h,hA⟩
    · rw [h] at e;cases e
    · rw [h] at e;cases e;exact Ag1 hb hA rfl
  have hnx:¬Ow mv w.heap.size:=fun e=>by have:=hlt _ (hmS _ e);omega
  have hml:∀ r,mv=.map (some r)→r<w.heap.size:=fun r h=>hlt _ (hmS r h)
  have HB:=Lib.hid hb
  have HMV:=Lib.hid hmv
  have HF:=Lib.hid hfl
  have HQ:=Lib.hid hq
  have HR:=Lib.hid hr
  have HOK:=Lib.hid hok
  have HMS:=Lib.hid hmS
  have HML:=Lib.hid hml
  clear hb hmv hq hr hok hmS hml
  go_enter Tryz.func77,Tryz.ntmps77
  go_wp2_with fail
  go_quiet (fail)
  go_wp2_with fail
  have hA0:Chg Nil w ((w.alloc (.cells #[.int .i64 n] 3)).drewN nq):=((Chg.refl _ _).alloc _).drewsN _
  have hbx:((w.alloc (.cells #[.int .i64 n] 3)).drewN nq).heap[w.heap.size]?=some (.cells #[.int .i64 n] 3 (0,0)):=(Chg.drewN (S:=Nil) _ nq).keep (Bp w _) (fun f=>f)
  have HBX:=Lib.hid hbx
  refine (R4 mv w.heap.size n d.kv _ (HMV.out.keep hA0 (fun _ _ f=>f)) HF.out (A9 hbx 0) hnx).mono ?_
  clear hbx
  rintro e w2 ⟨rfl,hC2,hM2⟩
  obtain ⟨kv2,hkv2⟩:∃ kv2,kv2=d.kv.filter fun p=>!decide ((n:Int)≤p.1*64):=⟨_,rfl⟩
  rw [← hkv2] at hM2
  have HCt:Xu b n d mv T S w w2 kv2:=⟨hA0.nil.then (hC2.mono (fun x _ h=>HMS.out x h)),hC2.keep (hA0.keep HB.out (fun f=>f)) hnb,hC2.keep HBX.out hnx,hM2,fun p hp=>HF.out p (List.mem_filter.1 (by rw [hkv2] at hp;exact hp)).1⟩
  have HOK2:Hid ((Af kv2 (q:Int)).isSome=false):=Lib.hid (by rw [hkv2,HQ.out];exact HOK.out)
  have HKV:=Lib.hid hkv2
  clear hkv2 hM2 hC2 hA0
  obtain ⟨l,hl⟩:∃ l,l=G9 kv2 q:=⟨_,rfl⟩
  have hl64:(Dx l).length=64:=by rw [hl,Er];exact Ky HCt.full q
  have HRg:=Lib.hid (fun x (hx:Chg Nil w2 x)=>And.intro (A9 (hx.keep HCt.blk (fun f=>f)) 1) (And.intro (A9 (hx.keep HCt.box (fun f=>f)) 0) (Adi (w:=x) (HCt.map.keep hx (fun _ _ f=>f)) q)))
  simp only [List.getElem?_toArray,List.getElem?_cons_zero,List.getElem?_cons_succ,← hl,HOK2.out] at HRg
  have HL:=Lib.hid hl
  have HL64:=Lib.hid hl64
  have HCT:=Lib.hid HCt
  clear hl hl64 HCt
  go_wp2_with fail
  have hwq:IntKind.i64.wrap (q:Int)=(q:Int):=IntWalk.i64_in _ (by omega)
  have hu:=Tryz.underlying171
  have hi:(Tryz.prog.info? 171).map (·.size)=some (Dx l).length:=by rw [HL64.out];exact Jr
  have ho:=Ib l
  have hl64:=HL64.out
  have hth:((w2.alloc (.cells Gc 171)).drew).there w2.heap.size 0 64:=P4 ((Chg.refl Nil _).drew.keep (Bp w2 (.cells Gc 171)) (fun f=>f))
  unfold Gc at hth
  go_region_held3 (fun w'=>w'.cell? ⟨b,1,none⟩=some mv∧w'.cell? ⟨w.heap.size,0,none⟩=some (.int .i64 n)∧(Instr.lookup 144 mv (.int .i64 q) true).run Tryz.prog w'=.ok (.tuple #[.agg (Dx l).toArray,.bool false]) w')
    ((refine HRg.out _ ?_;repeat (first|exact Chg.refl _ _|refine Chg.drew ?_|refine Chg.drewsN ?_ _|refine Chg.alloc ?_ _|refine Chg.setCells ?_ (.inl (by simp)) _ _)))
    (fail)
  all_goals
    obtain ⟨w3,hw3⟩:∃ w3,w3=(w2.alloc (.cells Gc 171)).drew.setCells w2.heap.size 0 (Dx l):=⟨_,rfl⟩
    have hb3:w3.heap[w2.heap.size]?=some (.cells (Dx l).toArray 171 (0,0)):=by
      rw [hw3];exact M2 ((Chg.refl Nil _).drew.keep (Bp w2 (.cells Gc 171)) (fun f=>f)) (by rw [HL64.out];rfl)
    have hC3:Chg Nil w2 w3:=by
      rw [hw3];exact (((Chg.refl Nil w2).alloc _).drew).setCells (.inl (Nat.le_refl _)) _ _
    unfold Gc at hw3
    rw [← hw3]
    have HW3:=Lib.hid hw3
    clear hw3 hth hu hi ho hl64
    have hcx:=(hC3.cell (p:=⟨w.heap.size,0,none⟩) (lt_of_block HCT.out.box) (fun f=>f)).trans (A9 HCT.out.box 0)
    have hcb:=hC3.keep HCT.out.blk (fun f=>f)
    simp only [List.getElem?_toArray,List.getElem?_cons_zero] at hcx
    have HB3:=Lib.hid hb3
    have hc0':=A9 hcb 0
    have hf0':=Ef hcb 0
    simp only [List.getElem?_toArray,List.getElem?_cons_zero] at hc0'
    have HCB:=Lib.hid hcb
    clear hb3 hcb
    go_wp2_with fail
    go_ret
    have hdc:Jz (d.kv.filter fun p=>!decide ((n:Int)≤p.1*64)) n=kv2:=by
      rw [← HKV.out]
      unfold Jz
      have:=HOK2.out
      rw [← HQ.out]
      cases hg:Af kv2 (q:Int) with
      | none=>rfl
      | some x=>rw [hg] at this;cases this
    rw [hdc]
    exact ⟨rfl,Oy hS hlt HMS.out (HCT.out.chg.then hC3.nil) HCB.out (HCT.out.map.keep hC3 (fun _ _ f=>f)) rfl (by omega) HCT.out.full⟩
theorem To {B:Nat} (ad:Nat→Addr) (b n:Nat) (d:Fo) (S:Nat→Prop) (w:World) (mv:Value) (T:TypeId) (hS:S b) (hlt:∀ x,S x→x<w.heap.size) (hsm:d.size≤4096) (hfl:I0 d.kv) (hn:n<d.size)
    (hb:w.heap[b]?=some (.cells #[.int .i64 d.size,mv] T (0,0))) (hmv:J7 w mv ik (Ge d.kv)) (hmS:∀ r,mv=.map (some r)→S r) (hok:(Af (d.kv.filter fun p=>!decide ((n:Int)≤p.1*64)) ((n/64:Nat):Int)).isSome=true) :
    Calls Tryz.prog 77 #[.pointer (some ⟨b,0,none⟩),.int .i64 n] w fun e w'=>
      e=.returned .nilIface∧Chg S w w'∧∃ S',Hf w' b ⟨n,Jz (d.kv.filter fun p=>!decide ((n:Int)≤p.1*64)) n⟩ S'∧J8 S S' w w':=by
  have hc0:=A9 hb 0
  have hc1:=A9 hb 1
  simp only [List.getElem?_toArray,List.getElem?_cons_zero,List.getElem?_cons_succ] at hc0 hc1
  have hbl:=lt_of_block hb
  have g0:(0:Int)≤(n:Int):=by omega
  have g1:(n:Int)≤4096:=by omega
  have g2:(n:Int)<(d.size:Int):=by omega
  obtain ⟨q,hq⟩:∃ q:Nat,q=n/64:=⟨_,rfl⟩
  obtain ⟨r,hr⟩:∃ r:Nat,r=n % 64:=⟨_,rfl⟩
  have e1:(n:Int)/64=(q:Int):=by omega
  have e2:(n:Int) % 64=(r:Int):=by omega
  have hr64:r<64:=by omega
  have hnb:¬Ow mv b:=fun e=>by
    rcases hmv with ⟨h,_⟩|⟨rm,h,hA⟩
    · rw [h] at e;cases e
    · rw [h] at e;cases e;exact Ag1 hb hA rfl
  have hnx:¬Ow mv w.heap.size:=fun e=>by have:=hlt _ (hmS _ e);omega
  have hml:∀ r,mv=.map (some r)→r<w.heap.size:=fun r h=>hlt _ (hmS r h)
  have HB:=Lib.hid hb
  have HMV:=Lib.hid hmv
  have HF:=Lib.hid hfl
  have HQ:=Lib.hid hq
  have HR:=Lib.hid hr
  have HOK:=Lib.hid hok
  have HMS:=Lib.hid hmS
  have HML:=Lib.hid hml
  clear hb hmv hq hr hok hmS hml
  go_enter Tryz.func77,Tryz.ntmps77
  go_wp2_with fail
  go_quiet (fail)
  go_wp2_with fail
  have hA0:Chg Nil w ((w.alloc (.cells #[.int .i64 n] 3)).drewN nq):=((Chg.refl _ _).alloc _).drewsN _
  have hbx:((w.alloc (.cells #[.int .i64 n] 3)).drewN nq).heap[w.heap.size]?=some (.cells #[.int .i64 n] 3 (0,0)):=(Chg.drewN (S:=Nil) _ nq).keep (Bp w _) (fun f=>f)
  have HBX:=Lib.hid hbx
  refine (R4 mv w.heap.size n d.kv _ (HMV.out.keep hA0 (fun _ _ f=>f)) HF.out (A9 hbx 0) hnx).mono ?_
  clear hbx
  rintro e w2 ⟨rfl,hC2,hM2⟩
  obtain ⟨kv2,hkv2⟩:∃ kv2,kv2=d.kv.filter fun p=>!decide ((n:Int)≤p.1*64):=⟨_,rfl⟩
  rw [← hkv2] at hM2
  have HCt:Xu b n d mv T S w w2 kv2:=⟨hA0.nil.then (hC2.mono (fun x _ h=>HMS.out x h)),hC2.keep (hA0.keep HB.out (fun f=>f)) hnb,hC2.keep HBX.out hnx,hM2,fun p hp=>HF.out p (List.mem_filter.1 (by rw [hkv2] at hp;exact hp)).1⟩
  have HOK2:Hid ((Af kv2 (q:Int)).isSome=true):=Lib.hid (by rw [hkv2,HQ.out];exact HOK.out)
  have HKV:=Lib.hid hkv2
  clear hkv2 hM2 hC2 hA0
  obtain ⟨l,hl⟩:∃ l,l=G9 kv2 q:=⟨_,rfl⟩
  have hl64:(Dx l).length=64:=by rw [hl,Er];exact Ky HCt.full q
  have HRg:=Lib.hid (fun x (hx:Chg Nil w2 x)=>And.intro (A9 (hx.keep HCt.blk (fun f=>f)) 1) (And.intro (A9 (hx.keep HCt.box (fun f=>f)) 0) (Adi (w:=x) (HCt.map.keep hx (fun _ _ f=>f)) q)))
  simp only [List.getElem?_toArray,List.getElem?_cons_zero,List.getElem?_cons_succ,← hl,HOK2.out] at HRg
  have HL:=Lib.hid hl
  have HL64:=Lib.hid hl64
  have HCT:=Lib.hid HCt
  clear hl hl64 HCt
  go_wp2_with fail
  have hwq:IntKind.i64.wrap (q:Int)=(q:Int):=IntWalk.i64_in _ (by omega)
  have hu:=Tryz.underlying171
  have hi:(Tryz.prog.info? 171).map (·.size)=some (Dx l).length:=by rw [HL64.out];exact Jr
  have ho:=Ib l
  have hl64:=HL64.out
  have hth:((w2.alloc (.cells Gc 171)).drew).there w2.heap.size 0 64:=P4 ((Chg.refl Nil _).drew.keep (Bp w2 (.cells Gc 171)) (fun f=>f))
  unfold Gc at hth
  go_region_held3 (fun w'=>w'.cell? ⟨b,1,none⟩=some mv∧w'.cell? ⟨w.heap.size,0,none⟩=some (.int .i64 n)∧(Instr.lookup 144 mv (.int .i64 q) true).run Tryz.prog w'=.ok (.tuple #[.agg (Dx l).toArray,.bool true]) w')
    ((refine HRg.out _ ?_;repeat (first|exact Chg.refl _ _|refine Chg.drew ?_|refine Chg.drewsN ?_ _|refine Chg.alloc ?_ _|refine Chg.setCells ?_ (.inl (by simp)) _ _)))
    (fail)
  all_goals
    obtain ⟨w3,hw3⟩:∃ w3,w3=(w2.alloc (.cells Gc 171)).drew.setCells w2.heap.size 0 (Dx l):=⟨_,rfl⟩
    have hb3:w3.heap[w2.heap.size]?=some (.cells (Dx l).toArray 171 (0,0)):=by
      rw [hw3];exact M2 ((Chg.refl Nil _).drew.keep (Bp w2 (.cells Gc 171)) (fun f=>f)) (by rw [HL64.out];rfl)
    have hC3:Chg Nil w2 w3:=by
      rw [hw3];exact (((Chg.refl Nil w2).alloc _).drew).setCells (.inl (Nat.le_refl _)) _ _
    unfold Gc at hw3
    rw [← hw3]
    have HW3:=Lib.hid hw3
    clear hw3 hth hu hi ho hl64
    have hcx:=(hC3.cell (p:=⟨w.heap.size,0,none⟩) (lt_of_block HCT.out.box) (fun f=>f)).trans (A9 HCT.out.box 0)
    have hcb:=hC3.keep HCT.out.blk (fun f=>f)
    simp only [List.getElem?_toArray,List.getElem?_cons_zero] at hcx
    have HB3:=Lib.hid hb3
    obtain ⟨rm,hrm⟩:∃ rm,mv=.map (some rm):=by
      rcases HCT.out.map with ⟨_,h⟩|⟨rm,h,_⟩
      · have hk:kv2=[]:=by simpa [Ge] using h
        have:=HOK2.out
        rw [hk] at this;cases this
      · exact ⟨rm,h⟩
    subst hrm
    have hsl:=V9 w2.heap.size r w3 hr64
    have hcl:=W0 w2.heap.size r w3 (Dx l) hr64 hb3 HL64.out
    have HCB:=Lib.hid hcb
    clear hb3 hcb
    go_wp2_with fail
    clear hsl hcl hcx
    obtain ⟨w4,hw4⟩:∃ w4,w4=w3.setCells w2.heap.size r (Dx (List.replicate (64 - r) 0)):=⟨_,rfl⟩
    have hl0:l.length=64:=by have:=HL64.out;rwa [Er] at this
    obtain ⟨nl,hnl⟩:∃ nl,nl=l.take r++List.replicate (64 - r) 0:=⟨_,rfl⟩
    have hb4:w4.heap[w2.heap.size]?=some (.cells (Dx nl).toArray 171 (0,0)):=by
      rw [hw4,hnl]
      have:=Qp HB3.out (show r+(Dx (List.replicate (64 - r) (0:UInt8))).length=(Dx l).length by rw [Er,Er,hl0];simp;omega)
      rw [this];simp [Dx]
    have hC4:Chg Nil w2 w4:=by rw [hw4];exact hC3.setCells (.inl (Nat.le_refl _)) _ _
    rw [← hw4]
    have hn:(Dx nl).length=64:=by rw [Er,hnl];simp [hl0];omega
    have hu:=Tryz.underlying171
    have hi:(Tryz.prog.info? 171).map (·.size)=some (Dx nl).length:=by rw [hn];exact Jr
    have ho:=Ib nl
    have hm4:D9 w4 rm ik (Ge kv2):=by
      rcases HCT.out.map.keep hC4 (fun _ _ f=>f) with ⟨h,_⟩|⟨rm',h,hA⟩
      · cases h
      · cases h;exact hA
    have hmlt:=HML.out rm rfl
    have hzz:=HCT.out.chg.size
    have hxl:=lt_of_block HCT.out.box
    have hbne:b≠rm:=fun e=>hnb (by subst e;rfl)
    have HRg4:=Lib.hid (fun x (hx:Chg (·=rm) w4 x)=>And.intro (A9 (hx.keep (hC4.keep HCT.out.blk (fun f=>f)) hbne) 1) (And.intro (A9 (hx.keep (hC4.keep HCT.out.box (fun f=>f)) (by omega)) 0) (Lz (hx.keep hb4 (by omega)))))
    simp only [List.getElem?_toArray,List.getElem?_cons_zero,List.getElem?_cons_succ] at HRg4
    have HM4:=Lib.hid hm4
    have HB4:=Lib.hid hb4
    have HW4:=Lib.hid hw4
    have HNL:=Lib.hid hnl
    clear hm4 hb4 hw4 hnl hl0
    go_region_held3 (fun w'=>w'.cell? ⟨b,1,none⟩=some (.map (some rm))∧w'.cell? ⟨w.heap.size,0,none⟩=some (.int .i64 n)∧w'.rangeAt w2.heap.size 0 (Dx nl))
      (first|exact HK5.out|(refine HRg4.out _ ?_;repeat (first|exact Chg.refl _ _|refine Chg.drew ?_|refine Chg.drewsN ?_ _|refine Chg.alloc ?_ _|refine Chg.setCells ?_ (.inl (by simp)) _ _)))
      ((refine Jy (val:=P0 nl) Tryz.underlying144 K5 (HM4.out.keep (S:=Nil) (by repeat (first|exact Chg.refl _ _|refine Chg.drew ?_|refine Chg.drewsN ?_ _|refine Chg.alloc ?_ _|refine Chg.setCells ?_ (.inl (by simp)) _ _)) (fun f=>f)) (q:Int) rfl ?_;intro w5 hA5 hC5 hz5;have HC5:=Lib.hid (Chg.then (S:=(·=rm)) (a:=w4) (by repeat (first|exact Chg.refl _ _|refine Chg.drew ?_|refine Chg.drewsN ?_ _|refine Chg.alloc ?_ _|refine Chg.setCells ?_ (.inl (by simp)) _ _)) hC5);have HK5:=Lib.hid (HRg4.out _ HC5.out)))
    have hb5:=HC5.out.keep (hC4.keep HCT.out.blk (fun f=>f)) hbne
    have hx5:=HK5.out.2.1
    have hc5:=A9 hb5 0
    have hf5:=Ef hb5 0
    simp only [List.getElem?_toArray,List.getElem?_cons_zero] at hc5
    have HB5:=Lib.hid hb5
    clear hb5 hu hi ho hn
    rw [Vv] at hA5
    have HA5:=Lib.hid hA5
    clear hA5
    go_wp2_with fail
    go_ret
    have hdc:Jz (d.kv.filter fun p=>!decide ((n:Int)≤p.1*64)) n=Ay kv2 (q:Int) nl:=by
      rw [← HKV.out]
      unfold Jz
      have:=HOK2.out
      have hl:=HL.out
      unfold G9 at hl
      rw [← HQ.out,← HR.out]
      cases hg:Af kv2 (q:Int) with
      | none=>rw [hg] at this;cases this
      | some x=>rw [hg] at hl;rw [HNL.out,hl];rfl
    have hnl64:nl.length=64:=by have h:=HL64.out;rw [Er] at h;rw [HNL.out];simp [h];omega
    rw [hdc]
    exact ⟨rfl,Oy hS hlt HMS.out ((HCT.out.chg.then hC4.nil).trans HC5.out (fun x hx e=>by have:x=rm:=e;subst this;exact HMS.out x rfl)) HB5.out (.inr ⟨rm,rfl,HA5.out⟩) rfl (by omega) (M9 HCT.out.full _ hnl64 (by omega))⟩
theorem Uj {B:Nat} (ad:Nat→Addr) (b:Nat) (n:Int) (d:Fo) (S:Nat→Prop) (w:World) (he:Env B ad [2] w) (ht:Hf w b d S) :
    Calls Tryz.prog 77 #[.pointer (some ⟨b,0,none⟩),.int .i64 n] w fun e w'=>
      e=.returned (Ag ad (B2 d n).2)∧Chg S w w'∧∃ S',Hf w' b (B2 d n).1 S'∧J8 S S' w w':=by
  have HT:=Lib.hid ht
  obtain ⟨h2,h2l⟩:=he.get (c:=2) (by simp)
  simp only [gl] at h2 h2l
  clear he
  by_cases hbad:n<0∨4096<n
  · have e1:B2 d n=(d,2):=if_pos hbad
    rw [e1]
    clear e1 ht
    have hgo:n<0∨¬n<0∧4096<n:=by omega
    clear hbad
    rcases hgo with h|⟨h,h'⟩
    all_goals
      go_enter Tryz.func77,Tryz.ntmps77
      go_wp2_with fail
      go_ret
      have c:Chg Nil w (w.alloc (.cells #[.int .i64 n] 3)):=(Chg.refl _ _).alloc _
      exact ⟨rfl,c.nil,S,HT.out.keep c (fun _ _ f=>f),J8.refl _ _ _⟩
  obtain ⟨n,rfl⟩:∃ k:Nat,n=k:=⟨n.toNat,by omega⟩
  by_cases hlt:n<d.size
  · have e1:B2 d n=(⟨n,Jz (d.kv.filter fun p=>!decide ((n:Int)≤p.1*64)) n⟩,0):=by rw [B2,if_neg hbad,if_pos (by omega)];simp
    rw [e1]
    obtain ⟨⟨mv,T,hb,hm,hmS⟩,hS,hltS,hsm,hf⟩:=ht
    cases hok:(Af (d.kv.filter fun p=>!decide ((n:Int)≤p.1*64)) ((n/64:Nat):Int)).isSome with
    | true=>exact To (B:=B) ad b n d S w mv T hS hltS hsm hf hlt hb hm hmS hok
    | false=>exact Uv (B:=B) ad b n d S w mv T hS hltS hsm hf hlt hb hm hmS hok
  · have e1:B2 d n=(⟨n,d.kv⟩,0):=by rw [B2,if_neg hbad,if_neg (by omega)];simp
    rw [e1]
    obtain ⟨⟨mv,T,hb,hm,hmS⟩,hS,hltS,hsm,hf⟩:=ht
    have hc0:=A9 hb 0
    have hf0:=Ef hb 0
    simp only [List.getElem?_toArray,List.getElem?_cons_zero] at hc0
    have hbl:=lt_of_block hb
    have HB:=Lib.hid hb
    have HM:=Lib.hid hm
    have HMS:=Lib.hid hmS
    have g0:(0:Int)≤(n:Int):=by omega
    have g1:(n:Int)≤4096:=by omega
    have g2:¬((n:Int)<(d.size:Int)):=by omega
    clear hb hm hmS e1 hbad
    go_enter Tryz.func77,Tryz.ntmps77
    go_wp2_with fail
    go_quiet (fail)
    go_wp2_with fail
    go_ret
    have c:Chg Nil w ((w.alloc (.cells #[.int .i64 n] 3)).drewN nq):=((Chg.refl _ _).alloc _).drewsN _
    exact ⟨rfl,Oy hS hltS HMS.out c.nil (c.keep HB.out (fun f=>f)) (HM.out.keep c (fun _ _ f=>f)) rfl (by omega) hf⟩
theorem I6 {α β:Type} [DecidableEq α] (k k':α) (v:β):∀ (kv:List (α×β)),Af (Ay kv k v) k'=if k'=k then some v else Af kv k'
  | []=>by simp [Ay,Af]
  | p::r=>by
    unfold Ay
    by_cases c:k=p.1
    · rw [if_pos c]
      unfold Af
      by_cases e:k'=p.1
      · simp [e,c]
      · have:¬k'=k:=fun h=>e (h.trans c)
        simp [e,this]
    · rw [if_neg c]
      unfold Af
      by_cases e:k'=p.1
      · have:¬p.1=k:=fun h=>c h.symm
        simp [e,this]
      · simp [e,I6 k k' v r]
theorem Iv {α β:Type} [DecidableEq α] (k:α) (P:α→Bool):∀ (kv:List (α×β)),Af (kv.filter fun p=>P p.1) k=if P k then Af kv k else none
  | []=>by simp [Af]
  | p::r=>by
    by_cases c:P p.1=true
    · rw [List.filter_cons_of_pos (by simpa using c)]
      unfold Af
      by_cases e:k=p.1
      · simp [e,c]
      · simp [e,Iv k P r]
    · rw [List.filter_cons_of_neg (by simpa using c),Iv k P r]
      by_cases e:k=p.1
      · subst e;simp [c]
      · conv=>rhs;unfold Af
        simp [e]
theorem Aa3 (kv:Dy) (i:Nat) (c:UInt8) (q:Nat):G9 (Ql kv i c) q=if q=i/64 then (G9 kv (i/64)).set (i % 64) c else G9 kv q:=by
  unfold Ql
  conv=>lhs;unfold G9
  rw [I6]
  by_cases h:q=i/64
  · subst h;rw [if_pos rfl,if_pos rfl];rfl
  · have:¬((q:Int)=((i/64:Nat):Int)):=by omega
    rw [if_neg this,if_neg h];rfl
theorem Aaz {kv:Dy} (h:I0 kv) (i:Nat) (c:UInt8) (j:Nat):Gv (Ql kv i c) j=if j=i then c else Gv kv j:=by
  unfold Gv
  rw [Aa3]
  have hl:=Ky h (i/64)
  by_cases e:j=i
  · subst e
    simp [hl,Nat.mod_lt]
  · rw [if_neg e]
    by_cases q:j/64=i/64
    · have:¬i % 64=j % 64:=by omega
      rw [if_pos q,q,List.getElem?_set_ne this]
    · rw [if_neg q]
theorem Pk:∀ (s:List UInt8) {kv:Dy} (i:Nat),I0 kv→i+s.length≤4096→∀ j,Gv (F9 kv i s) j=if i≤j∧j<i+s.length then (s[j - i]?).getD 0 else Gv kv j
  | [],kv,i,h,_,j=>by
    rw [if_neg (by simp only [List.length_nil];omega)];rfl
  | c::s,kv,i,h,hl,j=>by
    simp only [List.length_cons] at hl ⊢
    unfold F9
    rw [Pk s (i+1) (Rs h i (by omega) c) (by omega) j,Aaz h]
    by_cases e:j=i
    · subst e
      rw [if_neg (by omega),if_pos rfl,if_pos (by omega)];simp
    · by_cases e2:i≤j∧j<i+(s.length+1)
      · rw [if_pos (by omega),if_pos e2,show j - i=(j - (i+1))+1 by omega];rfl
      · rw [if_neg (by omega),if_neg e,if_neg e2]
theorem Zr {kv:Dy} (h:I0 kv) (n j:Nat):Gv (Jz (kv.filter fun p=>!decide ((n:Int)≤p.1*64)) n) j=if j<n then Gv kv j else 0:=by
  have hf:∀ q:Nat,Af (kv.filter fun p=>!decide ((n:Int)≤p.1*64)) (q:Int)=if (n:Int)≤q*64 then none else Af kv (q:Int):=fun q=>by
    rw [Iv (q:Int) (fun k=>!decide ((n:Int)≤k*64)) kv]
    by_cases c:(n:Int)≤q*64<;>simp [c]
  have hz:∀ r:Nat,(Nh[r]?).getD 0=0:=fun r=>by
    unfold Nh;rw [List.getElem?_replicate];split<;>rfl
  have hfb:∀ i,Gv (kv.filter fun p=>!decide ((n:Int)≤p.1*64)) i=if n≤i/64*64 then 0 else Gv kv i:=fun i=>by
    unfold Gv G9
    rw [hf]
    by_cases c:n≤i/64*64
    · rw [if_pos (by omega),if_pos c];exact hz _
    · rw [if_neg (by omega),if_neg c]
  unfold Jz
  have hf2:Af (kv.filter fun p=>!decide ((n:Int)≤p.1*64)) ((n/64:Nat):Int)=if (n:Int)≤(n/64:Nat)*64 then none else Af kv ((n/64:Nat):Int):=hf (n/64)
  cases hg:Af (kv.filter fun p=>!decide ((n:Int)≤p.1*64)) ((n/64:Nat):Int) with
  | none=>
    simp only [hfb]
    by_cases c:j<n
    · rw [if_neg (by omega),if_pos c]
    · rw [if_neg c]
      by_cases c2:n≤j/64*64
      · rw [if_pos c2]
      · rw [if_neg c2]
        have hq:j/64=n/64:=by omega
        rw [hg] at hf2
        unfold Gv G9
        rw [hq]
        by_cases c3:(n:Int)≤((n/64:Nat):Int)*64
        · exfalso;omega
        · rw [if_neg c3] at hf2
          rw [← hf2];exact hz _
  | some l=>
    have hc3:¬(n:Int)≤((n/64:Nat):Int)*64:=fun c=>by rw [if_pos c] at hf2;rw [hg] at hf2;cases hf2
    rw [if_neg hc3,hg] at hf2
    have hl:l.length=64:=(h _ (Kz hf2.symm)).1
    show ((G9 (Ay (kv.filter fun p=>!decide ((n:Int)≤p.1*64)) ((n/64:Nat):Int) (l.take (n % 64)++List.replicate (64 - n % 64) 0)) (j/64))[j % 64]?).getD 0=_
    unfold G9
    rw [I6]
    by_cases hq:j/64=n/64
    · rw [if_pos (by omega)]
      simp only [Option.getD_some]
      by_cases c:j<n
      · rw [if_pos c,List.getElem?_append_left (by rw [List.length_take];omega),List.getElem?_take,if_pos (by omega)]
        unfold Gv G9
        rw [hq,← hf2];rfl
      · rw [if_neg c,List.getElem?_append_right (by rw [List.length_take];omega),List.getElem?_replicate]
        split<;>rfl
    · rw [if_neg (by omega)]
      have:=hfb j
      unfold Gv G9 at this
      rw [this]
      by_cases c:j<n
      · rw [if_neg (by omega),if_pos c];rfl
      · rw [if_neg c,if_pos (by omega)]
structure Lr (d:Fo) (s:List UInt8):Prop where
  size:d.size=s.length
  bytes:∀ j,Gv d.kv j=(s[j]?).getD 0
  full:I0 d.kv
  small:d.size≤4096
theorem Lr.read {d:Fo} {s:List UInt8} (h:Lr d s) (p m:Nat) (hm:p+m≤s.length):Oa d.kv p m=(s.drop p).take m:=by
  apply List.ext_getElem?
  intro i
  rw [List.getElem?_take]
  unfold Oa
  rw [List.getElem?_map,List.getElem?_drop]
  by_cases c:i<m
  · rw [List.getElem?_range c,if_pos c,Option.map_some,h.bytes,List.getElem?_eq_getElem (by omega)];rfl
  · rw [if_neg c,List.getElem?_eq_none (by simpa using c)];rfl
theorem Aar:Lr ⟨0,[]⟩ [] where
  size:=rfl
  bytes:=fun j=>by
    unfold Gv G9 Af
    simp only [Option.getD_none,List.getElem?_nil]
    unfold Nh;rw [List.getElem?_replicate];split<;>rfl
  full:=fun p h=>by cases h
  small:=Nat.zero_le _
def E5 (s:List UInt8) (p:Nat) (t:List UInt8):List UInt8:=(s++List.replicate (p - s.length) 0).take p++t++s.drop (p+t.length)
theorem Oq (s:List UInt8) (p:Nat) (t:List UInt8):(E5 s p t).length=max s.length (p+t.length):=by
  simp [E5];omega
theorem Xf (s:List UInt8) (p:Nat) (t:List UInt8) (j:Nat):((E5 s p t)[j]?).getD 0=if p≤j∧j<p+t.length then (t[j - p]?).getD 0 else (s[j]?).getD 0:=by
  have hl:((s++List.replicate (p - s.length) 0).take p).length=p:=by simp;omega
  unfold E5
  rw [List.append_assoc]
  by_cases c:j<p
  · rw [List.getElem?_append_left (by omega),if_neg (by omega),List.getElem?_take,if_pos c]
    by_cases c2:j<s.length
    · rw [List.getElem?_append_left c2]
    · rw [List.getElem?_append_right (by omega),List.getElem?_replicate,List.getElem?_eq_none (by omega)]
      split<;>rfl
  · rw [List.getElem?_append_right (by omega),hl]
    by_cases c2:j<p+t.length
    · rw [List.getElem?_append_left (by omega),if_pos (by omega)]
    · rw [List.getElem?_append_right (by omega),if_neg (by omega),List.getElem?_drop,show p+t.length+(j - p - t.length)=j by omega]
theorem Lr.write {d:Fo} {s:List UInt8} (h:Lr d s) (p:Nat) (t:ByteArray) (h1:p≤4096) (h2:t.size≤4096 - p) (h3:0<t.size):(Ck d p t).2=0∧Lr (Ck d p t).1 (E5 s p t.data.toList):=by
  have hl:t.data.toList.length=t.size:=Array.length_toList
  have e:Ck d p t=(⟨max d.size (p+t.size),F9 d.kv p t.data.toList⟩,0):=by rw [Ck,if_neg (by omega),if_neg (by omega)];rfl
  rw [e]
  refine ⟨rfl,by rw [Oq,hl,h.size],fun j=>?_,Jn _ _ (by rw [hl];omega) h.full,by have:=h.small;simp only;omega⟩
  show Gv (F9 d.kv p t.data.toList) j=_
  rw [Pk _ _ h.full (by rw [hl];omega),Xf,h.bytes]
def Jc (s:List UInt8) (n:Nat):List UInt8:=s.take n++List.replicate (n - s.length) 0
theorem Qb (s:List UInt8) (n:Nat):(Jc s n).length=n:=by simp [Jc];omega
theorem Pi (s:List UInt8) (n j:Nat):((Jc s n)[j]?).getD 0=if j<n then (s[j]?).getD 0 else 0:=by
  unfold Jc
  by_cases c:j<(s.take n).length
  · rw [List.getElem?_append_left c,List.getElem?_take]
    simp only [List.length_take] at c
    rw [if_pos (by omega),if_pos (by omega)]
  · simp only [List.length_take] at c
    rw [List.getElem?_append_right (by simp;omega),List.getElem?_replicate]
    by_cases c2:j<n
    · rw [if_pos c2,List.getElem?_eq_none (by omega)];split<;>rfl
    · rw [if_neg c2];split<;>rfl
theorem Lr.resize {d:Fo} {s:List UInt8} (h:Lr d s) (n:Nat) (h1:n≤4096):(B2 d n).2=0∧Lr (B2 d n).1 (Jc s n):=by
  by_cases c:n<d.size
  · have e:B2 d n=(⟨n,Jz (d.kv.filter fun p=>!decide ((n:Int)≤p.1*64)) n⟩,0):=by rw [B2,if_neg (by omega),if_pos (by omega)];simp
    rw [e]
    refine ⟨rfl,(Qb s n).symm,fun j=>?_,?_,h1⟩
    · show Gv (Jz (d.kv.filter fun p=>!decide ((n:Int)≤p.1*64)) n) j=_
      rw [Zr h.full,Pi,h.bytes]
    · show I0 (Jz _ n)
      have hf:I0 (d.kv.filter fun p=>!decide ((n:Int)≤p.1*64)):=fun p hp=>h.full p (List.mem_filter.1 hp).1
      unfold Jz
      split
      · exact hf
      · rename_i l hg
        have hl:=(hf _ (Kz hg)).1
        simp only at hl
        exact M9 hf _ (by simp [hl];omega) (by have:=h.small;omega)
  · have e:B2 d n=(⟨n,d.kv⟩,0):=by rw [B2,if_neg (by omega),if_neg (by omega)];simp
    rw [e]
    refine ⟨rfl,(Qb s n).symm,fun j=>?_,h.full,h1⟩
    show Gv d.kv j=_
    rw [h.bytes,Pi]
    by_cases c2:j<n
    · rw [if_pos c2]
    · rw [if_neg c2,List.getElem?_eq_none (by have:=h.size;omega)];rfl
def Bv (n:Nat):ByteArray:=⟨(List.replicate n (0:UInt8)).toArray⟩
theorem Eq (n:Nat):(Bv n).size=n:=by simp [Bv,ByteArray.size]
theorem Z6 (n:Int) (w:World) (h0:0≤n) (h1:n≤140737488355328):Calls Tryz.prog 94 #[.int .i64 n] w fun e w'=>e=.returned (.string (Bv n.toNat))∧Chg Nil w w':=by
  obtain ⟨m,rfl⟩:∃ m:Nat,n=m:=⟨n.toNat,by omega⟩
  rw [Int.toNat_natCast]
  have hmk:=Acd w m (by omega)
  have hcv:(convert 167 9 (.slice (some ⟨w.heap.size,0,none⟩) m m)).run Tryz.prog (w.alloc (.cells (Dx (List.replicate m 0)).toArray 5))=.ok (.string (Bv m)) (w.alloc (.cells (Dx (List.replicate m 0)).toArray 5)):=by
    have:=run_convert_bytes_back (P:=Tryz.prog) (w.alloc (.cells (Dx (List.replicate m 0)).toArray 5)) 167 9 5 ⟨w.heap.size,0,none⟩ m (List.replicate m 0) Tryz.underlying167 Tryz.underlying5 Tryz.underlying9 (fun j hj=>by
      rw [Addr.add_lit,A9 (Bp w _)]
      have hj':j<m:=by simpa using hj
      simp [Dx,hj'])
    simpa [Bv] using this
  go_enter Tryz.func94,Tryz.ntmps94
  go_wp2_with fail
  go_ret
  exact ⟨rfl,(Chg.refl _ _).alloc _⟩
def Q9 (h:List Bool) (k:Nat):List Bool:=(h++List.replicate (k+1 - h.length) true).set k false
def G7 (h:List Bool) (k:Nat):Nat→List Bool
  | 0=>h
  | j+1=>Q9 (G7 h k j) (k+j)
theorem Aap (h:List Bool) (k:Nat):(Q9 h k).length=max h.length (k+1):=by simp [Q9];omega
theorem M8 (h:List Bool) (k:Nat):∀ j,(G7 h k j).length≤max h.length (k+j)
  | 0=>by simp [G7];omega
  | j+1=>by
    have:=M8 h k j
    simp only [G7,Aap];omega
theorem L5 {a b:ByteArray} (h:a.data.toList=b.data.toList):a=b:=by
  obtain ⟨⟨x⟩⟩:=a
  obtain ⟨⟨y⟩⟩:=b
  simp only at h
  subst h;rfl
theorem G0 (a b:ByteArray):(a++b).data.toList=a.data.toList++b.data.toList:=by simp
theorem Id (a:ByteArray) (i j:Nat):(a.extract i j).data.toList=(a.data.toList.take j).drop i:=by simp [List.drop_take]
def Bh (s:ByteArray) (h:List Bool) (p:Int) (t:ByteArray):ByteArray×List Bool×Nat:=
  if p<0∨4096<p∨4096 - p<t.size then (s,h,2) else if t.size=0 then (s,h,0) else (⟨(E5 s.data.toList p.toNat t.data.toList).toArray⟩,G7 h (p.toNat/64) ((p.toNat+t.size - 1)/64+1 - p.toNat/64),0)
theorem Wi (s t:ByteArray) (p:Nat):(⟨(E5 s.data.toList p t.data.toList).toArray⟩:ByteArray).size=max s.size (p+t.size):=by
  have h1:t.data.toList.length=t.size:=Array.length_toList
  have h2:s.data.toList.length=s.size:=Array.length_toList
  show (E5 s.data.toList p t.data.toList).toArray.size=_
  rw [List.size_toArray,Oq,h1,h2]
theorem Aa2 (s t:ByteArray) (p:Nat) (hp:s.size<p):(s++Bv (p - s.size)).extract 0 p++t=⟨(E5 s.data.toList p t.data.toList).toArray⟩:=by
  apply L5
  have h2:s.data.toList.length=s.size:=Array.length_toList
  have h1:t.data.toList.length=t.size:=Array.length_toList
  rw [G0,Id,G0,List.drop_zero]
  simp only [E5,h2]
  rw [List.drop_eq_nil_of_le (by omega),List.append_nil]
  rfl
theorem Us (s t:ByteArray) (p:Nat) (hp:p≤s.size):s.extract 0 p++t++s.extract (p+t.size) s.size=⟨(E5 s.data.toList p t.data.toList).toArray⟩:=by
  apply L5
  have h1:t.data.toList.length=t.size:=Array.length_toList
  have h2:s.data.toList.length=s.size:=Array.length_toList
  rw [G0,G0,Id,Id]
  simp only [E5,h1,h2]
  have e:p - s.size=0:=by omega
  rw [e,List.replicate_zero,List.append_nil,List.drop_zero,List.take_of_length_le (l:=s.data.toList) (i:=s.size) (by omega)]
theorem Xh (a:ByteArray):a++⟨#[]⟩=a:=by
  apply L5;rw [G0];simp
theorem Ad0 (s t:ByteArray) (p:Nat) (hp:p≤s.size) (hq:s.size≤p+t.size):s.extract 0 p++t=⟨(E5 s.data.toList p t.data.toList).toArray⟩:=by
  rw [← Us s t p hp]
  have:s.extract (p+t.size) s.size=⟨#[]⟩:=by
    apply L5
    rw [Id]
    have h2:s.data.toList.length=s.size:=Array.length_toList
    rw [List.drop_eq_nil_of_le (by simp;omega)]
  rw [this]
  apply L5
  rw [G0,G0,G0];simp
def Ab2 (s:ByteArray) (p n:Int):ByteArray×Bool×Nat:=
  if p<0∨n<0 then (⟨#[]⟩,false,2) else if (s.size:Int)≤p then (⟨#[]⟩,true,0) else if (s.size:Int) - p≤n then (s.extract p.toNat s.size,true,0) else (s.extract p.toNat (p+n).toNat,false,0)
def Jo (h:List Bool):Nat:=h.countP fun x=>!x
theorem Sd (h:List Bool) (k:Nat) (x:Bool) (hx:h[k]?=some x):Jo (h.take (k+1))=Jo (h.take k)+if x then 0 else 1:=by
  have hk:=(List.getElem?_eq_some_iff.1 hx).1
  rw [List.take_add_one,hx]
  unfold Jo
  rw [List.countP_append]
  cases x<;>simp
def Qc (h:List Bool) (n:Nat):List Bool:=h.mapIdx fun k x=>if n≤k*64 then true else x
def Bc (s:ByteArray) (h:List Bool) (n:Int):ByteArray×List Bool×Nat:=
  if n<0∨4096<n then (s,h,2) else if (s.size:Int)≤n then (s++Bv (n.toNat - s.size),h,0) else (s.extract 0 n.toNat,Qc h n.toNat,0)
theorem Adp (h:List Bool) (n:Nat):(Qc h n).length=h.length:=by simp [Qc]
def Hx (h:List Bool) (n k:Nat):List Bool:=h.mapIdx fun i x=>if i<k∧n≤i*64 then true else x
theorem Zl (h:List Bool) (n k:Nat):(Hx h n k).length=h.length:=by simp [Hx]
theorem Wk (h:List Bool) (n:Nat):Hx h n 0=h:=by
  apply List.ext_getElem?
  intro i
  simp [Hx]
theorem Aai (h:List Bool) (n k:Nat) (hk:h.length≤k):Hx h n k=Qc h n:=by
  apply List.ext_getElem?
  intro i
  simp only [Hx,Qc,List.getElem?_mapIdx]
  cases hi:h[i]? with
  | none=>rfl
  | some x=>
    have:=(List.getElem?_eq_some_iff.1 hi).1
    simp only [Option.map_some]
    congr 1
    by_cases c:n≤i*64
    · rw [if_pos ⟨by omega,c⟩,if_pos c]
    · rw [if_neg (fun h=>c h.2),if_neg c]
theorem Adf (h:List Bool) (n k:Nat) (hk:k<h.length) (hn:n≤k*64):(Hx h n k).set k true=Hx h n (k+1):=by
  apply List.ext_getElem?
  intro i
  simp only [Hx,List.getElem?_set,List.getElem?_mapIdx,List.length_mapIdx]
  by_cases c:k=i
  · subst c
    rw [if_pos rfl,if_pos hk,List.getElem?_eq_getElem hk,Option.map_some,if_pos ⟨by omega,hn⟩]
  · rw [if_neg c]
    cases hi:h[i]? with
    | none=>rfl
    | some x=>
      simp only [Option.map_some]
      congr 1
      by_cases c2:i<k∧n≤i*64
      · rw [if_pos c2,if_pos ⟨by omega,c2.2⟩]
      · rw [if_neg c2,if_neg (fun h=>c2 ⟨by omega,h.2⟩)]
theorem Y8 (h:List Bool) (n k:Nat) (hn:¬n≤k*64):Hx h n k=Hx h n (k+1):=by
  apply List.ext_getElem?
  intro i
  simp only [Hx,List.getElem?_mapIdx]
  cases hi:h[i]? with
  | none=>rfl
  | some x=>
    simp only [Option.map_some]
    congr 1
    by_cases c2:i<k∧n≤i*64
    · rw [if_pos c2,if_pos ⟨by omega,c2.2⟩]
    · rw [if_neg c2,if_neg (fun h=>by
        by_cases e:i=k
        · subst e;exact hn h.2
        · exact c2 ⟨by omega,h.2⟩)]
structure G5 (d:Fo) (s:ByteArray) (h:List Bool):Prop where
  holds:Lr d s.data.toList
  keys:∀ k:Nat,(Af d.kv (k:Int)).isSome=(h[k]?==some false)
theorem G5.size {d:Fo} {s:ByteArray} {h:List Bool} (a:G5 d s h):d.size=s.size:=by rw [a.holds.size];exact Array.length_toList
theorem Zu:G5 ⟨0,[]⟩ ⟨#[]⟩ []:=⟨Aar,fun k=>rfl⟩
theorem Z9 (kv:Dy) (i:Nat) (c:UInt8) (q:Nat):(Af (Ql kv i c) (q:Int)).isSome=((Af kv (q:Int)).isSome||decide (q=i/64)):=by
  unfold Ql
  rw [I6]
  by_cases h:q=i/64
  · subst h;simp
  · rw [if_neg (by omega)];simp [h]
theorem Oj:∀ (s:List UInt8) (kv:Dy) (i q:Nat),(Af (F9 kv i s) (q:Int)).isSome=((Af kv (q:Int)).isSome||decide (0<s.length∧i/64≤q∧q≤(i+s.length - 1)/64))
  | [],kv,i,q=>by simp [F9]
  | c::s,kv,i,q=>by
    unfold F9
    rw [Oj s (Ql kv i c) (i+1) q,Z9,Bool.or_assoc]
    congr 1
    rw [Bool.eq_iff_iff]
    simp only [Bool.or_eq_true,decide_eq_true_eq,List.length_cons]
    constructor
    · rintro (h|⟨h1,h2,h3⟩)
      · subst h;omega
      · omega
    · rintro ⟨_,h2,h3⟩
      by_cases e:q=i/64
      · exact .inl e
      · right;omega
theorem Zp (h:List Bool) (k q:Nat):((Q9 h k)[q]?==some false)=((h[q]?==some false)||decide (q=k)):=by
  unfold Q9
  rw [List.getElem?_set]
  by_cases e:k=q
  · subst e
    simp;omega
  · have e':¬q=k:=fun x=>e x.symm
    rw [if_neg e]
    simp only [e',decide_false,Bool.or_false]
    by_cases c:q<h.length
    · rw [List.getElem?_append_left c]
    · rw [List.getElem?_append_right (by omega),List.getElem?_replicate,List.getElem?_eq_none (by omega)]
      split<;>rfl
theorem Q6 (h:List Bool) (k:Nat):∀ (j q:Nat),((G7 h k j)[q]?==some false)=((h[q]?==some false)||decide (k≤q∧q<k+j))
  | 0,q=>by
    have:¬(k≤q∧q<k+0):=by omega
    simp only [G7,this,decide_false,Bool.or_false]
  | j+1,q=>by
    rw [G7,Zp,Q6 h k j q,Bool.or_assoc]
    congr 1
    rw [Bool.eq_iff_iff]
    simp only [Bool.or_eq_true,decide_eq_true_eq]
    omega
theorem G5.write {d:Fo} {s:ByteArray} {h:List Bool} (a:G5 d s h) (p:Int) (t:ByteArray):(Ck d p t).2=(Bh s h p t).2.2∧G5 (Ck d p t).1 (Bh s h p t).1 (Bh s h p t).2.1:=by
  have hl:t.data.toList.length=t.size:=Array.length_toList
  by_cases hbad:p<0∨4096<p∨4096 - p<t.size
  · rw [Ck,if_pos hbad,Bh,if_pos hbad];exact ⟨rfl,a⟩
  by_cases h0:t.size=0
  · rw [Ck,if_neg hbad,if_pos h0,Bh,if_neg hbad,if_pos h0];exact ⟨rfl,a⟩
  obtain ⟨p,rfl⟩:∃ k:Nat,p=k:=⟨p.toNat,by omega⟩
  obtain ⟨w1,w2⟩:=a.holds.write p t (by omega) (by omega) (by omega)
  refine ⟨by rw [w1,Bh,if_neg hbad,if_neg h0],?_⟩
  have e1:Ck d p t=(⟨max d.size (p+t.size),F9 d.kv p t.data.toList⟩,0):=by rw [Ck,if_neg hbad,if_neg h0];rfl
  have e2:Bh s h p t=(⟨(E5 s.data.toList p t.data.toList).toArray⟩,G7 h (p/64) ((p+t.size - 1)/64+1 - p/64),0):=by rw [Bh,if_neg hbad,if_neg h0];rfl
  rw [e1] at w2 ⊢
  rw [e2]
  refine ⟨by simpa using w2,fun k=>?_⟩
  show (Af (F9 d.kv p t.data.toList) (k:Int)).isSome=_
  rw [Oj,Q6,a.keys,hl]
  congr 1
  rw [Bool.eq_iff_iff]
  simp only [decide_eq_true_eq]
  omega
theorem Aae {kv:Dy} (n q:Nat):(Af (Jz (kv.filter fun p=>!decide ((n:Int)≤p.1*64)) n) (q:Int)).isSome=((Af kv (q:Int)).isSome&&!decide (n≤q*64)):=by
  have hf:∀ q:Nat,Af (kv.filter fun p=>!decide ((n:Int)≤p.1*64)) (q:Int)=if (n:Int)≤q*64 then none else Af kv (q:Int):=fun q=>by
    rw [Iv (q:Int) (fun k=>!decide ((n:Int)≤k*64)) kv]
    by_cases c:(n:Int)≤q*64<;>simp [c]
  have base:(Af (kv.filter fun p=>!decide ((n:Int)≤p.1*64)) (q:Int)).isSome=((Af kv (q:Int)).isSome&&!decide (n≤q*64)):=by
    rw [hf]
    by_cases c:n≤q*64
    · rw [if_pos (by omega)];simp [c]
    · rw [if_neg (by omega)];simp [c]
  unfold Jz
  split
  · exact base
  · rename_i l hg
    rw [I6]
    by_cases e:(q:Int)=((n/64:Nat):Int)
    · rw [if_pos e,← base,e,hg];rfl
    · rw [if_neg e];exact base
theorem Ady (h:List Bool) (n q:Nat):((Qc h n)[q]?==some false)=((h[q]?==some false)&&!decide (n≤q*64)):=by
  unfold Qc
  rw [List.getElem?_mapIdx]
  cases h[q]? with
  | none=>simp
  | some x=>
    by_cases c:n≤q*64
    · simp [c]
    · simp [c]
theorem G5.resize {d:Fo} {s:ByteArray} {h:List Bool} (a:G5 d s h) (n:Int):(B2 d n).2=(Bc s h n).2.2∧G5 (B2 d n).1 (Bc s h n).1 (Bc s h n).2.1:=by
  have hs:=a.size
  have hl:s.data.toList.length=s.size:=Array.length_toList
  by_cases hbad:n<0∨4096<n
  · rw [B2,if_pos hbad,Bc,if_pos hbad];exact ⟨rfl,a⟩
  obtain ⟨n,rfl⟩:∃ k:Nat,n=k:=⟨n.toNat,by omega⟩
  obtain ⟨w1,w2⟩:=a.holds.resize n (by omega)
  by_cases c:n<d.size
  · have e1:B2 d n=(⟨n,Jz (d.kv.filter fun p=>!decide ((n:Int)≤p.1*64)) n⟩,0):=by rw [B2,if_neg hbad,if_pos (by omega)];simp
    have e2:Bc s h n=(s.extract 0 n,Qc h n,0):=by rw [Bc,if_neg hbad,if_neg (by omega)];rfl
    rw [e1] at w2 ⊢
    rw [e2]
    refine ⟨rfl,?_,fun k=>?_⟩
    · have:(s.extract 0 n).data.toList=Jc s.data.toList n:=by
        rw [Id,List.drop_zero]
        unfold Jc
        rw [show n - s.data.toList.length=0 by omega];simp
      rw [this];exact w2
    · show (Af (Jz (d.kv.filter fun p=>!decide ((n:Int)≤p.1*64)) n) (k:Int)).isSome=_
      rw [Aae,Ady,a.keys]
  · have e1:B2 d n=(⟨n,d.kv⟩,0):=by rw [B2,if_neg hbad,if_neg (by omega)];simp
    have e2:Bc s h n=(s++Bv (n - s.size),h,0):=by rw [Bc,if_neg hbad,if_pos (by omega)];rfl
    rw [e1] at w2 ⊢
    rw [e2]
    refine ⟨rfl,?_,a.keys⟩
    have:(s++Bv (n - s.size)).data.toList=Jc s.data.toList n:=by
      rw [G0]
      unfold Jc
      rw [hl,List.take_of_length_le (by omega)];rfl
    rw [this];exact w2
theorem G5.read {d:Fo} {s:ByteArray} {h:List Bool} (a:G5 d s h) (p n:Int):Abs d p n=Ab2 s p n:=by
  have hs:=a.size
  have hl:s.data.toList.length=s.size:=Array.length_toList
  by_cases hbad:p<0∨n<0
  · rw [Abs,if_pos hbad,Ab2,if_pos hbad]
  rw [Abs,if_neg hbad,Ab2,if_neg hbad]
  obtain ⟨p,rfl⟩:∃ k:Nat,p=k:=⟨p.toNat,by omega⟩
  rw [Int.toNat_natCast]
  by_cases h1:(s.size:Int)≤p
  · have hm:Ku d.size p n=0:=by unfold Ku;omega
    rw [if_pos h1,hm]
    have:decide ((d.size:Int) - ((0:Nat):Int)≤(p:Int))=true:=by rw [decide_eq_true_eq];omega
    rw [this];simp [Oa]
  · rw [if_neg h1]
    by_cases h2:(s.size:Int) - p≤n
    · have hm:Ku d.size p n=s.size - p:=by unfold Ku;omega
      rw [if_pos h2,hm,a.holds.read p (s.size - p) (by omega)]
      have:decide ((d.size:Int) - ((s.size - p:Nat):Int)≤(p:Int))=true:=by rw [decide_eq_true_eq];omega
      rw [this]
      congr 1
      apply L5
      rw [Id]
      show (s.data.toList.drop p).take (s.size - p)=_
      rw [List.take_of_length_le (by rw [List.length_drop];omega),List.take_of_length_le (i:=s.size) (by omega)]
    · have hm:Ku d.size p n=n.toNat:=by unfold Ku;omega
      rw [if_neg h2,hm,a.holds.read p n.toNat (by omega)]
      have:decide ((d.size:Int) - ((n.toNat:Nat):Int)≤(p:Int))=false:=by rw [decide_eq_false_iff_not];omega
      rw [this]
      congr 1
      apply L5
      rw [Id]
      show (s.data.toList.drop p).take n.toNat=_
      rw [show ((p:Int)+n).toNat=p+n.toNat by omega,List.drop_take,Nat.add_sub_cancel_left]
theorem Pb (h:List Bool):∀ n,n≤h.length→((List.range n).filter fun k=>h[k]?==some false).length=Jo (h.take n)
  | 0,_=>by simp [Jo]
  | n+1,hn=>by
    obtain ⟨x,hx⟩:∃ x,h[n]?=some x:=⟨h[n],List.getElem?_eq_getElem (by omega)⟩
    rw [List.range_succ,List.filter_append,List.length_append,Pb h n (by omega),Sd h n x hx]
    cases x<;>simp [hx]
theorem G5.blocks {d:Fo} {s:ByteArray} {h:List Bool} (a:G5 d s h) (hd:(d.kv.map (·.1)).Nodup):d.kv.length=Jo h:=by
  have hfull:=a.holds.full
  have e1:Jo h=((List.range h.length).filter fun k=>h[k]?==some false).length:=by rw [Pb h h.length (Nat.le_refl _),List.take_length]
  rw [e1]
  have e2:d.kv.length=(d.kv.map fun p=>p.1.toNat).length:=by simp
  rw [e2]
  refine List.Perm.length_eq ((List.perm_ext_iff_of_nodup ?_ ?_).2 fun k=>?_)
  · have:(d.kv.map fun p=>p.1.toNat)=(d.kv.map (·.1)).map Int.toNat:=by simp
    rw [this]
    simp only [List.Nodup,List.pairwise_map] at hd ⊢
    have aux:∀ l:Dy,(∀ p∈l,0≤p.1)→List.Pairwise (fun a b=>a.1≠b.1) l→List.Pairwise (fun a b:Int×List UInt8=>a.1.toNat≠b.1.toNat) l:=by
      intro l
      induction l with
      | nil=>intro _ _;exact List.Pairwise.nil
      | cons x l ih=>
        intro hp hw
        obtain ⟨h1,h2⟩:=List.pairwise_cons.1 hw
        refine List.pairwise_cons.2 ⟨fun y hy e=>h1 y hy ?_,ih (fun p hp'=>hp p (List.mem_cons_of_mem _ hp')) h2⟩
        have:=hp x (List.mem_cons_self ..)
        have:=hp y (List.mem_cons_of_mem _ hy)
        omega
    exact aux d.kv (fun p hp=>(hfull p hp).2.1) hd
  · exact List.filter_sublist.nodup List.nodup_range
  · have hk:=a.keys k
    constructor
    · intro hm
      obtain ⟨p,hp,e⟩:=List.mem_map.1 hm
      have h0:=(hfull p hp).2.1
      have hg:(Af d.kv (k:Int)).isSome=true:=by
        cases hg:Af d.kv (k:Int) with
        | some _=>rfl
        | none=>
          exfalso
          have:∀ l:Dy,Af l (k:Int)=none→∀ p∈l,p.1≠(k:Int):=by
            intro l
            induction l with
            | nil=>intro _ p hp;cases hp
            | cons x l ih=>
              intro hn p hp
              unfold Af at hn
              split at hn
              · cases hn
              · rename_i c
                rcases List.mem_cons.1 hp with rfl|hp
                · exact fun e=>c e.symm
                · exact ih hn p hp
          exact this d.kv hg p hp (by omega)
      rw [hk] at hg
      have hh:h[k]?=some false:=by simpa using hg
      exact List.mem_filter.2 ⟨List.mem_range.2 (List.getElem?_eq_some_iff.1 hh).1,hg⟩
    · intro hm
      have hg:=(List.mem_filter.1 hm).2
      rw [← hk] at hg
      obtain ⟨l,hl⟩:=Option.isSome_iff_exists.1 hg
      exact List.mem_map.2 ⟨_,Kz hl,by simp⟩
def Abv (A:List AN):Prop:=∀ M∈A,M.s.size≤4096∧M.holes.length≤64
theorem Abv.at_ {L:List RN} (h:Abv (L.map RN.a)) {j:Nat} {N:RN} (hx:L[j]?=some N):N.a.s.size≤4096∧N.a.holes.length≤64:=h _ (List.mem_map.2 ⟨N,List.mem_of_getElem? hx,rfl⟩)
def atF {α:Type} (A:List AN) (h:Hdl) (e:Nat→α) (f:AN→α):α:=match Bs A h with|none=>e 10|some N=>if N.kind=1 then f N else e 8
section
variable {α:Type} {A:List AN} {h:Hdl} {e:Nat→α} {f:AN→α} {N:AN}
theorem Ht (h1:Bs A h=none):atF A h e f=e 10:=by unfold atF;rw [h1]
theorem Io (h1:Bs A h=some N) (h2:¬N.kind=1):atF A h e f=e 8:=by unfold atF;rw [h1];exact if_neg h2
theorem G3 (h1:Bs A h=some N) (h2:N.kind=1):atF A h e f=f N:=by unfold atF;rw [h1];exact if_pos h2
end
def wrA (p:Int) (t:ByteArray) (N:AN):AN:=⟨N.h,N.kind,N.change+(if (Bh N.s N.holes p t).2.2=0∧¬t.size=0 then 1 else 0),(Bh N.s N.holes p t).1,(Bh N.s N.holes p t).2.1,N.es,N.pins⟩
def rzA (p:Int) (N:AN):AN:=⟨N.h,N.kind,N.change+(if (Bc N.s N.holes p).2.2=0 then 1 else 0),(Bc N.s N.holes p).1,(Bc N.s N.holes p).2.1,N.es,N.pins⟩
def Ep (A:List AN) (h:Hdl) (p:Int) (t:ByteArray):Nat:=atF A h id fun N=>(Bh N.s N.holes p t).2.2
def Fd (A:List AN) (h:Hdl) (p:Int) (t:ByteArray):List AN:=atF A h (fun _=>A) fun _=>Cx A h (wrA p t)
def D4 (A:List AN) (h:Hdl) (p:Int):Nat:=atF A h id fun N=>(Bc N.s N.holes p).2.2
def Ec (A:List AN) (h:Hdl) (p:Int):List AN:=atF A h (fun _=>A) fun _=>Cx A h (rzA p)
def lsE (es:List Bj) (c m:Int):List Bj×Nat:=((es.drop c.toNat).take m.toNat,min c.toNat es.length+min m.toNat (es.length - min c.toNat es.length))
def Cg (A:List AN) (h:Hdl) (c m:Int):List Bj×Nat×Nat:=
  match Bs A h with
  | none=>([],0,10)
  | some N=>if N.kind=2 then (if c<0∨m<0 then ([],0,2) else ((lsE N.es c m).1,(lsE N.es c m).2,0)) else ([],0,7)
section
variable {A:List AN} {h:Hdl} {c m:Int} {N:AN}
theorem Sf (h1:Bs A h=none):Cg A h c m=([],0,10):=by unfold Cg;rw [h1]
theorem S7 (h1:Bs A h=some N) (h2:¬N.kind=2):Cg A h c m=([],0,7):=by unfold Cg;rw [h1];exact if_neg h2
theorem P2 (h1:Bs A h=some N) (h2:N.kind=2) (h3:c<0∨m<0):Cg A h c m=([],0,2):=by unfold Cg;rw [h1];simp only [if_pos h2,if_pos h3]
theorem Vn (h1:Bs A h=some N) (h2:N.kind=2) (h3:¬(c<0∨m<0)):Cg A h c m=((lsE N.es c m).1,(lsE N.es c m).2,0):=by unfold Cg;rw [h1];simp only [if_pos h2,if_neg h3]
end
theorem P6 {es:List Bj} {c m:Int} {k0 k:Nat} {ls:List Bj} (h0:k0=min c.toNat es.length) (hk0:k0≤k) (hk:k≤es.length) (hm:k - k0≤m.toNat) (hl:ls=(es.drop k0).take (k - k0)) (he:k=es.length∨k - k0=m.toNat):lsE es c m=(ls,k):=by
  have e1:(es.drop c.toNat)=es.drop k0:=by
    by_cases q:c.toNat≤es.length
    · rw [h0,Nat.min_eq_left q]
    · rw [h0,Nat.min_eq_right (by omega),List.drop_of_length_le (by omega),List.drop_of_length_le (by omega)]
  unfold lsE
  rw [e1,← h0,hl]
  have e2:k0+min m.toNat (es.length - k0)=k:=by omega
  rw [e2]
  congr 1
  rcases he with he|he
  · rw [List.take_of_length_le (i:=m.toNat) (by rw [List.length_drop];omega),List.take_of_length_le (by rw [List.length_drop];omega)]
  · rw [he]
theorem Rr {es:List Bj} {k0 k:Nat} {x:Bj} (hk:k0≤k) (hx:es[k]?=some x):(es.drop k0).take (k+1 - k0)=(es.drop k0).take (k - k0)++[x]:=by
  rw [show k+1 - k0=(k - k0)+1 by omega,List.take_add_one,List.getElem?_drop,show k0+(k - k0)=k by omega,hx];rfl
theorem Rv (nm:ByteArray) (h:Hdl):∀ (es:List Bj) (s:Bool×List Bj),(es.foldl (C6 nm h) s).2.Perm (if (es.foldl (C6 nm h) s).1&&!s.1 then (nm,h)::(s.2++es) else s.2++es)∧(s.1=true→(es.foldl (C6 nm h) s).1=true)
  | [],s=>⟨by simp,fun h=>h⟩
  | e::es,s=>by
    obtain ⟨h1,h2⟩:=Rv nm h es (C6 nm h s e)
    show ((es.foldl (C6 nm h) (C6 nm h s e)).2.Perm (if (es.foldl (C6 nm h) (C6 nm h s e)).1&&!s.1 then (nm,h)::(s.2++e::es) else s.2++e::es))∧(s.1=true→(es.foldl (C6 nm h) (C6 nm h s e)).1=true)
    generalize hz:es.foldl (C6 nm h) (C6 nm h s e)=z at h1 h2 ⊢
    by_cases c:(!s.1&&Lx nm e.1)=true
    · have hs:s.1=false:=by simp only [Bool.and_eq_true,Bool.not_eq_true'] at c;exact c.1
      have e1:C6 nm h s e=(true,s.2++[(nm,h)]++[e]):=if_pos c
      rw [e1] at h1 h2
      have h3:z.1=true:=h2 rfl
      rw [h3,hs] at *
      simp only [Bool.not_true,Bool.and_false,Bool.false_eq_true,if_false,Bool.not_false,Bool.and_true,if_true] at h1 ⊢
      refine ⟨h1.trans ?_,fun q=>by cases q⟩
      rw [List.append_assoc,List.append_assoc]
      exact List.perm_middle
    · have e1:C6 nm h s e=(s.1,s.2++[e]):=if_neg c
      rw [e1] at h1 h2
      have e2:s.2++[e]++es=s.2++e::es:=by simp
      rw [e2] at h1
      exact ⟨h1,h2⟩
theorem E6 (nm:ByteArray) (h:Hdl) (es:List Bj):(Bi nm h es).Perm ((nm,h)::es):=by
  obtain ⟨h1,_⟩:=Rv nm h es (false,[])
  unfold Bi
  change (Lt nm h es).2.Perm (if (Lt nm h es).1&&!false then (nm,h)::([]++es) else []++es) at h1
  by_cases c:(Lt nm h es).1=true
  · rw [if_pos c]
    rw [c] at h1
    simpa using h1
  · rw [if_neg c]
    have c':(Lt nm h es).1=false:=by simpa using c
    rw [c'] at h1
    simp only [Bool.not_false,Bool.and_true,Bool.false_eq_true,if_false,List.nil_append] at h1
    exact (h1.append_right _).trans (List.perm_append_comm)
theorem Dm.enter {L:List RN} {c:Int} (hok:Dm (L.map RN.a) c) {j:Nat} {N N':RN} (hx:L[j]?=some N) {nm:ByteArray} {x:Hdl} (h:N'.a=⟨N.a.h,N.a.kind,N.a.change,N.a.s,N.a.holes,Bi nm x N.a.es,N.a.pins⟩) (hK:∃ K∈L.map RN.a,K.h=x) (hno:∀ e∈N.a.es,e.1≠nm) (hlt:N.a.es.length<60):Dm ((L.set j N').map RN.a) c:=by
  have hm:N.a∈L.map RN.a:=List.mem_map.2 ⟨N,List.mem_of_getElem? hx,rfl⟩
  have hp:=E6 nm x N.a.es
  refine hok.setN hx (by rw [h]) (fun e he=>?_) ?_ ?_ (by rw [h];exact hok.rng N.a hm)
  · rw [h] at he
    rcases List.mem_cons.1 (hp.subset he) with rfl|he
    · exact hK
    · exact hok.ent N.a hm e he
  · rw [h];show (Bi nm x N.a.es).length≤60;rw [hp.length_eq,List.length_cons];omega
  · rw [h];show ((Bi nm x N.a.es).map (·.1)).Nodup
    rw [(hp.map (·.1)).nodup_iff,List.map_cons,List.nodup_cons]
    exact ⟨fun q=>by obtain ⟨e,he,q⟩:=List.mem_map.1 q;exact hno e he q,hok.nms N.a hm⟩
theorem F5 {L:List RN} {j:Nat} {N N':RN} (hx:L[j]?=some N) (h1:N'.a.h=N.a.h) {x:Hdl} (h:∃ K∈L.map RN.a,K.h=x):∃ K∈(L.set j N').map RN.a,K.h=x:=by
  obtain ⟨K,hK,rfl⟩:=h
  obtain ⟨K',hK',rfl⟩:=List.mem_map.1 hK
  obtain ⟨k,hk⟩:=List.getElem?_of_mem hK'
  obtain ⟨K2,h2,h3⟩:=Xj (N':=N') hx h1 hk rfl
  exact ⟨K2.a,List.mem_map.2 ⟨K2,List.mem_of_getElem? h2,rfl⟩,h3⟩
theorem Af5 {L:List RN} {x:Hdl} (h:∃ K∈L.map RN.a,K.h=x):∃ (k:Nat) (K:RN),L[k]?=some K∧K.a.h=x:=by
  obtain ⟨K,hK,rfl⟩:=h
  obtain ⟨K',hK',rfl⟩:=List.mem_map.1 hK
  obtain ⟨k,hk⟩:=List.getElem?_of_mem hK'
  exact ⟨k,K',hk,rfl⟩
theorem Mc {L:List RN} {i j:Nat} {M N:RN} (h1:L[i]?=some M) (h2:L[j]?=some N) (hn:(L.map fun N=>N.a.h).Nodup) (hl:¬0<N.a.es.length) {k:Nat} {e:Bj} (he:M.a.es[k]?=some e):M.a.h≠N.a.h:=fun q=>by
  have:=O2 hn h1 h2 q
  subst this;rw [h1] at h2;cases h2
  have:=(List.getElem?_eq_some_iff.1 he).1
  omega
theorem W5 {L:List RN} {i j:Nat} {M N:RN} (h1:L[i]?=some M) (h2:L[j]?=some N) (h:M.a.h≠N.a.h):i≠j:=fun e=>by
  subst e;rw [h1] at h2;cases h2;exact h rfl
theorem Aff {L:List RN} (hn:(L.map fun N=>N.a.h).Nodup) {i j:Nat} {M N:RN} (h1:L[i]?=some M) (h2:L[j]?=some N) (h:M.a.h=N.a.h):i=j∧M=N:=by
  have:=O2 hn h1 h2 h
  subst this;rw [h1] at h2;cases h2;exact ⟨rfl,rfl⟩
theorem Aao {A:List AN} {h:Hdl} (hn:(A.map (·.h)).Nodup):((C5 A h).map (·.h)).Nodup:=by
  unfold C5
  split
  · split
    · exact (List.filter_sublist.map _).nodup hn
    · refine (List.filter_sublist.map _).nodup ?_
      have:(Ap A h).map (·.h)=A.map (·.h):=by
        unfold Ap Cx
        rw [List.map_map]
        refine List.map_congr_left fun N _=>?_
        simp only [Function.comp]
        split<;>rfl
      rw [this];exact hn
  · exact hn
theorem Ui {L L2:List RN} {h:Hdl} (hA:L2.map RN.a=C5 (L.map RN.a) h) {c:Int} (hok:Dm (L.map RN.a) c):(L2.map fun N=>N.a.h).Nodup:=by
  have:=Aao (h:=h) hok.nod
  rw [← hA,List.map_map] at this
  exact this
def itU (A:List AN):Nat→Hdl→Hdl
  | 0,d=>d
  | k+1,d=>upA A (itU A k d)
def B8 (A:List AN) (h d:Hdl):Prop:=∃ k,itU A k d=h
theorem O4 {A:List AN} {h d:Hdl} {k:Nat} (hf:upA A (itU A k d)=itU A k d) (hno:∀ j,j≤k→itU A j d≠h):¬B8 A h d:=fun ⟨i,hi⟩=>by
  by_cases c:i≤k
  · exact hno i c hi
  · have:∀ q,itU A (k+q) d=itU A k d:=fun q=>by
      induction q with
      | zero=>rfl
      | succ q ih=>show upA A (itU A (k+q) d)=_;rw [ih,hf]
    have h2:=this (i - k)
    rw [show k+(i - k)=i by omega,hi] at h2
    exact hno k (Nat.le_refl _) h2.symm
def Eu (A:List AN) (a:Hdl) (old:ByteArray) (b:Hdl) (nm:ByteArray) (h:Hdl) (y:Option Hdl):List AN:=
  let A2:=match y with|none=>Ax (Al A a old) b nm h|some y=>C5 (Ax (Al (Al A a old) b nm) b nm h) y
  if a=b then Ap A2 a else Ap (Ap A2 a) b
open Classical in
noncomputable def tRename (A:List AN) (a:Hdl) (old:ByteArray) (b:Hdl) (nm:ByteArray):Nat×List AN:=
  match Bs A a with
  | none=>(10,A)
  | some F=>if F.kind=2 then (match Bs A b with
    | none=>(10,A)
    | some T=>if T.kind=2 then (if Hy old=0 then (if Hy nm=0 then (match Eg F.es old with
      | none=>(5,A)
      | some h=>match Bs A h with
        | none=>(0,A)
        | some X=>if X.kind=2∧B8 A h b then (3,A) else (match Eg T.es nm with
          | none=>if 60≤T.es.length∧a≠b then (9,A) else (0,Eu A a old b nm h none)
          | some y=>if y=h then (0,A) else match Bs A y with
            | none=>(0,A)
            | some Y=>if X.kind=1∧Y.kind=2 then (7,A) else if X.kind=2∧Y.kind=1 then (8,A) else if 0<Y.es.length then (11,A) else (0,Eu A a old b nm h (some y)))) else (4,A)) else (4,A)) else (7,A)) else (7,A)
section
variable {A:List AN} {a b h y:Hdl} {old nm:ByteArray} {F T X Y:AN}
theorem Afu (h1:Bs A a=none):tRename A a old b nm=(10,A):=by unfold tRename;rw [h1]
theorem Ya (h1:Bs A a=some F) (h2:¬F.kind=2):tRename A a old b nm=(7,A):=by unfold tRename;rw [h1];exact if_neg h2
theorem Ahe (h1:Bs A a=some F) (h2:F.kind=2) (h3:Bs A b=none):tRename A a old b nm=(10,A):=by unfold tRename;rw [h1];simp only [if_pos h2];rw [h3]
theorem Ab9 (h1:Bs A a=some F) (h2:F.kind=2) (h3:Bs A b=some T) (h4:¬T.kind=2):tRename A a old b nm=(7,A):=by unfold tRename;rw [h1];simp only [if_pos h2];rw [h3];exact if_neg h4
section
variable (h1:Bs A a=some F) (h2:F.kind=2) (h3:Bs A b=some T) (h4:T.kind=2)
include h1 h2 h3 h4
theorem Sa (h5:¬A0 old):tRename A a old b nm=(4,A):=by
  unfold tRename;rw [h1];simp only [if_pos h2];rw [h3];simp only [if_pos h4];rw [C3 h5];rfl
theorem Xx (h5:A0 old) (h6:¬A0 nm):tRename A a old b nm=(4,A):=by
  unfold tRename;rw [h1];simp only [if_pos h2];rw [h3];simp only [if_pos h4];rw [Bf h5,C3 h6];rfl
section
variable (h5:A0 old) (h6:A0 nm)
include h5 h6
theorem Og (h7:Eg F.es old=none):tRename A a old b nm=(5,A):=by
  unfold tRename;rw [h1];simp only [if_pos h2];rw [h3];simp only [if_pos h4];rw [Bf h5,Bf h6,h7];rfl
section
variable (h7:Eg F.es old=some h) (h8:Bs A h=some X)
include h7 h8
theorem N8 (h9:X.kind=2) (hA:B8 A h b):tRename A a old b nm=(3,A):=by
  unfold tRename;rw [h1];simp only [if_pos h2];rw [h3];simp only [if_pos h4];rw [Bf h5,Bf h6,h7];simp only [if_true];rw [h8];exact if_pos ⟨h9,hA⟩
section
variable (h9:¬(X.kind=2∧B8 A h b))
include h9
theorem Oe (hB:Eg T.es nm=none) (hC:60≤T.es.length∧a≠b):tRename A a old b nm=(9,A):=by
  unfold tRename;rw [h1];simp only [if_pos h2];rw [h3];simp only [if_pos h4];rw [Bf h5,Bf h6,h7];simp only [if_true];rw [h8];simp only [if_neg h9];rw [hB];exact if_pos hC
theorem Lw (hB:Eg T.es nm=none) (hC:¬(60≤T.es.length∧a≠b)):tRename A a old b nm=(0,Eu A a old b nm h none):=by
  unfold tRename;rw [h1];simp only [if_pos h2];rw [h3];simp only [if_pos h4];rw [Bf h5,Bf h6,h7];simp only [if_true];rw [h8];simp only [if_neg h9];rw [hB];exact if_neg hC
section
variable (hB:Eg T.es nm=some y)
include hB
theorem Mv (hC:y=h):tRename A a old b nm=(0,A):=by
  unfold tRename;rw [h1];simp only [if_pos h2];rw [h3];simp only [if_pos h4];rw [Bf h5,Bf h6,h7];simp only [if_true];rw [h8];simp only [if_neg h9];rw [hB];exact if_pos hC
section
variable (hC:¬y=h) (hD:Bs A y=some Y)
include hC hD
theorem Th (hE:X.kind=1∧Y.kind=2):tRename A a old b nm=(7,A):=by
  unfold tRename;rw [h1];simp only [if_pos h2];rw [h3];simp only [if_pos h4];rw [Bf h5,Bf h6,h7];simp only [if_true];rw [h8];simp only [if_neg h9];rw [hB];simp only [if_neg hC];rw [hD];exact if_pos hE
theorem K8 (hE:¬(X.kind=1∧Y.kind=2)) (hF:X.kind=2∧Y.kind=1):tRename A a old b nm=(8,A):=by
  unfold tRename;rw [h1];simp only [if_pos h2];rw [h3];simp only [if_pos h4];rw [Bf h5,Bf h6,h7];simp only [if_true];rw [h8];simp only [if_neg h9];rw [hB];simp only [if_neg hC];rw [hD];simp only [if_neg hE];exact if_pos hF
theorem Ho (hE:¬(X.kind=1∧Y.kind=2)) (hF:¬(X.kind=2∧Y.kind=1)) (hG:0<Y.es.length):tRename A a old b nm=(11,A):=by
  unfold tRename;rw [h1];simp only [if_pos h2];rw [h3];simp only [if_pos h4];rw [Bf h5,Bf h6,h7];simp only [if_true];rw [h8];simp only [if_neg h9];rw [hB];simp only [if_neg hC];rw [hD];simp only [if_neg hE,if_neg hF];exact if_pos hG
theorem Mr (hE:¬(X.kind=1∧Y.kind=2)) (hF:¬(X.kind=2∧Y.kind=1)) (hG:¬0<Y.es.length):tRename A a old b nm=(0,Eu A a old b nm h (some y)):=by
  unfold tRename;rw [h1];simp only [if_pos h2];rw [h3];simp only [if_pos h4];rw [Bf h5,Bf h6,h7];simp only [if_true];rw [h8];simp only [if_neg h9];rw [hB];simp only [if_neg hC];rw [hD];simp only [if_neg hE,if_neg hF];exact if_neg hG
end
end
end
end
end
end
end
def shp (A:List AN):List (Hdl×Int×List Bj):=A.map fun M=>(M.h,M.kind,M.es)
theorem Yr (A:List AN) (x:Hdl):Be A x=((shp A).map fun t=>F1 t.2.2 x).sum:=by unfold Be shp;rw [List.map_map];rfl
theorem Rd (A:List AN) (x:Hdl):Bg A x=match (shp A).find? fun t:Hdl×Int×List Bj=>t.1==x with|some t=>decide (t.2.1=2)|none=>false:=by
  unfold Bg Bs shp
  rw [List.find?_map]
  show _=match (A.find? fun M=>M.h==x).map (fun M:AN=>((M.h,M.kind,M.es):Hdl×Int×List Bj)) with|some t=>decide (t.2.1=2)|none=>false
  cases A.find? fun M=>M.h==x<;>rfl
theorem Acs (A:List AN) (x:Hdl):upA A x=match (shp A).find? fun t:Hdl×Int×List Bj=>t.2.2.any fun e=>e.2==x with|some t=>t.1|none=>x:=by
  unfold upA shp
  rw [List.find?_map]
  show _=match (A.find? fun M=>M.es.any fun e=>e.2==x).map (fun M:AN=>((M.h,M.kind,M.es):Hdl×Int×List Bj)) with|some t=>t.1|none=>x
  cases A.find? fun M=>M.es.any fun e=>e.2==x<;>rfl
theorem D1 {A B:List AN} (h:shp A=shp B) (x:Hdl):Be A x=Be B x:=by rw [Yr,Yr,h]
theorem Oi {A B:List AN} (h:shp A=shp B) (x:Hdl):Bg A x=Bg B x:=by rw [Rd,Rd,h]
theorem Ta {A B:List AN} (h:shp A=shp B) (x:Hdl):upA A x=upA B x:=by rw [Acs,Acs,h]
theorem O5 {A B:List AN} (h:shp A=shp B) {M N:AN} (h1:M.h=N.h) (h2:M.kind=N.kind) (h3:M.es=N.es):Dv A M=Dv B N:=by
  unfold Dv
  rw [h2,h3,h1,D1 h]
  have:(fun e:Bj=>Bg A e.2)=fun e=>Bg B e.2:=funext fun e=>Oi h e.2
  rw [this]
theorem H1 (A:List AN) (d:Hdl) (f:AN→AN) (hf:∀ M,(f M).h=M.h∧(f M).kind=M.kind∧(f M).es=M.es):shp (Cx A d f)=shp A:=by
  unfold shp Cx
  rw [List.map_map]
  refine List.map_congr_left fun M _=>?_
  simp only [Function.comp]
  split
  · obtain ⟨h1,h2,h3⟩:=hf M;rw [h1,h2,h3]
  · rfl
theorem Bl (A:List AN) (d:Hdl):shp (Ap A d)=shp A:=H1 A d _ fun _=>⟨rfl,rfl,rfl⟩
theorem Hm (A:List AN) (d:Hdl) (x:Int):shp (G4 A d x)=shp A:=H1 A d _ fun _=>⟨rfl,rfl,rfl⟩
theorem Ahd (A:List AN) (d:Hdl) (p:Int) (t:ByteArray):shp (Cx A d (wrA p t))=shp A:=H1 A d _ fun _=>⟨rfl,rfl,rfl⟩
theorem Ag8 (A:List AN) (d:Hdl) (p:Int):shp (Cx A d (rzA p))=shp A:=H1 A d _ fun _=>⟨rfl,rfl,rfl⟩
theorem Db {A:List AN} {h:Hdl} {M:AN} (hg:Bs A h=some M):M∈A∧M.h=h:=⟨List.mem_of_find?_eq_some hg,by simpa using List.find?_some hg⟩
theorem C2 {A:List AN} (hn:(A.map (·.h)).Nodup) {M:AN} (hM:M∈A):Bs A M.h=some M:=by
  unfold Bs
  induction A with
  | nil=>cases hM
  | cons x A ih=>
    rw [List.map_cons,List.nodup_cons] at hn
    rw [List.find?_cons]
    rcases List.mem_cons.1 hM with rfl|hM
    · simp
    · have:x.h≠M.h:=fun e=>hn.1 (e▸List.mem_map.2 ⟨M,hM,rfl⟩)
      simp only [show (x.h==M.h)=false by simpa using this]
      exact ih hn.2 hM
theorem R0 (A:List AN) (d:Hdl) (f:AN→AN) (hf:∀ M,(f M).h=M.h):(Cx A d f).map (·.h)=A.map (·.h):=by
  unfold Cx
  rw [List.map_map]
  refine List.map_congr_left fun M _=>?_
  simp only [Function.comp]
  split
  · exact hf M
  · rfl
theorem Abj (A:List AN) (d x:Hdl) (f:AN→AN) (hf:∀ M,(f M).h=M.h):Bs (Cx A d f) x=(Bs A x).map fun M=>if x=d then f M else M:=by
  unfold Bs Cx
  induction A with
  | nil=>rfl
  | cons y A ih=>
    rw [List.map_cons,List.find?_cons,List.find?_cons]
    have e:(if y.h==d then f y else y).h=y.h:=by split;exact hf y;rfl
    rw [e]
    by_cases c:y.h=x
    · subst c
      simp only [beq_self_eq_true]
      by_cases q:y.h=d<;>simp [q]
    · simp only [show (y.h==x)=false by simpa using c]
      exact ih
theorem Yb {A:List AN} (hn:(A.map (·.h)).Nodup) {D:AN} (hD:D∈A) (f:AN→AN) (g:AN→Nat):((Cx A D.h f).map g).sum+g D=(A.map g).sum+g (f D):=by
  induction A with
  | nil=>cases hD
  | cons x A ih=>
    rw [List.map_cons,List.nodup_cons] at hn
    unfold Cx at ih ⊢
    rw [List.map_cons,List.map_cons,List.sum_cons,List.map_cons,List.sum_cons]
    rcases List.mem_cons.1 hD with rfl|hD
    · have:A.map (fun N=>if N.h==D.h then f N else N)=A:=by
        conv=>rhs;rw [← List.map_id A]
        refine List.map_congr_left fun N hN=>?_
        have:N.h≠D.h:=fun e=>hn.1 (e▸List.mem_map.2 ⟨N,hN,rfl⟩)
        simp [this]
      rw [this];simp only [beq_self_eq_true,if_true];omega
    · have h1:x.h≠D.h:=fun e=>hn.1 (e▸List.mem_map.2 ⟨D,hD,rfl⟩)
      have:=ih hn.2 hD
      simp only [show (x.h==D.h)=false by simpa using h1,Bool.false_eq_true,if_false]
      omega
theorem Afo (nm:ByteArray) (x:Hdl) (es:List Bj) (h:Hdl):F1 (Bi nm x es) h=F1 es h+if x=h then 1 else 0:=by
  unfold F1
  rw [(E6 nm x es).countP_eq,List.countP_cons]
  by_cases c:x=h<;>simp [c]
theorem Md {es:List Bj} (hn:(es.map (·.1)).Nodup) {e:Bj} (he:e∈es):es.filter (fun x=>decide (x.1=e.1))=[e]:=by
  induction es with
  | nil=>cases he
  | cons y es ih=>
    rw [List.map_cons,List.nodup_cons] at hn
    rcases List.mem_cons.1 he with rfl|he
    · rw [List.filter_cons,if_pos (by simp)]
      congr 1
      rw [List.filter_eq_nil_iff]
      intro z hz
      simp only [decide_eq_true_eq]
      exact fun q=>hn.1 (q▸List.mem_map.2 ⟨z,hz,rfl⟩)
    · rw [List.filter_cons,if_neg (by simp only [decide_eq_true_eq];exact fun q=>hn.1 (q▸List.mem_map.2 ⟨e,he,rfl⟩))]
      exact ih hn.2 he
theorem Jt {α:Type} (l:List α) (p q:α→Bool):l.countP p=(l.filter fun x=>q x).countP p+(l.filter fun x=>!q x).countP p:=by
  induction l with
  | nil=>rfl
  | cons a l ih=>
    by_cases c:q a<;>by_cases d:p a<;>simp [c,d,ih,List.countP_cons]<;>omega
theorem Aer {es:List Bj} (hn:(es.map (·.1)).Nodup) {e:Bj} (he:e∈es) (h:Hdl):F1 (es.filter fun x=>!decide (x.1=e.1)) h+(if e.2=h then 1 else 0)=F1 es h:=by
  unfold F1
  have:=Jt es (fun x=>x.2==h) (fun x=>decide (x.1=e.1))
  rw [Md hn he] at this
  rw [this]
  by_cases c:e.2=h<;>simp [c,Nat.add_comm]
section
variable {A:List AN} (hn:(A.map (·.h)).Nodup)
include hn
theorem Ha {D:AN} (hD:D∈A) (nm:ByteArray) (x h:Hdl):Be (Ax A D.h nm x) h=Be A h+if x=h then 1 else 0:=by
  have:=Yb hn hD (fun N=>⟨N.h,N.kind,N.change,N.s,N.holes,Bi nm x N.es,N.pins⟩) fun M=>F1 M.es h
  unfold Be Ax
  have h2:=Afo nm x D.es h
  simp only at this
  omega
theorem Do {D:AN} (hD:D∈A) (hm:(D.es.map (·.1)).Nodup) {e:Bj} (he:e∈D.es) (h:Hdl):Be (Al A D.h e.1) h+(if e.2=h then 1 else 0)=Be A h:=by
  have:=Yb hn hD (fun N=>⟨N.h,N.kind,N.change,N.s,N.holes,N.es.filter fun x=>!decide (x.1=e.1),N.pins⟩) fun M=>F1 M.es h
  unfold Be Al
  have h2:=Aer hm he h
  simp only at this
  omega
end
theorem Le (A:List AN) (N:AN) (hN:N.es=[]) (h:Hdl):Be (A++[N]) h=Be A h:=by
  unfold Be;rw [List.map_append,List.sum_append];simp [F1,hN]
theorem Hd (A:List AN) (p:AN→Bool) (hp:∀ M∈A,p M=false→M.es=[]) (h:Hdl):Be (A.filter p) h=Be A h:=by
  unfold Be
  induction A with
  | nil=>rfl
  | cons x A ih=>
    have:=ih fun M hM=>hp M (List.mem_cons_of_mem _ hM)
    rw [List.filter_cons]
    split
    · rw [List.map_cons,List.sum_cons,this,List.map_cons,List.sum_cons]
    · rename_i c
      rw [this,List.map_cons,List.sum_cons,hp x (by simp) (by simpa using c)]
      simp [F1]
theorem Lc {A:List AN} {M:AN} (hM:M∈A) {e:Bj} (he:e∈M.es):0<Be A e.2:=by
  unfold Be
  have h1:0<F1 M.es e.2:=by unfold F1;rw [List.countP_pos_iff];exact ⟨e,he,by simp⟩
  have:F1 M.es e.2≤(A.map fun M=>F1 M.es e.2).sum:=by
    clear h1
    induction A with
    | nil=>cases hM
    | cons x A ih=>
      rw [List.map_cons,List.sum_cons]
      rcases List.mem_cons.1 hM with rfl|hM
      · omega
      · have:=ih hM;omega
  omega
theorem Ok {A:List AN} {h:Hdl} (hp:0<Be A h):∃ M∈A,∃ e∈M.es,e.2=h:=by
  unfold Be at hp
  induction A with
  | nil=>simp at hp
  | cons x A ih=>
    rw [List.map_cons,List.sum_cons] at hp
    by_cases c:0<F1 x.es h
    · unfold F1 at c
      rw [List.countP_pos_iff] at c
      obtain ⟨e,he,q⟩:=c
      exact ⟨x,by simp,e,he,by simpa using q⟩
    · obtain ⟨M,hM,e,he,q⟩:=ih (by omega)
      exact ⟨M,by simp [hM],e,he,q⟩
theorem Afm {A:List AN} {h:Hdl} (h1:Be A h≤1) {M N:AN} (hM:M∈A) (hN:N∈A) {e f:Bj} (he:e∈M.es) (hf:f∈N.es) (h2:e.2=h) (h3:f.2=h):M=N:=by
  unfold Be at h1
  have hc:∀ {K:AN} {q:Bj},q∈K.es→q.2=h→0<F1 K.es h:=fun hq e=>by unfold F1;rw [List.countP_pos_iff];exact ⟨_,hq,by simpa using e⟩
  have c1:=hc he h2
  have c2:=hc hf h3
  clear he hf
  induction A with
  | nil=>cases hM
  | cons x A ih=>
    rw [List.map_cons,List.sum_cons] at h1
    have hs:∀ {K:AN},K∈A→F1 K.es h≤(A.map fun M=>F1 M.es h).sum:=fun {K} hK=>by
      clear ih hM hN h1
      induction A with
      | nil=>cases hK
      | cons y A ih=>
        rw [List.map_cons,List.sum_cons]
        rcases List.mem_cons.1 hK with rfl|hK
        · omega
        · have:=ih hK;omega
    rcases List.mem_cons.1 hM with e1|hM2<;>rcases List.mem_cons.1 hN with e2|hN2
    · exact e1.trans e2.symm
    · have:=hs hN2;rw [e1] at c1;omega
    · have:=hs hM2;rw [e2] at c2;omega
    · exact ih (by omega) hM2 hN2
theorem Ko (A:List AN) (h:Hdl):(upA A h=h∧∀ M∈A,∀ e∈M.es,e.2≠h)∨∃ M∈A,∃ e∈M.es,e.2=h∧upA A h=M.h:=by
  unfold upA
  cases hq:A.find? fun M=>M.es.any fun e=>e.2==h with
  | none=>
    refine .inl ⟨rfl,fun M hM e he q=>?_⟩
    have:=List.find?_eq_none.1 hq M hM
    exact this (List.any_eq_true.2 ⟨e,he,by simpa using q⟩)
  | some M=>
    have h1:=List.find?_some hq
    obtain ⟨e,he,q⟩:=List.any_eq_true.1 h1
    exact .inr ⟨M,List.mem_of_find?_eq_some hq,e,he,by simpa using q,rfl⟩
theorem Ng {A:List AN} {h:Hdl} (h1:Be A h≤1) {M:AN} (hM:M∈A) {e:Bj} (he:e∈M.es) (h2:e.2=h):upA A h=M.h:=by
  rcases Ko A h with ⟨_,hno⟩|⟨N,hN,f,hf,h3,h4⟩
  · exact absurd h2 (hno M hM e he)
  · rw [h4,Afm h1 hN hM hf he h3 h2]
theorem Oh {A:List AN} {h:Hdl} (h1:Be A h=0):upA A h=h:=by
  rcases Ko A h with ⟨q,_⟩|⟨N,hN,f,hf,h3,_⟩
  · exact q
  · have:=Lc hN hf;rw [h3] at this;omega
structure TI0 (most:Nat) (ts:List Int) (lz:Hdl→Nat) (A:List AN):Prop where
  num:(A.map (·.h.1)).Nodup
  gen:∀ M∈A,∃ k:Nat,k<most∧M.h=((k:Int),Aw ts k - 1)
  kind:∀ M∈A,M.kind=1∨M.kind=2
  ent:∀ M∈A,∀ e∈M.es,∃ K∈A,K.h=e.2
  few:∀ M∈A,M.es.length≤60
  nms:∀ M∈A,(M.es.map (·.1)).Nodup
  file:∀ M∈A,M.kind=1→M.es=[]
  dir:∀ M∈A,M.kind=2→M.pins=0∧M.s=⟨#[]⟩∧M.holes=[]
  root:∃ M∈A,M.h=(0,0)∧M.kind=2
  one:∀ M∈A,M.kind=2→Be A M.h+lz M.h=if M.h=(0,0) then 0 else 1
  lnk8:∀ M∈A,M.kind=1→Be A M.h≤8
  txt:Abv A
  pos:∀ M∈A,0≤M.pins
def F3 (A:List AN) (rk:Hdl→Nat):Prop:=∀ M∈A,∀ e∈M.es,Bg A e.2=true→rk M.h<rk e.2
def Kr (A:List AN):Prop:=∀ M∈A,M.kind=1→0<M.pins∨0<Be A M.h
structure TI (most:Nat) (ts:List Int) (A:List AN):Prop where
  base:TI0 most ts (fun _=>0) A
  rank:∃ rk,F3 A rk
  held:Kr A
def lz0:Hdl→Nat:=fun _=>0
theorem V5 {A:List AN} (h:(A.map (·.h.1)).Nodup):(A.map (·.h)).Nodup:=by
  have e:A.map (·.h.1)=(A.map (·.h)).map (·.1):=by rw [List.map_map];rfl
  rw [e] at h
  exact (List.pairwise_map.1 h).imp fun hne e=>hne (congrArg Prod.fst e)
theorem B4 {A:List AN} {d:Hdl} {f:AN→AN} {M:AN} (h:M∈Cx A d f):∃ N∈A,M=if N.h=d then f N else N:=by
  unfold Cx at h
  obtain ⟨N,hN,rfl⟩:=List.mem_map.1 h
  refine ⟨N,hN,?_⟩
  by_cases c:N.h=d<;>simp [c]
theorem Dj {A:List AN} {d:Hdl} {f:AN→AN} {N:AN} (h:N∈A):(if N.h=d then f N else N)∈Cx A d f:=by
  unfold Cx
  refine List.mem_map.2 ⟨N,h,?_⟩
  by_cases c:N.h=d<;>simp [c]
theorem E2 {A:List AN} (hn:(A.map (·.h)).Nodup) {M:AN} (hM:M∈A):Bg A M.h=decide (M.kind=2):=by unfold Bg;rw [C2 hn hM]
theorem U1 {A:List AN} {x:Hdl} (h:Bg A x=true):∃ M∈A,M.h=x∧M.kind=2:=by
  unfold Bg at h
  split at h
  · rename_i M hM
    exact ⟨M,(Db hM).1,(Db hM).2,by simpa using h⟩
  · cases h
section
variable {most:Nat} {ts:List Int} {lz:Hdl→Nat} {A:List AN}
theorem TI0.nod (h:TI0 most ts lz A):(A.map (·.h)).Nodup:=V5 h.num
theorem TI0.upd (h:TI0 most ts lz A) (lz':Hdl→Nat) {D:AN} (hD:D∈A) (f:AN→AN) (hf:∀ M,(f M).h=M.h∧(f M).kind=M.kind) (hent:∀ e∈(f D).es,∃ K∈A,K.h=e.2) (hfew:(f D).es.length≤60) (hnms:((f D).es.map (·.1)).Nodup)
    (hfile:D.kind=1→(f D).es=[]) (hdir:D.kind=2→(f D).pins=0∧(f D).s=⟨#[]⟩∧(f D).holes=[]) (hone:∀ M∈A,M.kind=2→Be (Cx A D.h f) M.h+lz' M.h=if M.h=(0,0) then 0 else 1) (h8:∀ M∈A,M.kind=1→Be (Cx A D.h f) M.h≤8)
    (htx:(f D).s.size≤4096∧(f D).holes.length≤64) (hpos:0≤(f D).pins):TI0 most ts lz' (Cx A D.h f):=by
  have hn:=h.nod
  have key:∀ {N:AN},N∈A→N.h=D.h→N=D:=fun {N} hN e=>by
    have h1:=C2 hn hN
    rw [e,C2 hn hD] at h1
    exact (Option.some.inj h1).symm
  have hm:∀ {M:AN},M∈Cx A D.h f→(M∈A∧M.h≠D.h)∨M=f D:=fun {M} hM=>by
    obtain ⟨N,hN,rfl⟩:=B4 hM
    by_cases c:N.h=D.h
    · rw [if_pos c,key hN c];exact .inr rfl
    · rw [if_neg c];exact .inl ⟨hN,c⟩
  have hh:(Cx A D.h f).map (·.h)=A.map (·.h):=R0 A D.h f fun M=>(hf M).1
  have hex:∀ {x:Hdl},(∃ K∈A,K.h=x)→∃ K∈Cx A D.h f,K.h=x:=fun {x} ⟨K,hK,e⟩=>by
    have:x∈(Cx A D.h f).map (·.h):=by rw [hh,← e];exact List.mem_map.2 ⟨K,hK,rfl⟩
    obtain ⟨K',h1,h2⟩:=List.mem_map.1 this
    exact ⟨K',h1,h2⟩
  have e1:(Cx A D.h f).map (·.h.1)=A.map (·.h.1):=by
    have:=congrArg (List.map Prod.fst) hh
    rwa [List.map_map,List.map_map] at this
  refine ⟨by rw [e1];exact h.num,fun M hM=>?_,fun M hM=>?_,fun M hM e he=>?_,fun M hM=>?_,fun M hM=>?_,fun M hM hk=>?_,fun M hM hk=>?_,?_,fun M hM hk=>?_,fun M hM hk=>?_,fun M hM=>?_,fun M hM=>?_⟩
  · rcases hm hM with ⟨hM,_⟩|rfl
    · exact h.gen M hM
    · rw [(hf D).1];exact h.gen D hD
  · rcases hm hM with ⟨hM,_⟩|rfl
    · exact h.kind M hM
    · rw [(hf D).2];exact h.kind D hD
  · rcases hm hM with ⟨hM,_⟩|rfl
    · exact hex (h.ent M hM e he)
    · exact hex (hent e he)
  · rcases hm hM with ⟨hM,_⟩|rfl
    · exact h.few M hM
    · exact hfew
  · rcases hm hM with ⟨hM,_⟩|rfl
    · exact h.nms M hM
    · exact hnms
  · rcases hm hM with ⟨hM,_⟩|rfl
    · exact h.file M hM hk
    · exact hfile (by rw [← (hf D).2];exact hk)
  · rcases hm hM with ⟨hM,_⟩|rfl
    · exact h.dir M hM hk
    · exact hdir (by rw [← (hf D).2];exact hk)
  · obtain ⟨M,hM,e,hk⟩:=h.root
    refine ⟨_,Dj (d:=D.h) (f:=f) hM,?_,?_⟩
    · split
      · rw [(hf M).1];exact e
      · exact e
    · split
      · rw [(hf M).2];exact hk
      · exact hk
  · rcases hm hM with ⟨hM,_⟩|rfl
    · exact hone M hM hk
    · rw [(hf D).1];exact hone D hD (by rw [← (hf D).2];exact hk)
  · rcases hm hM with ⟨hM,_⟩|rfl
    · exact h8 M hM hk
    · rw [(hf D).1];exact h8 D hD (by rw [← (hf D).2];exact hk)
  · rcases hm hM with ⟨hM,_⟩|rfl
    · exact h.txt M hM
    · exact htx
  · rcases hm hM with ⟨hM,_⟩|rfl
    · exact h.pos M hM
    · exact hpos
theorem TI0.num1 (h:TI0 most ts lz A) {D:AN} (hD:D∈A) (f:AN→AN) (hf:∀ M,(f M).h=M.h∧(f M).kind=M.kind∧(f M).es=M.es) (hdir:D.kind=2→(f D).pins=0∧(f D).s=⟨#[]⟩∧(f D).holes=[]) (htx:(f D).s.size≤4096∧(f D).holes.length≤64) (hpos:0≤(f D).pins):TI0 most ts lz (Cx A D.h f):=by
  have hs:=H1 A D.h f hf
  refine h.upd lz hD f (fun M=>⟨(hf M).1,(hf M).2.1⟩) (by rw [(hf D).2.2];exact h.ent D hD) (by rw [(hf D).2.2];exact h.few D hD) (by rw [(hf D).2.2];exact h.nms D hD) (fun q=>by rw [(hf D).2.2];exact h.file D hD q) hdir (fun M hM hk=>?_) (fun M hM hk=>?_) htx hpos
  · rw [D1 hs];exact h.one M hM hk
  · rw [D1 hs];exact h.lnk8 M hM hk
theorem TI0.touch (h:TI0 most ts lz A) {D:AN} (hD:D∈A):TI0 most ts lz (Ap A D.h):=
  h.num1 hD _ (fun _=>⟨rfl,rfl,rfl⟩) (h.dir D hD) (h.txt D hD) (h.pos D hD)
theorem TI0.enter (h:TI0 most ts lz A) {D X:AN} (hD:D∈A) (hX:X∈A) (hk:D.kind=2) {nm:ByteArray} (hno:∀ e∈D.es,e.1≠nm) (hlt:D.es.length<60) (h8:X.kind=1→Be A X.h<8) (lz':Hdl→Nat) (hz:∀ M∈A,M.kind=2→lz' M.h+(if X.h=M.h then 1 else 0)=lz M.h):TI0 most ts lz' (Ax A D.h nm X.h):=by
  have hp:=E6 nm X.h D.es
  refine h.upd lz' hD _ (fun _=>⟨rfl,rfl⟩) (fun e he=>?_) ?_ ?_ (fun q=>by rw [hk] at q;cases q) (h.dir D hD) (fun M hM hkM=>?_) (fun M hM hkM=>?_) (h.txt D hD) (h.pos D hD)
  · rcases List.mem_cons.1 (hp.subset he) with rfl|he
    · exact ⟨X,hX,rfl⟩
    · exact h.ent D hD e he
  · show (Bi nm X.h D.es).length≤60;rw [hp.length_eq,List.length_cons];omega
  · show ((Bi nm X.h D.es).map (·.1)).Nodup
    rw [(hp.map (·.1)).nodup_iff,List.map_cons,List.nodup_cons]
    exact ⟨fun q=>by obtain ⟨e,he,q⟩:=List.mem_map.1 q;exact hno e he q,h.nms D hD⟩
  · have h1:=Ha h.nod hD nm X.h M.h
    have h2:=h.one M hM hkM
    have h3:=hz M hM hkM
    show Be (Ax A D.h nm X.h) M.h+_=_
    rw [h1];omega
  · have h1:=Ha h.nod hD nm X.h M.h
    show Be (Ax A D.h nm X.h) M.h≤8
    rw [h1]
    by_cases c:X.h=M.h
    · rw [if_pos c]
      have e:X=M:=by
        have h1:=C2 h.nod hX
        rw [c,C2 h.nod hM] at h1
        exact (Option.some.inj h1).symm
      have:=h8 (e▸hkM)
      rw [c] at this;omega
    · rw [if_neg c];exact h.lnk8 M hM hkM
theorem TI0.leave (h:TI0 most ts lz A) {D:AN} (hD:D∈A) (hk:D.kind=2) {e:Bj} (he:e∈D.es) (lz':Hdl→Nat) (hz:∀ M∈A,M.kind=2→lz' M.h=lz M.h+if e.2=M.h then 1 else 0):TI0 most ts lz' (Al A D.h e.1):=by
  refine h.upd lz' hD _ (fun _=>⟨rfl,rfl⟩) (fun x hx=>h.ent D hD x (List.mem_filter.1 hx).1) (Nat.le_trans (List.length_filter_le _ _) (h.few D hD)) ((List.filter_sublist.map _).nodup (h.nms D hD)) (fun q=>by rw [hk] at q;cases q) (h.dir D hD) (fun M hM hkM=>?_) (fun M hM hkM=>?_) (h.txt D hD) (h.pos D hD)
  · have h1:=Do h.nod hD (h.nms D hD) he M.h
    have h2:=h.one M hM hkM
    have h3:=hz M hM hkM
    show Be (Al A D.h e.1) M.h+_=_
    omega
  · have h1:=Do h.nod hD (h.nms D hD) he M.h
    have h2:=h.lnk8 M hM hkM
    show Be (Al A D.h e.1) M.h≤8
    omega
theorem TI0.filter (h:TI0 most ts lz A) (p:AN→Bool) (hp:∀ M∈A,p M=false→M.es=[]∧Be A M.h=0∧M.h≠(0,0)):TI0 most ts lz (A.filter p):=by
  have hl:∀ x,Be (A.filter p) x=Be A x:=Hd A p fun M hM q=>(hp M hM q).1
  have hs:∀ {M:AN},M∈A.filter p→M∈A:=fun hM=>(List.mem_filter.1 hM).1
  refine ⟨(List.filter_sublist.map _).nodup h.num,fun M hM=>h.gen M (hs hM),fun M hM=>h.kind M (hs hM),fun M hM e he=>?_,fun M hM=>h.few M (hs hM),fun M hM=>h.nms M (hs hM),fun M hM=>h.file M (hs hM),fun M hM=>h.dir M (hs hM),?_,fun M hM hk=>by rw [hl];exact h.one M (hs hM) hk,fun M hM hk=>by rw [hl];exact h.lnk8 M (hs hM) hk,fun M hM=>h.txt M (hs hM),fun M hM=>h.pos M (hs hM)⟩
  · obtain ⟨K,hK,e2⟩:=h.ent M (hs hM) e he
    refine ⟨K,List.mem_filter.2 ⟨hK,?_⟩,e2⟩
    cases c:p K with
    | true=>rfl
    | false=>
      have:=(hp K hK c).2.1
      have:=Lc (hs hM) he
      rw [← e2] at this;omega
  · obtain ⟨M,hM,e,hk⟩:=h.root
    refine ⟨M,List.mem_filter.2 ⟨hM,?_⟩,e,hk⟩
    cases c:p M with
    | true=>rfl
    | false=>exact absurd e (hp M hM c).2.2
end
theorem Re (A:List AN) (d x:Hdl) (f:AN→AN) (hf:∀ M,(f M).h=M.h∧(f M).kind=M.kind):Bg (Cx A d f) x=Bg A x:=by
  unfold Bg
  rw [Abj A d x f fun M=>(hf M).1]
  cases Bs A x with
  | none=>rfl
  | some M=>
    simp only [Option.map_some]
    split
    · rw [(hf M).2]
    · rfl
theorem Adn {A:List AN} {x:Hdl} (h:∃ K∈A,K.h=x) (N:AN):Bs (A++[N]) x=Bs A x:=by
  unfold Bs
  rw [List.find?_append]
  obtain ⟨K,hK,e⟩:=h
  cases hq:A.find? fun M=>M.h==x with
  | none=>exact absurd (by simpa using e) (List.find?_eq_none.1 hq K hK)
  | some M=>rfl
theorem Q2 {A:List AN} {x:Hdl} (h:∃ K∈A,K.h=x) (N:AN):Bg (A++[N]) x=Bg A x:=by unfold Bg;rw [Adn h]
theorem Te {A:List AN} (hn:(A.map (·.h)).Nodup) (p:AN→Bool) {x:Hdl} (h:Bg (A.filter p) x=true):Bg A x=true:=by
  obtain ⟨M,hM,e,hk⟩:=U1 h
  have hM:=(List.mem_filter.1 hM).1
  rw [← e,E2 hn hM];exact decide_eq_true hk
theorem No (A:List AN) (d:Hdl) (nm:ByteArray) (x y:Hdl):Bg (Ax A d nm x) y=Bg A y:=Re A d y _ fun _=>⟨rfl,rfl⟩
theorem Kd (A:List AN) (d:Hdl) (nm:ByteArray) (y:Hdl):Bg (Al A d nm) y=Bg A y:=Re A d y _ fun _=>⟨rfl,rfl⟩
theorem Hz {A:List AN} {rk:Hdl→Nat} (h:F3 A rk) {d:Hdl} {nm:ByteArray} {x:Hdl} (hx:Bg A x=true→rk d<rk x):F3 (Ax A d nm x) rk:=fun M hM e he hd=>by
  have hd':Bg A e.2=true:=by rw [← No A d nm x];exact hd
  obtain ⟨N,hN,rfl⟩:=B4 hM
  by_cases c:N.h=d
  · rw [if_pos c] at he ⊢
    rcases List.mem_cons.1 ((E6 nm x N.es).subset he) with rfl|he
    · show rk N.h<rk x;rw [c];exact hx hd'
    · exact h N hN e he hd'
  · rw [if_neg c] at he ⊢;exact h N hN e he hd'
theorem Ss {A:List AN} {rk:Hdl→Nat} (h:F3 A rk) (d:Hdl) (nm:ByteArray):F3 (Al A d nm) rk:=fun M hM e he hd=>by
  have hd':Bg A e.2=true:=by rw [← Kd A d nm];exact hd
  obtain ⟨N,hN,rfl⟩:=B4 hM
  by_cases c:N.h=d
  · rw [if_pos c] at he ⊢;exact h N hN e (List.mem_filter.1 he).1 hd'
  · rw [if_neg c] at he ⊢;exact h N hN e he hd'
theorem Fx {A B:List AN} {rk:Hdl→Nat} (h:F3 A rk) (hs:shp B=shp A):F3 B rk:=fun M hM e he hd=>by
  have:(M.h,M.kind,M.es)∈shp A:=by rw [← hs];exact List.mem_map.2 ⟨M,hM,rfl⟩
  obtain ⟨N,hN,q⟩:=List.mem_map.1 this
  have e1:N.h=M.h:=congrArg Prod.fst q
  have e2:N.es=M.es:=congrArg (fun t:Hdl×Int×List Bj=>t.2.2) q
  rw [← e1]
  exact h N hN e (by rw [e2];exact he) (by rw [← Oi hs];exact hd)
theorem Ls {A:List AN} {rk:Hdl→Nat} (hn:(A.map (·.h)).Nodup) (h:F3 A rk) (p:AN→Bool):F3 (A.filter p) rk:=fun M hM e he hd=>h M (List.mem_filter.1 hM).1 e he (Te hn p hd)
theorem Wo {A:List AN} {rk:Hdl→Nat} (h:F3 A rk) (hent:∀ M∈A,∀ e∈M.es,∃ K∈A,K.h=e.2) {N:AN} (hN:N.es=[]):F3 (A++[N]) rk:=fun M hM e he hd=>by
  rcases List.mem_append.1 hM with hM|hM
  · rw [Q2 (hent M hM e he)] at hd
    exact h M hM e he hd
  · obtain rfl:=List.mem_singleton.1 hM
    rw [hN] at he;cases he
theorem Sn {A:List AN} {rk rk':Hdl→Nat} (h:F3 A rk) (hent:∀ M∈A,∀ e∈M.es,∃ K∈A,K.h=e.2) (hs:∀ K∈A,rk' K.h=rk K.h):F3 A rk':=fun M hM e he hd=>by
  obtain ⟨K,hK,e2⟩:=hent M hM e he
  rw [hs M hM,← e2,hs K hK,e2];exact h M hM e he hd
section
variable {most:Nat} {ts:List Int} {lz:Hdl→Nat} {A:List AN}
theorem TI0.lzc (h:TI0 most ts lz A) {lz':Hdl→Nat} (hz:∀ M∈A,M.kind=2→lz' M.h=lz M.h):TI0 most ts lz' A:=
  ⟨h.num,h.gen,h.kind,h.ent,h.few,h.nms,h.file,h.dir,h.root,fun M hM hk=>by rw [hz M hM hk];exact h.one M hM hk,h.lnk8,h.txt,h.pos⟩
theorem TI0.touchH (h:TI0 most ts lz A) {d:Hdl} (hd:∃ M∈A,M.h=d):TI0 most ts lz (Ap A d):=by
  obtain ⟨M,hM,rfl⟩:=hd;exact h.touch hM
theorem TI0.same (h:TI0 most ts lz A) {M N:AN} (hM:M∈A) (hN:N∈A) (e:M.h=N.h):M=N:=by
  have h1:=C2 h.nod hM
  rw [e,C2 h.nod hN] at h1
  exact (Option.some.inj h1).symm
theorem Ot {A:List AN} {d x:Hdl} {f:AN→AN} (hf:∀ M,(f M).h=M.h) (h:∃ K∈A,K.h=x):∃ K∈Cx A d f,K.h=x:=by
  obtain ⟨K,hK,e⟩:=h
  refine ⟨_,Dj (d:=d) (f:=f) hK,?_⟩
  split
  · rw [hf];exact e
  · exact e
theorem Kr.shp {A B:List AN} (h:Kr A) (hs:shp B=shp A) (hp:∀ M∈B,∃ N∈A,N.h=M.h∧(M.kind=1→N.kind=1∧(0<N.pins→0<M.pins))):Kr B:=fun M hM hk=>by
  obtain ⟨N,hN,e,q⟩:=hp M hM
  rw [D1 hs,← e]
  rcases h N hN (q hk).1 with h1|h1
  · exact .inl ((q hk).2 h1)
  · exact .inr h1
theorem Kr.touch {A:List AN} (h:Kr A) (d:Hdl):Kr (Ap A d):=h.shp (Bl A d) fun M hM=>by
  obtain ⟨N,hN,rfl⟩:=B4 hM
  refine ⟨N,hN,?_⟩
  split<;>exact ⟨rfl,fun q=>⟨q,fun p=>p⟩⟩
theorem Kr.enter {A:List AN} (hn:(A.map (·.h)).Nodup) {D:AN} (hD:D∈A) {nm:ByteArray} {x:Hdl} (h:∀ M∈A,M.kind=1→M.h≠x→0<M.pins∨0<Be A M.h):Kr (Ax A D.h nm x):=fun M hM hk=>by
  obtain ⟨N,hN,rfl⟩:=B4 hM
  have e:(if N.h=D.h then (⟨N.h,N.kind,N.change,N.s,N.holes,Bi nm x N.es,N.pins⟩:AN) else N).h=N.h∧(if N.h=D.h then (⟨N.h,N.kind,N.change,N.s,N.holes,Bi nm x N.es,N.pins⟩:AN) else N).kind=N.kind∧(if N.h=D.h then (⟨N.h,N.kind,N.change,N.s,N.holes,Bi nm x N.es,N.pins⟩:AN) else N).pins=N.pins:=by split<;>exact ⟨rfl,rfl,rfl⟩
  rw [e.1,e.2.2,Ha hn hD]
  rw [e.2.1] at hk
  by_cases c:N.h=x
  · right;rw [if_pos c.symm];omega
  · rcases h N hN hk c with q|q
    · exact .inl q
    · right;omega
theorem Fv {A:List AN} {k:Nat} (h:Ey A k=false) {M:AN} (hM:M∈A):M.h.1≠(k:Int):=fun e=>by
  unfold Ey at h
  rw [List.any_eq_false] at h
  exact h M hM (decide_eq_true e)
theorem TI0.app (h:TI0 most ts lz A) {k:Nat} (hk:k<most) (hlen:ts.length=most) (hu:Ey A k=false) {kind:Int} (hkd:kind=1∨kind=2) (lz':Hdl→Nat) (hz:∀ M∈A,lz' M.h=lz M.h) (hz2:kind=2→lz' ((k:Int),Aw ts k)=1):TI0 most (ts.set k (Aw ts k+1)) lz' (A++[C8 ((k:Int),Aw ts k) kind]):=by
  have hno:∀ M∈A,M.h≠((k:Int),Aw ts k):=fun M hM e=>Fv hu hM (congrArg Prod.fst e)
  have hl0:Be A ((k:Int),Aw ts k)=0:=by
    cases c:Be A ((k:Int),Aw ts k) with
    | zero=>rfl
    | succ n=>
      obtain ⟨M,hM,e,he,q⟩:=Ok (A:=A) (h:=((k:Int),Aw ts k)) (by omega)
      obtain ⟨K,hK,q2⟩:=h.ent M hM e he
      exact absurd (q2.trans q) (hno K hK)
  have hx0:((k:Int),Aw ts k)≠((0,0):Hdl):=fun e=>by
    obtain ⟨M,hM,e2,_⟩:=h.root
    exact hno M hM (e2.trans e.symm)
  have hla:∀ x,Be (A++[C8 ((k:Int),Aw ts k) kind]) x=Be A x:=Le A _ rfl
  have hts:∀ j:Nat,j≠k→Aw (ts.set k (Aw ts k+1)) j=Aw ts j:=fun j hj=>by
    show (ts.set k (Aw ts k+1)).getD j 0=ts.getD j 0
    rw [List.getD_eq_getElem?_getD,List.getD_eq_getElem?_getD,List.getElem?_set_ne (Ne.symm hj)]
  have htk:Aw (ts.set k (Aw ts k+1)) k=Aw ts k+1:=Iq (List.getElem?_set_self (by omega))
  have hm:∀ {M:AN},M∈A++[C8 ((k:Int),Aw ts k) kind]→M∈A∨M=C8 ((k:Int),Aw ts k) kind:=fun hM=>(List.mem_append.1 hM).imp id fun q=>List.mem_singleton.1 q
  refine ⟨?_,fun M hM=>?_,fun M hM=>?_,fun M hM e he=>?_,fun M hM=>?_,fun M hM=>?_,fun M hM hk=>?_,fun M hM hk=>?_,?_,fun M hM hk=>?_,fun M hM hk=>?_,fun M hM=>?_,fun M hM=>?_⟩
  · rw [List.map_append]
    refine List.nodup_append.2 ⟨h.num,by simp,fun a ha b hb e=>?_⟩
    obtain ⟨M,hM,rfl⟩:=List.mem_map.1 ha
    simp only [List.map_cons,List.map_nil,List.mem_singleton] at hb
    exact Fv hu hM (e.trans hb)
  · rcases hm hM with hM|rfl
    · obtain ⟨j,hj,e⟩:=h.gen M hM
      have:j≠k:=fun q=>Fv hu hM (by rw [e,q])
      exact ⟨j,hj,by rw [hts j this];exact e⟩
    · exact ⟨k,hk,by show ((k:Int),Aw ts k)=_;rw [htk];exact Prod.ext rfl (by show Aw ts k=Aw ts k+1 - 1;omega)⟩
  · rcases hm hM with hM|rfl
    · exact h.kind M hM
    · exact hkd
  · rcases hm hM with hM|rfl
    · obtain ⟨K,hK,q⟩:=h.ent M hM e he;exact ⟨K,List.mem_append_left _ hK,q⟩
    · cases he
  · rcases hm hM with hM|rfl
    · exact h.few M hM
    · exact Nat.zero_le _
  · rcases hm hM with hM|rfl
    · exact h.nms M hM
    · exact List.nodup_nil
  · rcases hm hM with hM|rfl
    · exact h.file M hM hk
    · rfl
  · rcases hm hM with hM|rfl
    · exact h.dir M hM hk
    · exact ⟨rfl,rfl,rfl⟩
  · obtain ⟨M,hM,q⟩:=h.root;exact ⟨M,List.mem_append_left _ hM,q⟩
  · rw [hla]
    rcases hm hM with hM|rfl
    · rw [hz M hM];exact h.one M hM hk
    · show Be A ((k:Int),Aw ts k)+lz' ((k:Int),Aw ts k)=if ((k:Int),Aw ts k)=(0,0) then 0 else 1
      rw [hl0,hz2 hk,if_neg hx0]
  · rw [hla]
    rcases hm hM with hM|rfl
    · exact h.lnk8 M hM hk
    · show Be A ((k:Int),Aw ts k)≤8;omega
  · rcases hm hM with hM|rfl
    · exact h.txt M hM
    · exact ⟨Nat.zero_le _,Nat.zero_le _⟩
  · rcases hm hM with hM|rfl
    · exact h.pos M hM
    · exact Int.le_refl 0
theorem TI.sweep {most:Nat} {ts:List Int} {A:List AN} (h:TI0 most ts lz0 A) (hr:∃ rk,F3 A rk):TI most ts (Gj A):=by
  have hp:∀ M∈A,Ej A M=false→M.es=[]∧Be A M.h=0∧M.h≠(0,0):=fun M hM q=>by
    unfold Ej at q
    simp only [Bool.or_eq_false_iff,decide_eq_false_iff_not] at q
    obtain ⟨q1,_,q3⟩:=q
    have hk:M.kind=1:=(h.kind M hM).resolve_right q1
    rw [De q1] at q3
    refine ⟨h.file M hM hk,by omega,fun e=>?_⟩
    obtain ⟨R,hR,e2,hk2⟩:=h.root
    have:=h.same hM hR (e.trans e2.symm)
    rw [this] at q1;exact q1 hk2
  obtain ⟨rk,hr⟩:=hr
  refine ⟨h.filter _ hp,⟨rk,Ls h.nod hr _⟩,fun M hM hk=>?_⟩
  have hM2:=List.mem_filter.1 hM
  have hl:=Hd A (Ej A) (fun M hM q=>(hp M hM q).1) M.h
  unfold Gj
  rw [hl]
  have q:=hM2.2
  have hk2:¬M.kind=2:=by omega
  unfold Ej at q
  rw [De hk2] at q
  simp only [Bool.or_eq_true,decide_eq_true_eq] at q
  rcases q with q|q|q
  · exact absurd q hk2
  · exact .inl q
  · exact .inr (by omega)
end
theorem Fh {es:List Bj} {nm:ByteArray} (h:Eg es nm=none):∀ e∈es,e.1≠nm:=fun e he q=>by
  unfold Eg at h
  rw [Option.map_eq_none_iff,List.find?_eq_none] at h
  exact h e he (decide_eq_true q)
theorem He {es:List Bj} {nm:ByteArray} {x:Hdl} (h:Eg es nm=some x):∃ e∈es,e.1=nm∧e.2=x:=by
  unfold Eg at h
  obtain ⟨e,h1,h2⟩:=Option.map_eq_some_iff.1 h
  exact ⟨e,List.mem_of_find?_eq_some h1,by simpa using List.find?_some h1,h2⟩
theorem L7 {most:Nat} {A:List AN} {k:Nat} (h:Ig most A=some k):k<most∧Ey A k=false:=by
  unfold Ig at h
  exact ⟨List.mem_range.1 (List.mem_of_find?_eq_some h),by simpa using List.find?_some h⟩
theorem Po {most:Nat} {A:List AN} {h:Hdl} {nm:ByteArray} {kind:Int} {k e:Nat} (q:By most A h nm kind=(some k,e)):e=0∧∃ D,Bs A h=some D∧D.kind=2∧Hy nm=0∧(kind=1∨kind=2)∧Eg D.es nm=none∧D.es.length<60∧Ig most A=some k:=by
  unfold By at q
  split at q
  · cases q
  · rename_i D hD
    split at q
    · rename_i h2
      split at q
      · rename_i h3
        split at q
        · rename_i h4
          split at q
          · cases q
          · rename_i h5
            split at q
            · cases q
            · rename_i h6
              split at q
              · cases q
              · rename_i k' h7
                cases q
                exact ⟨rfl,D,hD,h2,h3,h4,h5,by omega,h7⟩
        · cases q
      · cases q
    · cases q
theorem U8 {A:List AN} {x d:Hdl} {nm:ByteArray} (q:Cy A x d nm=0):∃ X D,Bs A x=some X∧Bs A d=some D∧D.kind=2∧Hy nm=0∧¬X.kind=2∧Eg D.es nm=none∧D.es.length<60∧Dv A X<8:=by
  unfold Cy at q
  split at q
  · cases q
  · rename_i X hX
    split at q
    · cases q
    · rename_i D hD
      split at q
      · rename_i h2
        split at q
        · rename_i h3
          split at q
          · cases q
          · rename_i h4
            split at q
            · cases q
            · rename_i h5
              split at q
              · cases q
              · rename_i h6
                exact ⟨X,D,hX,hD,h2,h3,h4,h5,by omega,by omega⟩
        · cases q
      · cases q
theorem V2 {A:List AN} {h:Hdl} {nm:ByteArray} (q:(Ab A h nm).2=0):∃ D,Bs A h=some D∧D.kind=2∧Hy nm=0∧Eg D.es nm=some (Ab A h nm).1:=by
  unfold Ab at q ⊢
  split at q
  · cases q
  · rename_i D hD
    split at q
    · rename_i h2
      split at q
      · rename_i h3
        split at q
        · rename_i x h4
          refine ⟨D,hD,h2,h3,?_⟩
          simp only [if_pos h2,if_pos h3,h4]
        · cases q
      · cases q
    · cases q
theorem Wz {A:List AN} {d:Hdl} {nm:ByteArray} (q:Cf A d nm=0):∃ D,Bs A d=some D∧D.kind=2∧Hy nm=0∧Eg D.es nm=some (Ab A d nm).1∧∀ K,Bs A (Ab A d nm).1=some K→K.es=[]:=by
  unfold Cf at q
  by_cases c:(Ab A d nm).2=0
  · rw [if_pos c] at q
    obtain ⟨D,h1,h2,h3,h4⟩:=V2 c
    refine ⟨D,h1,h2,h3,h4,fun K hK=>?_⟩
    rw [hK] at q
    simp only at q
    split at q
    · cases q
    · rename_i h5;exact List.eq_nil_of_length_eq_zero (by omega)
  · rw [if_neg c] at q;exact absurd q c
section
variable {most:Nat} {ts:List Int} {A:List AN}
theorem TI.create (h:TI most ts A) (hlen:ts.length=most) {d:Hdl} {nm:ByteArray} {kind:Int} {k e:Nat} (q:By most A d nm kind=(some k,e)):TI most (ts.set k (Aw ts k+1)) (Gd A ts d nm kind k):=by
  obtain ⟨_,D,h1,h2,_,h4,h5,h6,h7⟩:=Po q
  obtain ⟨hk,hu⟩:=L7 h7
  obtain ⟨hD,rfl⟩:=Db h1
  have b:=h.base
  have hno:∀ M∈A,M.h≠((k:Int),Aw ts k):=fun M hM e=>Fv hu hM (congrArg Prod.fst e)
  have a1:=b.app hk hlen hu h4 (fun x=>if x=((k:Int),Aw ts k) then 1 else 0) (fun M hM=>if_neg (hno M hM)) (fun _=>if_pos rfl)
  have hD1:D∈A++[C8 ((k:Int),Aw ts k) kind]:=List.mem_append_left _ hD
  have hN1:C8 ((k:Int),Aw ts k) kind∈A++[C8 ((k:Int),Aw ts k) kind]:=List.mem_append_right _ (by simp)
  have hl0:Be (A++[C8 ((k:Int),Aw ts k) kind]) ((k:Int),Aw ts k)=0:=by
    rw [Le A _ rfl]
    cases c:Be A ((k:Int),Aw ts k) with
    | zero=>rfl
    | succ n=>
      obtain ⟨M,hM,e,he,q⟩:=Ok (A:=A) (h:=((k:Int),Aw ts k)) (by omega)
      obtain ⟨K,hK,q2⟩:=b.ent M hM e he
      exact absurd (q2.trans q) (hno K hK)
  have a2:=a1.enter hD1 hN1 h2 (Fh h5) h6 (fun _=>by show Be _ ((k:Int),Aw ts k)<8;omega) lz0 (fun M hM _=>by
    show 0+(if ((k:Int),Aw ts k)=M.h then 1 else 0)=if M.h=((k:Int),Aw ts k) then 1 else 0
    by_cases c:M.h=((k:Int),Aw ts k)
    · rw [if_pos c,if_pos c.symm]
    · rw [if_neg c,if_neg (fun e=>c e.symm)])
  refine ⟨a2.touchH (Ot (fun _=>rfl) ⟨D,hD1,rfl⟩),?_,?_⟩
  · obtain ⟨rk,hr⟩:=h.rank
    refine ⟨fun x=>if x=((k:Int),Aw ts k) then rk D.h+1 else rk x,Fx (Hz (Wo (Sn hr b.ent fun K hK=>if_neg (hno K hK)) b.ent rfl) fun _=>?_) (Bl _ _)⟩
    show (if D.h=((k:Int),Aw ts k) then _ else rk D.h)<if ((k:Int),Aw ts k)=((k:Int),Aw ts k) then rk D.h+1 else _
    rw [if_neg (hno D hD),if_pos rfl];omega
  · refine (Kr.enter a1.nod hD1 fun M hM hk hne=>?_).touch _
    rcases List.mem_append.1 hM with hM|hM
    · rw [Le A _ rfl];exact h.held M hM hk
    · exact absurd (by rw [List.mem_singleton.1 hM];rfl) hne
theorem TI.link (h:TI most ts A) {x d:Hdl} {nm:ByteArray} (q:Cy A x d nm=0):TI most ts (Lo A x d nm):=by
  obtain ⟨X,D,h0,h1,h2,_,h4,h5,h6,h7⟩:=U8 q
  obtain ⟨hX,rfl⟩:=Db h0
  obtain ⟨hD,rfl⟩:=Db h1
  have b:=h.base
  rw [De h4] at h7
  have a2:=b.enter hD hX h2 (Fh h5) h6 (fun _=>by omega) lz0 (fun M hM hk=>by
    show 0+(if X.h=M.h then 1 else 0)=0
    rw [if_neg]
    intro e;rw [b.same hX hM e] at h4;exact h4 hk)
  refine ⟨(a2.touchH (Ot (fun _=>rfl) ⟨D,hD,rfl⟩)).touchH (Ot (fun _=>rfl) (Ot (fun _=>rfl) ⟨X,hX,rfl⟩)),?_,?_⟩
  · obtain ⟨rk,hr⟩:=h.rank
    refine ⟨rk,Fx (Fx (Hz hr fun q=>?_) (Bl _ _)) (Bl _ _)⟩
    rw [E2 b.nod hX] at q;exact absurd (of_decide_eq_true q) h4
  · exact ((Kr.enter b.nod hD fun M hM hk _=>h.held M hM hk).touch _).touch _
theorem TI.lose {lz:Hdl→Nat} (b:TI0 most ts lz A) (hr:∃ rk,F3 A rk) {K:AN} (hK:K∈A) (he:K.es=[]) (hz:lz=fun x=>if K.kind=2∧x=K.h then 1 else 0) (hh:K.kind=2→Kr A):TI most ts (C5 A K.h):=by
  unfold C5
  rw [C2 b.nod hK]
  simp only
  by_cases hk:K.kind=2
  · rw [if_pos hk]
    have h1:=b.one K hK hk
    rw [hz] at h1
    simp only [hk,true_and,if_true] at h1
    have hp:∀ M∈A,(!(M.h==K.h))=false→M.es=[]∧Be A M.h=0∧M.h≠(0,0):=fun M hM q=>by
      have e:M.h=K.h:=by simpa using q
      have:=b.same hM hK e
      subst this
      by_cases c:M.h=(0,0)
      · rw [if_pos c] at h1;omega
      · rw [if_neg c] at h1;exact ⟨he,by omega,c⟩
    obtain ⟨rk,hr⟩:=hr
    refine ⟨(b.filter _ hp).lzc fun M hM _=>?_,⟨rk,Ls b.nod hr _⟩,fun M hM hk1=>?_⟩
    · have q:=(List.mem_filter.1 hM).2
      have:M.h≠K.h:=by simpa using q
      rw [hz];exact (if_neg fun c=>this c.2).symm
    · have hl:=Hd A (fun N=>!(N.h==K.h)) (fun M hM q=>(hp M hM q).1) M.h
      unfold Ex
      rw [hl];exact hh hk M (List.mem_filter.1 hM).1 hk1
  · rw [if_neg hk]
    have b0:TI0 most ts lz0 A:=b.lzc fun M _ _=>by rw [hz];exact (if_neg fun c=>hk c.1).symm
    obtain ⟨rk,hr⟩:=hr
    exact TI.sweep (b0.touch hK) ⟨rk,Fx hr (Bl _ _)⟩
theorem TI.remove (h:TI most ts A) {d:Hdl} {nm:ByteArray} (q:Cf A d nm=0):TI most ts (Dz A d nm):=by
  obtain ⟨D,h1,h2,_,h4,h5⟩:=Wz q
  obtain ⟨e,he,rfl,h6⟩:=He h4
  obtain ⟨hD,rfl⟩:=Db h1
  have b:=h.base
  obtain ⟨K,hK,h7⟩:=b.ent D hD e he
  have hKe:=h5 K (by rw [← h6,← h7];exact C2 b.nod hK)
  have hne:K.h≠D.h:=fun c=>by
    have:=b.same hK hD c
    rw [this] at hKe;rw [hKe] at he;cases he
  have a1:=b.leave hD h2 he (fun x=>if K.kind=2∧x=K.h then 1 else 0) (fun M hM hk=>by
    show (if K.kind=2∧M.h=K.h then 1 else 0)=0+if e.2=M.h then 1 else 0
    rw [← h7,Nat.zero_add]
    by_cases c:K.h=M.h
    · rw [if_pos c,if_pos ⟨by rw [b.same hK hM c];exact hk,c.symm⟩]
    · rw [if_neg c,if_neg fun q=>c q.2.symm])
  have a2:=a1.touchH (d:=D.h) (Ot (fun _=>rfl) ⟨D,hD,rfl⟩)
  have hK1:K∈Al A D.h e.1:=by have:=Dj (d:=D.h) (f:=fun N=>⟨N.h,N.kind,N.change,N.s,N.holes,N.es.filter fun x=>!decide (x.1=e.1),N.pins⟩) hK;rwa [if_neg hne] at this
  have hK2:K∈Ap (Al A D.h e.1) D.h:=by have:=Dj (d:=D.h) (f:=fun N=>⟨N.h,N.kind,N.change+1,N.s,N.holes,N.es,N.pins⟩) hK1;rwa [if_neg hne] at this
  obtain ⟨rk,hr⟩:=h.rank
  have:=TI.lose a2 ⟨rk,Fx (Ss hr D.h e.1) (Bl _ _)⟩ hK2 hKe rfl (fun hk=>Kr.touch (fun M hM hk1=>by
    obtain ⟨N,hN,rfl⟩:=B4 hM
    have h8:=Do b.nod hD (b.nms D hD) he N.h
    have e1:(if N.h=D.h then (⟨N.h,N.kind,N.change,N.s,N.holes,N.es.filter fun x=>!decide (x.1=e.1),N.pins⟩:AN) else N).h=N.h∧(if N.h=D.h then (⟨N.h,N.kind,N.change,N.s,N.holes,N.es.filter fun x=>!decide (x.1=e.1),N.pins⟩:AN) else N).kind=N.kind∧(if N.h=D.h then (⟨N.h,N.kind,N.change,N.s,N.holes,N.es.filter fun x=>!decide (x.1=e.1),N.pins⟩:AN) else N).pins=N.pins:=by split<;>exact ⟨rfl,rfl,rfl⟩
    rw [e1.1,e1.2.2]
    rw [e1.2.1] at hk1
    rw [if_neg fun c=>by rw [← b.same hK hN (h7.trans c)] at hk1;omega] at h8
    rcases h.held N hN hk1 with q|q
    · exact .inl q
    · exact .inr (by omega)) _)
  unfold Dz
  rw [← h6,← h7]
  exact this
end
section
variable {P:Program} {w0 w:World} {En:Ent} {L:List Res} {a:Act} {K:Act→World→Prop} {Q:Exit→Act→World→Prop} {rest:List Oper} {ops:Array Oper} {dst:Option Tmp} {T:TypeId} {n1 n2:Operand} {ty:TypeId} {pos:String} {after:Array Edge} {g:Option (Nat×Bool)} {E:TypeId} {α:Type} {enc:α→List Value} {x0:α} {z:Value} {n bytes:Nat}
theorem Rl (h:enc x0=[z]):∀ n:Nat,(List.replicate n x0).flatMap enc=List.replicate n z
  | 0=>rfl
  | n+1=>by rw [List.replicate_succ,List.flatMap_cons,Rl h n,h,List.replicate_succ];rfl
theorem Agy (x0:α) (n:Nat) (henc:enc x0=[z]) (hx:(a.eval n1,a.eval n2,P.underlying T,(P.info? E).map (fun i=>(i.zero,i.size,i.bytes)))=(.int .i64 (n:Int),.int .i64 (n:Int),some (.slice E),some (some z,1,bytes))) (hz:z.cells=#[z]) (hb:bytes*n≤281474976710656) (hn:n≤9223372036854775807) (h:Own w0 En L w)
    (hK:∀ v w',Own w0 En (A8 true v E 1 enc (List.replicate n x0)::L) w'→K (a.put dst v) w'):Oper.wp P ⟨dst,.makeSlice T n1 n2,ty,pos,after,g⟩ a w K Q:=by
  simp only [Prod.mk.injEq] at hx
  obtain ⟨h1,h2,h3,h4⟩:=hx
  have hrun:=W9 (P:=P) h3 h4 hz w n hb hn
  unfold Oper.wp
  simp [execOp,h1,h2,hrun,Result.andThen,Oper.upon]
  refine hK _ _ (h.push ((Chg.refl Nil w).alloc _) (r:=A8 true (.slice (some ⟨w.heap.size,0,none⟩) n n) E 1 enc (List.replicate n x0)) ?_ fun b hb=>?_)
  · show Bb _ _ _ _ _ _ _
    rw [List.length_replicate,Rl henc]
    exact (I2 hn (Bp w _)).own.1
  · have:b=w.heap.size:=by
      have hb':Gz (Value.slice (some ⟨w.heap.size,0,none⟩) n n) b:=hb
      simpa [Gz] using hb'
    omega
theorem Agz (hg:Region.wanted ⟨dst,.makeSlice T n1 n2,ty,pos,after,g⟩ (yielded ops a.tmps)=true) (x0:α) (n:Nat) (henc:enc x0=[z]) (hx:(a.eval n1,a.eval n2,P.underlying T,(P.info? E).map (fun i=>(i.zero,i.size,i.bytes)))=(.int .i64 (n:Int),.int .i64 (n:Int),some (.slice E),some (some z,1,bytes))) (hz:z.cells=#[z]) (hb:bytes*n≤281474976710656) (hn:n≤9223372036854775807) (h:Own w0 En L w)
    (hK:∀ v w',Own w0 En (A8 true v E 1 enc (List.replicate n x0)::L) w'→LW P ops Q rest (a.put dst v) w'):LW P ops Q (⟨dst,.makeSlice T n1 n2,ty,pos,after,g⟩::rest) a w:=
  ⟨sqg hg (Agy x0 n henc hx hz hb hn h fun v w' h=>(hK v w' h).out)⟩
end
def midM {X:Type} (w0:World) (E:Ent) (A:X→Act) (R:X→List Res) (G:X→Prop):Act→World→Prop:=fun a w=>∃ x,G x∧a=A x∧Own w0 E (R x) w
theorem ZMd {P:Program} {a:Act} {w:World} {Q:Exit→Act→World→Prop} {X:Type} {c:Code} (w0:World) (E:Ent) (wr:List (Nat×Nat)) (ov:X→List (Nat×Value)) (J:X→Nat→Value) (R:X→List Res) (G:X→Prop) (h:CW P c (Mid (midM w0 E (fun x=>Aac a wr (ov x) (J x)) R G) Q) a w)
    (hM:∀ a' w,midM w0 E (fun x=>Aac a wr (ov x) (J x)) R G a' w→Q .normal a' w):CW P c Q a w:=c_mid _ h hM
section
variable {P:Program} {w0:World} {E:Ent} {L:List Res} {w:World} {a:Act}
theorem Tz {LV HV:Option Value} {l h n:Nat} (hlo:Fl 0 LV=some (l:Int)) (hhi:Fl (n:Int) HV=some (h:Int)) (hlh:l≤h) (hn:h≤n):(Instr.sliceBounds false n n LV HV none).run P w=.ok (l,h,n) w:=by
  have e1:(0:Int)≤(l:Int)∧(l:Int)≤(h:Int):=by omega
  have e2:(0:Int)≤(h:Int)∧(h:Int)≤(n:Int):=by omega
  have e3:(l:Int).toNat=l:=Int.toNat_natCast l
  have e4:(h:Int).toNat=h:=Int.toNat_natCast h
  rcases Jf hlo with ⟨rfl,hl⟩|⟨kl,rfl⟩<;>rcases Jf hhi with ⟨rfl,hh⟩|⟨kh,rfl⟩
  · obtain rfl:l=0:=by omega
    obtain rfl:h=n:=by omega
    rfl
  · obtain rfl:l=0:=by omega
    simp only [Instr.sliceBounds,Instr.sliceBound,asIntOf,Sem.run_bind,Sem.run_pure,Result.andThen_ok]
    simp [e2,hn,hlh]
  · obtain rfl:h=n:=by omega
    simp [Instr.sliceBounds,Instr.sliceBound,asIntOf,e1,hlh,hn]
  · simp [Instr.sliceBounds,Instr.sliceBound,asIntOf,e1,e2,hlh,hn]
theorem Xo {dst:Option Tmp} {T:TypeId} {x:Operand} {lo hi:Option Operand} {ty:TypeId} {pos:String} {after:Array Edge} {g:Option (Nat×Bool)} (s:ByteArray) {LV HV:Option Value} (l h:Nat)
    (hx:(a.eval x,P.underlying T,lo.map a.eval,hi.map a.eval)=(.string s,some .string,LV,HV)) (hlo:Fl 0 LV=some (l:Int)) (hhi:Fl (s.size:Int) HV=some (h:Int)) (hlh:l≤h) (hn:h≤s.size) :
    Cl P w0 E L ⟨dst,.slice T x lo hi none,ty,pos,after,g⟩ a (.string (s.extract l h)):=fun w ho=>by
  simp only [Prod.mk.injEq] at hx
  obtain ⟨h1,h3,e4,e5⟩:=hx
  have hb:=Tz (P:=P) (w:=w) hlo hhi hlh hn
  simp only [execOp,Instr.sliceAt,h1,e4,e5,Option.map_none,Sem.run_bind,run_underlying h3,Result.andThen_ok,Instr.slice,hb,Sem.run_pure,Option.isSome_none,Bool.false_eq_true,if_false]
theorem Aeo {T:TypeId} {n k:Nat} (hT:P.underlying T=some (.int .i64)) (hk:0<k) (hn:n≤9223372036854775807):(binOp .quo T (.int .i64 (n:Int)) (.int .i64 (k:Int))).run P w=.ok (.int .i64 ((n/k:Nat):Int)) w:=by
  have h1:¬(k:Int)=0:=by omega
  have h2:((n:Int)).tdiv (k:Int)=((n/k:Nat):Int):=by rw [Int.tdiv_eq_ediv_of_nonneg (by omega)];rfl
  have h3:n/k≤n:=Nat.div_le_self n k
  have h4:IntKind.i64.wrap ((n:Int)/(k:Int))=((n/k:Nat):Int):=by
    have e:(n:Int)/(k:Int)=((n/k:Nat):Int):=rfl
    rw [e];generalize n/k=q at h3 ⊢;exact IntWalk.i64_in _ ⟨by omega,by omega⟩
  have h5:¬k=0:=by omega
  simp [binOp,run_underlying hT,Op.intDiv,h1,h2,h4,h5]
theorem Aga {dst:Option Tmp} {T ty':TypeId} {x y:Operand} {ty:TypeId} {pos:String} {after:Array Edge} {g:Option (Nat×Bool)} (n k:Nat)
    (hx:(a.eval x,a.eval y,P.underlying T)=(.int .i64 (n:Int),.int .i64 (k:Int),some (.int .i64))) (hk:0<k) (hn:n≤9223372036854775807) :
    Cl P w0 E L ⟨dst,.binOp .quo T x y ty',ty,pos,after,g⟩ a (.int .i64 ((n/k:Nat):Int)):=fun w ho=>by
  simp only [Prod.mk.injEq] at hx
  obtain ⟨h1,h2,h3⟩:=hx
  simp only [execOp,h1,h2,Sem.run_bind,Aeo h3 hk hn,Result.andThen_ok,Sem.run_pure,eqGuard]
  rfl
theorem Own.shape {r:Res} {v:Value} {n:Nat} {xs:List Value} (h:Own w0 E L w) (i:Nat) (hi:L[i]?=some r) (hr:J4 r v n xs):∃ ad cap,v=.slice ad n cap:=by
  obtain ⟨⟨ad,cap,e,_⟩,_⟩:=hr w (h.fact i hi)
  exact ⟨ad,cap,e⟩
end
theorem Nl {P:Program} {a:Act} {w0:World} {E:Ent} {L:List Res} {dst:Option Tmp} {x y:Operand} {T T2 ty:TypeId} {pos:String} {after:Array Edge} {g:Option (Nat×Bool)} {s t:ByteArray} (hx:(a.eval x,a.eval y)=(.string s,.string t)) (hl:s.size+t.size≤9223372036854775807) :
    Cl P w0 E L ⟨dst,.binOp .add T x y T2,ty,pos,after,g⟩ a (.string (s++t)):=fun w _=>by
  simp only [Prod.mk.injEq] at hx
  simp [execOp,hx.1,hx.2,binOp_string_add,run_string_add_sum w s t hl,Result.andThen,eqGuard]
theorem Gn (n:Int) (h0:0≤n) (h1:n≤140737488355328):Au Tryz.prog 94 #[Ii n] [] fun u L=>u=.string (Bv n.toNat)∧L=[]:=Ph fun w=>Z6 n w h0 h1
theorem Xp {s:ByteArray} {h:List Bool} {p:Int} {t:ByteArray} (hb:p<0∨4096<p∨4096 - p<t.size):Bh s h p t=(s,h,2):=if_pos hb
theorem Agq {s:ByteArray} {h:List Bool} {p:Int} {t:ByteArray} (hb:¬(p<0∨4096<p∨4096 - p<t.size)) (h0:t.size=0):Bh s h p t=(s,h,0):=by unfold Bh;rw [if_neg hb,if_pos h0]
theorem bw_ok {s:ByteArray} {h:List Bool} {p:Int} {t:ByteArray} (hb:¬(p<0∨4096<p∨4096 - p<t.size)) (h0:¬t.size=0) {j:Nat} (hj:p=(j:Int)) {s':ByteArray} {h':List Bool} (hs:s'=⟨(E5 s.data.toList j t.data.toList).toArray⟩) (hh:h'=G7 h (j/64) ((j+t.size - 1)/64+1 - j/64)):Bh s h p t=(s',h',0):=by
  unfold Bh;rw [if_neg hb,if_neg h0,hs,hh,hj,Int.toNat_natCast]
theorem Ih (s:ByteArray) (n:Nat):(s++Bv n).size=s.size+n:=by rw [ByteArray.size_append,Eq]
theorem Ad5 {hs ls:List Bool} (h:ls=hs++List.replicate (ls.length - hs.length) true) (hl:hs.length≤ls.length):ls++[true]=hs++List.replicate ((ls++[true]).length - hs.length) true:=by
  rw [List.length_append,List.length_singleton,show ls.length+1 - hs.length=(ls.length - hs.length)+1 by omega,List.replicate_succ',← List.append_assoc,← h]
theorem Fr:(⟨#[]⟩:ByteArray).size=0:=rfl
theorem Hh {t:ByteArray}:t.size=0↔t=(⟨#[]⟩:ByteArray):=⟨fun h=>Lj h,fun h=>by rw [h];rfl⟩
theorem W8 (h:List Bool) {k0 kq:Nat} (hk:k0≤kq):(G7 h k0 (kq - k0)++List.replicate (kq+1 - (G7 h k0 (kq - k0)).length) true).set kq false=G7 h k0 (kq+1 - k0):=by
  have e:kq+1 - k0=(kq - k0)+1:=by omega
  rw [e];show _=Q9 (G7 h k0 (kq - k0)) (k0+(kq - k0))
  have e2:k0+(kq - k0)=kq:=by omega
  rw [e2];rfl
theorem Sx (vl:Value) (L:List RN) (j:Nat) (N:RN) (hx:L[j]?=some N) (hsz:N.a.s.size≤4096) (hho:N.a.holes.length≤64) (p:Int) (t:ByteArray) (htz:t.size≤100000) (hp:-9223372036854775808≤p∧p≤9223372036854775807)  : Au Tryz.prog 76 #[Pt N.nb 4,Ii p,.string t] [rRL vl L] (fun u L'=>∃ v',u=Ii (((Bh N.a.s N.a.holes p t).2.2:Nat):Int)∧L'=[rRL vl (L.set j (⟨N.nb,v',N.ve,⟨N.a.h,N.a.kind,N.a.change,(Bh N.a.s N.a.holes p t).1,(Bh N.a.s N.a.holes p t).2.1,N.a.es,N.a.pins⟩⟩:RN))]):=by
 refine Zo 107 Tryz.func76 fun E w0 w h=>?_
 refine Qs (ZP (Ii 0) (Qu (ZP (Ii p) ?_)))
 obtain ⟨b1,hb1⟩:=nmB (decide (p<0))
 refine ZB hb1 (ZP (.bool b1) ?_)
 rcases Bool.eq_false_or_eq_true b1 with hc2|hc2
 subst hc2
 have q3:=hb1.symm
 have q3:=dcT q3
 refine Zx (Zx (ZP (.bool true) (ZP (.bool true) (Zx (Zx (Zx (Zx (Zx (ZP (.bool true) (Qg (Qs (ZP (Ii 2) (Qr (Ar (ZR [Ii 2] [0] h ?_)))))))))))))))
 have hT:Bh N.a.s N.a.holes p t=_:=Xp (by omega)
 exact ⟨N.vh,by rw [hT];rfl,by rw [hT];exact congrArg (fun l=>[rRL vl l]) (H9 L j N hx).symm⟩
 subst hc2
 have q4:=hb1.symm
 have q4:=dcF q4
 refine ZP (Ii p) ?_
 obtain ⟨b5,hb5⟩:=nmB (decide (p>4096))
 refine ZB hb5 (ZP (.bool b5) (ZP (.bool b5) ?_))
 rcases Bool.eq_false_or_eq_true b5 with hc6|hc6
 subst hc6
 have q7:=hb5.symm
 have q7:=dcT q7
 refine Zx (Zx (Zx (Zx (Zx (ZP (.bool true) (Qg (Qs (ZP (Ii 2) (Qr (Ar (ZR [Ii 2] [0] h ?_)))))))))))
 have hT:Bh N.a.s N.a.holes p t=_:=Xp (by omega)
 exact ⟨N.vh,by rw [hT];rfl,by rw [hT];exact congrArg (fun l=>[rRL vl l]) (H9 L j N hx).symm⟩
 subst hc6
 have q8:=hb5.symm
 have q8:=dcF q8
 refine ZP (.string t) (ZP (Ii (t.size:Int)) (ZP (Ii p) (ZG h (Gw (4096 - p)) ?_)))
 obtain ⟨b9,hb9⟩:=nmB (decide ((t.size:Int)>4096 - p))
 refine ZB hb9 (ZP (.bool b9) (Qn (Zi (b9) (fun hc10=>?_) fun hc10=>?_)))
 have q11:=hb9.symm.trans hc10
 have q11:=dcT q11
 refine Qs (ZP (Ii 2) (Qr (Ar (ZR [Ii 2] [0] h ?_))))
 have hT:Bh N.a.s N.a.holes p t=_:=Xp (by omega)
 exact ⟨N.vh,by rw [hT];rfl,by rw [hT];exact congrArg (fun l=>[rRL vl l]) (H9 L j N hx).symm⟩
 have q12:=hb9.symm.trans hc10
 have q12:=dcF q12
 refine Kw (ZP (.string t) (ZG h (A4 (v:=.bool (t.toList==(⟨#[]⟩:ByteArray).toList)) (v':=.bool (decide (t=(⟨#[]⟩:ByteArray)))) (Az fun _=>by kernel_rfl) Qv) (Qn (Zd (t=(⟨#[]⟩:ByteArray)) (fun hc13=>?_) fun hc13=>?_))))
 refine Qs (ZP (Ii 0) (Qr (Ar (ZR [Ii 0] [0] h ?_))))
 have hT:Bh N.a.s N.a.holes p t=_:=Agq (by omega) (Hh.2 (by assumption))
 exact ⟨N.vh,by rw [hT];rfl,by rw [hT];exact congrArg (fun l=>[rRL vl l]) (H9 L j N hx).symm⟩
 refine Kw ?_
 have h:=h.rtOpen hx
 have hz:¬t.size=0:=fun e=>absurd (Hh.1 e) (by assumption)
 obtain ⟨pn,hpn⟩:∃ n:Nat,p=(n:Int):=⟨p.toNat,by omega⟩
 refine ZP (Ii p) (ZP (Pt N.nb 4) (ZP (Pt N.nb 4) (ZP (Pt N.nb 4) (ZG h (Gl 4 (.string N.a.s) 0) (ZP (Ii (N.a.s.size:Int)) (ZP (.bool (decide (p>(N.a.s.size:Int)))) (Qn ?_)))))))
 refine ZMd (X:=ByteArray×(Nat→Value)) w0 E [(32,47)] (fun ⟨sN,JM1⟩=>[]) (fun ⟨sN,JM1⟩=>JM1) (fun ⟨sN,JM1⟩=>[Bw true N.nb [Ii N.a.h.1,Ii N.a.h.2,Ii N.a.kind,Ii N.a.change,.string sN,N.vh,N.ve,Ii N.a.pins] 93,A8 true N.vh 4 1 hlC N.a.holes,A8 true N.ve 107 3 e3C N.a.es,Mi L j,A8 true vl 88 1 ptB (L.map RN.nb)]) (fun ⟨sN,JM1⟩=>(p>(N.a.s.size:Int)∧sN=N.a.s++(Bv (p - (N.a.s.size:Int)).toNat))∨(¬p>(N.a.s.size:Int)∧sN=N.a.s)) ?_ ?_
 refine Zd (p>(N.a.s.size:Int)) (fun hc14=>?_) fun hc14=>?_
 refine Ds 17 [] h fun w h=>Dp 0 16382 (Pt N.nb 4) [] h (Dp 1 8161 (Pt N.nb 4) [] h (Dp 2 8163 (Pt N.nb 4) [] h (Dp 3 8167 (Pt N.nb 4) [] h (Dp 5 2015 (Ii p) [] h (Dp 6 63 (Pt N.nb 4) [] h (Dp 7 127 (Pt N.nb 4) [] h (Dp 8 255 (Pt N.nb 4) [] h ?_)))))))
 refine A1 [4,9] (by kernel_rfl) rfl ?_
 refine O0 [] rfl (by kernel_rfl) (v:=.string N.a.s) (Je 4 [.string N.a.s] (.string N.a.s) (by kernel_rfl) 0 rfl) h (by kernel_rfl) ?_ ?_
 refine Aq 9 [] rfl h (Gl 4 (.string N.a.s) 0) (Dp 10 1023 (Ii (N.a.s.size:Int)) [] h (Dq 11 2047 [] rfl h (Gw (p - (N.a.s.size:Int))) ?_))
 refine Ad 12 [] [] (Gn (p - (N.a.s.size:Int)) (by omega) (by omega)) h ?_
 rintro v_ L_ w ⟨rfl,rfl⟩ h
 refine ⟨by kernel_rfl,?_⟩
 refine Dq (v:=.string (N.a.s++(Bv (p - (N.a.s.size:Int)).toNat))) 13 8191 [] rfl h (Nl (s:=N.a.s) (t:=(Bv (p - (N.a.s.size:Int)).toNat)) (by kernel_rfl) (by (try simp only [ByteArray.size_append,ByteArray.size_extract,Eq,Fr]);omega)) (Dp 14 16383 (Pt N.nb 4) [] h (Dp 15 32767 (Pt N.nb 4) [] h (As 16 [] 4 [.string (N.a.s++(Bv (p - (N.a.s.size:Int)).toNat))] [Ii N.a.h.1,Ii N.a.h.2,Ii N.a.kind,Ii N.a.change,.string (N.a.s++(Bv (p - (N.a.s.size:Int)).toNat)),N.vh,N.ve,Ii N.a.pins] 0 rfl h fun w h=>Dd (F8 ?_))))
 have hQ15:(p>(N.a.s.size:Int)∧(N.a.s++(Bv (p - (N.a.s.size:Int)).toNat))=N.a.s++(Bv (p - (N.a.s.size:Int)).toNat))∨(¬p>(N.a.s.size:Int)∧(N.a.s++(Bv (p - (N.a.s.size:Int)).toNat))=N.a.s):=(.inl ⟨by omega,rfl⟩)
 refine Dt (fun j=>⟨N.a.s++(Bv (p - (N.a.s.size:Int)).toNat),j⟩) hQ15 (by kernel_rfl) [0,0,0,0,0] (by kernel_rfl) h
 refine O0 [] rfl (by kernel_rfl) (v:=.string N.a.s) (Je 4 [.string N.a.s] (.string N.a.s) (by kernel_rfl) 0 rfl) h (by kernel_rfl) ?_ ?_
 refine Dp 10 1023 (Ii (N.a.s.size:Int)) [] h (Dq 11 2047 [] rfl h (Gw (p - (N.a.s.size:Int))) ?_)
 refine A1 [4,12] (by kernel_rfl) rfl ?_
 refine O0 [] rfl (by kernel_rfl) (v:=.string N.a.s) (Je 4 [.string N.a.s] (.string N.a.s) (by kernel_rfl) 0 rfl) h (by kernel_rfl) ?_ ?_
 refine Ad 12 [] [] (Gn (p - (N.a.s.size:Int)) (by omega) (by omega)) h ?_
 rintro v_ L_ w ⟨rfl,rfl⟩ h
 refine ⟨by kernel_rfl,?_⟩
 refine Dq (v:=.string (N.a.s++(Bv (p - (N.a.s.size:Int)).toNat))) 13 8191 [] rfl h (Nl (s:=N.a.s) (t:=(Bv (p - (N.a.s.size:Int)).toNat)) (by kernel_rfl) (by (try simp only [ByteArray.size_append,ByteArray.size_extract,Eq,Fr]);omega)) (Dp 14 16383 (Pt N.nb 4) [] h (Dp 15 32767 (Pt N.nb 4) [] h (As 16 [] 4 [.string (N.a.s++(Bv (p - (N.a.s.size:Int)).toNat))] [Ii N.a.h.1,Ii N.a.h.2,Ii N.a.kind,Ii N.a.change,.string (N.a.s++(Bv (p - (N.a.s.size:Int)).toNat)),N.vh,N.ve,Ii N.a.pins] 0 rfl h fun w h=>Dd (F8 ?_))))
 have hQ16:(p>(N.a.s.size:Int)∧(N.a.s++(Bv (p - (N.a.s.size:Int)).toNat))=N.a.s++(Bv (p - (N.a.s.size:Int)).toNat))∨(¬p>(N.a.s.size:Int)∧(N.a.s++(Bv (p - (N.a.s.size:Int)).toNat))=N.a.s):=(.inl ⟨by omega,rfl⟩)
 refine Dt (fun j=>⟨N.a.s++(Bv (p - (N.a.s.size:Int)).toNat),j⟩) hQ16 (by kernel_rfl) [0,0,0,0,0] (by kernel_rfl) h
 refine Di #[Ii (p - (N.a.s.size:Int))] [] [] rfl (by kernel_rfl) (Gn (p - (N.a.s.size:Int)) (by omega) (by omega)) (fun _=>by kernel_rfl) h ?_ ?_
 rintro v_ L_ w ⟨rfl,rfl⟩ h
 refine ⟨by kernel_rfl,?_⟩
 refine Aq 4 [] rfl h (Gl 4 (.string N.a.s) 0) (Dq (v:=.string (N.a.s++(Bv (p - (N.a.s.size:Int)).toNat))) 13 8191 [] rfl h (Nl (s:=N.a.s) (t:=(Bv (p - (N.a.s.size:Int)).toNat)) (by kernel_rfl) (by (try simp only [ByteArray.size_append,ByteArray.size_extract,Eq,Fr]);omega)) (Dp 14 16383 (Pt N.nb 4) [] h (Dp 15 32767 (Pt N.nb 4) [] h (As 16 [] 4 [.string (N.a.s++(Bv (p - (N.a.s.size:Int)).toNat))] [Ii N.a.h.1,Ii N.a.h.2,Ii N.a.kind,Ii N.a.change,.string (N.a.s++(Bv (p - (N.a.s.size:Int)).toNat)),N.vh,N.ve,Ii N.a.pins] 0 rfl h fun w h=>Dd (F8 ?_)))))
 have hQ17:(p>(N.a.s.size:Int)∧(N.a.s++(Bv (p - (N.a.s.size:Int)).toNat))=N.a.s++(Bv (p - (N.a.s.size:Int)).toNat))∨(¬p>(N.a.s.size:Int)∧(N.a.s++(Bv (p - (N.a.s.size:Int)).toNat))=N.a.s):=(.inl ⟨by omega,rfl⟩)
 refine Dt (fun j=>⟨N.a.s++(Bv (p - (N.a.s.size:Int)).toNat),j⟩) hQ17 (by kernel_rfl) [0,0,0,0,0] (by kernel_rfl) h
 exact Ba
 exact Ba
 refine B6 (F8 ?_)
 have hQ18:(p>(N.a.s.size:Int)∧N.a.s=N.a.s++(Bv (p - (N.a.s.size:Int)).toNat))∨(¬p>(N.a.s.size:Int)∧N.a.s=N.a.s):=(.inr ⟨by omega,rfl⟩)
 refine Dt (fun j=>⟨N.a.s,j⟩) hQ18 (by kernel_rfl) [0,0,0,0,0] (by kernel_rfl) h
 rintro a_ w ⟨⟨sN,JM1⟩,hG,rfl,h⟩
 have hF:(p>(N.a.s.size:Int)∧sN=N.a.s++(Bv (p - (N.a.s.size:Int)).toNat))∨(¬p>(N.a.s.size:Int)∧sN=N.a.s):=hG
 have hFs:pn≤sN.size∧sN.size≤4096:=by rcases hF with ⟨h1,e⟩|⟨h1,e⟩<;>rw [e]<;>(try rw [Ih])<;>omega
 refine Ai (Qs (ZP (.string (⟨#[]⟩:ByteArray)) (Qu (ZP (Ii p) (ZP (.string t) (ZP (Ii (t.size:Int)) (ZG h (Gw (p+(t.size:Int))) (ZP (Pt N.nb 4) (ZP (Pt N.nb 4) (ZP (Pt N.nb 4) (ZG h (Gl 4 (.string sN) 0) (ZP (Ii (sN.size:Int)) (ZP (.bool (decide (p+(t.size:Int)<(sN.size:Int)))) (Qn ?_))))))))))))))
 refine ZMd (X:=ByteArray×(Nat→Value)) w0 E [(58,66)] (fun ⟨tl,JM2⟩=>[(7,.string tl)]) (fun ⟨tl,JM2⟩=>JM2) (fun ⟨tl,JM2⟩=>[Bw true N.nb [Ii N.a.h.1,Ii N.a.h.2,Ii N.a.kind,Ii N.a.change,.string sN,N.vh,N.ve,Ii N.a.pins] 93,A8 true N.vh 4 1 hlC N.a.holes,A8 true N.ve 107 3 e3C N.a.es,Mi L j,A8 true vl 88 1 ptB (L.map RN.nb)]) (fun ⟨tl,JM2⟩=>((sN.extract 0 pn)++t)++tl=⟨(E5 N.a.s.data.toList pn t.data.toList).toArray⟩∧tl.size≤4096) ?_ ?_
 refine Zd (p+(t.size:Int)<(sN.size:Int)) (fun hc19=>?_) fun hc19=>?_
 refine Ah (ZP (Pt N.nb 4) (ZP (Pt N.nb 4) (ZP (Pt N.nb 4) (ZG h (Gl 4 (.string sN) 0) (ZP (Ii p) (ZP (.string t) (ZP (Ii (t.size:Int)) (ZG h (Gw (p+(t.size:Int))) ?_))))))))
 obtain ⟨j20,hj20⟩:∃ n:Nat,p+(t.size:Int)=(n:Int):=⟨(p+(t.size:Int)).toNat,by omega⟩
 refine ZG h (Xo sN (LV:=(some (Ii (p+(t.size:Int))))) (HV:=none) j20 sN.size (by kernel_rfl) (bnd hj20) rfl (by first|omega|(rw [Ih];omega)) (by first|omega|(rw [Ih];omega))) (ZP (.string (sN.extract j20 sN.size)) (Cu (F8 ?_)))
 have hQ21:((sN.extract 0 pn)++t)++(sN.extract j20 sN.size)=⟨(E5 N.a.s.data.toList pn t.data.toList).toArray⟩∧(sN.extract j20 sN.size).size≤4096:=⟨by rcases hF with ⟨h1,e⟩|⟨h1,e⟩;(exfalso;have e2:=congrArg ByteArray.size e;rw [Ih] at e2;omega);(have e2:=congrArg ByteArray.size e;rw [e,show j20=pn+t.size by omega];exact Us _ _ _ (by omega)),by rw [ByteArray.size_extract];omega⟩
 refine Dt (fun j=>⟨(sN.extract j20 sN.size),j⟩) hQ21 (by kernel_rfl) [0,0,0,0,0] (by kernel_rfl) h
 refine B6 (F8 ?_)
 have hQ22:((sN.extract 0 pn)++t)++(⟨#[]⟩:ByteArray)=⟨(E5 N.a.s.data.toList pn t.data.toList).toArray⟩∧(⟨#[]⟩:ByteArray).size≤4096:=⟨by rcases hF with ⟨h1,e⟩|⟨h1,e⟩<;>rw [Xh,e];(rw [show (p - (N.a.s.size:Int)).toNat=pn - N.a.s.size by omega];exact Aa2 _ _ _ (by omega));(have e2:=congrArg ByteArray.size e;exact Ad0 _ _ _ (by omega) (by omega)),by decide⟩
 refine Dt (fun j=>⟨(⟨#[]⟩:ByteArray),j⟩) hQ22 (by kernel_rfl) [0,0,0,0,0] (by kernel_rfl) h
 rintro a_ w ⟨⟨tl,JM2⟩,hG,rfl,h⟩
 obtain ⟨hts,htl⟩:((sN.extract 0 pn)++t)++tl=⟨(E5 N.a.s.data.toList pn t.data.toList).toArray⟩∧tl.size≤4096:=hG
 refine Ai (Qs (ZP (Pt N.nb 4) (ZP (Pt N.nb 4) (ZP (Pt N.nb 4) (ZP (Pt N.nb 4) (ZG h (Gl 4 (.string sN) 0) (ZP (Ii p) (ZG h (Xo sN (LV:=none) (HV:=(some (Ii p))) 0 pn (by kernel_rfl) rfl (bnd hpn) (by first|omega|(rw [Ih];omega)) (by first|omega|(rw [Ih];omega))) (ZP (.string t) (ZG h (Nl (s:=(sN.extract 0 pn)) (t:=t) (by kernel_rfl) (by (try simp only [ByteArray.size_append,ByteArray.size_extract,Eq,Fr]);omega)) (ZP (.string tl) (ZG h (Nl (s:=((sN.extract 0 pn)++t)) (t:=tl) (by kernel_rfl) (by (try simp only [ByteArray.size_append,ByteArray.size_extract,Eq,Fr]);omega)) (ZP (Pt N.nb 4) (ZP (Pt N.nb 4) (ZS 4 [.string (((sN.extract 0 pn)++t)++tl)] [Ii N.a.h.1,Ii N.a.h.2,Ii N.a.kind,Ii N.a.change,.string (((sN.extract 0 pn)++t)++tl),N.vh,N.ve,Ii N.a.pins] 0 rfl h fun w h=>Qu (ZP (Ii p) (ZG h (Aga pn 64 (by rw [hpn];kernel_rfl) (by omega) (by omega)) (ZP (Ii ((pn/64:Nat):Int)) (Qn (Av ?_))))))))))))))))))))
 refine ZL (X:=Nat×List Bool×Value×(Nat→Value)) [(9,9),(82,109)] (fun ⟨kq,hs,vq,J0⟩=>[(8,Ii kq)]) (fun ⟨kq,hs,vq,J0⟩=>J0) (fun ⟨kq,hs,vq,J0⟩=>[Bw true N.nb [Ii N.a.h.1,Ii N.a.h.2,Ii N.a.kind,Ii N.a.change,.string (((sN.extract 0 pn)++t)++tl),vq,N.ve,Ii N.a.pins] 93,A8 true vq 4 1 hlC hs,A8 true N.ve 107 3 e3C N.a.es,Mi L j,A8 true vl 88 1 ptB (L.map RN.nb)]) (fun ⟨kq,hs,vq,J0⟩=>pn/64≤kq∧kq≤(pn+t.size - 1)/64+1∧hs=G7 N.a.holes (pn/64) (kq - pn/64)) (fun ⟨kq,hs,vq,J0⟩=>(pn+t.size - 1)/64+1 - kq) (fun j=>⟨pn/64,N.a.holes,N.vh,j⟩) ⟨by omega,by omega,by rw [Nat.sub_self];rfl⟩ [0,0,0,0,0] h ?_
 rintro ⟨kq,hs,vq,J0⟩ w hG h
 obtain ⟨hk0,hk1,hhs⟩:pn/64≤kq∧kq≤(pn+t.size - 1)/64+1∧hs=G7 N.a.holes (pn/64) (kq - pn/64):=hG
 have hsl:=M8 N.a.holes (pn/64) (kq - pn/64)
 rw [← hhs] at hsl
 refine Qt (ZP (Ii kq) (ZP (Ii p) (ZP (.string t) (ZP (Ii (t.size:Int)) (ZG h (Gw (p+(t.size:Int))) (ZG h (Gw ((p+(t.size:Int)) - 1)) ?_))))))
 obtain ⟨j23,hj23⟩:∃ n:Nat,(p+(t.size:Int)) - 1=(n:Int):=⟨((p+(t.size:Int)) - 1).toNat,by omega⟩
 refine ZG h (Aga j23 64 (by rw [hj23];kernel_rfl) (by omega) (by omega)) (ZP (.bool (decide ((kq:Int)≤((j23/64:Nat):Int)))) (Qn (Zd ((kq:Int)≤((j23/64:Nat):Int)) (fun hc24=>?_) fun hc24=>?_)))
 refine Kn (Aa (Av (Qs (ZP (Pt N.nb 4) (ZP (Pt N.nb 4) (ZP (Pt N.nb 5) (ZG h (Gl 5 (vq) 0) (ZP vq (Qn (Aa (Av ?_)))))))))))
 refine ZL (X:=List Bool×Value×(Nat→Value)) [(96,102)] (fun ⟨ls,vi,J1⟩=>[(9,vi)]) (fun ⟨ls,vi,J1⟩=>J1) (fun ⟨ls,vi,J1⟩=>[Bw true N.nb [Ii N.a.h.1,Ii N.a.h.2,Ii N.a.kind,Ii N.a.change,.string (((sN.extract 0 pn)++t)++tl),vq,N.ve,Ii N.a.pins] 93,A8 true vi 4 1 hlC ls,A8 true N.ve 107 3 e3C N.a.es,Mi L j,A8 true vl 88 1 ptB (L.map RN.nb)]) (fun ⟨ls,vi,J1⟩=>ls=hs++List.replicate (ls.length - hs.length) true∧hs.length≤ls.length∧(ls.length=hs.length∨ls.length≤kq+1)) (fun ⟨ls,vi,J1⟩=>kq+1 - ls.length) (fun j=>⟨hs,vq,j⟩) ⟨by simp,by omega,by omega⟩ [0,0,0,0,0] h ?_
 rintro ⟨ls,vi,J1⟩ w hG h
 obtain ⟨hls,hls1,hls2⟩:ls=hs++List.replicate (ls.length - hs.length) true∧hs.length≤ls.length∧(ls.length=hs.length∨ls.length≤kq+1):=hG
 refine Qt (ZP vi (ZG h (Ki (by kernel_rfl) 1 rfl) (ZP (Ii kq) (ZP (.bool (decide ((ls.length:Int)≤(kq:Int)))) (Qn (Zd ((ls.length:Int)≤(kq:Int)) (fun hc25=>?_) fun hc25=>?_))))))
 refine Kn (Av (Ah (ZP vi ?_)))
 refine Gm rfl (fun b=>.slice (some ⟨b,0,none⟩) 1 1) [.bool true] 4 (fun _=>by kernel_rfl) h ?_;intro k26 w h
 refine Hc (b:=k26) (o:=0) rfl 1 true (by kernel_rfl) h 2 rfl 0 rfl (Fb 0 (by kernel_rfl)) (by (try simp only [List.length_append,List.length_cons,List.length_nil,List.length_map]);omega) ?_;intro v27 w h
 refine ZP v27 (Cu ?_)
 refine Cb ?_
 have hQ28:((ls++[true])=hs++List.replicate ((ls++[true]).length - hs.length) true∧hs.length≤(ls++[true]).length∧((ls++[true]).length=hs.length∨(ls++[true]).length≤kq+1))∧(kq+1 - (ls++[true]).length)<(kq+1 - ls.length):=⟨⟨Ad5 hls hls1,by (try simp only [List.length_append,List.length_cons,List.length_nil]);omega,by (try simp only [List.length_append,List.length_cons,List.length_nil]);omega⟩,by (try simp only [List.length_append,List.length_cons,List.length_nil]);omega⟩
 refine Bn (fun j=>⟨ls++[true],v27,j⟩) hQ28 (by kernel_rfl) [1,1,1,1,1] (by kernel_rfl) h
 refine C9 (D3 (Ek (Ea (Ai (Qs (ZP vi (ZP (Ii kq) ?_)))))))
 have hi29:kq<ls.length:=by omega
 obtain ⟨x30,hx31⟩:∃ x,ls[kq]?=some x:=⟨_,List.getElem?_eq_getElem hi29⟩
 refine ZG h (Lk kq (by kernel_rfl) hi29 1 rfl) ?_
 refine Fc rfl (b:=Dg vi) (B0 vi+kq*1) [.bool false] h 1 rfl (by kernel_rfl) (Ym X6 hx31 0 false (by kernel_rfl) (by kernel_rfl)) ?_;intro w h
 refine Qn (Ah (ZP (Pt N.nb 4) (ZP vi (ZP (Pt N.nb 4) (ZP (Pt N.nb 5) ?_)))))
 refine Jh rfl (h.slv 1 rfl) 5 [Ii N.a.h.1,Ii N.a.h.2,Ii N.a.kind,Ii N.a.change,.string (((sN.extract 0 pn)++t)++tl),vi,N.ve,Ii N.a.pins] h 0 rfl (by kernel_rfl) ?_;intro w h
 refine Cu ?_
 refine Cb (Ai ?_)
 refine Ah (ZP (Ii kq) (ZG h (A4 (v:=Ii (IntKind.i64.wrap ((kq:Int)+1))) (v':=Ii ((kq+1:Nat):Int)) (Az fun _=>by kernel_rfl) (wr (by omega))) (ZP (Ii ((kq+1:Nat):Int)) (Cu ?_))))
 have hQ32:(pn/64≤(kq+1)∧(kq+1)≤(pn+t.size - 1)/64+1∧(ls.set kq false)=G7 N.a.holes (pn/64) ((kq+1) - pn/64))∧((pn+t.size - 1)/64+1 - (kq+1))<((pn+t.size - 1)/64+1 - kq):=⟨⟨by omega,by omega,by rw [hls,show ls.length - hs.length=kq+1 - hs.length by omega,hhs];exact W8 _ hk0⟩,by omega⟩
 refine Bn (fun j=>⟨(kq+1),ls.set kq false,vi,j⟩) hQ32 (by kernel_rfl) [0,0,0,0,0] (by kernel_rfl) h
 refine C9 (D3 (Ek (Ea (Ai (Qs (ZP (Ii 0) (Qr ?_)))))))
 have h:=Own.rtClose hx (⟨N.nb,vq,N.ve,⟨N.a.h,N.a.kind,N.a.change,((sN.extract 0 pn)++t)++tl,hs,N.a.es,N.a.pins⟩⟩:RN) rfl h
 refine ZR [Ii 0] [0] h ?_
 have hT:Bh N.a.s N.a.holes p t=_:=bw_ok (by omega) (fun e=>absurd (Hh.1 e) (by assumption)) hpn hts (h':=hs) (by rw [hhs,show kq=(pn+t.size - 1)/64+1 by omega])
 exact ⟨vq,by rw [hT];rfl,by rw [hT];rfl⟩
theorem Abg {s:ByteArray} {h:List Bool} {p:Int} (hb:p<0∨4096<p):Bc s h p=(s,h,2):=if_pos hb
theorem Tc {s:ByteArray} {h:List Bool} {p:Int} (hb:¬(p<0∨4096<p)) (h1:(s.size:Int)≤p) {j:Nat} (hj:p=(j:Int)):Bc s h p=(s++Bv (j - s.size),h,0):=by unfold Bc;rw [if_neg hb,if_pos h1,hj,Int.toNat_natCast]
theorem Ag7 {s:ByteArray} {h:List Bool} {p:Int} (hb:¬(p<0∨4096<p)) (h1:¬(s.size:Int)≤p) {j:Nat} (hj:p=(j:Int)):Bc s h p=(s.extract 0 j,Qc h j,0):=by unfold Bc;rw [if_neg hb,if_neg h1,hj,Int.toNat_natCast]
theorem Qz (vl:Value) (L:List RN) (j:Nat) (N:RN) (hx:L[j]?=some N) (hsz:N.a.s.size≤4096) (hho:N.a.holes.length≤64) (p:Int) (hp:-9223372036854775808≤p∧p≤9223372036854775807)  : Au Tryz.prog 78 #[Pt N.nb 4,Ii p] [rRL vl L] (fun u L'=>∃ v',u=Ii (((Bc N.a.s N.a.holes p).2.2:Nat):Int)∧L'=[rRL vl (L.set j (⟨N.nb,v',N.ve,⟨N.a.h,N.a.kind,N.a.change,(Bc N.a.s N.a.holes p).1,(Bc N.a.s N.a.holes p).2.1,N.a.es,N.a.pins⟩⟩:RN))]):=by
 refine Zo 61 Tryz.func78 fun E w0 w h=>?_
 refine Qs (ZP (Ii 0) (Qu (ZP (Ii p) ?_)))
 obtain ⟨b1,hb1⟩:=nmB (decide (p<0))
 refine ZB hb1 (ZP (.bool b1) ?_)
 rcases Bool.eq_false_or_eq_true b1 with hc2|hc2
 subst hc2
 have q3:=hb1.symm
 have q3:=dcT q3
 refine Zx (Zx (ZP (.bool true) (Qg (Qs (ZP (Ii 2) (Qr (Ar (ZR [Ii 2] [0] h ?_))))))))
 have hT:Bc N.a.s N.a.holes p=_:=Abg (by omega)
 exact ⟨N.vh,by rw [hT];rfl,by rw [hT];exact congrArg (fun l=>[rRL vl l]) (H9 L j N hx).symm⟩
 subst hc2
 have q4:=hb1.symm
 have q4:=dcF q4
 refine ZP (Ii p) ?_
 obtain ⟨b5,hb5⟩:=nmB (decide (p>4096))
 refine ZB hb5 (ZP (.bool b5) (Qn (Zi (b5) (fun hc6=>?_) fun hc6=>?_)))
 have q7:=hb5.symm.trans hc6
 have q7:=dcT q7
 refine Qs (ZP (Ii 2) (Qr (Ar (ZR [Ii 2] [0] h ?_))))
 have hT:Bc N.a.s N.a.holes p=_:=Abg (by omega)
 exact ⟨N.vh,by rw [hT];rfl,by rw [hT];exact congrArg (fun l=>[rRL vl l]) (H9 L j N hx).symm⟩
 have q8:=hb5.symm.trans hc6
 have q8:=dcF q8
 refine Kw ?_
 have h:=h.rtOpen hx
 obtain ⟨pn,hpn⟩:∃ n:Nat,p=(n:Int):=⟨p.toNat,by omega⟩
 refine ZP (Ii p) (ZP (Pt N.nb 4) (ZP (Pt N.nb 4) (ZP (Pt N.nb 4) (ZG h (Gl 4 (.string N.a.s) 0) (ZP (Ii (N.a.s.size:Int)) (ZP (.bool (decide (p≥(N.a.s.size:Int)))) (Qn (Zd (p≥(N.a.s.size:Int)) (fun hc9=>?_) fun hc9=>?_))))))))
 refine Aa (Ds 17 [] h fun w h=>Dp 0 16382 (Pt N.nb 4) [] h (Dp 1 8161 (Pt N.nb 4) [] h (Dp 2 8163 (Pt N.nb 4) [] h (Dp 3 8167 (Pt N.nb 4) [] h (Dp 5 2015 (Ii p) [] h (Dp 6 63 (Pt N.nb 4) [] h (Dp 7 127 (Pt N.nb 4) [] h (Dp 8 255 (Pt N.nb 4) [] h ?_))))))))
 refine A1 [4,9] (by kernel_rfl) rfl ?_
 refine O0 [] rfl (by kernel_rfl) (v:=.string N.a.s) (Je 4 [.string N.a.s] (.string N.a.s) (by kernel_rfl) 0 rfl) h (by kernel_rfl) ?_ ?_
 refine Aq 9 [] rfl h (Gl 4 (.string N.a.s) 0) (Dp 10 1023 (Ii (N.a.s.size:Int)) [] h (Dq 11 2047 [] rfl h (Gw (p - (N.a.s.size:Int))) ?_))
 refine Ad 12 [] [] (Gn (p - (N.a.s.size:Int)) (by omega) (by omega)) h ?_
 rintro v_ L_ w ⟨rfl,rfl⟩ h
 refine ⟨by kernel_rfl,?_⟩
 refine Dq (v:=.string (N.a.s++(Bv (p - (N.a.s.size:Int)).toNat))) 13 8191 [] rfl h (Nl (s:=N.a.s) (t:=(Bv (p - (N.a.s.size:Int)).toNat)) (by kernel_rfl) (by (try simp only [ByteArray.size_append,ByteArray.size_extract,Eq,Fr]);omega)) (Dp 14 16383 (Pt N.nb 4) [] h (Dp 15 32767 (Pt N.nb 4) [] h (As 16 [] 4 [.string (N.a.s++(Bv (p - (N.a.s.size:Int)).toNat))] [Ii N.a.h.1,Ii N.a.h.2,Ii N.a.kind,Ii N.a.change,.string (N.a.s++(Bv (p - (N.a.s.size:Int)).toNat)),N.vh,N.ve,Ii N.a.pins] 0 rfl h fun w h=>Dd (Ai (Qs (ZP (Ii 0) (Qr (Ar ?_))))))))
 have h:=Own.rtClose hx (⟨N.nb,N.vh,N.ve,⟨N.a.h,N.a.kind,N.a.change,N.a.s++(Bv (p - (N.a.s.size:Int)).toNat),N.a.holes,N.a.es,N.a.pins⟩⟩:RN) rfl h
 refine ZR [Ii 0] [0] h ?_
 have hT:Bc N.a.s N.a.holes p=_:=Tc (by omega) (by omega) hpn
 exact ⟨N.vh,by rw [hT];rfl,by rw [hT,← show (p - (N.a.s.size:Int)).toNat=pn - N.a.s.size by omega];rfl⟩
 refine O0 [] rfl (by kernel_rfl) (v:=.string N.a.s) (Je 4 [.string N.a.s] (.string N.a.s) (by kernel_rfl) 0 rfl) h (by kernel_rfl) ?_ ?_
 refine Dp 10 1023 (Ii (N.a.s.size:Int)) [] h (Dq 11 2047 [] rfl h (Gw (p - (N.a.s.size:Int))) ?_)
 refine A1 [4,12] (by kernel_rfl) rfl ?_
 refine O0 [] rfl (by kernel_rfl) (v:=.string N.a.s) (Je 4 [.string N.a.s] (.string N.a.s) (by kernel_rfl) 0 rfl) h (by kernel_rfl) ?_ ?_
 refine Ad 12 [] [] (Gn (p - (N.a.s.size:Int)) (by omega) (by omega)) h ?_
 rintro v_ L_ w ⟨rfl,rfl⟩ h
 refine ⟨by kernel_rfl,?_⟩
 refine Dq (v:=.string (N.a.s++(Bv (p - (N.a.s.size:Int)).toNat))) 13 8191 [] rfl h (Nl (s:=N.a.s) (t:=(Bv (p - (N.a.s.size:Int)).toNat)) (by kernel_rfl) (by (try simp only [ByteArray.size_append,ByteArray.size_extract,Eq,Fr]);omega)) (Dp 14 16383 (Pt N.nb 4) [] h (Dp 15 32767 (Pt N.nb 4) [] h (As 16 [] 4 [.string (N.a.s++(Bv (p - (N.a.s.size:Int)).toNat))] [Ii N.a.h.1,Ii N.a.h.2,Ii N.a.kind,Ii N.a.change,.string (N.a.s++(Bv (p - (N.a.s.size:Int)).toNat)),N.vh,N.ve,Ii N.a.pins] 0 rfl h fun w h=>Dd (Ai (Qs (ZP (Ii 0) (Qr (Ar ?_))))))))
 have h:=Own.rtClose hx (⟨N.nb,N.vh,N.ve,⟨N.a.h,N.a.kind,N.a.change,N.a.s++(Bv (p - (N.a.s.size:Int)).toNat),N.a.holes,N.a.es,N.a.pins⟩⟩:RN) rfl h
 refine ZR [Ii 0] [0] h ?_
 have hT:Bc N.a.s N.a.holes p=_:=Tc (by omega) (by omega) hpn
 exact ⟨N.vh,by rw [hT];rfl,by rw [hT,← show (p - (N.a.s.size:Int)).toNat=pn - N.a.s.size by omega];rfl⟩
 refine Di #[Ii (p - (N.a.s.size:Int))] [] [] rfl (by kernel_rfl) (Gn (p - (N.a.s.size:Int)) (by omega) (by omega)) (fun _=>by kernel_rfl) h ?_ ?_
 rintro v_ L_ w ⟨rfl,rfl⟩ h
 refine ⟨by kernel_rfl,?_⟩
 refine Aq 4 [] rfl h (Gl 4 (.string N.a.s) 0) (Dq (v:=.string (N.a.s++(Bv (p - (N.a.s.size:Int)).toNat))) 13 8191 [] rfl h (Nl (s:=N.a.s) (t:=(Bv (p - (N.a.s.size:Int)).toNat)) (by kernel_rfl) (by (try simp only [ByteArray.size_append,ByteArray.size_extract,Eq,Fr]);omega)) (Dp 14 16383 (Pt N.nb 4) [] h (Dp 15 32767 (Pt N.nb 4) [] h (As 16 [] 4 [.string (N.a.s++(Bv (p - (N.a.s.size:Int)).toNat))] [Ii N.a.h.1,Ii N.a.h.2,Ii N.a.kind,Ii N.a.change,.string (N.a.s++(Bv (p - (N.a.s.size:Int)).toNat)),N.vh,N.ve,Ii N.a.pins] 0 rfl h fun w h=>Dd (Ai (Qs (ZP (Ii 0) (Qr (Ar ?_)))))))))
 have h:=Own.rtClose hx (⟨N.nb,N.vh,N.ve,⟨N.a.h,N.a.kind,N.a.change,N.a.s++(Bv (p - (N.a.s.size:Int)).toNat),N.a.holes,N.a.es,N.a.pins⟩⟩:RN) rfl h
 refine ZR [Ii 0] [0] h ?_
 have hT:Bc N.a.s N.a.holes p=_:=Tc (by omega) (by omega) hpn
 exact ⟨N.vh,by rw [hT];rfl,by rw [hT,← show (p - (N.a.s.size:Int)).toNat=pn - N.a.s.size by omega];rfl⟩
 exact Ba
 exact Ba
 refine Ks (ZP (Pt N.nb 4) (ZP (Pt N.nb 4) (ZP (Pt N.nb 4) (ZP (Pt N.nb 4) (ZG h (Gl 4 (.string N.a.s) 0) (ZP (Ii p) (ZG h (Xo N.a.s (LV:=none) (HV:=(some (Ii p))) 0 pn (by kernel_rfl) rfl (bnd hpn) (by first|omega|(simp;omega)) (by first|omega|(simp;omega))) (ZP (Pt N.nb 4) (ZP (Pt N.nb 4) (ZS 4 [.string (N.a.s.extract 0 pn)] [Ii N.a.h.1,Ii N.a.h.2,Ii N.a.kind,Ii N.a.change,.string (N.a.s.extract 0 pn),N.vh,N.ve,Ii N.a.pins] 0 rfl h fun w h=>Qu (ZP (Ii 0) (Qn (Av ?_)))))))))))))
 refine ZL (X:=Nat×List Bool×(Nat→Value)) [(44,62)] (fun ⟨kq,ls,J0⟩=>[(5,Ii kq)]) (fun ⟨kq,ls,J0⟩=>J0) (fun ⟨kq,ls,J0⟩=>[Bw true N.nb [Ii N.a.h.1,Ii N.a.h.2,Ii N.a.kind,Ii N.a.change,.string (N.a.s.extract 0 pn),N.vh,N.ve,Ii N.a.pins] 93,A8 true N.vh 4 1 hlC ls,A8 true N.ve 107 3 e3C N.a.es,Mi L j,A8 true vl 88 1 ptB (L.map RN.nb)]) (fun ⟨kq,ls,J0⟩=>kq≤N.a.holes.length∧ls=Hx N.a.holes pn kq) (fun ⟨kq,ls,J0⟩=>N.a.holes.length - kq) (fun j=>⟨0,N.a.holes,j⟩) ⟨by omega,(Wk _ _).symm⟩ [0,0,0,0,0] h ?_
 rintro ⟨kq,ls,J0⟩ w hG h
 obtain ⟨hkq,hls⟩:kq≤N.a.holes.length∧ls=Hx N.a.holes pn kq:=hG
 have hcl:ls.length=N.a.holes.length:=by rw [hls];exact Zl N.a.holes pn kq
 refine Qt (ZP (Ii kq) (ZP (Pt N.nb 4) (ZP (Pt N.nb 4) (ZP (Pt N.nb 5) (ZG h (Gl 5 (N.vh) 0) (ZG h (Ki (by kernel_rfl) 1 rfl) (ZP (.bool (decide ((kq:Int)<(ls.length:Int)))) (Qn (Zd ((kq:Int)<(ls.length:Int)) (fun hc10=>?_) fun hc10=>?_)))))))))
 refine Kn (Aa (Av (Qs (ZP (Ii kq) (ZG h (Gw ((kq:Int)*64)) (ZP (Ii p) (ZP (.bool (decide ((kq:Int)*64≥p))) (Qn (Zd ((kq:Int)*64≥p) (fun hc11=>?_) fun hc11=>?_)))))))))
 refine Ah (ZP (Pt N.nb 4) (ZP (Pt N.nb 4) (ZP (Pt N.nb 5) (ZG h (Gl 5 (N.vh) 0) (ZP (Ii kq) ?_)))))
 have hi12:kq<ls.length:=by omega
 obtain ⟨x13,hx14⟩:∃ x,ls[kq]?=some x:=⟨_,List.getElem?_eq_getElem hi12⟩
 refine ZG h (Lk kq (by kernel_rfl) hi12 1 rfl) ?_
 refine Fc rfl (b:=Dg N.vh) (B0 N.vh+kq*1) [.bool true] h 1 rfl (by kernel_rfl) (Ym X6 hx14 0 true (by kernel_rfl) (by kernel_rfl)) ?_;intro w h
 refine Cu ?_
 refine Cb (Ai ?_)
 refine Ah (ZP (Ii kq) (ZG h (A4 (v:=Ii (IntKind.i64.wrap ((kq:Int)+1))) (v':=Ii ((kq+1:Nat):Int)) (Az fun _=>by kernel_rfl) (wr (by omega))) (ZP (Ii ((kq+1:Nat):Int)) (Cu ?_))))
 have hQ15:((kq+1)≤N.a.holes.length∧(ls.set kq true)=Hx N.a.holes pn (kq+1))∧(N.a.holes.length - (kq+1))<(N.a.holes.length - kq):=⟨⟨by omega,by rw [hls];exact Adf _ _ _ (by omega) (by omega)⟩,by omega⟩
 refine Bn (fun j=>⟨(kq+1),ls.set kq true,j⟩) hQ15 (by kernel_rfl) [0,0,0,0,0] (by kernel_rfl) h
 refine B6 ?_
 refine Cb (Ai ?_)
 refine Ah (ZP (Ii kq) (ZG h (A4 (v:=Ii (IntKind.i64.wrap ((kq:Int)+1))) (v':=Ii ((kq+1:Nat):Int)) (Az fun _=>by kernel_rfl) (wr (by omega))) (ZP (Ii ((kq+1:Nat):Int)) (Cu ?_))))
 have hQ16:((kq+1)≤N.a.holes.length∧ls=Hx N.a.holes pn (kq+1))∧(N.a.holes.length - (kq+1))<(N.a.holes.length - kq):=⟨⟨by omega,by rw [hls];exact Y8 _ _ _ (by omega)⟩,by omega⟩
 refine Bn (fun j=>⟨(kq+1),ls,j⟩) hQ16 (by kernel_rfl) [0,0,0,0,0] (by kernel_rfl) h
 refine C9 (D3 (Ek (Ea (Ai (Qs (ZP (Ii 0) (Qr ?_)))))))
 have h:=Own.rtClose hx (⟨N.nb,N.vh,N.ve,⟨N.a.h,N.a.kind,N.a.change,N.a.s.extract 0 pn,ls,N.a.es,N.a.pins⟩⟩:RN) rfl h
 refine ZR [Ii 0] [0] h ?_
 have hT:Bc N.a.s N.a.holes p=_:=Ag7 (by omega) (by omega) hpn
 rw [Aai _ _ _ (by omega)] at hls
 exact ⟨N.vh,by rw [hT];rfl,by rw [hT,← hls];rfl⟩
theorem Xn {s:ByteArray} {h:List Bool} {p:Int} {t:ByteArray} (h1:s.size≤4096) (h2:h.length≤64):(Bh s h p t).1.size≤4096∧(Bh s h p t).2.1.length≤64:=by
  unfold Bh
  split
  · exact ⟨h1,h2⟩
  · rename_i hb
    split
    · exact ⟨h1,h2⟩
    · rename_i h0
      refine ⟨?_,?_⟩
      · show (⟨(E5 s.data.toList p.toNat t.data.toList).toArray⟩:ByteArray).size≤4096
        rw [Wi];omega
      · have:=M8 h (p.toNat/64) ((p.toNat+t.size - 1)/64+1 - p.toNat/64)
        show (G7 h (p.toNat/64) ((p.toNat+t.size - 1)/64+1 - p.toNat/64)).length≤64
        omega
theorem Uq {s:ByteArray} {h:List Bool} {p:Int} (h1:s.size≤4096) (h2:h.length≤64):(Bc s h p).1.size≤4096∧(Bc s h p).2.1.length≤64:=by
  unfold Bc
  split
  · exact ⟨h1,h2⟩
  · rename_i hb
    split
    · refine ⟨?_,h2⟩
      show (s++Bv (p.toNat - s.size)).size≤4096
      rw [Ih];omega
    · refine ⟨?_,?_⟩
      · show (s.extract 0 p.toNat).size≤4096
        rw [ByteArray.size_extract];omega
      · show (Qc h p.toNat).length≤64
        rw [Adp];exact h2
section
variable {most:Nat} {ts:List Int} {A:List AN}
theorem TI.file1 (h:TI most ts A) {D:AN} (hD:D∈A) (hk:D.kind=1) (f:AN→AN) (hf:∀ M,(f M).h=M.h∧(f M).kind=M.kind∧(f M).es=M.es) (htx:(f D).s.size≤4096∧(f D).holes.length≤64) (hp:D.pins≤(f D).pins):TI most ts (Cx A D.h f):=by
  have b:=h.base
  have hs:=H1 A D.h f hf
  obtain ⟨rk,hr⟩:=h.rank
  refine ⟨b.num1 hD f hf (fun q=>by omega) htx (by have:=b.pos D hD;omega),⟨rk,Fx hr hs⟩,h.held.shp hs fun M hM=>?_⟩
  obtain ⟨N,hN,rfl⟩:=B4 hM
  refine ⟨N,hN,?_⟩
  by_cases c:N.h=D.h
  · have:=b.same hN hD c;subst this
    rw [if_pos rfl]
    exact ⟨(hf N).1.symm,fun _=>⟨hk,fun p=>by omega⟩⟩
  · rw [if_neg c];exact ⟨rfl,fun q=>⟨q,fun p=>p⟩⟩
theorem Aa8 {h:Hdl} (q:El A h=0):∃ D∈A,D.h=h∧D.kind=1∧Bs A h=some D:=by
  unfold El at q
  split at q
  · cases q
  · rename_i D hD
    split at q
    · rename_i hk;exact ⟨D,(Db hD).1,(Db hD).2,hk,hD⟩
    · cases q
theorem TI.pin (h:TI most ts A) {x:Hdl} (q:El A x=0):TI most ts (G4 A x 1):=by
  obtain ⟨D,hD,rfl,hk,_⟩:=Aa8 q
  exact h.file1 hD hk _ (fun _=>⟨rfl,rfl,rfl⟩) (h.base.txt D hD) (by show D.pins≤D.pins+1;omega)
theorem R2 {h:Hdl} (q:Cj A h=0):∃ D∈A,D.h=h∧D.kind=1∧D.pins≠0∧Bs A h=some D:=by
  unfold Cj at q
  split at q
  · cases q
  · rename_i D hD
    split at q
    · rename_i hk
      split at q
      · cases q
      · rename_i hp;exact ⟨D,(Db hD).1,(Db hD).2,hk,hp,hD⟩
    · cases q
theorem TI.unpin (h:TI most ts A) {x:Hdl} (q:Cj A x=0):TI most ts (Gj (G4 A x (-1))):=by
  obtain ⟨D,hD,rfl,hk,hp,_⟩:=R2 q
  obtain ⟨rk,hr⟩:=h.rank
  have:=h.base.pos D hD
  exact TI.sweep (h.base.num1 hD _ (fun _=>⟨rfl,rfl,rfl⟩) (fun q=>by omega) (h.base.txt D hD) (by show 0≤D.pins+-1;omega)) ⟨rk,Fx hr (Hm _ _ _)⟩
theorem TI.write (h:TI most ts A) (x:Hdl) (p:Int) (t:ByteArray):TI most ts (Fd A x p t):=by
  unfold Fd atF
  split
  · exact h
  · rename_i D hD
    split
    · rename_i hk
      obtain ⟨hD1,rfl⟩:=Db hD
      exact h.file1 hD1 hk _ (fun _=>⟨rfl,rfl,rfl⟩) (Xn (h.base.txt D hD1).1 (h.base.txt D hD1).2) (Int.le_refl _)
    · exact h
theorem TI.resize (h:TI most ts A) (x:Hdl) (p:Int):TI most ts (Ec A x p):=by
  unfold Ec atF
  split
  · exact h
  · rename_i D hD
    split
    · rename_i hk
      obtain ⟨hD1,rfl⟩:=Db hD
      exact h.file1 hD1 hk _ (fun _=>⟨rfl,rfl,rfl⟩) (Uq (h.base.txt D hD1).1 (h.base.txt D hD1).2) (Int.le_refl _)
    · exact h
theorem Oz (A:List AN) (d:Hdl):∀ k,itU A (k+1) d=itU A k (upA A d)
  | 0=>rfl
  | k+1=>by show upA A (itU A (k+1) d)=upA A (itU A k (upA A d));rw [Oz A d k]
theorem Rq {x y:Hdl} (hne:y≠x):B8 A x y↔B8 A x (upA A y):=by
  constructor
  · rintro ⟨k,hk⟩
    cases k with
    | zero=>exact absurd hk hne
    | succ k=>exact ⟨k,by rw [← Oz];exact hk⟩
  · rintro ⟨k,hk⟩;exact ⟨k+1,by rw [Oz];exact hk⟩
theorem TI.oneDir (h:TI most ts A) {M:AN} (hM:M∈A) {e:Bj} (he:e∈M.es) (hd:Bg A e.2=true):Be A e.2≤1∧upA A e.2=M.h:=by
  obtain ⟨K,hK,e1,hk⟩:=U1 hd
  have h1:Be A e.2≤1:=by
    have:=h.base.one K hK hk
    rw [e1] at this
    split at this<;>omega
  exact ⟨h1,Ng h1 hM he rfl⟩
open Classical in
theorem TI.rerank (h:TI most ts A) {x d:Hdl} (hc:¬B8 A x d):∃ rk:Hdl→Nat,rk d<rk x∧∀ M∈A,∀ e∈M.es,e.2≠x→Bg A e.2=true→rk M.h<rk e.2:=by
  obtain ⟨rk,hr⟩:=h.rank
  refine ⟨fun y=>if B8 A x y then rk y+(rk d+1) else rk y,?_,fun M hM e he hne hd=>?_⟩
  · show (if B8 A x d then _ else rk d)<if B8 A x x then rk x+(rk d+1) else _
    rw [if_neg hc,if_pos ⟨0,rfl⟩];omega
  · have hu:=(h.oneDir hM he hd).2
    have h1:=hr M hM e he hd
    show (if B8 A x M.h then rk M.h+(rk d+1) else rk M.h)<if B8 A x e.2 then rk e.2+(rk d+1) else rk e.2
    by_cases c:B8 A x M.h
    · rw [if_pos c,if_pos ((Rq hne).2 (by rw [hu];exact c))];omega
    · rw [if_neg c,if_neg (fun q=>c (by rw [← hu];exact (Rq hne).1 q))];exact h1
theorem TI.climbEnds (h:TI most ts A):∃ rk:Hdl→Nat,∀ d,upA A d≠d→rk (upA A d)<rk d:=by
  obtain ⟨rk,hr⟩:=h.rank
  obtain ⟨B,hB⟩:∃ B:Nat,∀ M∈A,rk M.h<B:=by
    clear hr h
    induction A with
    | nil=>exact ⟨0,fun M hM=>by cases hM⟩
    | cons x A ih=>
      obtain ⟨B,hB⟩:=ih
      refine ⟨max B (rk x.h+1),fun M hM=>?_⟩
      rcases List.mem_cons.1 hM with rfl|hM
      · omega
      · have:=hB M hM;omega
  refine ⟨fun y=>if Bg A y=true then rk y else B,fun d hd=>?_⟩
  rcases Ko A d with ⟨q,_⟩|⟨M,hM,e,he,rfl,q⟩
  · exact absurd q hd
  · rw [q]
    have hMd:M.kind=2:=(h.base.kind M hM).resolve_left fun k1=>by rw [h.base.file M hM k1] at he;cases he
    show (if Bg A M.h=true then rk M.h else B)<if Bg A e.2=true then rk e.2 else B
    rw [if_pos (by rw [E2 h.base.nod hM];exact decide_eq_true hMd)]
    by_cases c:Bg A e.2=true
    · rw [if_pos c];exact hr M hM e he c
    · rw [if_neg c];exact hB M hM
end
theorem G2 (A:List AN) (a:Hdl) (old:ByteArray) (b:Hdl) (nm:ByteArray):(tRename A a old b nm).2=A∨∃ F T h X,Bs A a=some F∧F.kind=2∧Bs A b=some T∧T.kind=2∧Eg F.es old=some h∧Bs A h=some X∧¬(X.kind=2∧B8 A h b)∧
    ((Eg T.es nm=none∧¬(60≤T.es.length∧a≠b)∧tRename A a old b nm=(0,Eu A a old b nm h none))∨∃ y Y,Eg T.es nm=some y∧¬y=h∧Bs A y=some Y∧¬(X.kind=1∧Y.kind=2)∧¬(X.kind=2∧Y.kind=1)∧Y.es=[]∧tRename A a old b nm=(0,Eu A a old b nm h (some y))):=by
  by_cases h1:∃ F,Bs A a=some F
  rotate_left
  · left;rw [Afu (by cases c:Bs A a with|none=>rfl|some F=>exact absurd ⟨F,c⟩ h1)]
  obtain ⟨F,h1⟩:=h1
  by_cases h2:F.kind=2
  rotate_left
  · left;rw [Ya h1 h2]
  by_cases h3:∃ T,Bs A b=some T
  rotate_left
  · left;rw [Ahe h1 h2 (by cases c:Bs A b with|none=>rfl|some F=>exact absurd ⟨F,c⟩ h3)]
  obtain ⟨T,h3⟩:=h3
  by_cases h4:T.kind=2
  rotate_left
  · left;rw [Ab9 h1 h2 h3 h4]
  by_cases h5:A0 old
  rotate_left
  · left;rw [Sa h1 h2 h3 h4 h5]
  by_cases h6:A0 nm
  rotate_left
  · left;rw [Xx h1 h2 h3 h4 h5 h6]
  by_cases h7:∃ h,Eg F.es old=some h
  rotate_left
  · left;rw [Og h1 h2 h3 h4 h5 h6 (by cases c:Eg F.es old with|none=>rfl|some F=>exact absurd ⟨F,c⟩ h7)]
  obtain ⟨h,h7⟩:=h7
  cases h8:Bs A h with
  | none=>
    left;unfold tRename;rw [h1];simp only [if_pos h2];rw [h3];simp only [if_pos h4];rw [Bf h5,Bf h6,h7];simp only [if_true];rw [h8]
  | some X=>
    by_cases h9:X.kind=2∧B8 A h b
    · left;rw [N8 h1 h2 h3 h4 h5 h6 h7 h8 h9.1 h9.2]
    cases hB:Eg T.es nm with
    | none=>
      by_cases hC:60≤T.es.length∧a≠b
      · left;rw [Oe h1 h2 h3 h4 h5 h6 h7 h8 h9 hB hC]
      · exact .inr ⟨F,T,h,X,h1,h2,h3,h4,h7,h8,h9,.inl ⟨hB,hC,Lw h1 h2 h3 h4 h5 h6 h7 h8 h9 hB hC⟩⟩
    | some y=>
      by_cases hC:y=h
      · left;rw [Mv h1 h2 h3 h4 h5 h6 h7 h8 h9 hB hC]
      cases hD:Bs A y with
      | none=>
        left;unfold tRename;rw [h1];simp only [if_pos h2];rw [h3];simp only [if_pos h4];rw [Bf h5,Bf h6,h7];simp only [if_true];rw [h8];simp only [if_neg h9];rw [hB];simp only [if_neg hC];rw [hD]
      | some Y=>
        by_cases hE:X.kind=1∧Y.kind=2
        · left;rw [Th h1 h2 h3 h4 h5 h6 h7 h8 h9 hB hC hD hE]
        by_cases hF:X.kind=2∧Y.kind=1
        · left;rw [K8 h1 h2 h3 h4 h5 h6 h7 h8 h9 hB hC hD hE hF]
        by_cases hG:0<Y.es.length
        · left;rw [Ho h1 h2 h3 h4 h5 h6 h7 h8 h9 hB hC hD hE hF hG]
        · exact .inr ⟨F,T,h,X,h1,h2,h3,h4,h7,h8,h9,.inr ⟨y,Y,hB,hC,hD,hE,hF,List.eq_nil_of_length_eq_zero (by omega),Mr h1 h2 h3 h4 h5 h6 h7 h8 h9 hB hC hD hE hF hG⟩⟩
theorem Wj {A:List AN} {d:Hdl} (h:∀ M∈A,M.h≠d):Ap A d=A:=by
  unfold Ap Cx
  conv=>rhs;rw [← List.map_id A]
  refine List.map_congr_left fun N hN=>?_
  simp [h N hN]
theorem TI.touchA {most:Nat} {ts:List Int} {A:List AN} (h:TI most ts A) (d:Hdl):TI most ts (Ap A d):=by
  by_cases c:∃ M∈A,M.h=d
  · obtain ⟨rk,hr⟩:=h.rank
    exact ⟨h.base.touchH c,⟨rk,Fx hr (Bl _ _)⟩,h.held.touch d⟩
  · rw [Wj fun M hM e=>c ⟨M,hM,e⟩];exact h
structure Lft (A B:List AN):Prop where
  ent:∀ M∈B,∀ e∈M.es,∃ N∈A,N.h=M.h∧e∈N.es
  nod:∀ M∈B,∃ N∈A,N.h=M.h∧N.kind=M.kind∧N.pins=M.pins
  nod':∀ N∈A,∃ M∈B,M.h=N.h∧M.kind=N.kind∧M.es.Sublist N.es
  dir:∀ x,Bg B x=Bg A x
theorem I4 (A:List AN) (d:Hdl) (nm:ByteArray):Lft A (Al A d nm):=by
  refine ⟨fun M hM e he=>?_,fun M hM=>?_,fun N hN=>?_,Kd A d nm⟩
  · obtain ⟨N,hN,rfl⟩:=B4 hM
    refine ⟨N,hN,?_⟩
    by_cases c:N.h=d
    · rw [if_pos c] at he ⊢;exact ⟨rfl,(List.mem_filter.1 he).1⟩
    · rw [if_neg c] at he ⊢;exact ⟨rfl,he⟩
  · obtain ⟨N,hN,rfl⟩:=B4 hM
    refine ⟨N,hN,?_⟩
    split<;>exact ⟨rfl,rfl,rfl⟩
  · refine ⟨_,Dj (d:=d) (f:=fun N=>⟨N.h,N.kind,N.change,N.s,N.holes,N.es.filter fun x=>!decide (x.1=nm),N.pins⟩) hN,?_⟩
    split
    · exact ⟨rfl,rfl,List.filter_sublist⟩
    · exact ⟨rfl,rfl,List.Sublist.refl _⟩
theorem Lft.trans {A B C:List AN} (h:Lft A B) (g:Lft B C):Lft A C:=by
  refine ⟨fun M hM e he=>?_,fun M hM=>?_,fun N hN=>?_,fun x=>(g.dir x).trans (h.dir x)⟩
  · obtain ⟨N,hN,e1,h1⟩:=g.ent M hM e he
    obtain ⟨K,hK,e2,h2⟩:=h.ent N hN e h1
    exact ⟨K,hK,e2.trans e1,h2⟩
  · obtain ⟨N,hN,e1,e2,e3⟩:=g.nod M hM
    obtain ⟨K,hK,f1,f2,f3⟩:=h.nod N hN
    exact ⟨K,hK,f1.trans e1,f2.trans e2,f3.trans e3⟩
  · obtain ⟨M,hM,e1,e2,e3⟩:=h.nod' N hN
    obtain ⟨K,hK,f1,f2,f3⟩:=g.nod' M hM
    exact ⟨K,hK,f1.trans e1,f2.trans e2,f3.trans e3⟩
theorem Q1 {A:List AN} {d:Hdl} {nm:ByteArray} {M:AN} (hM:M∈Al A d nm) (hd:M.h=d):∀ e∈M.es,e.1≠nm:=fun e he=>by
  obtain ⟨N,hN,rfl⟩:=B4 hM
  by_cases c:N.h=d
  · rw [if_pos c] at he;simpa using (List.mem_filter.1 he).2
  · rw [if_neg c] at hd;exact absurd hd c
theorem Um {A:List AN} (hn:(A.map (·.h)).Nodup) {D:AN} (hD:D∈A) {e:Bj} (he:e∈D.es) (hl:D.es.length≤60) {M:AN} (hM:M∈Al A D.h e.1) (hd:M.h=D.h):M.es.length<60:=by
  obtain ⟨N,hN,rfl⟩:=B4 hM
  by_cases c:N.h=D.h
  · have h1:=C2 hn hN
    rw [c,C2 hn hD] at h1
    obtain rfl:=Option.some.inj h1
    rw [if_pos rfl]
    show (D.es.filter fun x=>!decide (x.1=e.1)).length<60
    have:=(List.length_filter_lt_length_iff_exists (p:=fun x:Bj=>!decide (x.1=e.1)) (l:=D.es)).2 ⟨e,he,by simp⟩
    omega
  · rw [if_neg c] at hd;exact absurd hd c
section
variable {most:Nat} {ts:List Int} {A:List AN}
theorem TI.relay (h:TI most ts A) {B:List AN} {lz lz':Hdl→Nat} (hl:Lft A B) (b:TI0 most ts lz B) {X T:AN} (hX:X∈B) (hT:T∈B) (hk:T.kind=2) {nm:ByteArray} (hno:∀ e∈T.es,e.1≠nm) (hlt:T.es.length<60) (h8:X.kind=1→Be B X.h<8) (h0:X.kind=2→Be B X.h=0) (hc:X.kind=2→¬B8 A X.h T.h)
    (hz:∀ M∈B,M.kind=2→lz' M.h+(if X.h=M.h then 1 else 0)=lz M.h):TI0 most ts lz' (Ax B T.h nm X.h)∧∃ rk,F3 (Ax B T.h nm X.h) rk:=by
  refine ⟨b.enter hT hX hk hno hlt h8 lz' hz,?_⟩
  by_cases c:X.kind=2
  · obtain ⟨rk,h1,h2⟩:=h.rerank (hc c)
    refine ⟨rk,Hz (fun M hM e he hd=>?_) fun _=>h1⟩
    obtain ⟨N,hN,e1,e2⟩:=hl.ent M hM e he
    rw [← e1]
    refine h2 N hN e e2 (fun q=>?_) (by rw [← hl.dir];exact hd)
    have:=Lc hM he
    rw [q,h0 c] at this;omega
  · obtain ⟨rk,hr⟩:=h.rank
    refine ⟨rk,Hz (fun M hM e he hd=>?_) fun q=>?_⟩
    · obtain ⟨N,hN,e1,e2⟩:=hl.ent M hM e he
      rw [← e1];exact hr N hN e e2 (by rw [← hl.dir];exact hd)
    · rw [E2 b.nod hX] at q;exact absurd (of_decide_eq_true q) c
theorem Jq {lz:Hdl→Nat} (b:TI0 most ts lz A) {D:AN} (hD:D∈A) {e:Bj} (he:e∈D.es) {P:Hdl→Prop} (h:∀ M∈A,M.kind=1→P M.h→0<M.pins∨0<Be A M.h):∀ M∈Al A D.h e.1,M.kind=1→(P M.h∧M.h≠e.2)→0<M.pins∨0<Be (Al A D.h e.1) M.h:=fun M hM hk ⟨hp,hne⟩=>by
  obtain ⟨N,hN,e1,e2,e3⟩:=(I4 A D.h e.1).nod M hM
  have h8:=Do b.nod hD (b.nms D hD) he M.h
  rw [if_neg (fun q=>hne q.symm)] at h8
  rw [← e1] at hp
  rcases h N hN (e2.trans hk) hp with q|q
  · exact .inl (by omega)
  · rw [e1] at q;exact .inr (by omega)
end
section
variable {most:Nat} {ts:List Int} {A:List AN}
theorem TI0.lnk_dir {lz:Hdl→Nat} (b:TI0 most ts lz A) {X:AN} (hX:X∈A) (hk:X.kind=2):Be A X.h≤1:=by
  have:=b.one X hX hk
  split at this<;>omega
theorem TI.rename (h:TI most ts A) (a:Hdl) (old:ByteArray) (b:Hdl) (nm:ByteArray):TI most ts (tRename A a old b nm).2:=by
  rcases G2 A a old b nm with q|⟨F,T,hh,X,h1,h2,h3,h4,h7,h8,h9,hc⟩
  · rw [q];exact h
  obtain ⟨hF,rfl⟩:=Db h1
  obtain ⟨hT,rfl⟩:=Db h3
  obtain ⟨hX,rfl⟩:=Db h8
  obtain ⟨e,he,rfl,hex⟩:=He h7
  have b0:=h.base
  have hpos:0<Be A X.h:=by have:=Lc hF he;rwa [hex] at this
  have l1:∀ x,Be (Al A F.h e.1) x+(if X.h=x then 1 else 0)=Be A x:=fun x=>by have:=Do b0.nod hF (b0.nms F hF) he x;rwa [hex] at this
  have b1:=b0.leave hF h2 he (fun x=>if X.kind=2∧x=X.h then 1 else 0) (fun M hM hk=>by
    show (if X.kind=2∧M.h=X.h then 1 else 0)=0+if e.2=M.h then 1 else 0
    rw [hex,Nat.zero_add]
    by_cases c:X.h=M.h
    · rw [if_pos c,if_pos ⟨by rw [b0.same hX hM c];exact hk,c.symm⟩]
    · rw [if_neg c,if_neg fun q=>c q.2.symm])
  have L1:=I4 A F.h e.1
  have hcl:X.kind=2→¬B8 A X.h T.h:=fun hk q=>h9 ⟨hk,q⟩
  have fin:∀ {C:List AN},TI most ts C→TI most ts (if F.h=T.h then Ap C F.h else Ap (Ap C F.h) T.h):=fun {C} hC=>by
    split
    · exact hC.touchA _
    · exact (hC.touchA _).touchA _
  have held1:=Jq b0 hF he (P:=fun _=>True) fun M hM hk _=>h.held M hM hk
  rcases hc with ⟨hB,hC,hr⟩|⟨y,Y,hB,hC,hD,hE,hG,hes,hr⟩
  · rw [hr]
    obtain ⟨X1,hX1,x1,x2,_⟩:=L1.nod' X hX
    obtain ⟨T1,hT1,t1,t2,t3⟩:=L1.nod' T hT
    have hlt:T1.es.length<60:=by
      by_cases c:F.h=T.h
      · exact Um b0.nod hF he (b0.few F hF) hT1 (t1.trans c.symm)
      · have:=t3.length_le;have:T.es.length<60:=Nat.lt_of_not_le fun q=>hC ⟨q,c⟩;omega
    have hX0:=l1 X.h
    rw [if_pos rfl] at hX0
    have r:=h.relay L1 b1 hX1 hT1 (t2.trans h4) (fun x hx=>Fh hB x (t3.subset hx)) hlt (fun hk=>by rw [x1];have:=b0.lnk8 X hX (x2.symm.trans hk);omega) (fun hk=>by rw [x1];have:=b0.lnk_dir hX (x2.symm.trans hk);omega) (fun hk=>by rw [x1,t1];exact hcl (x2.symm.trans hk)) (lz':=lz0) (fun M hM hk=>by
      show 0+(if X1.h=M.h then 1 else 0)=if X.kind=2∧M.h=X.h then 1 else 0
      rw [x1]
      by_cases c:X.h=M.h
      · have:=b1.same hX1 hM (x1.trans c)
        rw [if_pos c,if_pos ⟨by rw [← x2,this];exact hk,c.symm⟩]
      · rw [if_neg c,if_neg fun q=>c q.2.symm])
    have hd:Kr (Ax (Al A F.h e.1) T1.h nm X1.h):=Kr.enter b1.nod hT1 fun M hM hk hne=>held1 M hM hk ⟨trivial,by rw [hex,← x1];exact hne⟩
    rw [x1,t1] at r hd
    exact fin ⟨r.1,r.2,hd⟩
  · rw [hr]
    obtain ⟨hY,rfl⟩:=Db hD
    obtain ⟨ey,hey,rfl,hyy⟩:=He hB
    have hYT:Y.h≠T.h:=fun c=>by
      have:=b0.same hY hT c
      rw [this] at hes;rw [hes] at hey;cases hey
    obtain ⟨T1,hT1,t1,t2,hey1⟩:∃ T1∈Al A F.h e.1,T1.h=T.h∧T1.kind=T.kind∧ey∈T1.es:=by
      refine ⟨_,Dj (d:=F.h) (f:=fun N=>⟨N.h,N.kind,N.change,N.s,N.holes,N.es.filter fun x=>!decide (x.1=e.1),N.pins⟩) hT,?_⟩
      by_cases c:T.h=F.h
      · rw [if_pos c]
        refine ⟨rfl,rfl,List.mem_filter.2 ⟨hey,?_⟩⟩
        have:=b0.same hT hF c
        subst this
        simp only [Bool.not_eq_true',decide_eq_false_iff_not]
        intro q
        rw [q,h7] at hB
        exact hC (Option.some.inj hB).symm
      · rw [if_neg c];exact ⟨rfl,rfl,hey⟩
    have k1:T1.kind=2:=t2.trans h4
    have l2:∀ x,Be (Al (Al A F.h e.1) T1.h ey.1) x+(if Y.h=x then 1 else 0)=Be (Al A F.h e.1) x:=fun x=>by have:=Do b1.nod hT1 (b1.nms T1 hT1) hey1 x;rwa [hyy] at this
    obtain ⟨Y1,hY1,y1,y2,y3⟩:=L1.nod' Y hY
    have b2:=b1.leave hT1 k1 hey1 (fun x=>(if X.kind=2∧x=X.h then 1 else 0)+if Y.kind=2∧x=Y.h then 1 else 0) (fun M hM hk=>by
      show (if X.kind=2∧M.h=X.h then 1 else 0)+(if Y.kind=2∧M.h=Y.h then 1 else 0)=(if X.kind=2∧M.h=X.h then 1 else 0)+if ey.2=M.h then 1 else 0
      rw [hyy]
      congr 1
      by_cases c:Y.h=M.h
      · have:=b1.same hY1 hM (y1.trans c)
        rw [if_pos c,if_pos ⟨by rw [← y2,this];exact hk,c.symm⟩]
      · rw [if_neg c,if_neg fun q=>c q.2.symm])
    have L2:=L1.trans (I4 (Al A F.h e.1) T1.h ey.1)
    obtain ⟨X2,hX2,x1,x2,_⟩:=L2.nod' X hX
    obtain ⟨T2,hT2,u1,u2,u3⟩:=(I4 (Al A F.h e.1) T1.h ey.1).nod' T1 hT1
    obtain ⟨Y2,hY2,z1,z2,z3⟩:=L2.nod' Y hY
    have z4:Y2.es=[]:=by rw [hes] at z3;exact List.sublist_nil.1 z3
    have hX0:=l1 X.h
    rw [if_pos rfl] at hX0
    have hX3:=l2 X.h
    have r:=h.relay L2 b2 hX2 hT2 (u2.trans k1) (Q1 hT2 u1) (Um b1.nod hT1 hey1 (b1.few T1 hT1) hT2 u1) (fun hk=>by rw [x1];have:=b0.lnk8 X hX (x2.symm.trans hk);omega) (fun hk=>by rw [x1];have:=b0.lnk_dir hX (x2.symm.trans hk);omega) (fun hk=>by rw [x1,u1,t1];exact hcl (x2.symm.trans hk)) (lz':=fun x=>if Y2.kind=2∧x=Y2.h then 1 else 0) (fun M hM hk=>by
      show (if Y2.kind=2∧M.h=Y2.h then 1 else 0)+(if X2.h=M.h then 1 else 0)=(if X.kind=2∧M.h=X.h then 1 else 0)+if Y.kind=2∧M.h=Y.h then 1 else 0
      rw [x1,z1,z2,Nat.add_comm]
      congr 1
      by_cases c:X.h=M.h
      · have:=b2.same hX2 hM (x1.trans c)
        rw [if_pos c,if_pos ⟨by rw [← x2,this];exact hk,c.symm⟩]
      · rw [if_neg c,if_neg fun q=>c q.2.symm])
    have hd:Y2.kind=2→Kr (Ax (Al (Al A F.h e.1) T1.h ey.1) T2.h ey.1 X2.h):=fun hk=>Kr.enter b2.nod hT2 fun M hM hk1 hne=>Jq b1 hT1 hey1 (P:=fun x=>x≠X.h) (fun M hM hk hne=>held1 M hM hk ⟨trivial,by rw [hex];exact hne⟩) M hM hk1 ⟨by rw [← x1];exact hne,fun q=>by
      rw [hyy,← z1] at q
      rw [b2.same hM hY2 q] at hk1
      omega⟩
    have hY3:Y2∈Ax (Al (Al A F.h e.1) T1.h ey.1) T2.h ey.1 X2.h:=by
      have:=Dj (d:=T2.h) (f:=fun N=>⟨N.h,N.kind,N.change,N.s,N.holes,Bi ey.1 X2.h N.es,N.pins⟩) hY2
      rwa [if_neg (fun q=>hYT (z1.symm.trans (q.trans (u1.trans t1))))] at this
    have t:=TI.lose r.1 r.2 hY3 z4 rfl hd
    rw [x1,u1,t1,z1] at t
    exact fin t
end
section
open Go.RowKit Go.MapKept
section
variable {P:Program} {a:Act} {w w0:World} {E:Ent} {L:List Res} {dst:Option Tmp} {x y:Operand} {T T2 ty:TypeId} {pos:String} {after:Array Edge} {g:Option (Nat×Bool)}
theorem strq (s t:ByteArray):(s.toList==t.toList)=decide (s=t):=by
  by_cases h:s=t
  · subst h;simp
  · rw [decide_eq_false h,← beq_toListBytes,Bool.eq_false_iff];exact fun e=>h ((MapKept.bytes_beq _ _).1 e)
theorem eqEn (s t:ByteArray) (a1 a2 b1 b2:Int) (w:World):(Op.equal 107 (.agg #[.string s,.int .i64 a1,.int .i64 a2]) (.agg #[.string t,.int .i64 b1,.int .i64 b2])).run Tryz.prog w=.ok (decide (s=t)&&(decide (a1=b1)&&decide (a2=b2))) w:=by
  unfold Op.equal
  have hq:=strq s t
  rw [show Op.maxDepth=9999+1 from rfl,run_equalIn_struct w 9999 107 _ _ (by kernel_rfl) (by kernel_rfl)]
  by_cases c0:s=t
  rotate_left
  · rw [decide_eq_false c0] at hq
    simp [go_sem,c0,hq]
  by_cases c1:a1=b1
  rotate_left
  · simp [go_sem,c0,c1]
  by_cases c2:a2=b2
  rotate_left
  · simp [go_sem,c0,c1,c2]
  simp [go_sem,c0,c1,c2]
theorem Ag3 {s t:ByteArray} {a1 a2 b1 b2:Int} (hx:(a.eval x,a.eval y)=(.agg #[.string s,.int .i64 a1,.int .i64 a2],.agg #[.string t,.int .i64 b1,.int .i64 b2])):Cl Tryz.prog w0 E L ⟨dst,.binOp .neq 107 x y T2,ty,pos,after,g⟩ a (.bool (!(decide (s=t)&&(decide (a1=b1)&&decide (a2=b2))))):=
  Yi hx (fun w=>by kernel_rfl) (eqEn s t a1 a2 b1 b2) rfl
end
end
theorem N6 (x y:ByteArray):Lx x y=decide (x.toList<y.toList):=bytesLess_eq _ _
theorem Wp {x y z:ByteArray} (h:Lx x y=true) (g:Lx y z=true):Lx x z=true:=by
  rw [N6,decide_eq_true_eq] at *
  exact List.lt_trans h g
theorem Wv {x y:ByteArray} (h:x.toList=y.toList):x=y:=by
  have:=strq x y
  rw [h] at this
  simpa using this
theorem Acb (x y:ByteArray) (h:Lx x y=false) (hne:x≠y):Lx y x=true:=by
  rw [N6,decide_eq_false_iff_not] at h
  rw [N6,decide_eq_true_eq]
  refine Classical.byContradiction fun g=>hne (Wv ?_)
  exact List.le_antisymm (List.not_lt.1 g) (List.not_lt.1 h)
def Xg (nm:ByteArray) (h:Hdl):List Bj→List Bj
  | []=>[(nm,h)]
  | e::r=>if Lx nm e.1 then (nm,h)::e::r else e::Xg nm h r
theorem Vj (nm:ByteArray) (h:Hdl):∀ (es acc:List Bj),es.foldl (C6 nm h) (true,acc)=(true,acc++es)
  | [],acc=>by simp
  | e::es,acc=>by
    rw [List.foldl_cons]
    have:C6 nm h (true,acc) e=(true,acc++[e]):=if_neg (by simp)
    rw [this,Vj nm h es];simp
theorem R1 (nm:ByteArray) (h:Hdl):∀ (es acc:List Bj),(if (es.foldl (C6 nm h) (false,acc)).1 then (es.foldl (C6 nm h) (false,acc)).2 else (es.foldl (C6 nm h) (false,acc)).2++[(nm,h)])=acc++Xg nm h es
  | [],acc=>by simp [Xg]
  | e::es,acc=>by
    rw [List.foldl_cons]
    by_cases c:Lx nm e.1=true
    · have:C6 nm h (false,acc) e=(true,acc++[(nm,h)]++[e]):=if_pos (by simp [c])
      rw [this,Vj];simp [Xg,c]
    · have:C6 nm h (false,acc) e=(false,acc++[e]):=if_neg (by simp [c])
      rw [this,R1 nm h es (acc++[e])];simp [Xg,c]
theorem Yy (nm:ByteArray) (h:Hdl) (es:List Bj):Bi nm h es=Xg nm h es:=by
  have:=R1 nm h es []
  unfold Bi Lt
  simpa using this
def Zs (es:List Bj):Prop:=es.Pairwise fun e f=>Lx e.1 f.1=true
theorem Afi {es:List Bj} (hs:Zs es) {nm:ByteArray} (hno:∀ e∈es,e.1≠nm) (h:Hdl):Zs (Bi nm h es):=by
  rw [Yy]
  induction es with
  | nil=>exact List.pairwise_singleton _ _
  | cons e r ih=>
    obtain ⟨h1,h2⟩:=List.pairwise_cons.1 hs
    unfold Xg
    by_cases c:Lx nm e.1=true
    · rw [if_pos c]
      refine List.pairwise_cons.2 ⟨fun f hf=>?_,hs⟩
      rcases List.mem_cons.1 hf with rfl|hf
      · exact c
      · exact Wp c (h1 f hf)
    · rw [if_neg c]
      refine List.pairwise_cons.2 ⟨fun f hf=>?_,ih h2 fun e he=>hno e (List.mem_cons_of_mem _ he)⟩
      have hp:=E6 nm h r
      rw [Yy] at hp
      rcases List.mem_cons.1 (hp.subset hf) with rfl|hf
      · exact Acb _ _ (by simpa using c) (fun q=>hno e (by simp) q.symm)
      · exact h1 f hf
def Srt (A:List AN):Prop:=∀ M∈A,Zs M.es
theorem Srt.same {A B:List AN} (h:Srt A) (hs:shp B=shp A):Srt B:=fun M hM=>by
  have:(M.h,M.kind,M.es)∈shp A:=by rw [← hs];exact List.mem_map.2 ⟨M,hM,rfl⟩
  obtain ⟨N,hN,q⟩:=List.mem_map.1 this
  have e2:N.es=M.es:=congrArg (fun t:Hdl×Int×List Bj=>t.2.2) q
  rw [← e2];exact h N hN
theorem Srt.filter {A:List AN} (h:Srt A) (p:AN→Bool):Srt (A.filter p):=fun M hM=>h M (List.mem_filter.1 hM).1
theorem Srt.leave {A:List AN} (h:Srt A) (d:Hdl) (nm:ByteArray):Srt (Al A d nm):=fun M hM=>by
  obtain ⟨N,hN,rfl⟩:=B4 hM
  split
  · exact (h N hN).sublist List.filter_sublist
  · exact h N hN
theorem Srt.enter {A:List AN} (h:Srt A) {d:Hdl} {nm:ByteArray} (hno:∀ M∈A,M.h=d→∀ e∈M.es,e.1≠nm) (x:Hdl):Srt (Ax A d nm x):=fun M hM=>by
  obtain ⟨N,hN,rfl⟩:=B4 hM
  by_cases c:N.h=d
  · rw [if_pos c];exact Afi (h N hN) (hno N hN c) x
  · rw [if_neg c];exact h N hN
theorem Srt.app {A:List AN} (h:Srt A) {N:AN} (hN:N.es=[]):Srt (A++[N]):=fun M hM=>by
  rcases List.mem_append.1 hM with hM|hM
  · exact h M hM
  · rw [List.mem_singleton.1 hM,hN];exact List.Pairwise.nil
theorem Srt.lose {A:List AN} (h:Srt A) (x:Hdl):Srt (C5 A x):=by
  unfold C5
  split
  · split
    · exact h.filter _
    · exact (h.same (Bl _ _)).filter _
  · exact h
def Cnt (A:List AN) (c:Int):Prop:=∀ M∈A,0≤M.change∧M.change≤c∧M.pins≤c
theorem Cnt.mono {A:List AN} {c d:Int} (h:Cnt A c) (hc:c≤d):Cnt A d:=fun M hM=>by have:=h M hM;omega
theorem Cnt.upd {A:List AN} {c e:Int} (h:Cnt A c) (he:c≤e) (d:Hdl) (f:AN→AN) (hf:∀ M∈A,0≤(f M).change∧(f M).change≤e∧(f M).pins≤e):Cnt (Cx A d f) e:=fun M hM=>by
  obtain ⟨N,hN,rfl⟩:=B4 hM
  split
  · exact hf N hN
  · have:=h N hN;omega
theorem Cnt.touch {A:List AN} {c:Int} (h:Cnt A c) (d:Hdl):Cnt (Ap A d) (c+1):=h.upd (by omega) d _ fun M hM=>by have:=h M hM;exact ⟨by show 0≤M.change+1;omega,by show M.change+1≤c+1;omega,by show M.pins≤c+1;omega⟩
theorem Cnt.enter {A:List AN} {c:Int} (h:Cnt A c) (d:Hdl) (nm:ByteArray) (x:Hdl):Cnt (Ax A d nm x) c:=h.upd (by omega) d _ fun M hM=>h M hM
theorem Cnt.leave {A:List AN} {c:Int} (h:Cnt A c) (d:Hdl) (nm:ByteArray):Cnt (Al A d nm) c:=h.upd (by omega) d _ fun M hM=>h M hM
theorem Cnt.pin {A:List AN} {c:Int} (h:Cnt A c) (d:Hdl) {x:Int} (hx:x≤1):Cnt (G4 A d x) (c+1):=h.upd (by omega) d _ fun M hM=>by have:=h M hM;exact ⟨by show 0≤M.change;omega,by show M.change≤c+1;omega,by show M.pins+x≤c+1;omega⟩
theorem Cnt.filter {A:List AN} {c:Int} (h:Cnt A c) (p:AN→Bool):Cnt (A.filter p) c:=fun M hM=>h M (List.mem_filter.1 hM).1
theorem Cnt.app {A:List AN} {c:Int} (h:Cnt A c) (hc:0≤c) (x:Hdl) (kind:Int):Cnt (A++[C8 x kind]) c:=fun M hM=>by
  rcases List.mem_append.1 hM with hM|hM
  · exact h M hM
  · rw [List.mem_singleton.1 hM];exact ⟨Int.le_refl 0,hc,hc⟩
theorem Cnt.lose {A:List AN} {c:Int} (h:Cnt A c) (x:Hdl):Cnt (C5 A x) (c+1):=by
  unfold C5
  split
  · split
    · exact (h.filter _).mono (by omega)
    · exact (h.touch x).filter _
  · exact h.mono (by omega)
theorem Cnt.wr {A:List AN} {c:Int} (h:Cnt A c) (d:Hdl) (p:Int) (t:ByteArray):Cnt (Fd A d p t) (c+1):=by
  unfold Fd atF
  split
  · exact h.mono (by omega)
  · split
    · refine h.upd (by omega) d _ fun M hM=>?_
      have:=h M hM
      refine ⟨?_,?_,by show M.pins≤c+1;omega⟩
      · show 0≤M.change+(if _ then 1 else 0);split<;>omega
      · show M.change+(if _ then 1 else 0)≤c+1;split<;>omega
    · exact h.mono (by omega)
theorem Cnt.rz {A:List AN} {c:Int} (h:Cnt A c) (d:Hdl) (p:Int):Cnt (Ec A d p) (c+1):=by
  unfold Ec atF
  split
  · exact h.mono (by omega)
  · split
    · refine h.upd (by omega) d _ fun M hM=>?_
      have:=h M hM
      refine ⟨?_,?_,by show M.pins≤c+1;omega⟩
      · show 0≤M.change+(if _ then 1 else 0);split<;>omega
      · show M.change+(if _ then 1 else 0)≤c+1;split<;>omega
    · exact h.mono (by omega)
theorem Cnt.create {A:List AN} {c:Int} (h:Cnt A c) (hc:0≤c) (ts:List Int) (d:Hdl) (nm:ByteArray) (kind:Int) (k:Nat):Cnt (Gd A ts d nm kind k) (c+1):=((h.app hc _ _).enter _ _ _).touch _
theorem Cnt.link {A:List AN} {c:Int} (h:Cnt A c) (x d:Hdl) (nm:ByteArray):Cnt (Lo A x d nm) (c+3):=(((h.enter _ _ _).touch _).touch _).mono (by omega)
theorem Cnt.remove {A:List AN} {c:Int} (h:Cnt A c) (d:Hdl) (nm:ByteArray):Cnt (Dz A d nm) (c+3):=(((h.leave _ _).touch _).lose _).mono (by omega)
theorem Cnt.rename {A:List AN} {c:Int} (h:Cnt A c) (a:Hdl) (old:ByteArray) (b:Hdl) (nm:ByteArray):Cnt (tRename A a old b nm).2 (c+3):=by
  have key:∀ h' y,Cnt (Eu A a old b nm h' y) (c+3):=fun h' y=>by
    have h2:Cnt (match y with|none=>Ax (Al A a old) b nm h'|some y=>C5 (Ax (Al (Al A a old) b nm) b nm h') y) (c+1):=by
      cases y with
      | none=>exact ((h.leave _ _).enter _ _ _).mono (by omega)
      | some y=>exact (((h.leave _ _).leave _ _).enter _ _ _).lose _
    unfold Eu
    simp only
    split
    · exact (h2.touch _).mono (by omega)
    · exact ((h2.touch _).touch _).mono (by omega)
  rcases G2 A a old b nm with q|⟨F,T,hh,X,_,_,_,_,_,_,_,⟨_,_,hr⟩|⟨y,Y,_,_,_,_,_,_,hr⟩⟩
  · rw [q];exact h.mono (by omega)
  · rw [hr];exact key hh none
  · rw [hr];exact key hh (some y)
theorem TI0.few_nodes {most:Nat} {ts:List Int} {lz:Hdl→Nat} {A:List AN} (h:TI0 most ts lz A):A.length≤most:=by
  have:=List.Nodup.length_le_of_subset h.num (l₂:=(List.range most).map fun k:Nat=>(k:Int)) fun x hx=>by
    obtain ⟨M,hM,rfl⟩:=List.mem_map.1 hx
    obtain ⟨k,hk,e⟩:=h.gen M hM
    exact List.mem_map.2 ⟨k,List.mem_range.2 hk,(congrArg Prod.fst e).symm⟩
  simpa using this
theorem TI.rtok {most:Nat} {ts:List Int} {A:List AN} (h:TI most ts A) (hm:most≤300) {c:Int} (hc:Cnt A c):Dm A c:=
  ⟨Nat.le_trans h.base.few_nodes hm,h.base.nod,h.base.ent,h.base.few,h.base.nms,fun M hM=>⟨(hc M hM).1,(hc M hM).2.1,h.base.pos M hM,(hc M hM).2.2⟩⟩
theorem TI.new {most:Nat} (h1:1≤most):TI most ((List.replicate most (0:Int)).set 0 1) [C8 (0,0) 2]:=by
  have hm:∀ {M:AN},M∈[C8 (0,0) 2]→M=C8 (0,0) 2:=fun h=>List.mem_singleton.1 h
  have ht:Aw ((List.replicate most (0:Int)).set 0 1) 0=1:=Iq (List.getElem?_set_self (by rw [List.length_replicate];omega))
  refine ⟨⟨by simp,fun M hM=>⟨0,h1,?_⟩,fun M hM=>?_,fun M hM e he=>?_,fun M hM=>?_,fun M hM=>?_,fun M hM hk=>?_,fun M hM hk=>?_,⟨C8 (0,0) 2,by simp,rfl,rfl⟩,fun M hM hk=>?_,fun M hM hk=>?_,fun M hM=>?_,fun M hM=>?_⟩,⟨fun _=>0,fun M hM e he=>?_⟩,fun M hM hk=>?_⟩
  all_goals obtain rfl:=hm hM
  · rw [ht];rfl
  · exact .inr rfl
  · cases he
  · exact Nat.zero_le _
  · exact List.nodup_nil
  · cases hk
  · exact ⟨rfl,rfl,rfl⟩
  · rfl
  · cases hk
  · exact ⟨Nat.zero_le _,Nat.zero_le _⟩
  · exact Int.le_refl 0
  · cases he
  · cases hk
theorem Srt.new:Srt [C8 (0,0) 2]:=fun M hM=>by rw [List.mem_singleton.1 hM];exact List.Pairwise.nil
theorem Srt.create {most:Nat} {A:List AN} (h:Srt A) {ts:List Int} {d:Hdl} {nm:ByteArray} {kind:Int} {k e:Nat} (q:By most A d nm kind=(some k,e)) (hn:(A.map (·.h)).Nodup):Srt (Gd A ts d nm kind k):=by
  obtain ⟨_,D,h1,h2,_,h4,h5,h6,h7⟩:=Po q
  obtain ⟨_,hu⟩:=L7 h7
  refine ((h.app rfl).enter (fun M hM hd=>?_) _).same (Bl _ _)
  rcases List.mem_append.1 hM with hM|hM
  · have h8:=C2 hn hM
    rw [hd,h1] at h8
    rw [← Option.some.inj h8];exact Fh h5
  · rw [List.mem_singleton.1 hM];exact fun e he=>by cases he
theorem Srt.link {A:List AN} (h:Srt A) {x d:Hdl} {nm:ByteArray} (q:Cy A x d nm=0) (hn:(A.map (·.h)).Nodup):Srt (Lo A x d nm):=by
  obtain ⟨X,D,h0,h1,h2,_,h4,h5,h6,h7⟩:=U8 q
  refine ((h.enter (fun M hM hd=>?_) _).same (Bl _ _)).same (Bl _ _)
  have h8:=C2 hn hM
  rw [hd,h1] at h8
  rw [← Option.some.inj h8];exact Fh h5
theorem Srt.remove {A:List AN} (h:Srt A) (d:Hdl) (nm:ByteArray):Srt (Dz A d nm):=((h.leave _ _).same (Bl _ _)).lose _
theorem Srt.rename {A:List AN} (h:Srt A) (hn:(A.map (·.h)).Nodup) (a:Hdl) (old:ByteArray) (b:Hdl) (nm:ByteArray):Srt (tRename A a old b nm).2:=by
  have fin:∀ {C:List AN},Srt C→Srt (if a=b then Ap C a else Ap (Ap C a) b):=fun {C} hC=>by
    split
    · exact hC.same (Bl _ _)
    · exact (hC.same (Bl _ _)).same (Bl _ _)
  rcases G2 A a old b nm with q|⟨F,T,hh,X,_,_,h3,_,_,_,_,⟨hB,_,hr⟩|⟨y,Y,_,_,_,_,_,_,hr⟩⟩
  · rw [q];exact h
  · rw [hr]
    refine fin ((h.leave _ _).enter (fun M hM hd e he=>?_) _)
    obtain ⟨N,hN,e1,h2⟩:=(I4 A a old).ent M hM e he
    have h8:=C2 hn hN
    rw [e1,hd,h3] at h8
    rw [← Option.some.inj h8] at h2;exact Fh hB e h2
  · rw [hr]
    exact fin ((((h.leave _ _).leave _ _).enter (fun M hM hd=>Q1 hM hd) _).lose _)
structure NdR (A:List AN) (N:ND) (M:AN):Prop where
  kind:N.kind=M.kind
  chg:N.change=M.change
  lnk:N.links=Dv A M
  dird:M.kind=2→N.dq=none∧N.upn=(upA A M.h).1∧N.upg=(upA A M.h).2
  filed:M.kind=1→N.upn=0∧N.upg=0∧∃ q,N.dq=some q∧G5 q.d M.s M.holes
structure ER (des es:List Bj):Prop where
  nd:(des.map (·.1)).Nodup
  perm:des.Perm es
structure Sim (most:Nat) (ps:List (Option Nat)) (gs:List Int) (l:List (Option ND)) (ds:List DN) (pn:List ((Int×Int)×Int)) (A:List AN) (ts:List Int):Prop where
  lps:ps.length=most
  lgs:gs.length=most
  ll:l.length=most
  gts:gs=ts
  nd:∀ k:Nat,k<most→(ps[k]?=some none∧l[k]?=some none∧∀ M∈A,M.h.1≠(k:Int))∨∃ N M,ps[k]?=some (some N.nb)∧l[k]?=some (some N)∧M∈A∧M.h=((k:Int),Aw ts k - 1)∧NdR A N M
  dk:(ds.map (·.h)).Nodup
  dm:∀ d∈ds,∃ M∈A,M.h=d.h∧M.kind=2∧ER d.es M.es
  da:∀ M∈A,M.kind=2→∃ d∈ds,d.h=M.h
  pk:(pn.map (·.1)).Nodup
  pm:∀ p∈pn,0<p.2∧∃ M∈A,M.h=p.1∧M.kind=1∧M.pins=p.2
  pa:∀ M∈A,M.kind=1→0<M.pins→∃ p∈pn,p.1=M.h
theorem Af2 {α β:Type} [DecidableEq α] {k:α} {v:β}:∀ {kv:List (α×β)},Af kv k=some v→(k,v)∈kv
  | [],h=>by cases h
  | p::r,h=>by
    unfold Af at h
    by_cases c:k=p.1
    · rw [if_pos c] at h;cases h;rw [c];simp
    · rw [if_neg c] at h;exact List.mem_cons_of_mem _ (Af2 h)
theorem Yw {α β:Type} [DecidableEq α] {k:α} {v:β}:∀ {kv:List (α×β)},(kv.map (·.1)).Nodup→(k,v)∈kv→Af kv k=some v
  | [],_,h=>by cases h
  | p::r,hn,h=>by
    rw [List.map_cons,List.nodup_cons] at hn
    unfold Af
    rcases List.mem_cons.1 h with e|h
    · rw [← e];simp
    · have hne:k≠p.1:=fun c=>hn.1 (by rw [← c];exact List.mem_map.2 ⟨(k,v),h,rfl⟩)
      rw [if_neg hne];exact Yw hn.2 h
theorem Ac6 {α β:Type} [DecidableEq α] {k:α}:∀ {kv:List (α×β)},(∀ v,(k,v) ∉ kv)→Af kv k=none
  | [],_=>rfl
  | p::r,h=>by
    unfold Af
    rw [if_neg fun c=>h p.2 (by rw [c];simp)]
    exact Ac6 fun v hv=>h v (List.mem_cons_of_mem _ hv)
theorem ER.get {des es:List Bj} (h:ER des es) (nm:ByteArray):Af des nm=Eg es nm:=by
  cases c:Eg es nm with
  | some x=>
    obtain ⟨e,he,rfl,rfl⟩:=He c
    exact Yw h.nd (h.perm.mem_iff.2 he)
  | none=>
    refine Ac6 fun v hv=>?_
    exact Fh c _ (h.perm.mem_iff.1 hv) rfl
theorem ER.len {des es:List Bj} (h:ER des es):des.length=es.length:=h.perm.length_eq
section
variable {most:Nat} {ps:List (Option Nat)} {gs:List Int} {l:List (Option ND)} {ds:List DN} {pn:List ((Int×Int)×Int)} {A:List AN} {ts:List Int}
theorem Sim.at_ (s:Sim most ps gs l ds pn A ts) (t:TI most ts A) (n g:Int):(Bk ps gs n g=none∧Bs A (n,g)=none)∨∃ (k:Nat) (N:ND) (M:AN),n=(k:Int)∧k<most∧l[k]?=some (some N)∧Bk ps gs n g=some N.nb∧Bs A (n,g)=some M∧M∈A∧M.h=(n,g)∧NdR A N M:=by
  by_cases hb:n<0∨(most:Int)≤n
  · left
    refine ⟨by unfold Bk;rw [s.lps,if_pos hb],?_⟩
    cases c:Bs A (n,g) with
    | none=>rfl
    | some M=>
      obtain ⟨hM,e⟩:=Db c
      obtain ⟨k,hk,e2⟩:=t.base.gen M hM
      have:n=(k:Int):=congrArg Prod.fst (e.symm.trans e2)
      omega
  obtain ⟨k,rfl⟩:∃ k:Nat,n=(k:Int):=⟨n.toNat,by omega⟩
  have hk:k<most:=by omega
  have hg:gs[k]?=some (Aw ts k):=by
    rw [s.gts]
    have:k<ts.length:=by rw [← s.gts,s.lgs];exact hk
    rw [List.getElem?_eq_getElem this]
    exact congrArg some (Iq (List.getElem?_eq_getElem this)).symm
  rcases s.nd k hk with ⟨h1,h2,h3⟩|⟨N,M,h1,h2,hM,he,hr⟩
  · left
    refine ⟨by rw [Hp h1 hg];rfl,?_⟩
    cases c:Bs A ((k:Int),g) with
    | none=>rfl
    | some M=>
      obtain ⟨hM,e⟩:=Db c
      exact absurd (congrArg Prod.fst e) (h3 M hM)
  · by_cases c:Aw ts k - 1=g
    · right
      refine ⟨k,N,M,rfl,hk,h2,by rw [Hp h1 hg];simp [c],?_,hM,by rw [he,c],hr⟩
      have:=C2 t.base.nod hM
      rwa [he,c] at this
    · left
      refine ⟨by rw [Hp h1 hg];simp [c],?_⟩
      cases q:Bs A ((k:Int),g) with
      | none=>rfl
      | some K=>
        obtain ⟨hK,e⟩:=Db q
        obtain ⟨j,hj,e2⟩:=t.base.gen K hK
        rw [e] at e2
        have e3:(k:Int)=(j:Int):=congrArg Prod.fst e2
        have e4:g=Aw ts j - 1:=congrArg Prod.snd e2
        have:k=j:=by omega
        subst this
        exact absurd e4.symm c
theorem Sim.dir_ (s:Sim most ps gs l ds pn A ts) (t:TI most ts A) {M:AN} (hM:M∈A) (hk:M.kind=2):∃ (j:Nat) (d:DN),ds[j]?=some d∧d.h=M.h∧ER d.es M.es:=by
  obtain ⟨d,hd,e⟩:=s.da M hM hk
  obtain ⟨j,hj⟩:=List.getElem?_of_mem hd
  obtain ⟨K,hK,e2,_,hr⟩:=s.dm d hd
  rw [t.base.same hK hM (e2.trans e)] at hr
  exact ⟨j,d,hj,e,hr⟩
theorem Sim.nodir (s:Sim most ps gs l ds pn A ts) (t:TI most ts A) {x:Hdl} (h:∀ M∈A,M.h=x→¬M.kind=2):∀ d∈ds,d.h≠x:=fun d hd e=>by
  obtain ⟨K,hK,e2,hk,_⟩:=s.dm d hd
  exact h K hK (e2.trans e) hk
theorem Sim.pin_ (s:Sim most ps gs l ds pn A ts) (t:TI most ts A) {M:AN} (hM:M∈A) (hk:M.kind=1):(Af pn M.h).getD 0=M.pins:=by
  have hp:=t.base.pos M hM
  cases c:Af pn M.h with
  | some v=>
    obtain ⟨_,K,hK,e,_,h2⟩:=s.pm _ (Af2 c)
    rw [t.base.same hK hM e] at h2
    exact h2.symm
  | none=>
    show 0=M.pins
    by_cases q:0<M.pins
    · obtain ⟨p,hp,e⟩:=s.pa M hM hk q
      have:=Yw s.pk (show (M.h,p.2)∈pn by rw [← e];exact hp)
      rw [c] at this;cases this
    · omega
end
theorem Mb {A B:List AN} {M N:AN} (h1:N.h=M.h) (h2:N.kind=M.kind) (h3:N.kind=2→N.es=M.es) (hd:∀ e∈M.es,Bg B e.2=Bg A e.2) (hl:Be B M.h=Be A M.h):Dv B N=Dv A M:=by
  by_cases hk:N.kind=2
  · rw [Eb hk,Eb (h2▸hk),h3 hk]
    congr 2
    exact List.countP_congr fun e he=>by rw [hd e he]
  · rw [De hk,De (fun q=>hk (h2.trans q)),h1,hl]
theorem Ob {A B:List AN} {h:Hdl} (h1:Be B h≤1) (h2:Be B h=Be A h) (hs:∀ M∈A,∀ e∈M.es,e.2=h→∃ N∈B,N.h=M.h∧e∈N.es):upA B h=upA A h:=by
  rcases Ko A h with ⟨q,hno⟩|⟨M,hM,e,he,e2,q⟩
  · rw [q]
    refine Oh ?_
    cases c:Be B h with
    | zero=>rfl
    | succ n=>
      rw [h2] at c
      obtain ⟨M,hM,e,he,e2⟩:=Ok (A:=A) (h:=h) (by omega)
      exact absurd e2 (hno M hM e he)
  · obtain ⟨N,hN,e3,e4⟩:=hs M hM e he e2
    rw [q,← e3]
    exact Ng h1 hN e4 e2
theorem NdR.keep {A B:List AN} {N:ND} {M M':AN} (r:NdR A N M) (hM:M'=M) (hd:∀ e∈M.es,Bg B e.2=Bg A e.2) (hl:Be B M.h=Be A M.h) (hu:M.kind=2→upA B M.h=upA A M.h):NdR B N M':=by
  subst hM
  exact ⟨r.kind,r.chg,r.lnk.trans (Mb rfl rfl (fun _=>rfl) hd hl).symm,fun k=>by rw [hu k];exact r.dird k,r.filed⟩
structure NdD (A:List AN) (dl:Hdl→Int) (ud:Hdl→Prop) (N:ND) (M:AN):Prop where
  kind:N.kind=M.kind
  chg:N.change=M.change
  lnk:N.links=Dv A M+dl M.h
  dird:M.kind=2→N.dq=none∧(¬ud M.h→N.upn=(upA A M.h).1∧N.upg=(upA A M.h).2)
  filed:M.kind=1→N.upn=0∧N.upg=0∧∃ q,N.dq=some q∧G5 q.d M.s M.holes
structure Em (most:Nat) (dl:Hdl→Int) (ud:Hdl→Prop) (ps:List (Option Nat)) (gs:List Int) (l:List (Option ND)) (A:List AN) (ts:List Int):Prop where
  lps:ps.length=most
  lgs:gs.length=most
  ll:l.length=most
  gts:gs=ts
  nd:∀ k:Nat,k<most→(ps[k]?=some none∧l[k]?=some none∧∀ M∈A,M.h.1≠(k:Int))∨∃ N M,ps[k]?=some (some N.nb)∧l[k]?=some (some N)∧M∈A∧M.h=((k:Int),Aw ts k - 1)∧NdD A dl ud N M
structure Hl (ds:List DN) (A:List AN):Prop where
  dk:(ds.map (·.h)).Nodup
  dm:∀ d∈ds,∃ M∈A,M.h=d.h∧M.kind=2∧ER d.es M.es
  da:∀ M∈A,M.kind=2→∃ d∈ds,d.h=M.h
structure Hj (pn:List ((Int×Int)×Int)) (A:List AN):Prop where
  pk:(pn.map (·.1)).Nodup
  pm:∀ p∈pn,0<p.2∧∃ M∈A,M.h=p.1∧M.kind=1∧M.pins=p.2
  pa:∀ M∈A,M.kind=1→0<M.pins→∃ p∈pn,p.1=M.h
section
variable {most:Nat} {ps:List (Option Nat)} {gs:List Int} {l:List (Option ND)} {ds:List DN} {pn:List ((Int×Int)×Int)} {A:List AN} {ts:List Int}
theorem Sim.parts (s:Sim most ps gs l ds pn A ts):Em most (fun _=>0) (fun _=>False) ps gs l A ts∧Hl ds A∧Hj pn A:=by
  refine ⟨⟨s.lps,s.lgs,s.ll,s.gts,fun k hk=>?_⟩,⟨s.dk,s.dm,s.da⟩,⟨s.pk,s.pm,s.pa⟩⟩
  rcases s.nd k hk with h|⟨N,M,h1,h2,h3,h4,r⟩
  · exact .inl h
  · exact .inr ⟨N,M,h1,h2,h3,h4,⟨r.kind,r.chg,by rw [r.lnk];simp,fun q=>⟨(r.dird q).1,fun _=>(r.dird q).2⟩,r.filed⟩⟩
theorem Sim.of (t:Em most (fun _=>0) (fun _=>False) ps gs l A ts) (e:Hl ds A) (p:Hj pn A):Sim most ps gs l ds pn A ts:=by
  refine ⟨t.lps,t.lgs,t.ll,t.gts,fun k hk=>?_,e.dk,e.dm,e.da,p.pk,p.pm,p.pa⟩
  rcases t.nd k hk with h|⟨N,M,h1,h2,h3,h4,r⟩
  · exact .inl h
  · exact .inr ⟨N,M,h1,h2,h3,h4,⟨r.kind,r.chg,by rw [r.lnk];simp,fun q=>⟨(r.dird q).1,(r.dird q).2 id⟩,r.filed⟩⟩
variable {dl dl':Hdl→Int} {ud ud':Hdl→Prop} {lz:Hdl→Nat}
theorem Em.map (s:Em most dl ud ps gs l A ts) {B:List AN} {l':List (Option ND)} (hll:l'.length=l.length) (hB:∀ M∈B,∃ K∈A,K.h=M.h) (h0:∀ k,k<most→l[k]?=some none→l'[k]?=some none)
    (h1:∀ (k:Nat) (N:ND) (M:AN),k<most→l[k]?=some (some N)→M∈A→M.h=((k:Int),Aw ts k - 1)→NdD A dl ud N M→∃ N' M',l'[k]?=some (some N')∧N'.nb=N.nb∧M'∈B∧M'.h=M.h∧NdD B dl' ud' N' M'):Em most dl' ud' ps gs l' B ts:=by
  refine ⟨s.lps,s.lgs,hll.trans s.ll,s.gts,fun k hk=>?_⟩
  rcases s.nd k hk with ⟨a,b,c⟩|⟨N,M,a,b,c,d,r⟩
  · refine .inl ⟨a,h0 k hk b,fun M hM e=>?_⟩
    obtain ⟨K,hK,e2⟩:=hB M hM
    exact c K hK (by rw [e2];exact e)
  · obtain ⟨N',M',a',b',c',d',r'⟩:=h1 k N M hk b c d r
    exact .inr ⟨N',M',by rw [b'];exact a,a',c',d'.trans d,r'⟩
theorem Em.set1 (s:Em most dl ud ps gs l A ts) (hn:(A.map (·.h)).Nodup) {k:Nat} {N N':ND} {M:AN} (hl:l[k]?=some (some N)) (hM:M∈A) (hh:M.h=((k:Int),Aw ts k - 1)) (hb:N'.nb=N.nb) (hd:∀ h,h≠M.h→dl' h=dl h) (hu:∀ h,h≠M.h→ud h→ud' h) (hr:NdD A dl ud N M→NdD A dl' ud' N' M):Em most dl' ud' ps gs (l.set k (some N')) A ts:=by
  have hkl:=(List.getElem?_eq_some_iff.1 hl).1
  refine s.map (by simp) (fun M hM=>⟨M,hM,rfl⟩) (fun i hi q=>?_) (fun i P K hi q hK e r=>?_)
  · by_cases c:k=i
    · subst c;rw [hl] at q;cases q
    · rw [List.getElem?_set_ne c];exact q
  · by_cases c:k=i
    · subst c
      rw [hl] at q;cases q
      have:K=M:=by
        have h1:=C2 hn hK
        rw [e,← hh,C2 hn hM] at h1
        exact (Option.some.inj h1).symm
      subst this
      exact ⟨N',K,List.getElem?_set_self hkl,hb,hK,rfl,hr r⟩
    · refine ⟨P,K,by rw [List.getElem?_set_ne c];exact q,rfl,hK,rfl,?_⟩
      have hne:K.h≠M.h:=fun x=>c (by rw [e,hh] at x;have:=congrArg Prod.fst x;omega)
      exact ⟨r.kind,r.chg,by rw [r.lnk,hd _ hne],fun z=>⟨(r.dird z).1,fun w=>(r.dird z).2 fun v=>w (hu _ hne v)⟩,r.filed⟩
end
section
variable {most:Nat} {ps:List (Option Nat)} {gs:List Int} {l:List (Option ND)} {ds:List DN} {pn:List ((Int×Int)×Int)} {A:List AN} {ts:List Int} {dl dl':Hdl→Int} {ud ud':Hdl→Prop} {lz:Hdl→Nat}
theorem NdD.shp {B:List AN} {N:ND} {M M':AN} (r:NdD A dl ud N M) (hs:shp B=shp A) (h1:M'.h=M.h) (h2:M'.kind=M.kind) (h3:M'.es=M.es) (h4:M'.change=M.change) (h5:M'.s=M.s) (h6:M'.holes=M.holes):NdD B dl ud N M':=by
  refine ⟨r.kind.trans h2.symm,r.chg.trans h4.symm,?_,fun k=>?_,fun k=>?_⟩
  · rw [r.lnk,O5 hs h1 h2 h3,h1]
  · rw [h1,Ta hs];exact r.dird (h2▸k)
  · rw [h5,h6];exact r.filed (h2▸k)
theorem Em.touch (s:Em most dl ud ps gs l A ts) (hn:(A.map (·.h)).Nodup) {k:Nat} {N:ND} {M:AN} (hl:l[k]?=some (some N)) (hM:M∈A) (hh:M.h=((k:Int),Aw ts k - 1)):Em most dl ud ps gs (l.set k (some (Ae N))) (Ap A M.h) ts:=by
  have hkl:=(List.getElem?_eq_some_iff.1 hl).1
  have hs:=Bl A M.h
  refine s.map (by simp) (fun K hK=>?_) (fun i hi q=>?_) (fun i P K hi q hK e r=>?_)
  · obtain ⟨K',hK',rfl⟩:=B4 hK
    refine ⟨K',hK',?_⟩
    split<;>rfl
  · by_cases c:k=i
    · subst c;rw [hl] at q;cases q
    · rw [List.getElem?_set_ne c];exact q
  · have hm:=Dj (d:=M.h) (f:=fun N=>⟨N.h,N.kind,N.change+1,N.s,N.holes,N.es,N.pins⟩) hK
    by_cases c:k=i
    · subst c
      rw [hl] at q;cases q
      rw [if_pos (by rw [e,hh])] at hm
      refine ⟨Ae N,_,List.getElem?_set_self hkl,rfl,hm,rfl,?_⟩
      have r2:=r.shp (M':=⟨K.h,K.kind,K.change,K.s,K.holes,K.es,K.pins⟩) hs rfl rfl rfl rfl rfl rfl
      exact ⟨r2.kind,by show N.change+1=K.change+1;rw [r.chg],r2.lnk,r2.dird,r2.filed⟩
    · have hne:K.h≠M.h:=fun x=>c (by rw [e,hh] at x;have:=congrArg Prod.fst x;omega)
      rw [if_neg hne] at hm
      exact ⟨P,K,by rw [List.getElem?_set_ne c];exact q,rfl,hm,rfl,r.shp hs rfl rfl rfl rfl rfl rfl⟩
theorem Em.links (s:Em most dl ud ps gs l A ts) (hn:(A.map (·.h)).Nodup) {k:Nat} {N:ND} {M:AN} (hl:l[k]?=some (some N)) (hM:M∈A) (hh:M.h=((k:Int),Aw ts k - 1)) (m:Int):Em most (fun h=>dl h+if h=M.h then m else 0) ud ps gs (l.set k (some (Ao N m))) A ts:=
  s.set1 hn hl hM hh rfl (fun h hne=>by show dl h+(if h=M.h then m else 0)=dl h;rw [if_neg hne];omega) (fun h _ q=>q) fun r=>
    ⟨r.kind,r.chg,by show N.links+m=Dv A M+(dl M.h+if M.h=M.h then m else 0);rw [if_pos rfl,r.lnk];omega,r.dird,r.filed⟩
theorem Em.keepUp {un ug:Int} (s:Em most dl ud ps gs l A ts) (hn:(A.map (·.h)).Nodup) {k:Nat} {N:ND} {M:AN} (hl:l[k]?=some (some N)) (hM:M∈A) (hh:M.h=((k:Int),Aw ts k - 1)) (hk:M.kind=2) (z li:Int) (hu:upA A M.h=(un,ug)):Em most (fun h=>dl h+if h=M.h then li - N.links else 0) (fun h=>ud h∧h≠M.h) ps gs (l.set k (some (keepN N 2 z li un ug))) A ts:=
  s.set1 hn hl hM hh rfl (fun h hne=>by show dl h+(if h=M.h then li - N.links else 0)=dl h;rw [if_neg hne];omega) (fun h hne q=>⟨q,hne⟩) fun r=>
    ⟨hk.symm,r.chg,by show li=Dv A M+(dl M.h+if M.h=M.h then li - N.links else 0);rw [if_pos rfl];have:=r.lnk;omega,fun q=>⟨(r.dird q).1,fun _=>by rw [hu];exact ⟨rfl,rfl⟩⟩,fun q=>by rw [hk] at q;cases q⟩
theorem Em.ents (s:Em most dl ud ps gs l A ts) {B:List AN} (hm:∀ M∈A,∃ M'∈B,M'.h=M.h∧M'.kind=M.kind∧M'.change=M.change∧M'.s=M.s∧M'.holes=M.holes∧Dv B M'+dl' M.h=Dv A M+dl M.h) (hB:∀ M∈B,∃ K∈A,K.h=M.h) (hu:∀ M∈A,M.kind=2→¬ud' M.h→¬ud M.h∧upA B M.h=upA A M.h):Em most dl' ud' ps gs l B ts:=
  s.map rfl hB (fun _ _ q=>q) fun k N M hk q hM e r=>by
    obtain ⟨M',hM',h1,h2,h3,h4,h5,h6⟩:=hm M hM
    refine ⟨N,M',q,rfl,hM',h1,⟨r.kind.trans h2.symm,r.chg.trans h3.symm,by rw [r.lnk,h1,← h6],fun z=>⟨(r.dird (h2▸z)).1,fun w=>?_⟩,fun z=>by rw [h4,h5];exact r.filed (h2▸z)⟩⟩
    rw [h1] at w ⊢
    have:=hu M hM (h2▸z) w
    rw [this.2];exact (r.dird (h2▸z)).2 this.1
end
section
variable {most:Nat} {ps:List (Option Nat)} {gs:List Int} {l:List (Option ND)} {ds:List DN} {pn:List ((Int×Int)×Int)} {A:List AN} {ts:List Int} {dl dl':Hdl→Int} {ud ud':Hdl→Prop} {lz:Hdl→Nat}
theorem Ty (A:List AN) (nm:ByteArray) (x:Hdl) (es:List Bj):(Bi nm x es).countP (fun e=>Bg A e.2)=es.countP (fun e=>Bg A e.2)+if Bg A x=true then 1 else 0:=by
  rw [(E6 nm x es).countP_eq,List.countP_cons]
theorem Uc (A:List AN) {es:List Bj} (hn:(es.map (·.1)).Nodup) {e:Bj} (he:e∈es):(es.filter fun x=>!decide (x.1=e.1)).countP (fun e=>Bg A e.2)+(if Bg A e.2=true then 1 else 0)=es.countP (fun e=>Bg A e.2):=by
  have:=Jt es (fun x=>Bg A x.2) (fun x=>decide (x.1=e.1))
  rw [Md hn he] at this
  rw [this]
  by_cases c:Bg A e.2=true<;>simp [c,Nat.add_comm]
theorem Em.enter (s:Em most dl ud ps gs l A ts) (b:TI0 most ts lz A) {D X:AN} (hD:D∈A) (hX:X∈A) (hk:D.kind=2) (nm:ByteArray):Em most (fun h=>dl h - (if h=D.h∧X.kind=2 then 1 else 0) - (if h=X.h∧X.kind=1 then 1 else 0)) (fun h=>ud h∨(h=X.h∧X.kind=2)) ps gs l (Ax A D.h nm X.h) ts:=by
  have hid:∀ y,Bg (Ax A D.h nm X.h) y=Bg A y:=No A D.h nm X.h
  have hfe:(fun e:Bj=>Bg (Ax A D.h nm X.h) e.2)=fun e=>Bg A e.2:=funext fun e=>hid e.2
  have hl:∀ h,Be (Ax A D.h nm X.h) h=Be A h+if X.h=h then 1 else 0:=Ha b.nod hD nm X.h
  refine s.ents (fun M hM=>⟨_,Dj (d:=D.h) (f:=fun N=>⟨N.h,N.kind,N.change,N.s,N.holes,Bi nm X.h N.es,N.pins⟩) hM,?_⟩) (fun M hM=>?_) fun M hM k2 w=>?_
  · by_cases c:M.h=D.h
    · have:=b.same hM hD c
      subst this
      rw [if_pos rfl]
      refine ⟨rfl,rfl,rfl,rfl,rfl,?_⟩
      rw [Eb (N:=⟨M.h,M.kind,M.change,M.s,M.holes,Bi nm X.h M.es,M.pins⟩) hk,Eb hk,hfe]
      show 2+(((Bi nm X.h M.es).countP fun e=>Bg A e.2:Nat):Int)+_=_
      rw [Ty,E2 b.nod hX]
      have h1:¬(M.h=X.h∧X.kind=1):=fun q=>by rw [← b.same hM hX q.1] at q;omega
      rw [if_neg h1]
      by_cases c2:X.kind=2
      · simp [c2];omega
      · simp [c2]
    · rw [if_neg c]
      refine ⟨rfl,rfl,rfl,rfl,rfl,?_⟩
      have h0:¬(M.h=D.h∧X.kind=2):=fun q=>c q.1
      rw [if_neg h0]
      by_cases k2:M.kind=2
      · rw [Eb k2,Eb k2,hfe]
        have h1:¬(M.h=X.h∧X.kind=1):=fun q=>by rw [← b.same hM hX q.1] at q;omega
        rw [if_neg h1];omega
      · rw [De k2,De k2,hl]
        have k1:=(b.kind M hM).resolve_right k2
        by_cases c2:X.h=M.h
        · have:=b.same hX hM c2
          rw [if_pos c2,if_pos ⟨c2.symm,by rw [this];exact k1⟩];omega
        · rw [if_neg c2,if_neg fun q=>c2 q.1.symm];omega
  · obtain ⟨N,hN,rfl⟩:=B4 hM
    refine ⟨N,hN,?_⟩
    split<;>rfl
  · have hne:X.h≠M.h:=fun q=>w (.inr ⟨q.symm,by rw [b.same hX hM q];exact k2⟩)
    refine ⟨fun q=>w (.inl q),Ob (by rw [hl,if_neg hne];exact b.lnk_dir hM k2) (by rw [hl,if_neg hne];rfl) fun K hK e he _=>?_⟩
    refine ⟨_,Dj (d:=D.h) (f:=fun N=>⟨N.h,N.kind,N.change,N.s,N.holes,Bi nm X.h N.es,N.pins⟩) hK,?_⟩
    by_cases c:K.h=D.h
    · rw [if_pos c];exact ⟨rfl,(E6 nm X.h K.es).mem_iff.2 (List.mem_cons_of_mem _ he)⟩
    · rw [if_neg c];exact ⟨rfl,he⟩
theorem Em.leave (s:Em most dl ud ps gs l A ts) (b:TI0 most ts lz A) {D X:AN} (hD:D∈A) (hX:X∈A) (hk:D.kind=2) {e:Bj} (he:e∈D.es) (hx:e.2=X.h):Em most (fun h=>dl h+(if h=D.h∧X.kind=2 then 1 else 0)+(if h=X.h∧X.kind=1 then 1 else 0)) (fun h=>ud h∨(h=X.h∧X.kind=2)) ps gs l (Al A D.h e.1) ts:=by
  have hid:∀ y,Bg (Al A D.h e.1) y=Bg A y:=Kd A D.h e.1
  have hfe:(fun z:Bj=>Bg (Al A D.h e.1) z.2)=fun z=>Bg A z.2:=funext fun z=>hid z.2
  have hl:∀ h,Be (Al A D.h e.1) h+(if X.h=h then 1 else 0)=Be A h:=fun h=>by have:=Do b.nod hD (b.nms D hD) he h;rwa [hx] at this
  refine s.ents (fun M hM=>⟨_,Dj (d:=D.h) (f:=fun N=>⟨N.h,N.kind,N.change,N.s,N.holes,N.es.filter fun x=>!decide (x.1=e.1),N.pins⟩) hM,?_⟩) (fun M hM=>?_) fun M hM k2 w=>?_
  · by_cases c:M.h=D.h
    · have:=b.same hM hD c
      subst this
      rw [if_pos rfl]
      refine ⟨rfl,rfl,rfl,rfl,rfl,?_⟩
      rw [Eb (N:=⟨M.h,M.kind,M.change,M.s,M.holes,M.es.filter fun x=>!decide (x.1=e.1),M.pins⟩) hk,Eb hk,hfe]
      have h2:=Uc A (b.nms M hM) he
      rw [hx,E2 b.nod hX] at h2
      show 2+(((M.es.filter fun x=>!decide (x.1=e.1)).countP fun e=>Bg A e.2:Nat):Int)+_=_
      have h1:¬(M.h=X.h∧X.kind=1):=fun q=>by rw [← b.same hM hX q.1] at q;omega
      rw [if_neg h1]
      by_cases c2:X.kind=2
      · simp [c2] at h2 ⊢;omega
      · simp [c2] at h2 ⊢;omega
    · rw [if_neg c]
      refine ⟨rfl,rfl,rfl,rfl,rfl,?_⟩
      have h0:¬(M.h=D.h∧X.kind=2):=fun q=>c q.1
      rw [if_neg h0]
      by_cases k2:M.kind=2
      · rw [Eb k2,Eb k2,hfe]
        have h1:¬(M.h=X.h∧X.kind=1):=fun q=>by rw [← b.same hM hX q.1] at q;omega
        rw [if_neg h1];omega
      · have h2:=hl M.h
        rw [De k2,De k2]
        have k1:=(b.kind M hM).resolve_right k2
        by_cases c2:X.h=M.h
        · have:=b.same hX hM c2
          rw [if_pos c2] at h2
          rw [if_pos ⟨c2.symm,by rw [this];exact k1⟩];omega
        · rw [if_neg c2] at h2
          rw [if_neg fun q=>c2 q.1.symm];omega
  · obtain ⟨N,hN,rfl⟩:=B4 hM
    refine ⟨N,hN,?_⟩
    split<;>rfl
  · have hne:X.h≠M.h:=fun q=>w (.inr ⟨q.symm,by rw [b.same hX hM q];exact k2⟩)
    have h2:=hl M.h
    rw [if_neg hne] at h2
    refine ⟨fun q=>w (.inl q),Ob (by have:=b.lnk_dir hM k2;omega) (by omega) fun K hK z hz hzh=>?_⟩
    refine ⟨_,Dj (d:=D.h) (f:=fun N=>⟨N.h,N.kind,N.change,N.s,N.holes,N.es.filter fun x=>!decide (x.1=e.1),N.pins⟩) hK,?_⟩
    by_cases c:K.h=D.h
    · have:=b.same hK hD c
      subst this
      rw [if_pos rfl]
      refine ⟨rfl,List.mem_filter.2 ⟨hz,?_⟩⟩
      simp only [Bool.not_eq_true',decide_eq_false_iff_not]
      intro q
      have h3:=Md (b.nms K hK) he
      have:z∈K.es.filter fun x=>decide (x.1=e.1):=List.mem_filter.2 ⟨hz,decide_eq_true q⟩
      rw [h3] at this
      rw [List.mem_singleton.1 this] at hzh
      exact hne (hx.symm.trans hzh)
    · rw [if_neg c];exact ⟨rfl,hz⟩
end
theorem Vk {α β:Type} [DecidableEq α] {k:α} {v:β}:∀ {kv:List (α×β)},(∀ p∈kv,p.1≠k)→Ay kv k v=kv++[(k,v)]
  | [],_=>rfl
  | p::r,h=>by
    unfold Ay
    rw [if_neg fun c=>h p (by simp) c.symm,Vk fun q hq=>h q (List.mem_cons_of_mem _ hq)]
    rfl
theorem M6 {α β:Type} [DecidableEq α] (k:α) (kv:List (α×β)) (hn:(kv.map (·.1)).Nodup):Ak kv k=kv.filter fun p=>!decide (p.1=k):=by
  have:=Iw k (fun _=>true) kv hn
  rw [List.filter_eq_self.2 (fun _ _=>rfl)] at this
  simpa using this
section
variable {ds:List DN} {A:List AN} {most:Nat} {ts:List Int} {lz:Hdl→Nat}
theorem Hl.shp {B:List AN} (s:Hl ds A) (hs:shp B=shp A):Hl ds B:=by
  refine ⟨s.dk,fun d hd=>?_,fun M hM hk=>?_⟩
  · obtain ⟨M,hM,h1,h2,h3⟩:=s.dm d hd
    have:(M.h,M.kind,M.es)∈Go.Proofs.YtpojpkhpddnmjaaGreatDoor.shp B:=by rw [hs];exact List.mem_map.2 ⟨M,hM,rfl⟩
    obtain ⟨N,hN,q⟩:=List.mem_map.1 this
    refine ⟨N,hN,(congrArg Prod.fst q).trans h1,(congrArg (fun t:Hdl×Int×List Bj=>t.2.1) q).trans h2,?_⟩
    have e:N.es=M.es:=congrArg (fun t:Hdl×Int×List Bj=>t.2.2) q
    rw [e];exact h3
  · have:(M.h,M.kind,M.es)∈Go.Proofs.YtpojpkhpddnmjaaGreatDoor.shp A:=by rw [← hs];exact List.mem_map.2 ⟨M,hM,rfl⟩
    obtain ⟨N,hN,q⟩:=List.mem_map.1 this
    obtain ⟨d,hd,e⟩:=s.da N hN ((congrArg (fun t:Hdl×Int×List Bj=>t.2.1) q).trans hk)
    exact ⟨d,hd,e.trans (congrArg Prod.fst q)⟩
theorem Hl.upd (s:Hl ds A) (b:TI0 most ts lz A) {D:AN} (hD:D∈A) {j:Nat} {d:DN} (hj:ds[j]?=some d) (hd:d.h=D.h) {f:AN→AN} (hf:∀ M,(f M).h=M.h∧(f M).kind=M.kind) {d':DN} (hd':d'.h=d.h) (hr:ER d.es D.es→ER d'.es (f D).es):Hl (ds.set j d') (Cx A D.h f):=by
  have hjl:=(List.getElem?_eq_some_iff.1 hj).1
  have hkeys:(ds.set j d').map (·.h)=ds.map (·.h):=by
    rw [List.map_set,hd']
    exact H9 _ j _ (by rw [List.getElem?_map,hj];rfl)
  refine ⟨by rw [hkeys];exact s.dk,fun x hx=>?_,fun M hM hk=>?_⟩
  · obtain ⟨i,hi⟩:=List.getElem?_of_mem hx
    by_cases c:j=i
    rotate_left
    · rw [List.getElem?_set_ne c] at hi
      obtain ⟨M,hM,h1,h2,h3⟩:=s.dm x (List.mem_of_getElem? hi)
      have hm:=Dj (d:=D.h) (f:=f) hM
      have hne:M.h≠D.h:=fun q=>by
        have hp:=List.pairwise_iff_getElem.1 s.dk
        obtain ⟨hi1,hi2⟩:=List.getElem?_eq_some_iff.1 hi
        obtain ⟨hj1,hj2⟩:=List.getElem?_eq_some_iff.1 hj
        have e:x.h=d.h:=h1.symm.trans (q.trans hd.symm)
        rcases Nat.lt_or_gt_of_ne c with hlt|hlt
        · exact hp j i (by simpa using hj1) (by simpa using hi1) hlt (by simp only [List.getElem_map,hi2,hj2,e])
        · exact hp i j (by simpa using hi1) (by simpa using hj1) hlt (by simp only [List.getElem_map,hi2,hj2,e])
      rw [if_neg hne] at hm;exact ⟨M,hm,h1,h2,h3⟩
    · subst c
      rw [List.getElem?_set_self hjl] at hi
      obtain rfl:=Option.some.inj hi
      obtain ⟨M,hM,h1,h2,h3⟩:=s.dm d (List.mem_of_getElem? hj)
      have:=b.same hM hD (h1.trans hd)
      subst this
      have hm:=Dj (d:=M.h) (f:=f) hM
      rw [if_pos rfl] at hm
      exact ⟨f M,hm,(hf M).1.trans (h1.trans hd'.symm),(hf M).2.trans h2,hr h3⟩
  · obtain ⟨N,hN,rfl⟩:=B4 hM
    have e:(if N.h=D.h then f N else N).h=N.h∧(if N.h=D.h then f N else N).kind=N.kind:=by split;exact hf N;exact ⟨rfl,rfl⟩
    rw [e.2] at hk
    obtain ⟨x,hx,e2⟩:=s.da N hN hk
    have:x.h∈(ds.set j d').map (·.h):=by rw [hkeys];exact List.mem_map.2 ⟨x,hx,rfl⟩
    obtain ⟨y,hy,e3⟩:=List.mem_map.1 this
    exact ⟨y,hy,by rw [e.1];exact e3.trans e2⟩
theorem Hl.enter (s:Hl ds A) (b:TI0 most ts lz A) {D:AN} (hD:D∈A) {j:Nat} {d:DN} (hj:ds[j]?=some d) (hd:d.h=D.h) {nm:ByteArray} (hno:∀ e∈D.es,e.1≠nm) (x:Hdl):Hl (ds.set j { d with es:=Ay d.es nm x }) (Ax A D.h nm x):=
  s.upd b hD hj hd (f:=fun N=>⟨N.h,N.kind,N.change,N.s,N.holes,Bi nm x N.es,N.pins⟩) (d':={ d with es:=Ay d.es nm x }) (fun _=>⟨rfl,rfl⟩) rfl fun r=>by
    have hn:∀ p∈d.es,p.1≠nm:=fun p hp=>hno p (r.perm.mem_iff.1 hp)
    show ER (Ay d.es nm x) (Bi nm x D.es)
    rw [Vk hn]
    refine ⟨?_,?_⟩
    · rw [List.map_append]
      refine List.nodup_append.2 ⟨r.nd,by simp,fun a ha c hc e=>?_⟩
      obtain ⟨p,hp,rfl⟩:=List.mem_map.1 ha
      simp only [List.map_cons,List.map_nil,List.mem_singleton] at hc
      exact hn p hp (e.trans hc)
    · exact ((r.perm.append_right _).trans (List.perm_append_comm)).trans (E6 nm x D.es).symm
theorem Hl.leave (s:Hl ds A) (b:TI0 most ts lz A) {D:AN} (hD:D∈A) {j:Nat} {d:DN} (hj:ds[j]?=some d) (hd:d.h=D.h) (nm:ByteArray):Hl (ds.set j { d with es:=Ak d.es nm }) (Al A D.h nm):=
  s.upd b hD hj hd (f:=fun N=>⟨N.h,N.kind,N.change,N.s,N.holes,N.es.filter fun x=>!decide (x.1=nm),N.pins⟩) (d':={ d with es:=Ak d.es nm }) (fun _=>⟨rfl,rfl⟩) rfl fun r=>by
    show ER (Ak d.es nm) (D.es.filter fun x=>!decide (x.1=nm))
    rw [M6 nm d.es r.nd]
    exact ⟨(List.filter_sublist.map _).nodup r.nd,r.perm.filter _⟩
theorem Hl.add (s:Hl ds A) {N:AN} (hN:N.es=[]) (hk:N.kind=2) (hno:∀ M∈A,M.h≠N.h) (mb:Nat):Hl (ds++[⟨N.h,mb,[]⟩]) (A++[N]):=by
  refine ⟨?_,fun d hd=>?_,fun M hM hkM=>?_⟩
  · rw [List.map_append]
    refine List.nodup_append.2 ⟨s.dk,by simp,fun a ha c hc e=>?_⟩
    obtain ⟨d,hd,rfl⟩:=List.mem_map.1 ha
    simp only [List.map_cons,List.map_nil,List.mem_singleton] at hc
    obtain ⟨M,hM,h1,_⟩:=s.dm d hd
    exact hno M hM (h1.trans (e.trans hc))
  · rcases List.mem_append.1 hd with hd|hd
    · obtain ⟨M,hM,h⟩:=s.dm d hd;exact ⟨M,List.mem_append_left _ hM,h⟩
    · obtain rfl:=List.mem_singleton.1 hd
      exact ⟨N,List.mem_append_right _ (by simp),rfl,hk,by rw [hN];exact ⟨List.nodup_nil,List.Perm.refl _⟩⟩
  · rcases List.mem_append.1 hM with hM|hM
    · obtain ⟨d,hd,e⟩:=s.da M hM hkM;exact ⟨d,List.mem_append_left _ hd,e⟩
    · obtain rfl:=List.mem_singleton.1 hM
      exact ⟨⟨M.h,mb,[]⟩,List.mem_append_right _ (by simp),rfl⟩
theorem Hl.addF (s:Hl ds A) {N:AN} (hk:¬N.kind=2):Hl ds (A++[N]):=by
  refine ⟨s.dk,fun d hd=>?_,fun M hM hkM=>?_⟩
  · obtain ⟨M,hM,h⟩:=s.dm d hd;exact ⟨M,List.mem_append_left _ hM,h⟩
  · rcases List.mem_append.1 hM with hM|hM
    · exact s.da M hM hkM
    · rw [List.mem_singleton.1 hM] at hkM;exact absurd hkM hk
theorem Hl.files (s:Hl ds A) (p:AN→Bool) (hp:∀ M∈A,M.kind=2→p M=true):Hl ds (A.filter p):=by
  refine ⟨s.dk,fun d hd=>?_,fun M hM hkM=>s.da M (List.mem_filter.1 hM).1 hkM⟩
  obtain ⟨M,hM,h1,h2,h3⟩:=s.dm d hd
  exact ⟨M,List.mem_filter.2 ⟨hM,hp M hM h2⟩,h1,h2,h3⟩
end
theorem Own.dirSub {w0 w:World} {E:Ent} {M:List Res} {ds ds':List DN} (h:Own w0 E (Eh ds::M) w) (hs:ds'.Sublist ds):Own w0 E (Eh ds'::M) w:=Own.allSub h (hs.map _)
theorem Ahg {ds:List DN} (hn:(ds.map (·.h)).Nodup) (x:Hdl):Ak (ds.map Bt) x=(ds.filter fun d=>!(d.h==x)).map Bt:=by
  have e:(ds.map Bt).map (·.1)=ds.map (·.h):=by rw [List.map_map];rfl
  rw [M6 x _ (by rw [e];exact hn),List.filter_map]
  congr 1
  refine List.filter_congr fun d _=>?_
  show (!decide (d.h=x))=!(d.h==x)
  by_cases c:d.h=x<;>simp [c]
theorem Dc {ps:List (Option Nat)} {gs:List Int} {k i nb:Nat} {g:Int} (h:Bk ps gs (i:Int) g=some nb) (hn:k≠i):Bk (ps.set k none) gs (i:Int) g=some nb:=by
  have hl:i<ps.length∧i<gs.length:=by
    unfold Bk at h
    split at h
    · cases h
    · rename_i hb
      refine ⟨by omega,?_⟩
      simp only [Int.toNat_natCast] at h
      split at h
      · rename_i h1 h2;exact (List.getElem?_eq_some_iff.1 h2).1
      · cases h
  rw [← h,Hp (List.getElem?_eq_getElem hl.1) (List.getElem?_eq_getElem hl.2),Hp (p:=ps[i]) (x:=gs[i]) (by rw [List.getElem?_set_ne hn,List.getElem?_eq_getElem hl.1]) (List.getElem?_eq_getElem hl.2)]
section
variable {B:Nat} (ad:Nat→Addr) (b most tb dm pm:Nat) (ps:List (Option Nat)) (gs:List Int) (vl vg:Value) (T:TypeId) (Sl Sg:Nat→Prop) (l:List (Option ND)) (ds:List DN) (pn:List ((Int×Int)×Int)) (hl:ps.length=gs.length) (hr:∀ x∈gs,0≤x∧x≤1000000) (k:Nat) (g:Int) (N:ND) (hlk:l[k]?=some (some N)) (ha:Bk ps gs (k:Int) g=some N.nb)
include B ad b most tb dm pm ps gs vl vg T Sl Sg l ds pn hl hr k g N hlk ha
theorem L9 (kd:Nat) (gd:Int) (Nd:ND) (hlkd:l[kd]?=some (some Nd)) (had:Bk ps gs (kd:Int) gd=some Nd.nb) (hne:k≠kd) (hkp:k<ps.length) (hdd:(ds.map (·.h)).Nodup) (j:Nat) (d:DN) (hj:ds[j]?=some d) (hdh:d.h=((k:Int),g)) (hli:0≤Nd.links∧Nd.links≤1000000):Au Tryz.prog 56 #[Pp b,Hg k g,Hg kd gd] [Rb b tb most dm pm,B1 tb ps gs vl vg T Sl Sg,Cm l,Ci true dm hk (ds.map Bt),Eh ds,Ci true pm hk (pn.map Cw),Br B ad [10]] (fun u L=>L=[Rb b tb most dm pm,B1 tb (ps.set k none) gs vl vg T Sl Sg,Cm ((l.set k none).set kd (some (Ao Nd (-1)))),Ci true dm hk ((ds.filter fun d=>!(d.h==((k:Int),g))).map Bt),Eh (ds.filter fun d=>!(d.h==((k:Int),g))),Ci true pm hk (pn.map Cw),Br B ad [10]]):=by
 refine Zo 41 Tryz.func56 fun E w0 w h=>?_
 refine Qs (ZN [Ii k,Ii g] 34 h fun k1 w h=>ZN [Ii kd,Ii gd] 34 h fun k2 w h=>Qn (Aa (Aa (Ds 11 [1,1,3] h fun w h=>Dp 0 16 (Pp b) [1,1,3] h (Dp 1 17 (Pp b) [1,1,3] h (Dp 2 19 (Pt b 4) [1,1,3] h (Dq 3 23 [1,1,3] rfl h (Gl 4 (.map (some dm)) 1) (Dq 4 15 [1,1,3] rfl h (Gla 0 [Ii k,Ii g] 0) (Dq 5 31 [1,1,3] rfl h (A4 (v':=.tuple #[.map (some d.mb),.bool true]) (Gkd (kv:=ds.map Bt) true ((k:Int),g) 2 rfl) (by rw [show Af (ds.map Bt) ((k:Int),g)=_ from hdh▸C1 hdd hj];rfl)) (Dp 6 63 (.tuple #[.map (some d.mb),.bool true]) [1,1,3] h (Dp 7 383 (.map (some d.mb)) [1,1,3] h (Dp 8 767 (.bool true) [1,1,3] h (Dp 9 511 (.map (some d.mb)) [1,1,3] h (Dp 10 1023 (.bool true) [1,1,3] h (Dd (Ai (Qs (ZP (.bool true) (Qg (Aa (Ds 6 [1,1] h fun w h=>Dp 0 16 (Pp b) [1,1] h (Dp 1 17 (Pp b) [1,1] h (Dp 2 19 (Pt b 4) [1,1] h (Dq 3 23 [1,1] rfl h (Gl 4 (.map (some dm)) 1) (Dq 4 15 [1,1] rfl h (Gla 0 [Ii k,Ii g] 0) ?_)))))))))))))))))))))))))
 refine A1 [5] (by kernel_rfl) rfl ?_
 refine Iy [1,1] rfl (by kernel_rfl) (K:=34) (E:=82) Dk ((k:Int),g) (by kernel_rfl) h 5 rfl ?_ ?_
 intro w h;refine ⟨by kernel_rfl,?_⟩
 refine Dd (Ai (Aa (Ds 6 [1,1] h fun w h=>Dp 0 16 (Pp b) [1,1] h (Dp 1 17 (Pp b) [1,1] h (Dp 2 19 (Pp b) [1,1] h (Dq 3 23 [1,1] rfl h (Gl 0 (Pp tb) 1) (Dq 4 15 [1,1] rfl h (Gla 0 [Ii k,Ii g] 0) ?_)))))))
 refine Ad 5 [3,3,6] [4,4] (Ju ad tb k N.nb g ps gs vl vg T Sl Sg l hl hr hkp ha) h ?_
 rintro v_ L_ w ⟨rfl,rfl⟩ h
 refine ⟨by kernel_rfl,?_⟩
 refine Dd (Ai (Qs (ZP (Pp b) (ZG h (Gla 0 [Ii kd,Ii gd] 3) ?_))))
 refine ZD [5,0,0,0] (Da ad b most tb dm pm (ps.set k none) gs vl vg T Sl Sg (l.set k none) ds pn (by rw [List.length_set];exact hl) hr (kd:Int) gd kd Nd (A3 hlkd hne) (Dc had hne) (-1) (by omega) hli) h ?_;rintro _ L_ w rfl h
 refine Qr (Ar ?_)
 rw [Ahg hdd] at h
 have h:=(h.pkr [7]).dirSub (ds':=ds.filter fun d=>!(d.h==((k:Int),g))) List.filter_sublist
 exact ZR [] [1,1,1,4,0,3,0] h rfl
 exact Ba
theorem L8 (kd gd:Int) (hkp:k<ps.length) (hno:∀ d∈ds,d.h≠((k:Int),g)) (hli:0≤N.links∧N.links≤1000000) (hch:0≤N.change∧N.change≤1000000) (h0:N.links+-1=0∧(Af pn ((k:Int),g)).getD 0=0):Au Tryz.prog 56 #[Pp b,Hg k g,Hg kd gd] [Rb b tb most dm pm,B1 tb ps gs vl vg T Sl Sg,Cm l,Ci true dm hk (ds.map Bt),Eh ds,Ci true pm hk (pn.map Cw),Br B ad [10]] (fun u L=>L=[Rb b tb most dm pm,B1 tb (ps.set k none) gs vl vg T Sl Sg,Cm (((l.set k (some (Ao N (-1)))).set k (some (Ae (Ao N (-1))))).set k none),Ci true dm hk (ds.map Bt),Eh ds,Ci true pm hk (pn.map Cw),Br B ad [10]]):=by
 refine Zo 41 Tryz.func56 fun E w0 w h=>?_
 refine Qs (ZN [Ii k,Ii g] 34 h fun k1 w h=>ZN [Ii kd,Ii gd] 34 h fun k2 w h=>Qn (Aa (Aa (Ds 11 [1,1,3] h fun w h=>Dp 0 16 (Pp b) [1,1,3] h (Dp 1 17 (Pp b) [1,1,3] h (Dp 2 19 (Pt b 4) [1,1,3] h (Dq 3 23 [1,1,3] rfl h (Gl 4 (.map (some dm)) 1) (Dq 4 15 [1,1,3] rfl h (Gla 0 [Ii k,Ii g] 0) (Dq 5 31 [1,1,3] rfl h (A4 (v':=.tuple #[.map none,.bool false]) (Gkd (kv:=ds.map Bt) true ((k:Int),g) 2 rfl) (by rw [C4 hno];rfl)) (Dp 6 63 (.tuple #[.map none,.bool false]) [1,1,3] h (Dp 7 383 (.map none) [1,1,3] h (Dp 8 767 (.bool false) [1,1,3] h (Dp 9 511 (.map none) [1,1,3] h (Dp 10 1023 (.bool false) [1,1,3] h (Dd (Ai (Qs (ZP (.bool false) (Fs (ZP (Pp b) (ZG h (Gla 0 [Ii k,Ii g] 1) ?_)))))))))))))))))))))
 refine ZD [2,2,2,5] (Da ad b most tb dm pm ps gs vl vg T Sl Sg l ds pn hl hr (k:Int) g k N hlk ha (-1) (by omega) hli) h ?_;rintro _ L_ w rfl h
 refine Qn (Aa (Ds 6 [0,4] h fun w h=>Dp 0 16 (Pp b) [0,4] h (Dp 1 17 (Pp b) [0,4] h (Dp 2 19 (Pp b) [0,4] h (Dq 3 23 [0,4] rfl h (Gl 0 (Pp tb) 0) (Dq 4 15 [0,4] rfl h (Gla 0 [Ii k,Ii g] 1) ?_))))))
 refine Ad 5 [1,1,1] [3,4] (Bq ad tb ps gs vl vg T Sl Sg (l.set k (some (Ao N (-1)))) hl hr (k:Int) g k (Ao N (-1)) (C0 (Cz hlk)) ha hch) h ?_
 rintro v_ L_ w ⟨rfl,rfl⟩ h
 refine ⟨by kernel_rfl,?_⟩
 refine Dd (Ai (Ah (ZP (Pp b) (ZG h (Gla 0 [Ii k,Ii g] 5) ?_))))
 refine ZD [3,0,0,5,0] (Ik ad b most tb dm pm ps gs vl vg T Sl Sg ((l.set k (some (Ao N (-1)))).set k (some (Ae (Ao N (-1))))) ds pn hl hr k g (Ae (Ao N (-1))) (C0 (by rw [List.length_set];exact Cz hlk)) ha hkp h0) h ?_;rintro _ L_ w rfl h
 exact Cu (ZR [] [0,0,0,4,4,0,0] h rfl)
theorem L4 (kd gd:Int) (hkp:k<ps.length) (hno:∀ d∈ds,d.h≠((k:Int),g)) (hli:0≤N.links∧N.links≤1000000) (hch:0≤N.change∧N.change≤1000000) (h0:¬(N.links+-1=0∧(Af pn ((k:Int),g)).getD 0=0)):Au Tryz.prog 56 #[Pp b,Hg k g,Hg kd gd] [Rb b tb most dm pm,B1 tb ps gs vl vg T Sl Sg,Cm l,Ci true dm hk (ds.map Bt),Eh ds,Ci true pm hk (pn.map Cw),Br B ad [10]] (fun u L=>L=[Rb b tb most dm pm,B1 tb ps gs vl vg T Sl Sg,Cm ((l.set k (some (Ao N (-1)))).set k (some (Ae (Ao N (-1))))),Ci true dm hk (ds.map Bt),Eh ds,Ci true pm hk (pn.map Cw),Br B ad [10]]):=by
 refine Zo 41 Tryz.func56 fun E w0 w h=>?_
 refine Qs (ZN [Ii k,Ii g] 34 h fun k1 w h=>ZN [Ii kd,Ii gd] 34 h fun k2 w h=>Qn (Aa (Aa (Ds 11 [1,1,3] h fun w h=>Dp 0 16 (Pp b) [1,1,3] h (Dp 1 17 (Pp b) [1,1,3] h (Dp 2 19 (Pt b 4) [1,1,3] h (Dq 3 23 [1,1,3] rfl h (Gl 4 (.map (some dm)) 1) (Dq 4 15 [1,1,3] rfl h (Gla 0 [Ii k,Ii g] 0) (Dq 5 31 [1,1,3] rfl h (A4 (v':=.tuple #[.map none,.bool false]) (Gkd (kv:=ds.map Bt) true ((k:Int),g) 2 rfl) (by rw [C4 hno];rfl)) (Dp 6 63 (.tuple #[.map none,.bool false]) [1,1,3] h (Dp 7 383 (.map none) [1,1,3] h (Dp 8 767 (.bool false) [1,1,3] h (Dp 9 511 (.map none) [1,1,3] h (Dp 10 1023 (.bool false) [1,1,3] h (Dd (Ai (Qs (ZP (.bool false) (Fs (ZP (Pp b) (ZG h (Gla 0 [Ii k,Ii g] 1) ?_)))))))))))))))))))))
 refine ZD [2,2,2,5] (Da ad b most tb dm pm ps gs vl vg T Sl Sg l ds pn hl hr (k:Int) g k N hlk ha (-1) (by omega) hli) h ?_;rintro _ L_ w rfl h
 refine Qn (Aa (Ds 6 [0,4] h fun w h=>Dp 0 16 (Pp b) [0,4] h (Dp 1 17 (Pp b) [0,4] h (Dp 2 19 (Pp b) [0,4] h (Dq 3 23 [0,4] rfl h (Gl 0 (Pp tb) 0) (Dq 4 15 [0,4] rfl h (Gla 0 [Ii k,Ii g] 1) ?_))))))
 refine Ad 5 [1,1,1] [3,4] (Bq ad tb ps gs vl vg T Sl Sg (l.set k (some (Ao N (-1)))) hl hr (k:Int) g k (Ao N (-1)) (C0 (Cz hlk)) ha hch) h ?_
 rintro v_ L_ w ⟨rfl,rfl⟩ h
 refine ⟨by kernel_rfl,?_⟩
 refine Dd (Ai (Ah (ZP (Pp b) (ZG h (Gla 0 [Ii k,Ii g] 5) ?_))))
 refine ZD [3,0,0,5,0] (H8 ad b most tb dm pm ps gs vl vg T Sl Sg ((l.set k (some (Ao N (-1)))).set k (some (Ae (Ao N (-1))))) ds pn hl hr k g (Ae (Ao N (-1))) (C0 (by rw [List.length_set];exact Cz hlk)) ha hkp h0) h ?_;rintro _ L_ w rfl h
 exact Cu (ZR [] [0,0,0,4,4,0,0] h rfl)
end
section
variable {most:Nat} {ps:List (Option Nat)} {gs:List Int} {l:List (Option ND)} {ds:List DN} {pn:List ((Int×Int)×Int)} {A:List AN} {ts:List Int} {dl dl':Hdl→Int} {ud ud':Hdl→Prop} {lz:Hdl→Nat}
theorem Em.app (s:Em most dl ud ps gs l A ts) (b:TI0 most ts lz A) {kf:Nat} (hkf:kf<most) (hu:Ey A kf=false) {N:ND} {K:AN} (hK:K.h=((kf:Int),Aw ts kf)) (hes:K.es=[]) (hdl:∀ M∈A,dl' M.h=dl M.h) (hud:∀ M∈A,ud M.h→ud' M.h) (hr:NdD (A++[K]) dl' ud' N K):Em most dl' ud' (ps.set kf (some N.nb)) (gs.set kf (Aw ts kf+1)) (l.set kf (some N)) (A++[K]) (ts.set kf (Aw ts kf+1)):=by
  have hlts:ts.length=most:=by rw [← s.gts];exact s.lgs
  have htk:Aw (ts.set kf (Aw ts kf+1)) kf=Aw ts kf+1:=Iq (List.getElem?_set_self (by omega))
  have hts:∀ j:Nat,j≠kf→Aw (ts.set kf (Aw ts kf+1)) j=Aw ts j:=fun j hj=>by
    show (ts.set kf (Aw ts kf+1)).getD j 0=ts.getD j 0
    rw [List.getD_eq_getElem?_getD,List.getD_eq_getElem?_getD,List.getElem?_set_ne (Ne.symm hj)]
  refine ⟨by rw [List.length_set];exact s.lps,by rw [List.length_set];exact s.lgs,by rw [List.length_set];exact s.ll,by rw [s.gts],fun k hk=>?_⟩
  by_cases c:kf=k
  · subst c
    refine .inr ⟨N,K,List.getElem?_set_self (by rw [s.lps];exact hk),List.getElem?_set_self (by rw [s.ll];exact hk),List.mem_append_right _ (by simp),by rw [hK,htk];exact Prod.ext rfl (by show Aw ts kf=Aw ts kf+1 - 1;omega),hr⟩
  · rw [List.getElem?_set_ne c,List.getElem?_set_ne c,hts k (Ne.symm c)]
    rcases s.nd k hk with ⟨h1,h2,h3⟩|⟨P,M,h1,h2,hM,he,r⟩
    · refine .inl ⟨h1,h2,fun M hM=>?_⟩
      rcases List.mem_append.1 hM with hM|hM
      · exact h3 M hM
      · rw [List.mem_singleton.1 hM,hK];exact fun e=>c (by have e2:(kf:Int)=(k:Int):=e;omega)
    · refine .inr ⟨P,M,h1,h2,List.mem_append_left _ hM,he,?_⟩
      have hl:=Le A K hes
      refine ⟨r.kind,r.chg,?_,fun z=>⟨(r.dird z).1,fun w=>?_⟩,r.filed⟩
      · rw [r.lnk,hdl M hM,Mb (A:=A) (B:=A++[K]) rfl rfl (fun _=>rfl) (fun e he=>Q2 (b.ent M hM e he) K) (hl M.h)]
      · have w2:¬ud M.h:=fun q=>w (hud M hM q)
        rw [Ob (A:=A) (B:=A++[K]) (by rw [hl];exact b.lnk_dir hM z) (hl M.h) fun X hX e he _=>⟨X,List.mem_append_left _ hX,rfl,he⟩]
        exact (r.dird z).2 w2
theorem Em.free (s:Em most dl ud ps gs l A ts) (b:TI0 most ts lz A) {k:Nat} {K:AN} (hK:K∈A) (hh:K.h=((k:Int),Aw ts k - 1)) (hes:K.es=[]) (h0:Be A K.h=0):Em most dl ud (ps.set k none) gs (l.set k none) (A.filter fun N=>!(N.h==K.h)) ts:=by
  have hp:∀ M∈A,(!(M.h==K.h))=false→M.es=[]:=fun M hM q=>by
    have e:M.h=K.h:=by simpa using q
    rw [b.same hM hK e];exact hes
  have hl:=Hd A (fun N=>!(N.h==K.h)) hp
  refine ⟨by rw [List.length_set];exact s.lps,s.lgs,by rw [List.length_set];exact s.ll,s.gts,fun i hi=>?_⟩
  by_cases c:k=i
  · subst c
    refine .inl ⟨List.getElem?_set_self (by rw [s.lps];exact hi),List.getElem?_set_self (by rw [s.ll];exact hi),fun M hM e=>?_⟩
    obtain ⟨hM,q⟩:=List.mem_filter.1 hM
    have hn:M.h≠K.h:=by simpa using q
    obtain ⟨j,_,e2⟩:=b.gen M hM
    have:(j:Int)=(k:Int):=by rw [← e,e2]
    have:j=k:=by omega
    subst this
    exact hn (e2.trans hh.symm)
  · rw [List.getElem?_set_ne c,List.getElem?_set_ne c]
    rcases s.nd i hi with ⟨h1,h2,h3⟩|⟨P,M,h1,h2,hM,he,r⟩
    · exact .inl ⟨h1,h2,fun M hM=>h3 M (List.mem_filter.1 hM).1⟩
    · have hne:M.h≠K.h:=fun q=>c (by rw [he,hh] at q;have:=congrArg Prod.fst q;omega)
      refine .inr ⟨P,M,h1,h2,List.mem_filter.2 ⟨hM,by simpa using hne⟩,he,?_⟩
      refine ⟨r.kind,r.chg,?_,fun z=>⟨(r.dird z).1,fun w=>?_⟩,r.filed⟩
      · rw [r.lnk,Mb (A:=A) (B:=A.filter fun N=>!(N.h==K.h)) rfl rfl (fun _=>rfl) (fun e he=>?_) (hl M.h)]
        obtain ⟨X,hX,e2⟩:=b.ent M hM e he
        have hx:X.h≠K.h:=fun q=>by have:=Lc hM he;rw [← e2,q,h0] at this;omega
        have hn2:((A.filter fun N=>!(N.h==K.h)).map (·.h)).Nodup:=(List.filter_sublist.map _).nodup b.nod
        rw [← e2,E2 hn2 (List.mem_filter.2 ⟨hX,by simpa using hx⟩),E2 b.nod hX]
      · rw [Ob (A:=A) (B:=A.filter fun N=>!(N.h==K.h)) (by rw [hl];exact b.lnk_dir hM z) (hl M.h) fun X hX e he _=>⟨X,List.mem_filter.2 ⟨hX,?_⟩,rfl,he⟩]
        · exact (r.dird z).2 w
        · have:X.h≠K.h:=fun q=>by rw [b.same hX hK q,hes] at he;cases he
          simpa using this
theorem Hl.gone (s:Hl ds A) (x:Hdl):Hl (ds.filter fun d=>!(d.h==x)) (A.filter fun N=>!(N.h==x)):=by
  refine ⟨(List.filter_sublist.map _).nodup s.dk,fun d hd=>?_,fun M hM hk=>?_⟩
  · obtain ⟨hd,q⟩:=List.mem_filter.1 hd
    obtain ⟨M,hM,h1,h2,h3⟩:=s.dm d hd
    exact ⟨M,List.mem_filter.2 ⟨hM,by rw [h1];exact q⟩,h1,h2,h3⟩
  · obtain ⟨hM,q⟩:=List.mem_filter.1 hM
    obtain ⟨d,hd,e⟩:=s.da M hM hk
    exact ⟨d,List.mem_filter.2 ⟨hd,by rw [e];exact q⟩,e⟩
end
section
variable {most:Nat} {ps:List (Option Nat)} {gs:List Int} {l:List (Option ND)} {ds:List DN} {pn:List ((Int×Int)×Int)} {A:List AN} {ts:List Int} {dl dl':Hdl→Int} {ud ud':Hdl→Prop} {lz:Hdl→Nat}
theorem Em.file (s:Em most dl ud ps gs l A ts) (b:TI0 most ts lz A) {k:Nat} {N N':ND} {M:AN} (hl:l[k]?=some (some N)) (hM:M∈A) (hh:M.h=((k:Int),Aw ts k - 1)) (hb:N'.nb=N.nb) (f:AN→AN) (hf:∀ M,(f M).h=M.h∧(f M).kind=M.kind∧(f M).es=M.es) (hr:NdD A dl ud N M→N'.kind=N.kind∧N'.links=N.links∧N'.change=(f M).change∧N'.upn=N.upn∧N'.upg=N.upg∧M.kind=1∧∃ q,N'.dq=some q∧G5 q.d (f M).s (f M).holes):Em most dl ud ps gs (l.set k (some N')) (Cx A M.h f) ts:=by
  have hkl:=(List.getElem?_eq_some_iff.1 hl).1
  have hs:=H1 A M.h f hf
  refine s.map (by simp) (fun K hK=>?_) (fun i hi q=>?_) (fun i P K hi q hK e r=>?_)
  · obtain ⟨K',hK',rfl⟩:=B4 hK
    refine ⟨K',hK',?_⟩
    split
    · exact (hf K').1.symm
    · rfl
  · by_cases c:k=i
    · subst c;rw [hl] at q;cases q
    · rw [List.getElem?_set_ne c];exact q
  · have hm:=Dj (d:=M.h) (f:=f) hK
    by_cases c:k=i
    · subst c
      rw [hl] at q;cases q
      have:=b.same hK hM (e.trans hh.symm)
      subst this
      rw [if_pos rfl] at hm
      obtain ⟨h1,h2,h3,h4,h5,h6,q,h7,h8⟩:=hr r
      refine ⟨N',f K,List.getElem?_set_self hkl,hb,hm,(hf K).1,⟨by rw [h1,(hf K).2.1];exact r.kind,h3,?_,fun z=>?_,fun _=>?_⟩⟩
      · rw [h2,r.lnk,O5 hs (hf K).1 (hf K).2.1 (hf K).2.2,(hf K).1]
      · rw [(hf K).2.1] at z;omega
      · have:=r.filed h6
        exact ⟨h4.trans this.1,h5.trans this.2.1,q,h7,h8⟩
    · have hne:K.h≠M.h:=fun x=>c (by rw [e,hh] at x;have:=congrArg Prod.fst x;omega)
      rw [if_neg hne] at hm
      exact ⟨P,K,by rw [List.getElem?_set_ne c];exact q,rfl,hm,rfl,r.shp hs rfl rfl rfl rfl rfl rfl⟩
theorem Em.same (s:Em most dl ud ps gs l A ts) (b:TI0 most ts lz A) {d:Hdl} (f:AN→AN) (hf:∀ M,(f M).h=M.h∧(f M).kind=M.kind∧(f M).es=M.es∧(f M).change=M.change∧(f M).s=M.s∧(f M).holes=M.holes):Em most dl ud ps gs l (Cx A d f) ts:=by
  have hs:=H1 A d f fun M=>⟨(hf M).1,(hf M).2.1,(hf M).2.2.1⟩
  refine s.map rfl (fun K hK=>?_) (fun i hi q=>q) (fun i P K hi q hK e r=>?_)
  · obtain ⟨K',hK',rfl⟩:=B4 hK
    refine ⟨K',hK',?_⟩
    split
    · exact (hf K').1.symm
    · rfl
  · have hm:=Dj (d:=d) (f:=f) hK
    refine ⟨P,_,q,rfl,hm,?_,?_⟩
    · split
      · exact (hf K).1
      · rfl
    · split
      · obtain ⟨h1,h2,h3,h4,h5,h6⟩:=hf K
        exact r.shp hs h1 h2 h3 h4 h5 h6
      · exact r.shp hs rfl rfl rfl rfl rfl rfl
theorem H5 (b:TI0 most ts lz A) {K:AN} (hK:K∈A) (hk:K.kind=1) (hh:∀ M∈A,M.kind=1→M.h≠K.h→0<M.pins∨0<Be A M.h):Gj A=if 0<K.pins∨0<Be A K.h then A else Ex A K.h:=by
  have hkeep:∀ M∈A,M.h≠K.h→Ej A M=true:=fun M hM hne=>by
    unfold Ej
    rcases b.kind M hM with k1|k2
    · have k2:¬M.kind=2:=by omega
      rw [De k2]
      rcases hh M hM k1 hne with q|q
      · simp [q]
      · simp [q]
    · simp [k2]
  have hK2:¬K.kind=2:=by omega
  unfold Gj Ex
  by_cases c:0<K.pins∨0<Be A K.h
  · rw [if_pos c,List.filter_eq_self]
    intro M hM
    by_cases e:M.h=K.h
    · rw [b.same hM hK e]
      unfold Ej
      rw [De hK2]
      rcases c with q|q
      · simp [q]
      · simp [q]
    · exact hkeep M hM e
  · rw [if_neg c]
    refine List.filter_congr fun M hM=>?_
    by_cases e:M.h=K.h
    · rw [b.same hM hK e]
      unfold Ej
      rw [De hK2]
      have h1:¬0<K.pins:=fun q=>c (.inl q)
      have h2:¬0<Be A K.h:=fun q=>c (.inr q)
      simp [h1,h2,hK2]
    · rw [hkeep M hM e];simp [e]
end
section
variable {pn:List ((Int×Int)×Int)} {A B:List AN}
theorem Hj.keep (s:Hj pn A) (h1:∀ M∈A,M.kind=1→0<M.pins→∃ N∈B,N.h=M.h∧N.kind=1∧N.pins=M.pins) (h2:∀ N∈B,N.kind=1→0<N.pins→∃ M∈A,M.h=N.h∧M.kind=1∧0<M.pins):Hj pn B:=by
  refine ⟨s.pk,fun p hp=>?_,fun N hN hk hp=>?_⟩
  · obtain ⟨q,M,hM,e1,e2,e3⟩:=s.pm p hp
    obtain ⟨N,hN,f1,f2,f3⟩:=h1 M hM e2 (by omega)
    exact ⟨q,N,hN,f1.trans e1,f2,f3.trans e3⟩
  · obtain ⟨M,hM,e1,e2,e3⟩:=h2 N hN hk hp
    obtain ⟨p,hp,e⟩:=s.pa M hM e2 e3
    exact ⟨p,hp,e.trans e1⟩
theorem Hj.updK (s:Hj pn A) (d:Hdl) (f:AN→AN) (hf:∀ M,(f M).h=M.h∧(f M).kind=M.kind∧(f M).pins=M.pins):Hj pn (Cx A d f):=by
  refine s.keep (fun M hM hk hp=>⟨_,Dj (d:=d) (f:=f) hM,?_⟩) fun N hN hk hp=>?_
  · split
    · exact ⟨(hf M).1,(hf M).2.1.trans hk,(hf M).2.2⟩
    · exact ⟨rfl,hk,rfl⟩
  · obtain ⟨M,hM,rfl⟩:=B4 hN
    by_cases c:M.h=d
    · rw [if_pos c] at hk hp ⊢
      exact ⟨M,hM,(hf M).1.symm,(hf M).2.1.symm.trans hk,by rw [← (hf M).2.2];exact hp⟩
    · rw [if_neg c] at hk hp ⊢;exact ⟨M,hM,rfl,hk,hp⟩
theorem Hj.app (s:Hj pn A) {K:AN} (hK:K.pins=0):Hj pn (A++[K]):=by
  refine s.keep (fun M hM hk hp=>⟨M,List.mem_append_left _ hM,rfl,hk,rfl⟩) fun N hN hk hp=>?_
  rcases List.mem_append.1 hN with hN|hN
  · exact ⟨N,hN,rfl,hk,hp⟩
  · rw [List.mem_singleton.1 hN] at hp;omega
theorem Hj.filter (s:Hj pn A) (p:AN→Bool) (hp:∀ M∈A,M.kind=1→0<M.pins→p M=true):Hj pn (A.filter p):=
  s.keep (fun M hM hk hq=>⟨M,List.mem_filter.2 ⟨hM,hp M hM hk hq⟩,rfl,hk,rfl⟩) fun N hN hk hq=>⟨N,(List.mem_filter.1 hN).1,rfl,hk,hq⟩
end
theorem Ru {α β:Type} [DecidableEq α] (k:α) (v:β):∀ (kv:List (α×β)),(kv.map (·.1)).Nodup→((Ay kv k v).map (·.1)).Nodup∧∀ p,p∈Ay kv k v↔p=(k,v)∨(p∈kv∧p.1≠k)
  | [],_=>⟨by simp [Ay],fun p=>by simp [Ay]⟩
  | q::r,hn=>by
    rw [List.map_cons,List.nodup_cons] at hn
    obtain ⟨h1,h2⟩:=Ru k v r hn.2
    unfold Ay
    by_cases c:k=q.1
    · subst c
      rw [if_pos rfl]
      refine ⟨by rw [List.map_cons,List.nodup_cons];exact hn,fun p=>?_⟩
      have hr:∀ p∈r,p.1≠q.1:=fun p hp e=>hn.1 (by rw [← e];exact List.mem_map.2 ⟨p,hp,rfl⟩)
      constructor
      · intro hp
        rcases List.mem_cons.1 hp with e|hp
        · exact .inl e
        · exact .inr ⟨List.mem_cons_of_mem _ hp,hr p hp⟩
      · rintro (e|⟨hp,hne⟩)
        · rw [e];simp
        · rcases List.mem_cons.1 hp with e|hp
          · exact absurd (by rw [e]) hne
          · exact List.mem_cons_of_mem _ hp
    · rw [if_neg c]
      refine ⟨?_,fun p=>?_⟩
      · rw [List.map_cons,List.nodup_cons]
        refine ⟨fun hq=>?_,h1⟩
        obtain ⟨p,hp,e⟩:=List.mem_map.1 hq
        rcases (h2 p).1 hp with e2|⟨hp,_⟩
        · rw [e2] at e;exact c e
        · exact hn.1 (by rw [← e];exact List.mem_map.2 ⟨p,hp,rfl⟩)
      · rw [List.mem_cons,h2 p,List.mem_cons]
        constructor
        · rintro (e|e|⟨h,h'⟩)
          · exact .inr ⟨.inl e,by rw [e];exact fun x=>c x.symm⟩
          · exact .inl e
          · exact .inr ⟨.inr h,h'⟩
        · rintro (e|⟨e|h,h'⟩)
          · exact .inr (.inl e)
          · exact .inl e
          · exact .inr (.inr ⟨h,h'⟩)
section
variable {pn:List ((Int×Int)×Int)} {A B:List AN} {most:Nat} {ts:List Int} {lz:Hdl→Nat}
theorem Yx {A:List AN} {M:AN} {x:Int} {N:AN} (hN:N∈G4 A M.h x):(N∈A∧N.h≠M.h)∨∃ K∈A,K.h=M.h∧N.h=K.h∧N.kind=K.kind∧N.pins=K.pins+x:=by
  obtain ⟨K,hK,rfl⟩:=B4 hN
  by_cases c:K.h=M.h
  · rw [if_pos c];exact .inr ⟨K,hK,c,rfl,rfl,rfl⟩
  · rw [if_neg c];exact .inl ⟨hK,c⟩
theorem Hj.put (s:Hj pn A) (b:TI0 most ts lz A) {M:AN} (hM:M∈A) (hk:M.kind=1) {x:Int} (hv:0<M.pins+x):Hj (Ay pn M.h (M.pins+x)) (G4 A M.h x):=by
  obtain ⟨h1,h2⟩:=Ru M.h (M.pins+x) pn s.pk
  have hM1:=Dj (d:=M.h) (f:=fun N=>⟨N.h,N.kind,N.change,N.s,N.holes,N.es,N.pins+x⟩) hM
  rw [if_pos rfl] at hM1
  refine ⟨h1,fun p hp=>?_,fun N hN hkN hpN=>?_⟩
  · rcases (h2 p).1 hp with rfl|⟨hp,hne⟩
    · exact ⟨hv,_,hM1,rfl,hk,rfl⟩
    · obtain ⟨q,K,hK,e1,e2,e3⟩:=s.pm p hp
      have hm:=Dj (d:=M.h) (f:=fun N=>⟨N.h,N.kind,N.change,N.s,N.holes,N.es,N.pins+x⟩) hK
      rw [if_neg (fun c=>hne (e1.symm.trans c))] at hm
      exact ⟨q,K,hm,e1,e2,e3⟩
  · rcases Yx hN with ⟨hN,hne⟩|⟨K,hK,c,e,_,_⟩
    · obtain ⟨p,hp,e⟩:=s.pa N hN hkN hpN
      exact ⟨p,(h2 p).2 (.inr ⟨hp,by rw [e];exact hne⟩),e⟩
    · exact ⟨_,(h2 _).2 (.inl rfl),(e.trans c).symm⟩
theorem Hj.del (s:Hj pn A) (b:TI0 most ts lz A) {M:AN} (hM:M∈A) {x:Int} (hv:M.pins+x=0):Hj (Ak pn M.h) (G4 A M.h x):=by
  rw [M6 M.h pn s.pk]
  refine ⟨(List.filter_sublist.map _).nodup s.pk,fun p hp=>?_,fun N hN hkN hpN=>?_⟩
  · obtain ⟨hp,hne⟩:=List.mem_filter.1 hp
    have hne:p.1≠M.h:=by simpa using hne
    obtain ⟨q,K,hK,e1,e2,e3⟩:=s.pm p hp
    have hm:=Dj (d:=M.h) (f:=fun N=>⟨N.h,N.kind,N.change,N.s,N.holes,N.es,N.pins+x⟩) hK
    rw [if_neg (fun c=>hne (e1.symm.trans c))] at hm
    exact ⟨q,K,hm,e1,e2,e3⟩
  · rcases Yx hN with ⟨hN,hne⟩|⟨K,hK,c,e,_,e3⟩
    · obtain ⟨p,hp,e⟩:=s.pa N hN hkN hpN
      exact ⟨p,List.mem_filter.2 ⟨hp,by rw [e];simpa using hne⟩,e⟩
    · rw [b.same hK hM c] at e3;omega
end
structure SD (most:Nat) (dl:Hdl→Int) (ud:Hdl→Prop) (ps:List (Option Nat)) (gs:List Int) (l:List (Option ND)) (ds:List DN) (pn:List ((Int×Int)×Int)) (A:List AN) (ts:List Int):Prop where
  T:Em most dl ud ps gs l A ts
  E:Hl ds A
  P:Hj pn A
section
variable {most:Nat} {ps:List (Option Nat)} {gs:List Int} {l:List (Option ND)} {ds:List DN} {pn:List ((Int×Int)×Int)} {A:List AN} {ts:List Int} {dl dl':Hdl→Int} {ud ud':Hdl→Prop} {lz:Hdl→Nat}
theorem T8 {ts:List Int} {k:Nat} (hk:k<ts.length) (x:Int):Aw (ts.set k x) k=x:=Iq (List.getElem?_set_self hk)
theorem Vf {ts:List Int} {k j:Nat} (hn:k≠j) (x:Int):Aw (ts.set k x) j=Aw ts j:=by
  show (ts.set k x).getD j 0=ts.getD j 0
  rw [List.getD_eq_getElem?_getD,List.getD_eq_getElem?_getD,List.getElem?_set_ne hn]
theorem Ur (b:TI0 most ts lz A) {x:Hdl} (h:∀ M∈A,M.h≠x):Be A x=0:=by
  cases c:Be A x with
  | zero=>rfl
  | succ n=>
    obtain ⟨M,hM,e,he,e2⟩:=Ok (A:=A) (h:=x) (by omega)
    obtain ⟨K,hK,e3⟩:=b.ent M hM e he
    exact absurd (e3.trans e2) (h K hK)
theorem Ca {A:List AN} {d:Hdl} {f:AN→AN} {M:AN} (hM:M∈A) (hne:M.h≠d):M∈Cx A d f:=by
  have:=Dj (d:=d) (f:=f) hM
  rwa [if_neg hne] at this
theorem G6 {A:List AN} {f:AN→AN} {M:AN} (hM:M∈A):f M∈Cx A M.h f:=by
  have:=Dj (d:=M.h) (f:=f) hM
  rwa [if_pos rfl] at this
theorem Kb {A:List AN} {d:Hdl} {M:AN} (hM:M∈A) (hne:M.h≠d):M∈Ex A d:=List.mem_filter.2 ⟨hM,by simpa using hne⟩
theorem My (A:List AN) (d x:Hdl) (f:AN→AN) (hf:∀ M,(f M).h=M.h):Ex (Cx A d f) x=Cx (Ex A x) d f:=by
  unfold Ex Cx
  rw [List.filter_map]
  congr 1
  refine List.filter_congr fun N _=>?_
  simp only [Function.comp]
  split
  · rw [hf]
  · rfl
theorem Mx (A:List AN) {d x:Hdl} (hn:d≠x) (f g:AN→AN) (hf:∀ M,(f M).h=M.h) (hg:∀ M,(g M).h=M.h):Cx (Cx A d f) x g=Cx (Cx A x g) d f:=by
  unfold Cx
  rw [List.map_map,List.map_map]
  refine List.map_congr_left fun N _=>?_
  simp only [Function.comp]
  by_cases c:N.h=d
  · have c2:¬N.h=x:=fun e=>hn (c.symm.trans e)
    have a1:(N.h==d)=true:=by simpa using c
    have a2:(N.h==x)=false:=by simpa using c2
    have a3:((f N).h==x)=false:=by rw [hf];exact a2
    simp only [a1,a2,a3,if_true,Bool.false_eq_true,if_false]
  · have a1:(N.h==d)=false:=by simpa using c
    by_cases c2:N.h=x
    · have a2:(N.h==x)=true:=by simpa using c2
      have a3:((g N).h==d)=false:=by rw [hg];exact a1
      simp only [a1,a2,a3,if_true,Bool.false_eq_true,if_false]
    · have a2:(N.h==x)=false:=by simpa using c2
      simp only [a1,a2,Bool.false_eq_true,if_false]
theorem U9 {A:List AN} (hn:(A.map (·.h)).Nodup) (d:Hdl) (f:AN→AN) (hf:∀ M,(f M).h=M.h):((Cx A d f).map (·.h)).Nodup:=by rw [R0 A d f hf];exact hn
theorem Lh {A:List AN} (hn:(A.map (·.h)).Nodup) (d:Hdl):((Ap A d).map (·.h)).Nodup:=U9 hn d _ fun _=>rfl
theorem Z8 {A:List AN} (hn:(A.map (·.h)).Nodup) (d:Hdl) (nm:ByteArray) (x:Hdl):((Ax A d nm x).map (·.h)).Nodup:=U9 hn d _ fun _=>rfl
theorem Hj.touch (s:Hj pn A) (d:Hdl):Hj pn (Ap A d):=s.updK d _ fun _=>⟨rfl,rfl,rfl⟩
theorem Hj.enter (s:Hj pn A) (d:Hdl) (nm:ByteArray) (x:Hdl):Hj pn (Ax A d nm x):=s.updK d _ fun _=>⟨rfl,rfl,rfl⟩
theorem Em.cong (s:Em most dl ud ps gs l A ts) (hd:∀ M∈A,dl' M.h=dl M.h) (hu:∀ M∈A,M.kind=2→ud M.h→ud' M.h):Em most dl' ud' ps gs l A ts:=
  s.map rfl (fun M hM=>⟨M,hM,rfl⟩) (fun _ _ q=>q) fun k N M hk q hM e r=>⟨N,M,q,rfl,hM,rfl,⟨r.kind,r.chg,by rw [r.lnk,hd M hM],fun z=>⟨(r.dird z).1,fun w=>(r.dird z).2 fun v=>w (hu M hM z v)⟩,r.filed⟩⟩
theorem Em.upOk (s:Em most dl ud ps gs l A ts) (hn:(A.map (·.h)).Nodup) {k:Nat} {N:ND} {M:AN} (hl:l[k]?=some (some N)) (hM:M∈A) (hh:M.h=((k:Int),Aw ts k - 1)) (hu:upA A M.h=(N.upn,N.upg)):Em most dl (fun h=>ud h∧h≠M.h) ps gs l A ts:=by
  have:=s.set1 hn hl hM hh (N':=N) (dl':=dl) (ud':=fun h=>ud h∧h≠M.h) rfl (fun _ _=>rfl) (fun h hne q=>⟨q,hne⟩) fun r=>⟨r.kind,r.chg,r.lnk,fun z=>⟨(r.dird z).1,fun _=>by rw [hu];exact ⟨rfl,rfl⟩⟩,r.filed⟩
  rwa [Kj l k _ hl] at this
theorem SD.of_ (s:Sim most ps gs l ds pn A ts):SD most (fun _=>0) (fun _=>False) ps gs l ds pn A ts:=⟨s.parts.1,s.parts.2.1,s.parts.2.2⟩
theorem SD.fin (s:SD most dl ud ps gs l ds pn A ts) (hd:∀ M∈A,dl M.h=0) (hu:∀ M∈A,M.kind=2→¬ud M.h):Sim most ps gs l ds pn A ts:=Sim.of (s.T.cong (fun M hM=>(hd M hM).symm) fun M hM k q=>hu M hM k q) s.E s.P
theorem SD.cong (s:SD most dl ud ps gs l ds pn A ts) (hd:∀ M∈A,dl' M.h=dl M.h) (hu:∀ M∈A,M.kind=2→ud M.h→ud' M.h):SD most dl' ud' ps gs l ds pn A ts:=⟨s.T.cong hd hu,s.E,s.P⟩
section
variable (s:SD most dl ud ps gs l ds pn A ts) (b:TI0 most ts lz A)
include s b
theorem SD.touch {k:Nat} {N:ND} {M:AN} (hl:l[k]?=some (some N)) (hM:M∈A) (hh:M.h=((k:Int),Aw ts k - 1)):SD most dl ud ps gs (l.set k (some (Ae N))) ds pn (Ap A M.h) ts:=
  ⟨s.T.touch b.nod hl hM hh,s.E.shp (Bl _ _),s.P.updK _ _ fun _=>⟨rfl,rfl,rfl⟩⟩
theorem SD.links {k:Nat} {N:ND} {M:AN} (hl:l[k]?=some (some N)) (hM:M∈A) (hh:M.h=((k:Int),Aw ts k - 1)) (m:Int):SD most (fun h=>dl h+if h=M.h then m else 0) ud ps gs (l.set k (some (Ao N m))) ds pn A ts:=
  ⟨s.T.links b.nod hl hM hh m,s.E,s.P⟩
theorem SD.keepUp {un ug:Int} {k:Nat} {N:ND} {M:AN} (hl:l[k]?=some (some N)) (hM:M∈A) (hh:M.h=((k:Int),Aw ts k - 1)) (hk:M.kind=2) (z li:Int) (hu:upA A M.h=(un,ug)):SD most (fun h=>dl h+if h=M.h then li - N.links else 0) (fun h=>ud h∧h≠M.h) ps gs (l.set k (some (keepN N 2 z li un ug))) ds pn A ts:=
  ⟨s.T.keepUp b.nod hl hM hh hk z li hu,s.E,s.P⟩
theorem SD.upOk {k:Nat} {N:ND} {M:AN} (hl:l[k]?=some (some N)) (hM:M∈A) (hh:M.h=((k:Int),Aw ts k - 1)) (hu:upA A M.h=(N.upn,N.upg)):SD most dl (fun h=>ud h∧h≠M.h) ps gs l ds pn A ts:=
  ⟨s.T.upOk b.nod hl hM hh hu,s.E,s.P⟩
theorem SD.enter {D X:AN} (hD:D∈A) (hX:X∈A) (hk:D.kind=2) {j:Nat} {d:DN} (hj:ds[j]?=some d) (hd:d.h=D.h) {nm:ByteArray} (hno:∀ e∈D.es,e.1≠nm):SD most (fun h=>dl h - (if h=D.h∧X.kind=2 then 1 else 0) - (if h=X.h∧X.kind=1 then 1 else 0)) (fun h=>ud h∨(h=X.h∧X.kind=2)) ps gs l (ds.set j { d with es:=Ay d.es nm X.h }) pn (Ax A D.h nm X.h) ts:=
  ⟨s.T.enter b hD hX hk nm,s.E.enter b hD hj hd hno X.h,s.P.updK _ _ fun _=>⟨rfl,rfl,rfl⟩⟩
theorem SD.leave {D X:AN} (hD:D∈A) (hX:X∈A) (hk:D.kind=2) {e:Bj} (he:e∈D.es) (hx:e.2=X.h) {j:Nat} {d:DN} (hj:ds[j]?=some d) (hd:d.h=D.h):SD most (fun h=>dl h+(if h=D.h∧X.kind=2 then 1 else 0)+(if h=X.h∧X.kind=1 then 1 else 0)) (fun h=>ud h∨(h=X.h∧X.kind=2)) ps gs l (ds.set j { d with es:=Ak d.es e.1 }) pn (Al A D.h e.1) ts:=
  ⟨s.T.leave b hD hX hk he hx,s.E.leave b hD hj hd e.1,s.P.updK _ _ fun _=>⟨rfl,rfl,rfl⟩⟩
theorem SD.goneD {k:Nat} {K:AN} (hK:K∈A) (hh:K.h=((k:Int),Aw ts k - 1)) (hes:K.es=[]) (h0:Be A K.h=0) (hk:K.kind=2):SD most dl ud (ps.set k none) gs (l.set k none) (ds.filter fun d=>!(d.h==K.h)) pn (Ex A K.h) ts:=
  ⟨s.T.free b hK hh hes h0,s.E.gone K.h,s.P.filter _ fun M hM k1 _=>by
    have:M.h≠K.h:=fun e=>by rw [b.same hM hK e] at k1;omega
    simpa using this⟩
theorem SD.goneF {k:Nat} {K:AN} (hK:K∈A) (hh:K.h=((k:Int),Aw ts k - 1)) (hk:K.kind=1) (hp:K.pins=0) (h0:Be A K.h=0):SD most dl ud (ps.set k none) gs (l.set k none) ds pn (Ex A K.h) ts:=
  ⟨s.T.free b hK hh (b.file K hK hk) h0,s.E.files _ fun M hM k2=>by
    have:M.h≠K.h:=fun e=>by rw [b.same hM hK e] at k2;omega
    simpa using this,s.P.filter _ fun M hM k1 q=>by
    have:M.h≠K.h:=fun e=>by rw [b.same hM hK e] at q;omega
    simpa using this⟩
end
theorem TI0.gone (b:TI0 most ts lz A) {K:AN} (hK:K∈A) (hes:K.es=[]) (h0:Be A K.h=0) (hr:K.h≠(0,0)):TI0 most ts lz (Ex A K.h):=b.filter _ fun M hM q=>by
  have e:M.h=K.h:=by simpa using q
  rw [b.same hM hK e];exact ⟨hes,h0,hr⟩
theorem TI0.noroot (b:TI0 most ts lz A) {D X:AN} (hD:D∈A) (hX:X∈A) {e:Bj} (he:e∈D.es) (hx:e.2=X.h):X.h≠(0,0):=fun q=>by
  obtain ⟨R,hR,h1,h2⟩:=b.root
  have:=b.one R hR h2
  rw [h1,if_pos rfl] at this
  have h3:=Lc hD he
  rw [hx,q] at h3;omega
end
structure PZ where
  b:Nat
  tb:Nat
  dm:Nat
  pm:Nat
  ps:List (Option Nat)
  gs:List Int
  vl:Value
  vg:Value
  T:TypeId
  Sl:Nat→Prop
  Sg:Nat→Prop
  l:List (Option ND)
  ds:List DN
  pn:List ((Int×Int)×Int)
def PZ.core (most:Nat) (z:PZ):List Res:=[Bw true z.b [.pointer (some ⟨z.tb,0,none⟩),.int .i64 (most:Int),.int .i64 0,.int .i64 0,.map (some z.dm),.map (some z.pm)] 80,B1 z.tb z.ps z.gs z.vl z.vg z.T z.Sl z.Sg,Cm z.l,Ci true z.dm hk (z.ds.map Bt),Eh z.ds,Ci true z.pm hk (z.pn.map Cw)]
theorem PZ.core_wr (most:Nat) (z:PZ):∀ r∈z.core most,r.wr=true:=by
  unfold PZ.core
  intro r hr
  simp only [List.mem_cons,List.mem_nil_iff,or_false] at hr
  rcases hr with rfl|rfl|rfl|rfl|rfl|rfl<;>rfl
def rPT (most:Nat) (z:PZ):Res:=D7 (z.core most)
section
variable {P:Program} {f:FuncId} {args:Array Value} {most:Nat} {z:PZ} {M:List Res}
theorem Au.pt {Φ:Value→PZ→Prop} (h:Au P f args (z.core most++M) fun u L=>∃ z',Φ u z'∧L=z'.core most++M):Au P f args (rPT most z::M) fun u L=>∃ z',Φ u z'∧L=rPT most z'::M:=fun E w0 w ho=>
  (h E w0 w ho.allSplit).mono fun e w' ⟨u,L,⟨z',hu,hL⟩,he,ho'⟩=>⟨u,_,⟨z',hu,rfl⟩,he,by subst hL;exact Own.allJoin _ (z'.core_wr most) ho'⟩
theorem Au.ptq {Φ:Value→Prop} (h:Au P f args (z.core most++M) fun u L=>Φ u∧L=z.core most++M):Au P f args (rPT most z::M) fun u L=>Φ u∧L=rPT most z::M:=fun E w0 w ho=>
  (h E w0 w ho.allSplit).mono fun e w' ⟨u,L,⟨hu,hL⟩,he,ho'⟩=>⟨u,_,⟨hu,rfl⟩,he,by subst hL;exact Own.allJoin _ (z.core_wr most) ho'⟩
end
section
variable {w0 w:World} {E:Ent} {B:Nat} {ad:Nat→Addr}
theorem Own.envs {M:List Res} (h:Own w0 E (M++[A6 B ad]) w):∀ css:List (List Nat),(∀ cs∈css,∀ c∈cs,c∈Cp)→Own w0 E (css.map (Br B ad)++(M++[A6 B ad])) w
  | [],_=>h
  | cs::css,hc=>(h.envs css fun x hx=>hc x (List.mem_cons_of_mem _ hx)).envSub cs ((css.map (Br B ad)).length+M.length) (by
      rw [List.getElem?_append_right (by omega),Nat.add_sub_cancel_left,List.getElem?_append_right (by omega),Nat.sub_self];rfl) (hc cs (by simp))
end
theorem Au.wide {P:Program} {f:FuncId} {args:Array Value} {B:Nat} {ad:Nat→Addr} (M X:List Res) (css:List (List Nat)) {Φ:Value→List Res→Prop} (hcs:∀ cs∈css,∀ c∈cs,c∈Cp) (h:Au P f args (M++css.map (Br B ad)) fun u L=>∃ M',Φ u M'∧L=M'++css.map (Br B ad)):Au P f args (M++(X++[A6 B ad])) fun u L=>∃ M',Φ u M'∧L=M'++(X++[A6 B ad]):=fun E w0 w ho=>by
  have h1:Own w0 E ((M++X)++[A6 B ad]) w:=by rw [List.append_assoc];exact ho
  have h2:=h1.envs css hcs
  have h3:Own w0 E ((M++css.map (Br B ad))++(X++[A6 B ad])) w:=h2.perm (by simpa only [List.append_assoc] using List.perm_append_comm_assoc (css.map (Br B ad)) M (X++[A6 B ad]))
  refine ((h.frame (X++[A6 B ad])) E w0 w h3).mono fun e w' ⟨u,L,⟨L1,⟨M',hu,e1⟩,e2⟩,he,ho'⟩=>⟨u,_,⟨M',hu,rfl⟩,he,?_⟩
  subst e1;subst e2
  have h4:Own w0 E ((M'++(X++[A6 B ad]))++css.map (Br B ad)) w':=ho'.perm (by
    rw [List.append_assoc,List.append_assoc]
    exact List.Perm.append_left _ List.perm_append_comm)
  exact h4.left
def On (ps:List (Option Nat)) (gs:List Int) (l:List (Option ND)) (ds:List DN) (n g:Int) (c:Nat):Prop:=(c=9∧Bk ps gs n g=none)∨(c=6∧(∃ (k:Nat) (N:ND),l[k]?=some (some N)∧Bk ps gs n g=some N.nb)∧∀ d∈ds,d.h≠(n,g))
def NSz (A:List AN):Prop:=∀ M∈A,∀ e∈M.es,e.1.size≤100000
section
variable {A:List AN} (h:NSz A)
include h
theorem NSz.upd (d:Hdl) (f:AN→AN) (hf:∀ M∈A,∀ e∈(f M).es,e.1.size≤100000):NSz (Cx A d f):=fun M hM e he=>by
  obtain ⟨K,hK,rfl⟩:=B4 hM
  by_cases c:K.h=d
  · rw [if_pos c] at he;exact hf K hK e he
  · rw [if_neg c] at he;exact h K hK e he
theorem NSz.touch (d:Hdl):NSz (Ap A d):=h.upd d _ fun M hM e he=>h M hM e he
theorem NSz.pin (d:Hdl) (x:Int):NSz (G4 A d x):=h.upd d _ fun M hM e he=>h M hM e he
theorem NSz.leave (d:Hdl) (nm:ByteArray):NSz (Al A d nm):=h.upd d _ fun M hM e he=>h M hM e (List.mem_filter.1 he).1
theorem NSz.enter (d:Hdl) {nm:ByteArray} (hn:nm.size≤100000) (x:Hdl):NSz (Ax A d nm x):=h.upd d _ fun M hM e he=>by
  rcases List.mem_cons.1 ((E6 nm x M.es).mem_iff.1 he) with rfl|he
  · exact hn
  · exact h M hM e he
theorem NSz.filter (p:AN→Bool):NSz (A.filter p):=fun M hM=>h M (List.mem_filter.1 hM).1
theorem NSz.app {N:AN} (hN:N.es=[]):NSz (A++[N]):=fun M hM e he=>by
  rcases List.mem_append.1 hM with hM|hM
  · exact h M hM e he
  · rw [List.mem_singleton.1 hM,hN] at he;cases he
theorem NSz.lose (x:Hdl):NSz (C5 A x):=by
  unfold C5
  split
  · split
    · exact h.filter _
    · exact (h.touch _).filter _
  · exact h
theorem NSz.create (ts:List Int) (d:Hdl) {nm:ByteArray} (hn:nm.size≤100000) (kind:Int) (k:Nat):NSz (Gd A ts d nm kind k):=((h.app rfl).enter d hn _).touch _
theorem NSz.link (x d:Hdl) {nm:ByteArray} (hn:nm.size≤100000):NSz (Lo A x d nm):=((h.enter d hn x).touch _).touch _
theorem NSz.remove (d:Hdl) (nm:ByteArray):NSz (Dz A d nm):=((h.leave d nm).touch _).lose _
theorem NSz.wr (d:Hdl) (p:Int) (t:ByteArray):NSz (Fd A d p t):=by
  unfold Fd atF
  split
  · exact h
  · split
    · exact h.upd d _ fun M hM e he=>h M hM e he
    · exact h
theorem NSz.rz (d:Hdl) (p:Int):NSz (Ec A d p):=by
  unfold Ec atF
  split
  · exact h
  · split
    · exact h.upd d _ fun M hM e he=>h M hM e he
    · exact h
theorem NSz.rename (a:Hdl) (old:ByteArray) (b:Hdl) {nm:ByteArray} (hn:nm.size≤100000):NSz (tRename A a old b nm).2:=by
  have key:∀ B:List AN,NSz B→NSz (if a=b then Ap B a else Ap (Ap B a) b):=fun B hB=>by
    split
    · exact hB.touch _
    · exact (hB.touch _).touch _
  have hm:∀ x y,NSz (Eu A a old b nm x y):=fun x y=>by
    cases y with
    | none=>exact key _ ((h.leave _ _).enter _ hn _)
    | some y=>exact key _ ((((h.leave _ _).leave _ _).enter _ hn _).lose _)
  rcases G2 A a old b nm with q|⟨F,T,x,X,_,_,_,_,_,_,_,⟨_,_,q⟩|⟨y,Y,_,_,_,_,_,_,q⟩⟩
  · rw [q];exact h
  · rw [q];exact hm x none
  · rw [q];exact hm x (some y)
end
structure D6 (most:Nat) (z:PZ) (A:List AN) (ts:List Int) (c:Int):Prop where
  sim:Sim most z.ps z.gs z.l z.ds z.pn A ts
  ti:TI most ts A
  srt:Srt A
  nsz:NSz A
  cnt:Cnt A c
  tmr:∀ x∈ts,0≤x∧x≤c
  c0:0≤c∧c≤1000
  m1:1≤most
  m3:most≤300
section
variable {most:Nat} {z:PZ} {A:List AN} {ts:List Int} {c:Int} (s:D6 most z A ts c)
include s
theorem D6.hl:z.ps.length=z.gs.length:=by rw [s.sim.lps,s.sim.lgs]
theorem D6.hr:∀ x∈z.gs,0≤x∧x≤1000000:=fun x hx=>by rw [s.sim.gts] at hx;have:=s.tmr x hx;have:=s.c0;omega
theorem D6.hlen:ts.length=most:=by rw [← s.sim.gts];exact s.sim.lgs
theorem D6.more {d:Int} (h:c≤d) (hd:d≤1000):D6 most z A ts d:=⟨s.sim,s.ti,s.srt,s.nsz,s.cnt.mono h,fun x hx=>by have:=s.tmr x hx;omega,by have:=s.c0;omega,s.m1,s.m3⟩
theorem D6.who (n g:Int):(Bs A (n,g)=none∧Bk z.ps z.gs n g=none∧On z.ps z.gs z.l z.ds n g 9)∨∃ (k:Nat) (N:ND) (M:AN),n=(k:Int)∧k<most∧z.l[k]?=some (some N)∧Bk z.ps z.gs n g=some N.nb∧Bs A (n,g)=some M∧M∈A∧M.h=(n,g)∧M.h=((k:Int),Aw ts k - 1)∧NdR A N M∧
    ((M.kind=1∧¬M.kind=2∧(∀ d∈z.ds,d.h≠(n,g))∧On z.ps z.gs z.l z.ds n g 6)∨(M.kind=2∧∃ (j:Nat) (d:DN),z.ds[j]?=some d∧d.h=(n,g)∧ER d.es M.es)):=by
  rcases s.sim.at_ s.ti n g with ⟨h1,h2⟩|⟨k,N,M,rfl,hk,h1,h2,h3,h4,h5,h6⟩
  · exact .inl ⟨h2,h1,.inl ⟨rfl,h1⟩⟩
  · obtain ⟨k',hk',e⟩:=s.ti.base.gen M h4
    have:k'=k:=by rw [h5] at e;have:=congrArg Prod.fst e;simp only at this;omega
    subst this
    refine .inr ⟨k',N,M,rfl,hk,h1,h2,h3,h4,h5,e,h6,?_⟩
    rcases s.ti.base.kind M h4 with k1|k2
    · have hno:=s.sim.nodir s.ti (x:=((k':Int),g)) fun K hK q=>by rw [s.ti.base.same hK h4 (q.trans h5.symm)];omega
      exact .inl ⟨k1,by omega,hno,.inr ⟨rfl,⟨k',N,h1,h2⟩,hno⟩⟩
    · obtain ⟨j,d,h7,h8,h9⟩:=s.sim.dir_ s.ti h4 k2
      exact .inr ⟨k2,j,d,h7,h8.trans h5,h9⟩
theorem D6.ch {N:ND} {M:AN} (hM:M∈A) (hr:NdR A N M):0≤N.change∧N.change≤1000000:=by
  have:=s.cnt M hM;have:=s.c0;rw [hr.chg];omega
theorem D6.li {N:ND} {M:AN} (hM:M∈A) (hr:NdR A N M):0≤N.links∧N.links≤1000000:=by
  rw [hr.lnk]
  rcases s.ti.base.kind M hM with k1|k2
  · rw [De (by omega)];have:=s.ti.base.lnk8 M hM k1;omega
  · rw [Eb k2];have:=s.ti.base.few M hM;have:=List.countP_le_length (p:=fun e:Bj=>Bg A e.2) (l:=M.es);omega
theorem D6.dd:(z.ds.map (·.h)).Nodup:=s.sim.dk
end
section
variable {B:Nat} (ad:Nat→Addr) (b most tb dm pm:Nat) (ps:List (Option Nat)) (gs:List Int) (vl vg:Value) (T:TypeId) (Sl Sg:Nat→Prop) (l:List (Option ND)) (ds:List DN) (pn:List ((Int×Int)×Int)) (hl:ps.length=gs.length) (hr:∀ x∈gs,0≤x∧x≤1000000) (n g:Int)
include B ad b most tb dm pm ps gs vl vg T Sl Sg l ds pn hl hr n g
theorem Ua (ha:Bk ps gs n g=none):Au Tryz.prog 50 #[Pp b,Hg n g] (Ra B ad b tb most dm pm ps gs vl vg T Sl Sg l ds pn) (fun u L=>u=.tuple #[.map none,Ag ad 10]∧L=(Ra B ad b tb most dm pm ps gs vl vg T Sl Sg l ds pn)):=by
 refine Zo 33 Tryz.func50 fun E w0 w h=>?_
 have h:=h.eS [10] 6 rfl
 refine Qs (ZN [Ii n,Ii g] 34 h fun k1 w h=>ZP (.map none) (ZP .nilIface (Qn (Aa (Aa (Ds 12 [0,1] h fun w h=>Dp 0 528 (Pp b) [0,1] h (Dp 1 529 (Pp b) [0,1] h (Dp 2 531 (Pp b) [0,1] h (Dq 3 535 [0,1] rfl h (Gl 0 (Pp tb) 1) (Dq 4 527 [0,1] rfl h (Gla 0 [Ii n,Ii g] 0) ?_))))))))))
 refine A1 [5,9] (by kernel_rfl) rfl ?_
 refine Di #[Pp tb,Hg n g] [3,3,1] [3,3] rfl (by kernel_rfl) (I9 ad tb ps gs vl vg T Sl Sg l hl hr n g ha) (fun _=>by kernel_rfl) h ?_ ?_
 rintro v_ L_ w ⟨rfl,rfl⟩ h
 refine ⟨by kernel_rfl,?_⟩
 refine Dp 6 575 (.tuple #[.agg #[Ii 0,Ii 0,Ii 0,Ii 0,Ii 0,Ii 0],Ag ad 10]) [3,3] h (Dp 7 895 (.agg #[Ii 0,Ii 0,Ii 0,Ii 0,Ii 0,Ii 0]) [3,3] h (Dp 8 1791 (Ag ad 10) [3,3] h ?_))
 refine A1 [9] (by kernel_rfl) rfl ?_
 refine Ch [4,4] rfl (by kernel_rfl) (fun b=>Pp b) [Ii 0,Ii 0,Ii 0,Ii 0,Ii 0,Ii 0] 46 (fun _=>by kernel_rfl) h ?_ ?_
 intro k2 w h;refine ⟨by kernel_rfl,?_⟩
 exact As 10 [4,4] 0 [Ii 0,Ii 0,Ii 0,Ii 0,Ii 0,Ii 0] [Ii 0,Ii 0,Ii 0,Ii 0,Ii 0,Ii 0] 0 rfl h fun w h=>Dp 11 2047 (Ag ad 10) [4,4] h (Dd (Ai (Qs (ZP (Ag ad 10) (ZP (.bool true) (Qg (Qs (ZP (Ag ad 10) (ZP (.map none) (ZP (Ag ad 10) (Qr (Ar (ZR [.map none,Ag ad 10] [5,1,1,3,3,3,3] h ⟨rfl,rfl⟩)))))))))))))
 exact Ba
 refine Ch [1,2] rfl (by kernel_rfl) (fun b=>Pp b) [Ii 0,Ii 0,Ii 0,Ii 0,Ii 0,Ii 0] 46 (fun _=>by kernel_rfl) h ?_ ?_
 intro k3 w h;refine ⟨by kernel_rfl,?_⟩
 refine Ad 5 [4,4,2] [4,4] (I9 ad tb ps gs vl vg T Sl Sg l hl hr n g ha) h ?_
 rintro v_ L_ w ⟨rfl,rfl⟩ h
 refine ⟨by kernel_rfl,?_⟩
 exact Dp 6 575 (.tuple #[.agg #[Ii 0,Ii 0,Ii 0,Ii 0,Ii 0,Ii 0],Ag ad 10]) [4,4] h (Dp 7 895 (.agg #[Ii 0,Ii 0,Ii 0,Ii 0,Ii 0,Ii 0]) [4,4] h (Dp 8 1791 (Ag ad 10) [4,4] h (As 10 [4,4] 0 [Ii 0,Ii 0,Ii 0,Ii 0,Ii 0,Ii 0] [Ii 0,Ii 0,Ii 0,Ii 0,Ii 0,Ii 0] 3 rfl h fun w h=>Dp 11 2047 (Ag ad 10) [4,4] h (Dd (Ai (Qs (ZP (Ag ad 10) (ZP (.bool true) (Qg (Qs (ZP (Ag ad 10) (ZP (.map none) (ZP (Ag ad 10) (Qr (Ar (ZR [.map none,Ag ad 10] [5,0,0,3,3,3,3] h ⟨rfl,rfl⟩))))))))))))))))
 exact Ba
theorem Wg (k:Nat) (N:ND) (hlk:l[k]?=some (some N)) (ha:Bk ps gs n g=some N.nb) (hno:∀ d∈ds,d.h≠(n,g)):Au Tryz.prog 50 #[Pp b,Hg n g] (Ra B ad b tb most dm pm ps gs vl vg T Sl Sg l ds pn) (fun u L=>u=.tuple #[.map none,Ag ad 7]∧L=(Ra B ad b tb most dm pm ps gs vl vg T Sl Sg l ds pn)):=by
 refine Zo 33 Tryz.func50 fun E w0 w h=>?_
 have h:=(h.eS [10] 6 rfl).eS [7] 7 rfl
 refine Qs (ZN [Ii n,Ii g] 34 h fun k1 w h=>ZP (.map none) (ZP .nilIface (Qn (Aa (Aa (Ds 12 [0,2] h fun w h=>Dp 0 528 (Pp b) [0,2] h (Dp 1 529 (Pp b) [0,2] h (Dp 2 531 (Pp b) [0,2] h (Dq 3 535 [0,2] rfl h (Gl 0 (Pp tb) 1) (Dq 4 527 [0,2] rfl h (Gla 0 [Ii n,Ii g] 0) ?_))))))))))
 refine A1 [5,9] (by kernel_rfl) rfl ?_
 refine Di #[Pp tb,Hg n g] [4,4,2] [3,4] rfl (by kernel_rfl) (Bm ad tb ps gs vl vg T Sl Sg l hl hr n g k N hlk ha) (fun _=>by kernel_rfl) h ?_ ?_
 rintro v_ L_ w ⟨rfl,rfl⟩ h
 refine ⟨by kernel_rfl,?_⟩
 refine Dp 6 575 (.tuple #[.agg #[Ii N.kind,Ii (Am N),Ii N.links,Ii N.change,Ii N.upn,Ii N.upg],.nilIface]) [3,4] h (Dp 7 895 (.agg #[Ii N.kind,Ii (Am N),Ii N.links,Ii N.change,Ii N.upn,Ii N.upg]) [3,4] h (Dp 8 1791 .nilIface [3,4] h ?_))
 refine A1 [9] (by kernel_rfl) rfl ?_
 refine Ch [4,5] rfl (by kernel_rfl) (fun b=>Pp b) [Ii 0,Ii 0,Ii 0,Ii 0,Ii 0,Ii 0] 46 (fun _=>by kernel_rfl) h ?_ ?_
 intro k2 w h;refine ⟨by kernel_rfl,?_⟩
 exact As 10 [4,5] 0 [Ii N.kind,Ii (Am N),Ii N.links,Ii N.change,Ii N.upn,Ii N.upg] [Ii N.kind,Ii (Am N),Ii N.links,Ii N.change,Ii N.upn,Ii N.upg] 0 rfl h fun w h=>Dp 11 2047 .nilIface [4,5] h (Dd (Ai (Qs (ZP .nilIface (ZP (.bool false) (Qf (Kn (Aa (Ds 11 [4,5,5] h fun w h=>Dp 0 16 (Pp b) [4,5,5] h (Dp 1 17 (Pp b) [4,5,5] h (Dp 2 19 (Pt b 4) [4,5,5] h (Dq 3 23 [4,5,5] rfl h (Gl 4 (.map (some dm)) 1) (Dq 4 15 [4,5,5] rfl h (Gla 0 [Ii n,Ii g] 0) (Dq 5 31 [4,5,5] rfl h (A4 (v':=.tuple #[.map none,.bool false]) (Gkd (kv:=ds.map Bt) true (n,g) 2 rfl) (by rw [C4 hno];rfl)) (Dp 6 63 (.tuple #[.map none,.bool false]) [4,5,5] h (Dp 7 383 (.map none) [4,5,5] h (Dp 8 767 (.bool false) [4,5,5] h (Dp 9 511 (.map none) [4,5,5] h (Dp 10 1023 (.bool false) [4,5,5] h (Dd (Ai (Qt (ZP (.bool false) (ZP (.bool true) (Qg (Aa (Ds 3 [5] h fun w h=>Dq 0 2 [5] rfl h (Gr 0 (Ag ad 7) 0 rfl (Ff (c:=7) (by decide) rfl)) (Dp 1 1 (.map none) [5] h (Dp 2 3 (Ag ad 7) [5] h (Dd (Ai (Hv (Ar (ZR [.map none,Ag ad 7] [6,1,1,4,4,4,4] h ⟨rfl,rfl⟩))))))))))))))))))))))))))))))))))
 exact Ba
 refine Ch [1,3] rfl (by kernel_rfl) (fun b=>Pp b) [Ii 0,Ii 0,Ii 0,Ii 0,Ii 0,Ii 0] 46 (fun _=>by kernel_rfl) h ?_ ?_
 intro k3 w h;refine ⟨by kernel_rfl,?_⟩
 refine Ad 5 [5,5,3] [4,5] (Bm ad tb ps gs vl vg T Sl Sg l hl hr n g k N hlk ha) h ?_
 rintro v_ L_ w ⟨rfl,rfl⟩ h
 refine ⟨by kernel_rfl,?_⟩
 exact Dp 6 575 (.tuple #[.agg #[Ii N.kind,Ii (Am N),Ii N.links,Ii N.change,Ii N.upn,Ii N.upg],.nilIface]) [4,5] h (Dp 7 895 (.agg #[Ii N.kind,Ii (Am N),Ii N.links,Ii N.change,Ii N.upn,Ii N.upg]) [4,5] h (Dp 8 1791 .nilIface [4,5] h (As 10 [4,5] 0 [Ii N.kind,Ii (Am N),Ii N.links,Ii N.change,Ii N.upn,Ii N.upg] [Ii N.kind,Ii (Am N),Ii N.links,Ii N.change,Ii N.upn,Ii N.upg] 3 rfl h fun w h=>Dp 11 2047 .nilIface [4,5] h (Dd (Ai (Qs (ZP .nilIface (ZP (.bool false) (Qf (Kn (Aa (Ds 11 [4,5,5] h fun w h=>Dp 0 16 (Pp b) [4,5,5] h (Dp 1 17 (Pp b) [4,5,5] h (Dp 2 19 (Pt b 4) [4,5,5] h (Dq 3 23 [4,5,5] rfl h (Gl 4 (.map (some dm)) 1) (Dq 4 15 [4,5,5] rfl h (Gla 0 [Ii n,Ii g] 0) (Dq 5 31 [4,5,5] rfl h (A4 (v':=.tuple #[.map none,.bool false]) (Gkd (kv:=ds.map Bt) true (n,g) 2 rfl) (by rw [C4 hno];rfl)) (Dp 6 63 (.tuple #[.map none,.bool false]) [4,5,5] h (Dp 7 383 (.map none) [4,5,5] h (Dp 8 767 (.bool false) [4,5,5] h (Dp 9 511 (.map none) [4,5,5] h (Dp 10 1023 (.bool false) [4,5,5] h (Dd (Ai (Qt (ZP (.bool false) (ZP (.bool true) (Qg (Aa (Ds 3 [5] h fun w h=>Dq 0 2 [5] rfl h (Gr 0 (Ag ad 7) 0 rfl (Ff (c:=7) (by decide) rfl)) (Dp 1 1 (.map none) [5] h (Dp 2 3 (Ag ad 7) [5] h (Dd (Ai (Hv (Ar (ZR [.map none,Ag ad 7] [6,0,0,4,4,4,4] h ⟨rfl,rfl⟩)))))))))))))))))))))))))))))))))))))
 exact Ba
theorem K4 (c:Nat) (hd:On ps gs l ds n g c):Au Tryz.prog 50 #[Pp b,Hg n g] (Ra B ad b tb most dm pm ps gs vl vg T Sl Sg l ds pn) fun u L=>u=.tuple #[.map none,Ag ad (c+1)]∧L=(Ra B ad b tb most dm pm ps gs vl vg T Sl Sg l ds pn):=by
  rcases hd with ⟨rfl,h⟩|⟨rfl,⟨k,N,h1,h2⟩,h3⟩
  · exact Ua ad b most tb dm pm ps gs vl vg T Sl Sg l ds pn hl hr n g h
  · exact Wg ad b most tb dm pm ps gs vl vg T Sl Sg l ds pn hl hr n g k N h1 h2 h3
end
theorem Kp {B:Nat} (ad:Nat→Addr) (s:ByteArray) (hs:s.size≤9223372036854775807) (hbad:¬A0 s):Au Tryz.prog 53 #[.string s] [Br B ad [4]] fun u L=>u=Ag ad 4∧L=[Br B ad [4]]:=
  (Ri ad s hs).mono fun u L h=>by
    rcases h with ⟨h0,_⟩|⟨_,h1,h2⟩
    · exact absurd h0 hbad
    · exact ⟨h1,h2⟩
def Agr (ps:List (Option Nat)) (gs:List Int) (l:List (Option ND)) (ds:List DN) (n g:Int) (s:ByteArray) (c:Nat) (m:Option Nat):Prop:=(On ps gs l ds n g c∧m=none)∨(c=3∧¬A0 s∧∃ (k:Nat) (N:ND) (j:Nat) (d:DN),l[k]?=some (some N)∧Bk ps gs n g=some N.nb∧ds[j]?=some d∧d.h=(n,g)∧m=some d.mb)
def LkE (ps:List (Option Nat)) (gs:List Int) (l:List (Option ND)) (ds:List DN) (n g:Int) (s:ByteArray) (c:Nat):Prop:=(∃ m,Agr ps gs l ds n g s c m)∨(c=4∧A0 s∧∃ (k:Nat) (N:ND) (j:Nat) (d:DN),l[k]?=some (some N)∧Bk ps gs n g=some N.nb∧ds[j]?=some d∧d.h=(n,g)∧Af d.es s=none)
section
variable {B:Nat} (ad:Nat→Addr) (b most tb dm pm:Nat) (ps:List (Option Nat)) (gs:List Int) (vl vg:Value) (T:TypeId) (Sl Sg:Nat→Prop) (l:List (Option ND)) (ds:List DN) (pn:List ((Int×Int)×Int)) (hl:ps.length=gs.length) (hr:∀ x∈gs,0≤x∧x≤1000000) (n g:Int)
include B ad b most tb dm pm ps gs vl vg T Sl Sg l ds pn hl hr n g
theorem Ix (s:ByteArray) (hs:s.size≤9223372036854775807) (c:Nat) (hd:On ps gs l ds n g c):Au Tryz.prog 48 #[Pp b,Hg n g,.string s] (Ra B ad b tb most dm pm ps gs vl vg T Sl Sg l ds pn) (fun u L=>u=.tuple #[.map none,Ag ad (c+1)]∧L=(Ra B ad b tb most dm pm ps gs vl vg T Sl Sg l ds pn)):=by
 refine Zo 19 Tryz.func48 fun E w0 w h=>?_
 exact Qs (ZN [Ii n,Ii g] 34 h fun k1 w h=>ZP (.map none) (ZP .nilIface (Qm (ZP (Pp b) (ZG h (Gla 0 [Ii n,Ii g] 0) (ZC [1,1,1,1,1,1,1] (K4 ad b most tb dm pm ps gs vl vg T Sl Sg l ds pn hl hr n g c hd) h fun w h=>ZP (.tuple #[.map none,Ag ad (c+1)]) (ZP (.map none) (ZP (Ag ad (c+1)) (ZP (.map none) (ZP (Ag ad (c+1)) (Qu (ZP (Ag ad (c+1)) (ZP (.bool true) (Qg (Qs (ZP (Ag ad (c+1)) (ZP (.map none) (ZP (Ag ad (c+1)) (Qr (Ar (ZR [.map none,Ag ad (c+1)] [0,0,0,0,0,0,0] h ⟨rfl,rfl⟩)))))))))))))))))))))
theorem In (k:Nat) (N:ND) (hlk:l[k]?=some (some N)) (ha:Bk ps gs n g=some N.nb) (j:Nat) (d:DN) (hj:ds[j]?=some d) (hdh:d.h=(n,g)) (hdd:(ds.map (·.h)).Nodup) (s:ByteArray) (hs:s.size≤9223372036854775807) (hbad:¬A0 s):Au Tryz.prog 48 #[Pp b,Hg n g,.string s] (Ra B ad b tb most dm pm ps gs vl vg T Sl Sg l ds pn) (fun u L=>u=.tuple #[.map (some d.mb),Ag ad 4]∧L=(Ra B ad b tb most dm pm ps gs vl vg T Sl Sg l ds pn)):=by
 refine Zo 19 Tryz.func48 fun E w0 w h=>?_
 have h:=(h.eS [10] 6 rfl).eS [4] 7 rfl
 exact Qs (ZN [Ii n,Ii g] 34 h fun k1 w h=>ZP (.map none) (ZP .nilIface (Qm (ZP (Pp b) (ZG h (Gla 0 [Ii n,Ii g] 0) (ZC [3,3,3,3,2] (A7 ad b most tb dm pm ps gs vl vg T Sl Sg l ds pn hl hr n g k N hlk ha j d hj hdh hdd) h fun w h=>ZP (.tuple #[.map (some d.mb),.nilIface]) (ZP (.map (some d.mb)) (ZP .nilIface (ZP (.map (some d.mb)) (ZP .nilIface (Qu (ZP .nilIface (ZP (.bool false) (Fs (ZP (.map (some d.mb)) (ZP (.string s) (ZC [6] (Kp ad s hs hbad) h fun w h=>ZP (.map (some d.mb)) (ZP (Ag ad 4) (Qr (ZR [.map (some d.mb),Ag ad 4] [1,1,1,1,3,3,3] h ⟨rfl,rfl⟩))))))))))))))))))))
theorem U2 (hdd:(ds.map (·.h)).Nodup) (s:ByteArray) (hs:s.size≤9223372036854775807) (c:Nat) (m:Option Nat) (hd:Agr ps gs l ds n g s c m):Au Tryz.prog 48 #[Pp b,Hg n g,.string s] (Ra B ad b tb most dm pm ps gs vl vg T Sl Sg l ds pn) fun u L=>u=.tuple #[.map m,Ag ad (c+1)]∧L=(Ra B ad b tb most dm pm ps gs vl vg T Sl Sg l ds pn):=by
  rcases hd with ⟨h,rfl⟩|⟨rfl,h,k,N,j,d,h1,h2,h3,h4,rfl⟩
  · exact Ix ad b most tb dm pm ps gs vl vg T Sl Sg l ds pn hl hr n g s hs c h
  · exact In ad b most tb dm pm ps gs vl vg T Sl Sg l ds pn hl hr n g k N h1 h2 j d h3 h4 hdd s hs h
theorem Abl (hdd:(ds.map (·.h)).Nodup) (s:ByteArray) (hs:s.size≤9223372036854775807) (c:Nat) (m:Option Nat) (hd:Agr ps gs l ds n g s c m):Au Tryz.prog 17 #[Pp b,Hg n g,.string s] (Ra B ad b tb most dm pm ps gs vl vg T Sl Sg l ds pn) (fun u L=>u=.tuple #[Hg 0 0,Ag ad (c+1)]∧L=(Ra B ad b tb most dm pm ps gs vl vg T Sl Sg l ds pn)):=by
 refine Zo 31 Tryz.func17 fun E w0 w h=>?_
 refine Qs (ZN [Ii n,Ii g] 34 h fun k1 w h=>ZN [Ii 0,Ii 0] 34 h fun k2 w h=>ZP .nilIface (Qm (ZP (Pp b) (ZG h (Gla 0 [Ii n,Ii g] 1) (ZP (.string s) (ZC [2,2,2,2,2,2,2] (U2 ad b most tb dm pm ps gs vl vg T Sl Sg l ds pn hl hr n g hdd s hs c m hd) h fun w h=>ZP (.tuple #[.map m,Ag ad (c+1)]) (ZP (.map m) (ZP (Ag ad (c+1)) (ZP (.map m) (ZP (Ag ad (c+1)) (Qu (ZP (Ag ad (c+1)) (ZP (.bool true) (Qg (Qs (ZP (Hg 0 0) (ZP (Ag ad (c+1)) (ZSs [Ii 0,Ii 0] 7 rfl h fun w h=>ZP (Ag ad (c+1)) (Qr (Ar ?_))))))))))))))))))))
 refine B5 [Hg 0 0,Ag ad (c+1)] [0,0,0,0,0,0,0] h (by kernel_rfl) (Du 0 [Ii 0,Ii 0] (Hg 0 0) 7 rfl (by kernel_rfl) (Ei (by kernel_rfl) Dr)) ?_
 exact ⟨rfl,rfl⟩
theorem Abt (k:Nat) (N:ND) (hlk:l[k]?=some (some N)) (ha:Bk ps gs n g=some N.nb) (j:Nat) (d:DN) (hj:ds[j]?=some d) (hdh:d.h=(n,g)) (hdd:(ds.map (·.h)).Nodup) (s:ByteArray) (hs:s.size≤9223372036854775807) (hok:A0 s) (hx:Af d.es s=none):Au Tryz.prog 17 #[Pp b,Hg n g,.string s] (Ra B ad b tb most dm pm ps gs vl vg T Sl Sg l ds pn) (fun u L=>u=.tuple #[Hg 0 0,Ag ad 5]∧L=(Ra B ad b tb most dm pm ps gs vl vg T Sl Sg l ds pn)):=by
 refine Zo 31 Tryz.func17 fun E w0 w h=>?_
 have h:=((h.eS [10] 6 rfl).eS [4] 7 rfl).eS [5] 8 rfl
 refine Qs (ZN [Ii n,Ii g] 34 h fun k1 w h=>ZN [Ii 0,Ii 0] 34 h fun k2 w h=>ZP .nilIface (Qm (ZP (Pp b) (ZG h (Gla 0 [Ii n,Ii g] 1) (ZP (.string s) (ZC [5,5,5,5,4,3] (Cd ad b most tb dm pm ps gs vl vg T Sl Sg l ds pn hl hr n g k N hlk ha j d hj hdh hdd s hs hok) h fun w h=>?_))))))
 have h:=(h.pkr [9]).dirOpen hj
 refine ZP (.tuple #[.map (some d.mb),.nilIface]) (ZP (.map (some d.mb)) (ZP .nilIface (ZP (.map (some d.mb)) (ZP .nilIface (Qu (ZP .nilIface (ZP (.bool false) (Fs (ZP (.map (some d.mb)) (ZP (.string s) (ZG h (A4 (v':=.tuple #[Hg 0 0,.bool false]) (Gks (kv:=d.es.map Bd) true s 0 rfl) (by rw [Ed hx];rfl)) (ZP (.tuple #[Hg 0 0,.bool false]) (ZP (Hg 0 0) (ZP (.bool false) (ZN [Ii 0,Ii 0] 34 h fun k3 w h=>ZSs [Ii 0,Ii 0] 0 rfl h fun w h=>ZP (.bool false) (Qu (ZP (.bool false) (ZP (.bool true) (Qg (Aa (Ds 4 [11] h fun w h=>Dp 0 2 (Hg 0 0) [11] h (Dq 1 5 [11] rfl h (Gr 0 (Ag ad 5) 0 rfl (Ff (c:=5) (by decide) rfl)) (As 2 [11] 0 [Ii 0,Ii 0] [Ii 0,Ii 0] 9 rfl h fun w h=>Dp 3 7 (Ag ad 5) [11] h (Dd (Ai (Hv (Ar ?_)))))))))))))))))))))))))))
 have h:=(h.pkr [1,1]).dirBack (d:=d) hj
 refine B5 [Hg 0 0,Ag ad 5] [2,2,2,2,0,6,6] h (by kernel_rfl) (Du 0 [Ii 0,Ii 0] (Hg 0 0) 8 rfl (by kernel_rfl) (Ei (by kernel_rfl) Dr)) ?_
 exact ⟨rfl,rfl⟩
theorem Ps (hdd:(ds.map (·.h)).Nodup) (s:ByteArray) (hs:s.size≤9223372036854775807) (c:Nat) (hd:LkE ps gs l ds n g s c):Au Tryz.prog 17 #[Pp b,Hg n g,.string s] (Ra B ad b tb most dm pm ps gs vl vg T Sl Sg l ds pn) fun u L=>u=.tuple #[Hg 0 0,Ag ad (c+1)]∧L=(Ra B ad b tb most dm pm ps gs vl vg T Sl Sg l ds pn):=by
  rcases hd with ⟨m,h⟩|⟨rfl,h,k,N,j,d,h1,h2,h3,h4,h5⟩
  · exact Abl ad b most tb dm pm ps gs vl vg T Sl Sg l ds pn hl hr n g hdd s hs c m h
  · exact Abt ad b most tb dm pm ps gs vl vg T Sl Sg l ds pn hl hr n g k N h1 h2 j d h3 h4 hdd s hs h h5
end
end Go.Proofs.YtpojpkhpddnmjaaGreatDoor
