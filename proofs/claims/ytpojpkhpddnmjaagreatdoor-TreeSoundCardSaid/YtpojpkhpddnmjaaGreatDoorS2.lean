/- Lemmas: part 2. -/
import Derived.Test.YtpojpkhpddnmjaaGreatDoorS1
import Derived.Lib.SliceRun
import Derived.Laws.IdiomCopy
import Derived.IntWalk
import Derived.Lib.ConvBytes
import Derived.Deep.LoopGhost
set_option linter.all false
set_option maxRecDepth 100000
set_option maxHeartbeats 20000000
namespace Go.Proofs.YtpojpkhpddnmjaaGreatDoor
open Go.RowKit
section
variable {a:Act} {w w0:World} {En:Ent} {L:List Res} {dst:Option Tmp} {T:TypeId} {m x:Operand} {ty:TypeId} {pos:String} {after:Array Edge} {g:Option (Nat×Bool)} {r:Nat} {wr:Bool}
theorem Gks {kv:List (ByteArray×Value)} (ok:Bool) (k:ByteArray) (i:Nat) (hi:L[i]?=some (Ci wr r sk kv)) (hx:(a.eval m,a.eval x,Tryz.prog.underlying T)=(.map (some r),sk k,some (.map 9 34)):=by kernel_rfl) :
    Cp Tryz.prog w0 En L ⟨dst,.lookup T m x ok,ty,pos,after,g⟩ a (if ok then .tuple #[(Ae kv k).getD (.agg #[.int .i64 0,.int .i64 0]),.bool (Ae kv k).isSome] else (Ae kv k).getD (.agg #[.int .i64 0,.int .i64 0])):=
  H0 (K:=9) (E:=34) (z:=(.agg #[.int .i64 0,.int .i64 0])) (Cq (by kernel_rfl)) k hx (fun _=>by kernel_rfl) i hi
theorem Gkd {kv:List ((Int×Int)×Value)} (ok:Bool) (k:Int×Int) (i:Nat) (hi:L[i]?=some (Ci wr r hk kv)) (hx:(a.eval m,a.eval x,Tryz.prog.underlying T)=(.map (some r),hk k,some (.map 34 82)):=by kernel_rfl) :
    Cp Tryz.prog w0 En L ⟨dst,.lookup T m x ok,ty,pos,after,g⟩ a (if ok then .tuple #[(Ae kv k).getD (.map none),.bool (Ae kv k).isSome] else (Ae kv k).getD (.map none)):=
  H0 (K:=34) (E:=82) (z:=(.map none)) Dm k hx (fun _=>by kernel_rfl) i hi
theorem Gkp {kv:List ((Int×Int)×Value)} (ok:Bool) (k:Int×Int) (i:Nat) (hi:L[i]?=some (Ci wr r hk kv)) (hx:(a.eval m,a.eval x,Tryz.prog.underlying T)=(.map (some r),hk k,some (.map 34 3)):=by kernel_rfl) :
    Cp Tryz.prog w0 En L ⟨dst,.lookup T m x ok,ty,pos,after,g⟩ a (if ok then .tuple #[(Ae kv k).getD (.int .i64 0),.bool (Ae kv k).isSome] else (Ae kv k).getD (.int .i64 0)):=
  H0 (K:=34) (E:=3) (z:=(.int .i64 0)) Dm k hx (fun _=>by kernel_rfl) i hi
end
theorem R7 {B:Nat} (ad:Nat→Addr) (b:Nat) (kind:Int) (ps:List (Option Nat)) (gs:List Int) (vl vg:Value) (T:TypeId) (Sl Sg:Nat→Prop) (hk:kind=1∨kind=2) (hl:ps.length≤300) (hf:Fy ps=none):Ap Tryz.prog 30 #[.pointer (some ⟨b,0,none⟩),.int .i64 kind] [B5 b ps gs vl vg T Sl Sg,Bs B ad [9]] fun u L=>u=.tuple #[Ng 0 0,Ag ad 9]∧L=[B5 b ps gs vl vg T Sl Sg,Bs B ad [9]]:=fun E w0 w ho=>
  (Yt ad b kind ps gs vl vg T Sl Sg w (ho.fact 1 rfl) (ho.fact 0 rfl) hk hl hf).mono fun e w' ⟨he,hc⟩=>⟨_,_,⟨rfl,rfl⟩,he,ho.quiet hc⟩
theorem Jj {B:Nat} (ad:Nat→Addr) (b k nb:Nat) (g:Int) (ps:List (Option Nat)) (gs:List Int) (vl vg:Value) (T:TypeId) (Sl Sg:Nat→Prop) (l:List (Option ND)) (hl:ps.length=gs.length) (hr:∀ x∈gs,0≤x∧x≤1000000) (hk:k<ps.length) (hs:Bm ps gs k g=some nb) :
    Ap Tryz.prog 90 #[.pointer (some ⟨b,0,none⟩),.agg #[.int .i64 (k:Int),.int .i64 g]] [B5 b ps gs vl vg T Sl Sg,Cn l,Bs B ad [10]] fun u L=>u=.nilIface∧L=[B5 b (ps.set k none) gs vl vg T Sl Sg,Cn (l.set k none),Bs B ad [10]]:=fun E w0 w ho=>
  (Aam ad b k nb g ps gs vl vg T Sl Sg w (ho.fact 2 rfl) (ho.fact 0 rfl) hl hr hk hs).mono fun e w' ⟨he,hc,ht⟩=>by
    have h1:=ho.upd 0 (r:=B5 b ps gs vl vg T Sl Sg) (r':=B5 b (ps.set k none) gs vl vg T Sl Sg) rfl rfl (hc.mono fun x _ hx=>.inr (.inl hx)) ht fun x hx=>.inl hx
    have h2:Own w0 E (Cn l::[B5 b (ps.set k none) gs vl vg T Sl Sg,Bs B ad [10]]) w':=h1.pick [1,0,0]
    exact ⟨_,_,⟨rfl,rfl⟩,he,(h2.ndFree k).pick [1,0,0]⟩

section
open Go.RowKit Go.Lib
section
variable {α:Type} {enc:α→List Value} {k:Nat} {P:Program}
end
end
section
variable {P:Program} {a:Act} {w w0:World} {E:Ent} {L M:List Res} {K:Act→World→Prop} {Q:Exit→Act→World→Prop} {ops:Array Oper} {rest:List Oper}
variable {dst:Option Tmp} {x y:Operand} {T T2 ty:TypeId} {pos:String} {after:Array Edge} {g:Option (Nat×Bool)} {v:Value} {d k n:Nat} {xs:List Value}
variable {α:Type} {enc:α→List Value} {l:List α}
theorem Own.cut {m:Nat} (he:∀ x,(enc x).length=k) (h:Own w0 E L w) (i:Nat) (hi':L[i]?=some (Bf true v d k enc l)) (hm:m≤l.length):Own w0 E (L.set i (Bf true (Lf k v 0 m) d k enc (l.take m))) w:=by
  have hf:Bc w v d k l.length (l.flatMap enc) (Gx v):=h.fact i hi'
  have hb:Gx (Lf k v 0 m)=Gx v:=by
    obtain ⟨ad,cap,rfl⟩:=hf.shape
    rw [Kz]
    cases ad<;>rfl
  refine h.upd i hi' rfl (Chg.refl _ _) ?_ (fun y hy=>.inl (show Gx v y from hb▸hy))
  show Bc w (Lf k v 0 m) d k (l.take m).length ((l.take m).flatMap enc) (Gx (Lf k v 0 m))
  rw [hb]
  have hl:(l.take m).length=m:=by rw [List.length_take,Nat.min_eq_left hm]
  obtain ⟨e,⟨rfl,h2⟩|⟨g,off,cap,cs,rfl,hbk,h2,h3,h4,h5,h6⟩⟩:=hf
  · have h2':l.length=0:=h2
    obtain rfl:m=0:=by omega
    rw [Kz]
    exact ⟨by simp,.inl ⟨rfl,by simp⟩⟩
  · rw [Kz,hl]
    refine ⟨by rw [F4 enc he,hl],.inr ⟨g,off,cap,cs,rfl,hbk,by omega,h3,h4,fun j u hj=>h5 j u ?_,h6⟩⟩
    have e5:l.flatMap enc=(l.take m).flatMap enc++(l.drop m).flatMap enc:=by rw [← List.flatMap_append,List.take_append_drop]
    rw [e5,List.getElem?_append_left (List.getElem?_eq_some_iff.1 hj).1];exact hj
variable {br:Nat→Bool} {fuel i0:Nat} {listed:Array Bool} {is:List Nat}
end
section
variable {P:Program} {a:Act} {w w0:World} {E:Ent} {L:List Res} {dst:Option Tmp} {x y:Operand} {T ty:TypeId} {pos:String} {after:Array Edge} {g:Option (Nat×Bool)} {u v:Int}
theorem Aap (hx:(a.eval x,a.eval y)=(.int .i64 u,.int .i64 v)):Cp P w0 E L ⟨dst,.call { callee:=.builtin .min,args:=#[x,y],argTypes:=#[T,T] },ty,pos,after,g⟩ a (.int .i64 (min u v)):=fun w _=>by
  simp only [Prod.mk.injEq] at hx
  have e:(if v<u then v else u)=min u v:=by split<;>omega
  simp [execOp,resolve,invoke,builtin,hx.1,hx.2,Builtin.min_,Builtin.min2,Result.andThen]
  rw [e]
theorem Own.pickE {L M:List Res} (h:Own w0 E L w) (is:List Nat) (e:pk is L=M):Own w0 E M w:=e▸h.pick is
end
section
open Go.RowKit Go.Lib
def Co (n:Nat):Bool:=decide (97≤n∧n≤122)||decide (65≤n∧n≤90)||decide (48≤n∧n≤57)||n==46||n==45||n==95
def Afr (n:Nat):Int:=bits .or .u8 (n:Int) 32
theorem Vm:∀ n:Fin 256,(decide (97≤Afr n.val)&&decide (Afr n.val≤122))=(decide (97≤n.val∧n.val≤122)||decide (65≤n.val∧n.val≤90)):=by decide +kernel
theorem Zu (n:Nat) (hn:n<256) (w:World):Calls Tryz.prog 89 #[.int .u8 n] w fun e w'=>e=.returned (.bool (Co n))∧w=w':=by
  have hl:=Vm ⟨n,hn⟩
  simp only at hl
  obtain ⟨q,hq⟩:∃ q,q=bits .or .u8 (n:Int) 32:=⟨_,rfl⟩
  have hq2:Afr n=q:=hq.symm
  rw [hq2] at hl
  have hS:Co n=((decide (97≤q)&&decide (q≤122))||decide (48≤n∧n≤57)||n==46||n==45||n==95):=by unfold Co;rw [hl]
  have HS:=Lib.hid hS
  have hbo:bits .or .u8 (n:Int) 32=q:=hq.symm
  clear hl hq hq2 hS
  by_cases h1:97≤q
  · by_cases h2:q≤122
    · have HX:=Lib.hid (show Co n=true by rw [HS.out];simp [h1,h2])
      go_enter Tryz.func89,Tryz.ntmps89
      go_wp2_with fail
      go_ret
      exact ⟨by rw [HX.out];rfl,rfl⟩
    · have hB:decide (q≤122)=false:=by simpa using h2
      have HQ:=Lib.hid (show (decide (97≤q)&&decide (q≤122))=false by rw [hB,Bool.and_false])
      clear h2
      by_cases d1:48≤n
      · by_cases d2:n≤57
        · have HX:=Lib.hid (show Co n=true by rw [HS.out];simp [d1,d2])
          have e1:(48:Int)≤(n:Int):=by omega
          have e2:(n:Int)≤57:=by omega
          clear d1 d2
          go_enter Tryz.func89,Tryz.ntmps89
          go_wp2_with fail
          go_ret
          exact ⟨by rw [HX.out];rfl,rfl⟩
        · have e1:(48:Int)≤(n:Int):=by omega
          have e2:decide ((n:Int)≤57)=false:=by simp;omega
          have HD:=Lib.hid (show decide (48≤n∧n≤57)=false by simp;omega)
          clear d1
          by_cases n46:n=46
          · have HX:=Lib.hid (show Co n=true by rw [HS.out];simp [n46])
            have s46:((n:Int)==46)=true:=by simp;omega
            clear n46
            go_enter Tryz.func89,Tryz.ntmps89
            go_wp2_with fail
            go_ret
            exact ⟨by rw [HX.out];rfl,rfl⟩
          by_cases n45:n=45
          · have HX:=Lib.hid (show Co n=true by rw [HS.out];simp [n45])
            have s45:((n:Int)==45)=true:=by simp;omega
            have s46:((n:Int)==46)=false:=by simp;omega
            clear n45 n46
            go_enter Tryz.func89,Tryz.ntmps89
            go_wp2_with fail
            go_ret
            exact ⟨by rw [HX.out];rfl,rfl⟩
          by_cases n95:n=95
          · have HX:=Lib.hid (show Co n=true by rw [HS.out];simp [n95])
            have s95:((n:Int)==95)=true:=by simp;omega
            have s46:((n:Int)==46)=false:=by simp;omega
            have s45:((n:Int)==45)=false:=by simp;omega
            clear n95 n46 n45
            go_enter Tryz.func89,Tryz.ntmps89
            go_wp2_with fail
            go_ret
            exact ⟨by rw [HX.out];rfl,rfl⟩
          have HX:=Lib.hid (show Co n=false by rw [HS.out,HD.out,HQ.out];simp [n46,n45,n95])
          have s46:((n:Int)==46)=false:=by simp;omega
          have s45:((n:Int)==45)=false:=by simp;omega
          have s95:((n:Int)==95)=false:=by simp;omega
          clear n46 n45 n95
          go_enter Tryz.func89,Tryz.ntmps89
          go_wp2_with fail
          go_ret
          exact ⟨by rw [HX.out];rfl,rfl⟩
      · have e1:decide ((48:Int)≤(n:Int))=false:=by simp;omega
        have HD:=Lib.hid (show decide (48≤n∧n≤57)=false by simp;omega)
        clear d1
        by_cases n46:n=46
        · have HX:=Lib.hid (show Co n=true by rw [HS.out];simp [n46])
          have s46:((n:Int)==46)=true:=by simp;omega
          clear n46
          go_enter Tryz.func89,Tryz.ntmps89
          go_wp2_with fail
          go_ret
          exact ⟨by rw [HX.out];rfl,rfl⟩
        by_cases n45:n=45
        · have HX:=Lib.hid (show Co n=true by rw [HS.out];simp [n45])
          have s45:((n:Int)==45)=true:=by simp;omega
          have s46:((n:Int)==46)=false:=by simp;omega
          clear n45 n46
          go_enter Tryz.func89,Tryz.ntmps89
          go_wp2_with fail
          go_ret
          exact ⟨by rw [HX.out];rfl,rfl⟩
        by_cases n95:n=95
        · have HX:=Lib.hid (show Co n=true by rw [HS.out];simp [n95])
          have s95:((n:Int)==95)=true:=by simp;omega
          have s46:((n:Int)==46)=false:=by simp;omega
          have s45:((n:Int)==45)=false:=by simp;omega
          clear n95 n46 n45
          go_enter Tryz.func89,Tryz.ntmps89
          go_wp2_with fail
          go_ret
          exact ⟨by rw [HX.out];rfl,rfl⟩
        have HX:=Lib.hid (show Co n=false by rw [HS.out,HD.out,HQ.out];simp [n46,n45,n95])
        have s46:((n:Int)==46)=false:=by simp;omega
        have s45:((n:Int)==45)=false:=by simp;omega
        have s95:((n:Int)==95)=false:=by simp;omega
        clear n46 n45 n95
        go_enter Tryz.func89,Tryz.ntmps89
        go_wp2_with fail
        go_ret
        exact ⟨by rw [HX.out];rfl,rfl⟩
  · have hA:decide (97≤q)=false:=by simpa using h1
    have HQ:=Lib.hid (show (decide (97≤q)&&decide (q≤122))=false by rw [hA,Bool.false_and])
    clear h1
    by_cases d1:48≤n
    · by_cases d2:n≤57
      · have HX:=Lib.hid (show Co n=true by rw [HS.out];simp [d1,d2])
        have e1:(48:Int)≤(n:Int):=by omega
        have e2:(n:Int)≤57:=by omega
        clear d1 d2
        go_enter Tryz.func89,Tryz.ntmps89
        go_wp2_with fail
        go_ret
        exact ⟨by rw [HX.out];rfl,rfl⟩
      · have e1:(48:Int)≤(n:Int):=by omega
        have e2:decide ((n:Int)≤57)=false:=by simp;omega
        have HD:=Lib.hid (show decide (48≤n∧n≤57)=false by simp;omega)
        clear d1
        by_cases n46:n=46
        · have HX:=Lib.hid (show Co n=true by rw [HS.out];simp [n46])
          have s46:((n:Int)==46)=true:=by simp;omega
          clear n46
          go_enter Tryz.func89,Tryz.ntmps89
          go_wp2_with fail
          go_ret
          exact ⟨by rw [HX.out];rfl,rfl⟩
        by_cases n45:n=45
        · have HX:=Lib.hid (show Co n=true by rw [HS.out];simp [n45])
          have s45:((n:Int)==45)=true:=by simp;omega
          have s46:((n:Int)==46)=false:=by simp;omega
          clear n45 n46
          go_enter Tryz.func89,Tryz.ntmps89
          go_wp2_with fail
          go_ret
          exact ⟨by rw [HX.out];rfl,rfl⟩
        by_cases n95:n=95
        · have HX:=Lib.hid (show Co n=true by rw [HS.out];simp [n95])
          have s95:((n:Int)==95)=true:=by simp;omega
          have s46:((n:Int)==46)=false:=by simp;omega
          have s45:((n:Int)==45)=false:=by simp;omega
          clear n95 n46 n45
          go_enter Tryz.func89,Tryz.ntmps89
          go_wp2_with fail
          go_ret
          exact ⟨by rw [HX.out];rfl,rfl⟩
        have HX:=Lib.hid (show Co n=false by rw [HS.out,HD.out,HQ.out];simp [n46,n45,n95])
        have s46:((n:Int)==46)=false:=by simp;omega
        have s45:((n:Int)==45)=false:=by simp;omega
        have s95:((n:Int)==95)=false:=by simp;omega
        clear n46 n45 n95
        go_enter Tryz.func89,Tryz.ntmps89
        go_wp2_with fail
        go_ret
        exact ⟨by rw [HX.out];rfl,rfl⟩
    · have e1:decide ((48:Int)≤(n:Int))=false:=by simp;omega
      have HD:=Lib.hid (show decide (48≤n∧n≤57)=false by simp;omega)
      clear d1
      by_cases n46:n=46
      · have HX:=Lib.hid (show Co n=true by rw [HS.out];simp [n46])
        have s46:((n:Int)==46)=true:=by simp;omega
        clear n46
        go_enter Tryz.func89,Tryz.ntmps89
        go_wp2_with fail
        go_ret
        exact ⟨by rw [HX.out];rfl,rfl⟩
      by_cases n45:n=45
      · have HX:=Lib.hid (show Co n=true by rw [HS.out];simp [n45])
        have s45:((n:Int)==45)=true:=by simp;omega
        have s46:((n:Int)==46)=false:=by simp;omega
        clear n45 n46
        go_enter Tryz.func89,Tryz.ntmps89
        go_wp2_with fail
        go_ret
        exact ⟨by rw [HX.out];rfl,rfl⟩
      by_cases n95:n=95
      · have HX:=Lib.hid (show Co n=true by rw [HS.out];simp [n95])
        have s95:((n:Int)==95)=true:=by simp;omega
        have s46:((n:Int)==46)=false:=by simp;omega
        have s45:((n:Int)==45)=false:=by simp;omega
        clear n95 n46 n45
        go_enter Tryz.func89,Tryz.ntmps89
        go_wp2_with fail
        go_ret
        exact ⟨by rw [HX.out];rfl,rfl⟩
      have HX:=Lib.hid (show Co n=false by rw [HS.out,HD.out,HQ.out];simp [n46,n45,n95])
      have s46:((n:Int)==46)=false:=by simp;omega
      have s45:((n:Int)==45)=false:=by simp;omega
      have s95:((n:Int)==95)=false:=by simp;omega
      clear n46 n45 n95
      go_enter Tryz.func89,Tryz.ntmps89
      go_wp2_with fail
      go_ret
      exact ⟨by rw [HX.out];rfl,rfl⟩
theorem M3 (n:Nat) (hn:n<256) (w:World):Calls Tryz.prog 88 #[.int .u8 n] w fun e w'=>e=.returned (.bool (!(Co n)))∧w=w':=by
  go_enter Tryz.func88,Tryz.ntmps88
  go_wp2_with fail
  refine (Zu n hn w).mono ?_
  rintro e w1 ⟨rfl,rfl⟩
  go_wp2_with fail
  go_ret
  exact ⟨rfl,rfl⟩
def H3 (l:List UInt8):Option Nat:=l.findIdx? fun b=>!(Co b.toNat)
def ixI:Option Nat→Int
  | some k=>(k:Int)
  | none=>-1
theorem F9 {l:List UInt8} {k:Nat} {f:UInt8} (h:l[k]?=some f):l.take (k+1)=l.take k++[f]:=by rw [List.take_add_one,h];rfl
def RelIx (l:List UInt8) (w:World) (i:Value) (wr:World):Prop:=∃ k:Nat,k≤l.length∧i=.int .i64 k∧w=wr∧∀ b∈l.take k,Co b.toNat=true
theorem Pv (g n c:Nat) (l:List UInt8) (hl:n=l.length) (hc:n≤c) (h63:n≤9223372036854775807) (w:World) (hcell:∀ k b,l[k]?=some b→w.cell? ⟨g,k,none⟩=some (.int .u8 b.toNat)) :
    Calls Tryz.prog 106 #[.slice (some ⟨g,0,none⟩) n c,.func (.func 88) #[] #[]] w fun e w'=>e=.returned (.int .i64 (ixI (H3 l)))∧w=w':=by
  have HL:=Lib.hid hl
  have HCE:=Lib.hid hcell
  clear hl hcell
  go_enter Tryz.func106,Tryz.ntmps106
  go_wp2_with fail
  go_loopw [8] (fun i wr=>RelIx l w i wr) (fun i _=>(n - RowKit.intOf i).toNat)
  case atStart=>exact ⟨0,Nat.zero_le _,rfl,rfl,by simp⟩
  case round=>
    obtain ⟨k,hk,rfl,rfl,hall⟩:=hrel
    have HA:=Lib.hid hall
    clear hall
    have hkn:k≤n:=by rw [HL.out];exact hk
    by_cases hlt:k<n
    · obtain ⟨b,hb⟩:∃ b,l[k]?=some b:=⟨l[k]'(by rw [← HL.out];exact hlt),List.getElem?_eq_getElem _⟩
      have c0:=HCE.out k b hb
      have j0:(0:Int)≤(k:Int):=by omega
      have j1:(k:Int)<(n:Int):=by omega
      have HB:=Lib.hid hb
      clear hb
      have hb256:=b.toNat_lt
      by_cases hs:Co b.toNat=true
      · have HS:=Lib.hid hs
        clear hs
        go_wp2_with fail
        refine (M3 b.toNat hb256 _).mono ?_
        rintro e w1 ⟨rfl,rfl⟩
        rw [HS.out]
        go_wp2_with fail
        go_roundw
        case rel=>exact ⟨k+1,by rw [← HL.out];omega,by go_num,rfl,fun x hx=>by
          rw [F9 HB.out] at hx
          rcases List.mem_append.1 hx with hx|hx
          · exact HA.out x hx
          · rw [List.mem_singleton.1 hx];exact HS.out⟩
        case measure=>simp [RowKit.intOf];omega
      · have hs2:Co b.toNat=false:=by simpa using hs
        have HS:=Lib.hid hs2
        have HX:=Lib.hid (show H3 l=some k by
          unfold H3
          rw [List.findIdx?_eq_some_iff_getElem]
          obtain ⟨hkl,e⟩:=List.getElem?_eq_some_iff.1 HB.out
          refine ⟨hkl,by rw [e,hs2];rfl,fun j hj=>?_⟩
          have:=HA.out (l[j]'(by omega)) (by rw [List.mem_iff_getElem?];exact ⟨j,by rw [List.getElem?_take,if_pos hj];exact List.getElem?_eq_getElem _⟩)
          simp [this])
        clear hs hs2
        go_wp2_with fail
        refine (M3 b.toNat hb256 _).mono ?_
        rintro e w1 ⟨rfl,rfl⟩
        rw [HS.out]
        go_wp2_with fail
        go_ret
        exact ⟨by rw [HX.out];rfl,rfl⟩
    · obtain rfl:k=n:=by omega
      have HX:=Lib.hid (show H3 l=none by
        unfold H3
        rw [List.findIdx?_eq_none_iff]
        intro x hx
        have:=HA.out x (by rw [HL.out,List.take_of_length_le (Nat.le_refl _)];exact hx)
        simp [this])
      go_wp2_with fail
      go_ret
      exact ⟨by rw [HX.out];rfl,rfl⟩
theorem R1 (g n c:Nat) (l:List UInt8) (hl:n=l.length) (hc:n≤c) (h63:n≤9223372036854775807) (w:World) (hcell:∀ k b,l[k]?=some b→w.cell? ⟨g,k,none⟩=some (.int .u8 b.toNat)) :
    Calls Tryz.prog 87 #[.slice (some ⟨g,0,none⟩) n c,.func (.func 88) #[] #[]] w fun e w'=>e=.returned (.bool (H3 l).isSome)∧w=w':=by
  have HI:=Lib.hid (Pv g n c l hl hc h63 w hcell)
  clear hl hcell
  cases hb:H3 l with
  | none=>
    rw [hb] at HI
    simp only [ixI] at HI
    clear hb
    go_enter Tryz.func87,Tryz.ntmps87
    go_wp2_with fail
    refine HI.out.mono ?_
    rintro e w1 ⟨rfl,rfl⟩
    go_wp2_with fail
    go_ret
    exact ⟨rfl,rfl⟩
  | some k=>
    rw [hb] at HI
    simp only [ixI] at HI
    clear hb
    have hk0:(0:Int)≤(k:Int):=by omega
    go_enter Tryz.func87,Tryz.ntmps87
    go_wp2_with fail
    refine HI.out.mono ?_
    rintro e w1 ⟨rfl,rfl⟩
    go_wp2_with fail
    go_ret
    exact ⟨rfl,rfl⟩
end
section
open Go.RowKit Go.Lib
theorem O0 {k:ByteArray} {l:List UInt8} (h:¬k=⟨l.toArray⟩):(k.toList==l)=false:=by
  rw [beq_eq_false_iff_ne]
  intro e
  apply h
  have e2:k.data.toList=l:=by rw [← e];exact (ByteArray.toList_eq k).symm
  obtain ⟨d⟩:=k
  simp only at e2
  subst e2
  rfl
end
section
open Go.RowKit Go.Lib
def Aan:ByteArray:=⟨#[46]⟩
def Aa3:ByteArray:=⟨#[46,46]⟩
def A0 (s:ByteArray):Prop:=1≤s.size∧s.size≤24∧s≠Aan∧s≠Aa3∧H3 s.data.toList=none
instance (s:ByteArray):Decidable (A0 s):=by unfold A0;infer_instance
def Hr (s:ByteArray):Nat:=if A0 s then 0 else 4
theorem C5 {s:ByteArray} (h:¬A0 s):Hr s=4:=if_neg h
theorem Bg {s:ByteArray} (h:A0 s):Hr s=0:=if_pos h
theorem Abe (w:World) (s:ByteArray):∃ cap W,(convert 9 167 (.string s)).run Tryz.prog w=.ok (.slice (some ⟨w.heap.size,0,none⟩) s.size cap) W∧Chg Nil w W∧s.size≤cap∧∀ k b,s.data.toList[k]?=some b→W.cell? ⟨w.heap.size,k,none⟩=some (.int .u8 b.toNat):=by
  refine ⟨_,_,Lib.run_convert_string_bytes (P:=Tryz.prog) w 9 167 5 s Tryz.underlying9 Tryz.underlying167 Tryz.underlying5,⟨rfl,rfl,rfl,by rw [Lib.bytesWorld_size];omega,fun k hk _=>Lib.bytesWorld_at_old w _ s k hk⟩,grownCap_ge _ _ _ _,fun k b hb=>?_⟩
  have hk:k<s.size:=by have:=(List.getElem?_eq_some_iff.1 hb).1;rwa [Array.length_toList] at this
  rw [Lib.bytesWorld_cell w _ s k hk]
  simp [List.getD,hb]
theorem Ya {B:Nat} (ad:Nat→Addr) (s:ByteArray) (w:World) (he:Env B ad [4] w) (hs:s.size≤9223372036854775807) :
    Calls Tryz.prog 53 #[.string s] w fun e w'=>e=.returned (Ag ad (Hr s))∧Chg Nil w w':=by
  obtain ⟨q1,q1l⟩:=he.get (c:=4) (by simp)
  simp only [gl] at q1 q1l
  have HE:=Lib.hid he
  clear he
  by_cases h0:s=⟨#[]⟩
  · have HX:=Lib.hid (C5 (s:=s) (fun h=>by have:=h.1;rw [h0] at this;simp [ByteArray.size] at this))
    rw [HX.out]
    subst h0
    go_enter Tryz.func53,Tryz.ntmps53
    go_wp2_with fail
    go_ret
    exact ⟨rfl,Chg.refl _ _⟩
  have hne:=O0 (l:=[]) h0
  by_cases h1:24<s.size
  · have HX:=Lib.hid (C5 (s:=s) (fun h=>by have:=h.2.1;omega))
    rw [HX.out]
    have h1d:decide ((s.size:Int)≤24)=false:=by simp;omega
    clear h0
    go_enter Tryz.func53,Tryz.ntmps53
    go_wp2_with fail
    go_ret
    exact ⟨rfl,Chg.refl _ _⟩
  have h1I:(s.size:Int)≤24:=by omega
  by_cases h2:s=Aan
  · have HX:=Lib.hid (C5 (s:=s) (fun h=>h.2.2.1 h2))
    rw [HX.out]
    subst h2
    unfold Aan at *
    go_enter Tryz.func53,Tryz.ntmps53
    go_wp2_with fail
    go_ret
    exact ⟨rfl,Chg.refl _ _⟩
  have h2n:=O0 (l:=[46]) h2
  by_cases h3:s=Aa3
  · have HX:=Lib.hid (C5 (s:=s) (fun h=>h.2.2.2.1 h3))
    rw [HX.out]
    subst h3
    unfold Aa3 at *
    go_enter Tryz.func53,Tryz.ntmps53
    go_wp2_with fail
    go_ret
    exact ⟨rfl,Chg.refl _ _⟩
  have h3n:=O0 (l:=[46,46]) h3
  have hp:1≤s.size:=by
    rcases Nat.eq_zero_or_pos s.size with h|h
    · exfalso;apply h0;apply ByteArray.ext;exact Array.eq_empty_of_size_eq_zero h
    · exact h
  have HOK:=Lib.hid (show A0 s↔H3 s.data.toList=none from ⟨fun h=>h.2.2.2.2,fun h=>⟨hp,by omega,h2,h3,h⟩⟩)
  clear h0 h2 h3
  go_enter Tryz.func53,Tryz.ntmps53
  obtain ⟨cap,W,hcv,hcw,hcap,hcell⟩:=Abe w s
  have HCW:=Lib.hid hcw
  have HCC:=Lib.hid (R1 w.heap.size s.size cap s.data.toList Array.length_toList.symm hcap hs W hcell)
  obtain ⟨q2,q2l⟩:=(HE.out.keepN hcw).get (c:=4) (by simp)
  simp only [gl] at q2 q2l
  clear hcw hcap hcell
  cases hb:H3 s.data.toList with
  | none=>
    have HX:=Lib.hid (Bg (HOK.out.2 hb))
    rw [hb] at HCC
    clear hb
    go_wp2_with fail
    refine HCC.out.mono ?_
    rintro e w2 ⟨rfl,rfl⟩
    go_wp2_with fail
    go_ret
    exact ⟨by rw [HX.out];rfl,HCW.out⟩
  | some k=>
    have HX:=Lib.hid (C5 (s:=s) (fun h=>by have:=HOK.out.1 h;rw [hb] at this;cases this))
    rw [hb] at HCC
    clear hb
    go_wp2_with fail
    refine HCC.out.mono ?_
    rintro e w2 ⟨rfl,rfl⟩
    go_wp2_with fail
    go_ret
    exact ⟨by rw [HX.out];rfl,HCW.out⟩
end

section
open Go.RowKit Go.Lib
def RelNE (s:ByteArray) (w:World) (i:Value) (wr:World):Prop:=∃ k:Nat,k≤s.size∧i=.int .i64 k∧w=wr∧∀ b∈s.data.toList.take k,Co b.toNat=true
theorem Q4 {l:List UInt8} {k:Nat} {b:UInt8} (h:l[k]?=some b) (hb:Co b.toNat=false):H3 l≠none:=by
  unfold H3
  intro e
  rw [List.findIdx?_eq_none_iff] at e
  have:=e b (List.mem_of_getElem? h)
  rw [hb] at this
  cases this
theorem Ab5 {l:List UInt8} (h:∀ b∈l,Co b.toNat=true):H3 l=none:=by
  unfold H3
  rw [List.findIdx?_eq_none_iff]
  intro x hx
  rw [h x hx];rfl
theorem Yv {s:ByteArray} {k:Nat} (h:k<s.size):s.data.toList[k]?=some s[k]:=by
  have hkl:k<s.data.toList.length:=by rw [Array.length_toList];exact h
  rw [List.getElem?_eq_getElem hkl];rfl
theorem Pu (s:ByteArray) (w:World) (hs:s.size≤9223372036854775807) :
    Calls Tryz.prog 60 #[.string s] w fun e w'=>e=.returned (.int .i64 (Hr s:Nat))∧w=w':=by
  by_cases h0:s.size<1
  · have HX:=Lib.hid (C5 (s:=s) (fun h=>by have:=h.1;omega))
    rw [HX.out]
    go_enter Tryz.func60,Tryz.ntmps60
    go_wp2_with fail
    go_ret
    exact ⟨rfl,rfl⟩
  have h0d:decide (s.size<1)=false:=by simpa using h0
  have h0e:s.size≠0:=by omega
  by_cases h1:24<s.size
  · have HX:=Lib.hid (C5 (s:=s) (fun h=>by have:=h.2.1;omega))
    rw [HX.out]
    go_enter Tryz.func60,Tryz.ntmps60
    go_wp2_with fail
    go_ret
    exact ⟨rfl,rfl⟩
  have h1d:decide (24<s.size)=false:=by simpa using h1
  by_cases h2:s=Aan
  · have HX:=Lib.hid (C5 (s:=s) (fun h=>h.2.2.1 h2))
    rw [HX.out]
    subst h2
    unfold Aan at *
    clear h0d h1d h0 h1 h0e
    go_enter Tryz.func60,Tryz.ntmps60
    go_wp2_with fail
    go_ret
    exact ⟨rfl,rfl⟩
  have h2n:=O0 (l:=[46]) h2
  by_cases h3:s=Aa3
  · have HX:=Lib.hid (C5 (s:=s) (fun h=>h.2.2.2.1 h3))
    rw [HX.out]
    subst h3
    unfold Aa3 at *
    clear h0d h1d h0 h1 h0e
    go_enter Tryz.func60,Tryz.ntmps60
    go_wp2_with fail
    go_ret
    exact ⟨rfl,rfl⟩
  have h3n:=O0 (l:=[46,46]) h3
  have HOK:=Lib.hid (show A0 s↔H3 s.data.toList=none from ⟨fun h=>h.2.2.2.2,fun h=>⟨by omega,by omega,h2,h3,h⟩⟩)
  clear h2 h3
  go_enter Tryz.func60,Tryz.ntmps60
  go_wp2_with fail
  go_loopw [3] (fun i wr=>RelNE s w i wr) (fun i _=>(s.size - RowKit.intOf i).toNat)
  case atStart=>exact ⟨0,Nat.zero_le _,rfl,rfl,by simp⟩
  case round=>
    obtain ⟨k,hk,rfl,rfl,hall⟩:=hrel
    have HA:=Lib.hid hall
    clear hall
    by_cases hlt:k<s.size
    · have j0:(0:Int)≤(k:Int):=by omega
      have j1:(k:Int)<(s.size:Int):=by omega
      have HB:=Lib.hid (Yv hlt)
      obtain ⟨n,hn⟩:∃ n:Nat,n=s[k].toNat:=⟨_,rfl⟩
      have HN:=Lib.hid hn
      have hnI:((s[k].toNat:Nat):Int)=(n:Int):=by rw [hn]
      clear hn
      rcases (show (n<45∨n=47)∨n=45∨n=46∨(48≤n∧n≤57)∨(58≤n∧n≤64)∨(65≤n∧n≤90)∨((91≤n∧n≤94)∨n=96)∨n=95∨(97≤n∧n≤122)∨123≤n by omega) with hz|hz|hz|hz|hz|hz|hz|hz|hz|hz
      · have t1:decide ((97:Int)≤(n:Int))=false:=by simp;omega
        have t2:decide ((n:Int)≤122)=true:=by simp;omega
        have t3:decide ((65:Int)≤(n:Int))=false:=by simp;omega
        have t4:decide ((n:Int)≤90)=true:=by simp;omega
        have t5:decide ((48:Int)≤(n:Int))=false:=by simp;omega
        have t6:decide ((n:Int)≤57)=true:=by simp;omega
        have t7:((n:Int) != 46)=true:=by simp;omega
        have t8:((n:Int) != 45)=true:=by simp;omega
        have t9:((n:Int) != 95)=true:=by simp;omega
        have HS:=Lib.hid (show Co n=false by unfold Co;simp;omega)
        clear hz
        have HX:=Lib.hid (C5 (s:=s) (fun h=>Q4 HB.out (by rw [← HN.out];exact HS.out) (HOK.out.1 h)))
        go_wp2_with fail
        go_ret
        exact ⟨by rw [HX.out];rfl,rfl⟩
      · have t1:decide ((97:Int)≤(n:Int))=false:=by simp;omega
        have t2:decide ((n:Int)≤122)=true:=by simp;omega
        have t3:decide ((65:Int)≤(n:Int))=false:=by simp;omega
        have t4:decide ((n:Int)≤90)=true:=by simp;omega
        have t5:decide ((48:Int)≤(n:Int))=false:=by simp;omega
        have t6:decide ((n:Int)≤57)=true:=by simp;omega
        have t7:((n:Int) != 46)=true:=by simp;omega
        have t8:((n:Int) != 45)=false:=by simp;omega
        have t9:((n:Int) != 95)=true:=by simp;omega
        have HS:=Lib.hid (show Co n=true by unfold Co;simp;omega)
        clear hz
        go_wp2_with fail
        go_roundw
        case rel=>exact ⟨k+1,by omega,by go_num,rfl,fun x hx=>by
          rw [F9 HB.out] at hx
          rcases List.mem_append.1 hx with hx|hx
          · exact HA.out x hx
          · rw [List.mem_singleton.1 hx,← HN.out];exact HS.out⟩
        case measure=>simp [RowKit.intOf];omega
      · have t1:decide ((97:Int)≤(n:Int))=false:=by simp;omega
        have t2:decide ((n:Int)≤122)=true:=by simp;omega
        have t3:decide ((65:Int)≤(n:Int))=false:=by simp;omega
        have t4:decide ((n:Int)≤90)=true:=by simp;omega
        have t5:decide ((48:Int)≤(n:Int))=false:=by simp;omega
        have t6:decide ((n:Int)≤57)=true:=by simp;omega
        have t7:((n:Int) != 46)=false:=by simp;omega
        have t8:((n:Int) != 45)=true:=by simp;omega
        have t9:((n:Int) != 95)=true:=by simp;omega
        have HS:=Lib.hid (show Co n=true by unfold Co;simp;omega)
        clear hz
        go_wp2_with fail
        go_roundw
        case rel=>exact ⟨k+1,by omega,by go_num,rfl,fun x hx=>by
          rw [F9 HB.out] at hx
          rcases List.mem_append.1 hx with hx|hx
          · exact HA.out x hx
          · rw [List.mem_singleton.1 hx,← HN.out];exact HS.out⟩
        case measure=>simp [RowKit.intOf];omega
      · have t1:decide ((97:Int)≤(n:Int))=false:=by simp;omega
        have t2:decide ((n:Int)≤122)=true:=by simp;omega
        have t3:decide ((65:Int)≤(n:Int))=false:=by simp;omega
        have t4:decide ((n:Int)≤90)=true:=by simp;omega
        have t5:decide ((48:Int)≤(n:Int))=true:=by simp;omega
        have t6:decide ((n:Int)≤57)=true:=by simp;omega
        have t7:((n:Int) != 46)=true:=by simp;omega
        have t8:((n:Int) != 45)=true:=by simp;omega
        have t9:((n:Int) != 95)=true:=by simp;omega
        have HS:=Lib.hid (show Co n=true by unfold Co;simp;omega)
        clear hz
        go_wp2_with fail
        go_roundw
        case rel=>exact ⟨k+1,by omega,by go_num,rfl,fun x hx=>by
          rw [F9 HB.out] at hx
          rcases List.mem_append.1 hx with hx|hx
          · exact HA.out x hx
          · rw [List.mem_singleton.1 hx,← HN.out];exact HS.out⟩
        case measure=>simp [RowKit.intOf];omega
      · have t1:decide ((97:Int)≤(n:Int))=false:=by simp;omega
        have t2:decide ((n:Int)≤122)=true:=by simp;omega
        have t3:decide ((65:Int)≤(n:Int))=false:=by simp;omega
        have t4:decide ((n:Int)≤90)=true:=by simp;omega
        have t5:decide ((48:Int)≤(n:Int))=true:=by simp;omega
        have t6:decide ((n:Int)≤57)=false:=by simp;omega
        have t7:((n:Int) != 46)=true:=by simp;omega
        have t8:((n:Int) != 45)=true:=by simp;omega
        have t9:((n:Int) != 95)=true:=by simp;omega
        have HS:=Lib.hid (show Co n=false by unfold Co;simp;omega)
        clear hz
        have HX:=Lib.hid (C5 (s:=s) (fun h=>Q4 HB.out (by rw [← HN.out];exact HS.out) (HOK.out.1 h)))
        go_wp2_with fail
        go_ret
        exact ⟨by rw [HX.out];rfl,rfl⟩
      · have t1:decide ((97:Int)≤(n:Int))=false:=by simp;omega
        have t2:decide ((n:Int)≤122)=true:=by simp;omega
        have t3:decide ((65:Int)≤(n:Int))=true:=by simp;omega
        have t4:decide ((n:Int)≤90)=true:=by simp;omega
        have t5:decide ((48:Int)≤(n:Int))=true:=by simp;omega
        have t6:decide ((n:Int)≤57)=false:=by simp;omega
        have t7:((n:Int) != 46)=true:=by simp;omega
        have t8:((n:Int) != 45)=true:=by simp;omega
        have t9:((n:Int) != 95)=true:=by simp;omega
        have HS:=Lib.hid (show Co n=true by unfold Co;simp;omega)
        clear hz
        go_wp2_with fail
        go_roundw
        case rel=>exact ⟨k+1,by omega,by go_num,rfl,fun x hx=>by
          rw [F9 HB.out] at hx
          rcases List.mem_append.1 hx with hx|hx
          · exact HA.out x hx
          · rw [List.mem_singleton.1 hx,← HN.out];exact HS.out⟩
        case measure=>simp [RowKit.intOf];omega
      · have t1:decide ((97:Int)≤(n:Int))=false:=by simp;omega
        have t2:decide ((n:Int)≤122)=true:=by simp;omega
        have t3:decide ((65:Int)≤(n:Int))=true:=by simp;omega
        have t4:decide ((n:Int)≤90)=false:=by simp;omega
        have t5:decide ((48:Int)≤(n:Int))=true:=by simp;omega
        have t6:decide ((n:Int)≤57)=false:=by simp;omega
        have t7:((n:Int) != 46)=true:=by simp;omega
        have t8:((n:Int) != 45)=true:=by simp;omega
        have t9:((n:Int) != 95)=true:=by simp;omega
        have HS:=Lib.hid (show Co n=false by unfold Co;simp;omega)
        clear hz
        have HX:=Lib.hid (C5 (s:=s) (fun h=>Q4 HB.out (by rw [← HN.out];exact HS.out) (HOK.out.1 h)))
        go_wp2_with fail
        go_ret
        exact ⟨by rw [HX.out];rfl,rfl⟩
      · have t1:decide ((97:Int)≤(n:Int))=false:=by simp;omega
        have t2:decide ((n:Int)≤122)=true:=by simp;omega
        have t3:decide ((65:Int)≤(n:Int))=true:=by simp;omega
        have t4:decide ((n:Int)≤90)=false:=by simp;omega
        have t5:decide ((48:Int)≤(n:Int))=true:=by simp;omega
        have t6:decide ((n:Int)≤57)=false:=by simp;omega
        have t7:((n:Int) != 46)=true:=by simp;omega
        have t8:((n:Int) != 45)=true:=by simp;omega
        have t9:((n:Int) != 95)=false:=by simp;omega
        have HS:=Lib.hid (show Co n=true by unfold Co;simp;omega)
        clear hz
        go_wp2_with fail
        go_roundw
        case rel=>exact ⟨k+1,by omega,by go_num,rfl,fun x hx=>by
          rw [F9 HB.out] at hx
          rcases List.mem_append.1 hx with hx|hx
          · exact HA.out x hx
          · rw [List.mem_singleton.1 hx,← HN.out];exact HS.out⟩
        case measure=>simp [RowKit.intOf];omega
      · have t1:decide ((97:Int)≤(n:Int))=true:=by simp;omega
        have t2:decide ((n:Int)≤122)=true:=by simp;omega
        have t3:decide ((65:Int)≤(n:Int))=true:=by simp;omega
        have t4:decide ((n:Int)≤90)=false:=by simp;omega
        have t5:decide ((48:Int)≤(n:Int))=true:=by simp;omega
        have t6:decide ((n:Int)≤57)=false:=by simp;omega
        have t7:((n:Int) != 46)=true:=by simp;omega
        have t8:((n:Int) != 45)=true:=by simp;omega
        have t9:((n:Int) != 95)=true:=by simp;omega
        have HS:=Lib.hid (show Co n=true by unfold Co;simp;omega)
        clear hz
        go_wp2_with fail
        go_roundw
        case rel=>exact ⟨k+1,by omega,by go_num,rfl,fun x hx=>by
          rw [F9 HB.out] at hx
          rcases List.mem_append.1 hx with hx|hx
          · exact HA.out x hx
          · rw [List.mem_singleton.1 hx,← HN.out];exact HS.out⟩
        case measure=>simp [RowKit.intOf];omega
      · have t1:decide ((97:Int)≤(n:Int))=true:=by simp;omega
        have t2:decide ((n:Int)≤122)=false:=by simp;omega
        have t3:decide ((65:Int)≤(n:Int))=true:=by simp;omega
        have t4:decide ((n:Int)≤90)=false:=by simp;omega
        have t5:decide ((48:Int)≤(n:Int))=true:=by simp;omega
        have t6:decide ((n:Int)≤57)=false:=by simp;omega
        have t7:((n:Int) != 46)=true:=by simp;omega
        have t8:((n:Int) != 45)=true:=by simp;omega
        have t9:((n:Int) != 95)=true:=by simp;omega
        have HS:=Lib.hid (show Co n=false by unfold Co;simp;omega)
        clear hz
        have HX:=Lib.hid (C5 (s:=s) (fun h=>Q4 HB.out (by rw [← HN.out];exact HS.out) (HOK.out.1 h)))
        go_wp2_with fail
        go_ret
        exact ⟨by rw [HX.out];rfl,rfl⟩
    · obtain rfl:k=s.size:=by omega
      have HX:=Lib.hid (Bg (s:=s) (HOK.out.2 (Ab5 (fun b hb=>HA.out b (by rw [List.take_of_length_le (by rw [Array.length_toList];exact Nat.le_refl _)];exact hb)))))
      go_wp2_with fail
      go_ret
      exact ⟨by rw [HX.out];rfl,rfl⟩
end
theorem Ut {B:Nat} (ad:Nat→Addr) (s:ByteArray) (hs:s.size≤9223372036854775807):Ap Tryz.prog 53 #[.string s] [Bs B ad [4]] fun u L=>u=Ag ad (Hr s)∧L=[Bs B ad [4]]:=fun E w0 w ho=>
  (Ya ad s w (ho.fact 0 rfl) hs).mono fun e w' ⟨he,hc⟩=>⟨_,_,⟨rfl,rfl⟩,he,ho.quiet hc⟩
theorem Oz (s:ByteArray) (hs:s.size≤9223372036854775807):Ap Tryz.prog 60 #[.string s] [] fun u L=>u=.int .i64 (Hr s:Nat)∧L=[]:=
  N6 fun w=>(Pu s w hs).mono fun e w' ⟨he,hc⟩=>⟨he,hc▸Chg.refl _ _⟩
theorem P9 {B:Nat} (ad:Nat→Addr) (s:ByteArray) (hs:s.size≤9223372036854775807):Ap Tryz.prog 53 #[.string s] [Bs B ad [4]] fun u L=>(A0 s∧u=.nilIface∧L=[Bs B ad [4]])∨(¬A0 s∧u=Ag ad 4∧L=[Bs B ad [4]]):=
  (Ut ad s hs).mono fun u L ⟨h1,h2⟩=>by
    by_cases h:A0 s
    · exact .inl ⟨h,by rw [h1,Bg h];rfl,h2⟩
    · exact .inr ⟨h,by rw [h1,C5 h],h2⟩
theorem Er (s:ByteArray) (hs:s.size≤9223372036854775807):Ap Tryz.prog 60 #[.string s] [] fun u L=>(A0 s∧u=.int .i64 0∧L=[])∨(¬A0 s∧u=.int .i64 4∧L=[]):=
  (Oz s hs).mono fun u L ⟨h1,h2⟩=>by
    by_cases h:A0 s
    · exact .inl ⟨h,by rw [h1,Bg h];rfl,h2⟩
    · exact .inr ⟨h,by rw [h1,C5 h];rfl,h2⟩
section
variable {B:Nat} (ad:Nat→Addr)
include B ad
theorem M8 (b:Nat) (n g:Int) (ps:List (Option Nat)) (gs:List Int) (vl vg:Value) (T:TypeId) (Sl Sg:Nat→Prop) (hl:ps.length=gs.length) (hr:∀ x∈gs,0≤x∧x≤1000000) (ha:Bm ps gs n g=none) :
    Ap Tryz.prog 67 #[Pp b,Hg n g] [B5 b ps gs vl vg T Sl Sg,Bs B ad [10]] fun u L=>u=.tuple #[.pointer none,Ag ad 10]∧L=[B5 b ps gs vl vg T Sl Sg,Bs B ad [10]]:=
  (Vw ad b n g ps gs vl vg T Sl Sg hl hr).mono fun u L h=>by
    rcases h with ⟨nb,h1,_⟩|⟨_,h2,h3⟩
    · rw [ha] at h1;cases h1
    · exact ⟨h2,h3⟩
theorem Br (tb:Nat) (ps:List (Option Nat)) (gs:List Int) (vl vg:Value) (T:TypeId) (Sl Sg:Nat→Prop) (l:List (Option ND)) (hl:ps.length=gs.length) (hr:∀ x∈gs,0≤x∧x≤1000000) (n g:Int) (k:Nat) (N:ND) (hk:l[k]?=some (some N)) (ha:Bm ps gs n g=some N.nb) (hc:0≤N.change∧N.change≤1000000):Ap Tryz.prog 57 #[Pp tb,Hg n g] [B5 tb ps gs vl vg T Sl Sg,Cn l,Bs B ad [10]] (fun u L=>u=.nilIface∧L=[B5 tb ps gs vl vg T Sl Sg,Cn (l.set k (some { N with change:=N.change+1 })),Bs B ad [10]]):=by
 refine Zo 23 Tryz.func57 fun E w0 w h=>?_
 refine Qs (ZN [Ii n,Ii g] 34 h fun k1 w h=>ZP .nilIface (Qm (ZP (Pp tb) (ZG h (Gla 0 [Ii n,Ii g] 0) (ZC [1,2] (Fw ad tb _ n g ps gs vl vg T Sl Sg hl hr ha) h fun w h=>?_)))))
 have h:=(h.pkr [3]).ndOpen hk
 refine ZP (.tuple #[Pp N.nb,.nilIface]) (ZP (Pp N.nb) (ZP .nilIface (ZP (Pp N.nb) (ZP .nilIface (Qu (ZP .nilIface (ZP (.bool false) (Fs (ZP (Pp N.nb) (ZP (Pp N.nb) (ZP (Pp N.nb) (ZP (Pt N.nb 3) (ZG h (Gl 3 (Ii N.change) 0) (ZG h (Gw (N.change+1)) (ZP (Pp N.nb) (ZP (Pp N.nb) (ZP (Pt N.nb 3) (ZS 3 [Ii (N.change+1)] [Ii N.kind,Ii N.size,Ii N.links,Ii (N.change+1),Ii N.upn,Ii N.upg,(Ac2 N.dq)] 0 rfl h fun w h=>Qm (ZP .nilIface (Qr ?_))))))))))))))))))))
 have h:=h.ndClose { N with change:=N.change+1 }
 exact ZR [.nilIface] [1,0,0] h ⟨rfl,rfl⟩
theorem Gg (tb:Nat) (ps:List (Option Nat)) (gs:List Int) (vl vg:Value) (T:TypeId) (Sl Sg:Nat→Prop) (l:List (Option ND)) (hl:ps.length=gs.length) (hr:∀ x∈gs,0≤x∧x≤1000000) (n g:Int) (k:Nat) (N:ND) (hk:l[k]?=some (some N)) (ha:Bm ps gs n g=some N.nb) (a0 a1 a2 a3 a4 a5:Int):Ap Tryz.prog 31 #[Pp tb,Hg n g,.agg #[Ii a0,Ii a1,Ii a2,Ii a3,Ii a4,Ii a5]] [B5 tb ps gs vl vg T Sl Sg,Cn l,Bs B ad [10]] (fun u L=>L=[B5 tb ps gs vl vg T Sl Sg,Cn (l.set k (some { N with kind:=a0,size:=a1,links:=a2,upn:=a4,upg:=a5 })),Bs B ad [10]]):=by
 refine Zo 23 Tryz.func31 fun E w0 w h=>?_
 refine Qs (ZN [Ii n,Ii g] 34 h fun k1 w h=>ZN [Ii a0,Ii a1,Ii a2,Ii a3,Ii a4,Ii a5] 46 h fun k2 w h=>Qm (ZP (Pp tb) (ZG h (Gla 0 [Ii n,Ii g] 1) (ZC [2,3] (Fw ad tb _ n g ps gs vl vg T Sl Sg hl hr ha) h fun w h=>?_))))
 have h:=(h.pkr [4]).ndOpen hk
 refine ZP (.tuple #[Pp N.nb,.nilIface]) (ZP (Pp N.nb) (ZP .nilIface (ZP (Pp N.nb) (ZP .nilIface (Qm (ZP .nilIface (ZP (.bool true) (Qg (Qs (ZP (Pp N.nb) (ZP (Pp N.nb) (ZP (Pp N.nb) (ZP (Pt N.nb 3) (ZG h (Gl 3 (Ii N.change) 0) (ZP (Pt k2 3) (ZS 3 [Ii N.change] [Ii a0,Ii a1,Ii a2,Ii N.change,Ii a4,Ii a5] 5 rfl h fun w h=>Qn (Ah (ZP (Pp N.nb) (ZG h (Gla 0 [Ii a0,Ii a1,Ii a2,Ii N.change,Ii a4,Ii a5] 5) (ZP (Pp N.nb) (ZP (Pp N.nb) (ZS 0 [Ii a0,Ii a1,Ii a2,Ii N.change,Ii a4,Ii a5] [Ii a0,Ii a1,Ii a2,Ii N.change,Ii a4,Ii a5,(Ac2 N.dq)] 0 rfl h fun w h=>Ct ?_))))))))))))))))))))))
 have h:=h.ndClose { N with kind:=a0,size:=a1,links:=a2,upn:=a4,upg:=a5 }
 exact ZR [] [1,0,0] h rfl
theorem G8 (tb:Nat) (ps:List (Option Nat)) (gs:List Int) (vl vg:Value) (T:TypeId) (Sl Sg:Nat→Prop) (l:List (Option ND)) (hl:ps.length=gs.length) (hr:∀ x∈gs,0≤x∧x≤1000000) (n g:Int) (ha:Bm ps gs n g=none):Ap Tryz.prog 46 #[Pp tb,Hg n g] [B5 tb ps gs vl vg T Sl Sg,Cn l,Bs B ad [10]] (fun u L=>u=.tuple #[.agg #[Ii 0,Ii 0,Ii 0,Ii 0,Ii 0,Ii 0],Ag ad 10]∧L=[B5 tb ps gs vl vg T Sl Sg,Cn l,Bs B ad [10]]):=by
 refine Zo 33 Tryz.func46 fun E w0 w h=>?_
 refine Qs (ZN [Ii n,Ii g] 34 h fun k1 w h=>ZN [Ii 0,Ii 0,Ii 0,Ii 0,Ii 0,Ii 0] 46 h fun k2 w h=>ZP .nilIface (Qm (ZP (Pp tb) (ZG h (Gla 0 [Ii n,Ii g] 1) (ZC [2,3] (M8 ad tb n g ps gs vl vg T Sl Sg hl hr ha) h fun w h=>ZP (.tuple #[.pointer none,Ag ad 10]) (ZP (.pointer none) (ZP (Ag ad 10) (ZP (.pointer none) (ZP (Ag ad 10) (Qu (ZP (Ag ad 10) (ZP (.bool true) (Qg (Qs (ZP (.agg #[Ii 0,Ii 0,Ii 0,Ii 0,Ii 0,Ii 0]) (ZP (Ag ad 10) (ZSs [Ii 0,Ii 0,Ii 0,Ii 0,Ii 0,Ii 0] 2 rfl h fun w h=>ZP (Ag ad 10) (Qr (Au ?_)))))))))))))))))))
 refine B0 [.agg #[Ii 0,Ii 0,Ii 0,Ii 0,Ii 0,Ii 0],Ag ad 10] [0,3,0] h (by kernel_rfl) (Di 0 [Ii 0,Ii 0,Ii 0,Ii 0,Ii 0,Ii 0] (.agg #[Ii 0,Ii 0,Ii 0,Ii 0,Ii 0,Ii 0]) 2 rfl (by kernel_rfl) (Dy (by kernel_rfl) Dh)) ?_
 exact ⟨rfl,rfl⟩
theorem Vg (tb:Nat) (ps:List (Option Nat)) (gs:List Int) (vl vg:Value) (T:TypeId) (Sl Sg:Nat→Prop) (l:List (Option ND)) (hl:ps.length=gs.length) (hr:∀ x∈gs,0≤x∧x≤1000000) (n g:Int) (k nb:Nat) (ki si li ch un ug:Int) (hk:l[k]?=some (some (⟨nb,ki,si,li,ch,un,ug,none⟩:ND))) (ha:Bm ps gs n g=some nb):Ap Tryz.prog 46 #[Pp tb,Hg n g] [B5 tb ps gs vl vg T Sl Sg,Cn l,Bs B ad [10]] (fun u L=>u=.tuple #[.agg #[Ii ki,Ii si,Ii li,Ii ch,Ii un,Ii ug],.nilIface]∧L=[B5 tb ps gs vl vg T Sl Sg,Cn l,Bs B ad [10]]):=by
 refine Zo 33 Tryz.func46 fun E w0 w h=>?_
 refine Qs (ZN [Ii n,Ii g] 34 h fun k1 w h=>ZN [Ii 0,Ii 0,Ii 0,Ii 0,Ii 0,Ii 0] 46 h fun k2 w h=>ZP .nilIface (Qm (ZP (Pp tb) (ZG h (Gla 0 [Ii n,Ii g] 1) (ZC [2,3] (Fw ad tb nb n g ps gs vl vg T Sl Sg hl hr ha) h fun w h=>?_)))))
 have h:=(h.pkr [4]).ndOpen hk
 refine ZP (.tuple #[Pp nb,.nilIface]) (ZP (Pp nb) (ZP .nilIface (ZP (Pp nb) (ZP .nilIface (Qu (ZP .nilIface (ZP (.bool false) (Fs (ZP (Pp nb) (ZP (Pp nb) (ZP (Pp nb) (ZG h (Gla 0 [Ii ki,Ii si,Ii li,Ii ch,Ii un,Ii ug] 0) (ZN [Ii 0,Ii 0,Ii 0,Ii 0,Ii 0,Ii 0] 46 h fun k3 w h=>ZSs [Ii ki,Ii si,Ii li,Ii ch,Ii un,Ii ug] 0 rfl h fun w h=>Qu (ZP (Pp nb) (ZP (Pp nb) (ZP (Pt nb 6) (ZG h (Gl 6 (.pointer none) 1) (ZP (.bool false) (Fs (ZG h (Gla 0 [Ii ki,Ii si,Ii li,Ii ch,Ii un,Ii ug] 0) (ZSs [Ii ki,Ii si,Ii li,Ii ch,Ii un,Ii ug] 6 rfl h fun w h=>ZP .nilIface (Qr ?_))))))))))))))))))))))
 have h:=(h.pkr [1,1,1]).ndBack (N:=(⟨nb,ki,si,li,ch,un,ug,none⟩:ND)) hk
 refine B0 [.agg #[Ii ki,Ii si,Ii li,Ii ch,Ii un,Ii ug],.nilIface] [2,0,1] h (by kernel_rfl) (Di 0 [Ii ki,Ii si,Ii li,Ii ch,Ii un,Ii ug] (.agg #[Ii ki,Ii si,Ii li,Ii ch,Ii un,Ii ug]) 4 rfl (by kernel_rfl) (Dy (by kernel_rfl) Dh)) ?_
 exact ⟨rfl,rfl⟩
theorem Vy (tb:Nat) (ps:List (Option Nat)) (gs:List Int) (vl vg:Value) (T:TypeId) (Sl Sg:Nat→Prop) (l:List (Option ND)) (hl:ps.length=gs.length) (hr:∀ x∈gs,0≤x∧x≤1000000) (n g:Int) (k nb:Nat) (ki si li ch un ug:Int) (q:DQ) (hk:l[k]?=some (some (⟨nb,ki,si,li,ch,un,ug,some q⟩:ND))) (ha:Bm ps gs n g=some nb):Ap Tryz.prog 46 #[Pp tb,Hg n g] [B5 tb ps gs vl vg T Sl Sg,Cn l,Bs B ad [10]] (fun u L=>u=.tuple #[.agg #[Ii ki,Ii q.size,Ii li,Ii ch,Ii un,Ii ug],.nilIface]∧L=[B5 tb ps gs vl vg T Sl Sg,Cn l,Bs B ad [10]]):=by
 refine Zo 33 Tryz.func46 fun E w0 w h=>?_
 refine Qs (ZN [Ii n,Ii g] 34 h fun k1 w h=>ZN [Ii 0,Ii 0,Ii 0,Ii 0,Ii 0,Ii 0] 46 h fun k2 w h=>ZP .nilIface (Qm (ZP (Pp tb) (ZG h (Gla 0 [Ii n,Ii g] 1) (ZC [2,3] (Fw ad tb nb n g ps gs vl vg T Sl Sg hl hr ha) h fun w h=>?_)))))
 have h:=(h.pkr [4]).ndOpen hk
 refine ZP (.tuple #[Pp nb,.nilIface]) (ZP (Pp nb) (ZP .nilIface (ZP (Pp nb) (ZP .nilIface (Qu (ZP .nilIface (ZP (.bool false) (Fs (ZP (Pp nb) (ZP (Pp nb) (ZP (Pp nb) (ZG h (Gla 0 [Ii ki,Ii si,Ii li,Ii ch,Ii un,Ii ug] 0) (ZN [Ii 0,Ii 0,Ii 0,Ii 0,Ii 0,Ii 0] 46 h fun k3 w h=>ZSs [Ii ki,Ii si,Ii li,Ii ch,Ii un,Ii ug] 0 rfl h fun w h=>Qu (ZP (Pp nb) (ZP (Pp nb) (ZP (Pt nb 6) (ZG h (Gl 6 (Pp q.db) 1) (ZP (.bool true) (Qg (Ah (ZP (Pp nb) (ZP (Pp nb) (ZP (Pt nb 6) (ZG h (Gl 6 (Pp q.db) 1) (ZC [2] (Vv q) h fun w h=>ZP (Pt k3 1) (ZS 1 [Ii q.size] [Ii ki,Ii q.size,Ii li,Ii ch,Ii un,Ii ug] 1 rfl h fun w h=>Qm (ZG h (Gla 0 [Ii ki,Ii q.size,Ii li,Ii ch,Ii un,Ii ug] 1) (ZSs [Ii ki,Ii q.size,Ii li,Ii ch,Ii un,Ii ug] 6 rfl h fun w h=>ZP .nilIface (Qr ?_)))))))))))))))))))))))))))))
 have h:=(h.pkr [2,0,1]).ndBack (N:=(⟨nb,ki,si,li,ch,un,ug,some q⟩:ND)) hk
 refine B0 [.agg #[Ii ki,Ii q.size,Ii li,Ii ch,Ii un,Ii ug],.nilIface] [2,0,1] h (by kernel_rfl) (Di 0 [Ii ki,Ii q.size,Ii li,Ii ch,Ii un,Ii ug] (.agg #[Ii ki,Ii q.size,Ii li,Ii ch,Ii un,Ii ug]) 4 rfl (by kernel_rfl) (Dy (by kernel_rfl) Dh)) ?_
 exact ⟨rfl,rfl⟩
theorem Vr (tb:Nat) (ps:List (Option Nat)) (gs:List Int) (vl vg:Value) (T:TypeId) (Sl Sg:Nat→Prop) (l:List (Option ND)) (hl:ps.length=gs.length) (hr:∀ x∈gs,0≤x∧x≤1000000) (n g:Int) (ha:Bm ps gs n g=none):Ap Tryz.prog 73 #[Pp tb,Hg n g] [B5 tb ps gs vl vg T Sl Sg,Cn l,Bs B ad [10]] (fun u L=>u=.tuple #[.pointer none,Ag ad 10]∧L=[B5 tb ps gs vl vg T Sl Sg,Cn l,Bs B ad [10]]):=by
 refine Zo 27 Tryz.func73 fun E w0 w h=>?_
 exact Qs (ZN [Ii n,Ii g] 34 h fun k1 w h=>ZP (.pointer none) (ZP .nilIface (Qm (ZP (Pp tb) (ZG h (Gla 0 [Ii n,Ii g] 0) (ZC [1,2] (M8 ad tb n g ps gs vl vg T Sl Sg hl hr ha) h fun w h=>ZP (.tuple #[.pointer none,Ag ad 10]) (ZP (.pointer none) (ZP (Ag ad 10) (ZP (.pointer none) (ZP (Ag ad 10) (Qn (Aa (Ar (Qs (ZP (Ag ad 10) (ZP (.bool true) (ZP (.bool true) (Qg (Qs (ZP (Ag ad 10) (ZP (.pointer none) (ZP (Ag ad 10) (Qr (Cj (Au (ZR [.pointer none,Ag ad 10] [0,2,0] h ⟨rfl,rfl⟩))))))))))))))))))))))))))
theorem V2 (tb:Nat) (ps:List (Option Nat)) (gs:List Int) (vl vg:Value) (T:TypeId) (Sl Sg:Nat→Prop) (l:List (Option ND)) (hl:ps.length=gs.length) (hr:∀ x∈gs,0≤x∧x≤1000000) (n g:Int) (k nb:Nat) (kd si li ch un ug:Int) (hk:l[k]?=some (some (⟨nb,kd,si,li,ch,un,ug,none⟩:ND))) (ha:Bm ps gs n g=some nb):Ap Tryz.prog 73 #[Pp tb,Hg n g] [B5 tb ps gs vl vg T Sl Sg,Cn l,Bs B ad [10],Bs B ad [8]] (fun u L=>u=.tuple #[.pointer none,Ag ad 8]∧L=[B5 tb ps gs vl vg T Sl Sg,Cn l,Bs B ad [10],Bs B ad [8]]):=by
 refine Zo 27 Tryz.func73 fun E w0 w h=>?_
 refine Qs (ZN [Ii n,Ii g] 34 h fun k1 w h=>ZP (.pointer none) (ZP .nilIface (Qm (ZP (Pp tb) (ZG h (Gla 0 [Ii n,Ii g] 0) (ZC [1,2] (Fw ad tb nb n g ps gs vl vg T Sl Sg hl hr ha) h fun w h=>?_))))))
 have h:=(h.pkr [3]).ndOpen hk
 refine ZP (.tuple #[Pp nb,.nilIface]) (ZP (Pp nb) (ZP .nilIface (ZP (Pp nb) (ZP .nilIface (Qn (Aa (Ar (Qs (ZP .nilIface (ZP (.bool false) (ZP (.bool false) (Qf (Qs (ZP (Pp nb) (ZP (Pp nb) (ZP (Pt nb 6) (ZG h (Gl 6 (.pointer none) 0) (ZP (.bool true) (ZP (.bool true) (Qg (Aa (Ds 3 [6] h fun w h=>Dq 0 2 [6] rfl h (Gr 0 (Ag ad 8) 0 rfl (Fd (c:=8) (by decide) rfl)) (Dp 1 1 (.pointer none) [6] h (Dp 2 3 (Ag ad 8) [6] h (Dd (Af (Hs (Cj (Au ?_)))))))))))))))))))))))))))))
 have h:=h.ndBack (N:=(⟨nb,kd,si,li,ch,un,ug,none⟩:ND)) hk
 exact ZR [.pointer none,Ag ad 8] [1,0,0,1] h ⟨rfl,rfl⟩
theorem Es (tb:Nat) (ps:List (Option Nat)) (gs:List Int) (vl vg:Value) (T:TypeId) (Sl Sg:Nat→Prop) (l:List (Option ND)) (hl:ps.length=gs.length) (hr:∀ x∈gs,0≤x∧x≤1000000) (n g:Int) (k nb:Nat) (kd si li ch un ug:Int) (q:DQ) (hk:l[k]?=some (some (⟨nb,kd,si,li,ch,un,ug,some q⟩:ND))) (ha:Bm ps gs n g=some nb):Ap Tryz.prog 73 #[Pp tb,Hg n g] [B5 tb ps gs vl vg T Sl Sg,Cn l,Bs B ad [10]] (fun u L=>u=.tuple #[Pp q.db,.nilIface]∧L=[B5 tb ps gs vl vg T Sl Sg,Cn l,Bs B ad [10]]):=by
 refine Zo 27 Tryz.func73 fun E w0 w h=>?_
 refine Qs (ZN [Ii n,Ii g] 34 h fun k1 w h=>ZP (.pointer none) (ZP .nilIface (Qm (ZP (Pp tb) (ZG h (Gla 0 [Ii n,Ii g] 0) (ZC [1,2] (Fw ad tb nb n g ps gs vl vg T Sl Sg hl hr ha) h fun w h=>?_))))))
 have h:=(h.pkr [3]).ndOpen hk
 refine ZP (.tuple #[Pp nb,.nilIface]) (ZP (Pp nb) (ZP .nilIface (ZP (Pp nb) (ZP .nilIface (Qn (Aa (Ar (Qs (ZP .nilIface (ZP (.bool false) (ZP (.bool false) (Qf (Qs (ZP (Pp nb) (ZP (Pp nb) (ZP (Pt nb 6) (ZG h (Gl 6 (Pp q.db) 0) (ZP (.bool false) (ZP (.bool false) (Qf (Bz ?_)))))))))))))))))))))
 refine B9 (Af ?_)
 refine Qs (ZP (Pp nb) (ZP (Pp nb) (ZP (Pt nb 6) (ZG h (Gl 6 (Pp q.db) 0) (ZP (Pp q.db) (ZP .nilIface (Qr ?_)))))))
 have h:=h.ndBack (N:=(⟨nb,kd,si,li,ch,un,ug,some q⟩:ND)) hk
 exact ZR [Pp q.db,.nilIface] [1,0,0] h ⟨rfl,rfl⟩
end

theorem Bh {B:Nat} (ad:Nat→Addr) (tb:Nat) (ps:List (Option Nat)) (gs:List Int) (vl vg:Value) (T:TypeId) (Sl Sg:Nat→Prop) (l:List (Option ND)) (hl:ps.length=gs.length) (hr:∀ x∈gs,0≤x∧x≤1000000) (n g:Int) (k:Nat) (N:ND) (hlk:l[k]?=some (some N)) (ha:Bm ps gs n g=some N.nb) :
    Ap Tryz.prog 46 #[Pp tb,Hg n g] [B5 tb ps gs vl vg T Sl Sg,Cn l,Bs B ad [10]] fun u L=>u=.tuple #[.agg #[Ii N.kind,Ii (Ai N),Ii N.links,Ii N.change,Ii N.upn,Ii N.upg],.nilIface]∧L=[B5 tb ps gs vl vg T Sl Sg,Cn l,Bs B ad [10]]:=by
  obtain ⟨nb,ki,si,li,ch,un,ug,dq⟩:=N
  cases dq with
  | none=>exact Vg ad tb ps gs vl vg T Sl Sg l hl hr n g k nb ki si li ch un ug hlk ha
  | some q=>exact Vy ad tb ps gs vl vg T Sl Sg l hl hr n g k nb ki si li ch un ug q hlk ha
theorem A9 {B:Nat} (ad:Nat→Addr) (b most tb dm pm:Nat) (ps:List (Option Nat)) (gs:List Int) (vl vg:Value) (T:TypeId) (Sl Sg:Nat→Prop) (l:List (Option ND)) (ds:List DN) (pn:List ((Int×Int)×Int)) (hl:ps.length=gs.length) (hr:∀ x∈gs,0≤x∧x≤1000000) (n g:Int) (k:Nat) (N:ND) (hlk:l[k]?=some (some N)) (ha:Bm ps gs n g=some N.nb) (j:Nat) (d:DN) (hj:ds[j]?=some d) (hdh:d.h=(n,g)) (hdd:(ds.map (·.h)).Nodup)  : Ap Tryz.prog 50 #[Pp b,Hg n g] [Rb b tb most dm pm,B5 tb ps gs vl vg T Sl Sg,Cn l,Ci true dm hk (ds.map Bq),Bs B ad [10]] (fun u L=>u=.tuple #[.map (some d.mb),.nilIface]∧L=[Rb b tb most dm pm,B5 tb ps gs vl vg T Sl Sg,Cn l,Ci true dm hk (ds.map Bq),Bs B ad [10]]):=by
 refine Zo 33 Tryz.func50 fun E w0 w h=>?_
 refine Qs (ZN [Ii n,Ii g] 34 h fun k1 w h=>ZP (.map none) (ZP .nilIface (Qn (Aa (Aa (Ds 12 [0,0] h fun w h=>Dp 0 528 (Pp b) [0,0] h (Dp 1 529 (Pp b) [0,0] h (Dp 2 531 (Pp b) [0,0] h (Dq 3 535 [0,0] rfl h (Gl 0 (Pp tb) 1) (Dq 4 527 [0,0] rfl h (Gla 0 [Ii n,Ii g] 0) ?_))))))))))
 refine Ay [5,9] (by kernel_rfl) rfl ?_
 refine De #[Pp tb,Hg n g] [2,2,3] [3,3] rfl (by kernel_rfl) (Bh ad tb ps gs vl vg T Sl Sg l hl hr n g k N hlk ha) (fun _=>by kernel_rfl) h ?_ ?_
 rintro v_ L_ w ⟨rfl,rfl⟩ h
 refine ⟨by kernel_rfl,?_⟩
 refine Dp 6 575 (.tuple #[.agg #[Ii N.kind,Ii (Ai N),Ii N.links,Ii N.change,Ii N.upn,Ii N.upg],.nilIface]) [3,3] h (Dp 7 895 (.agg #[Ii N.kind,Ii (Ai N),Ii N.links,Ii N.change,Ii N.upn,Ii N.upg]) [3,3] h (Dp 8 1791 .nilIface [3,3] h ?_))
 refine Ay [9] (by kernel_rfl) rfl ?_
 refine B8 [4,4] rfl (by kernel_rfl) (fun b=>Pp b) [Ii 0,Ii 0,Ii 0,Ii 0,Ii 0,Ii 0] 46 (fun _=>by kernel_rfl) h ?_ ?_
 intro k2 w h;refine ⟨by kernel_rfl,?_⟩
 exact As 10 [4,4] 0 [Ii N.kind,Ii (Ai N),Ii N.links,Ii N.change,Ii N.upn,Ii N.upg] [Ii N.kind,Ii (Ai N),Ii N.links,Ii N.change,Ii N.upn,Ii N.upg] 0 rfl h fun w h=>Dp 11 2047 .nilIface [4,4] h (Dd (Af (Qs (ZP .nilIface (ZP (.bool false) (Qf (Kn (Aa (Ds 11 [4,4,4] h fun w h=>Dp 0 16 (Pp b) [4,4,4] h (Dp 1 17 (Pp b) [4,4,4] h (Dp 2 19 (Pt b 4) [4,4,4] h (Dq 3 23 [4,4,4] rfl h (Gl 4 (.map (some dm)) 1) (Dq 4 15 [4,4,4] rfl h (Gla 0 [Ii n,Ii g] 0) (Dq 5 31 [4,4,4] rfl h (A1 (v':=.tuple #[.map (some d.mb),.bool true]) (Gkd (kv:=ds.map Bq) true (n,g) 2 rfl) (by rw [show Ae (ds.map Bq) (n,g)=_ from hdh▸Cs hdd hj];rfl)) (Dp 6 63 (.tuple #[.map (some d.mb),.bool true]) [4,4,4] h (Dp 7 383 (.map (some d.mb)) [4,4,4] h (Dp 8 767 (.bool true) [4,4,4] h (Dp 9 511 (.map (some d.mb)) [4,4,4] h (Dp 10 1023 (.bool true) [4,4,4] h (Dd (Af (Qt (ZP (.bool true) (ZP (.bool false) (Fs (ZP (.map (some d.mb)) (ZP (.map (some d.mb)) (ZP .nilIface (Qr (ZR [.map (some d.mb),.nilIface] [5,1,1,3,1] h ⟨rfl,rfl⟩))))))))))))))))))))))))))))))
 exact Bb
 refine B8 [1,1] rfl (by kernel_rfl) (fun b=>Pp b) [Ii 0,Ii 0,Ii 0,Ii 0,Ii 0,Ii 0] 46 (fun _=>by kernel_rfl) h ?_ ?_
 intro k3 w h;refine ⟨by kernel_rfl,?_⟩
 refine Ad 5 [3,3,4] [4,4] (Bh ad tb ps gs vl vg T Sl Sg l hl hr n g k N hlk ha) h ?_
 rintro v_ L_ w ⟨rfl,rfl⟩ h
 refine ⟨by kernel_rfl,?_⟩
 exact Dp 6 575 (.tuple #[.agg #[Ii N.kind,Ii (Ai N),Ii N.links,Ii N.change,Ii N.upn,Ii N.upg],.nilIface]) [4,4] h (Dp 7 895 (.agg #[Ii N.kind,Ii (Ai N),Ii N.links,Ii N.change,Ii N.upn,Ii N.upg]) [4,4] h (Dp 8 1791 .nilIface [4,4] h (As 10 [4,4] 0 [Ii N.kind,Ii (Ai N),Ii N.links,Ii N.change,Ii N.upn,Ii N.upg] [Ii N.kind,Ii (Ai N),Ii N.links,Ii N.change,Ii N.upn,Ii N.upg] 3 rfl h fun w h=>Dp 11 2047 .nilIface [4,4] h (Dd (Af (Qs (ZP .nilIface (ZP (.bool false) (Qf (Kn (Aa (Ds 11 [4,4,4] h fun w h=>Dp 0 16 (Pp b) [4,4,4] h (Dp 1 17 (Pp b) [4,4,4] h (Dp 2 19 (Pt b 4) [4,4,4] h (Dq 3 23 [4,4,4] rfl h (Gl 4 (.map (some dm)) 1) (Dq 4 15 [4,4,4] rfl h (Gla 0 [Ii n,Ii g] 0) (Dq 5 31 [4,4,4] rfl h (A1 (v':=.tuple #[.map (some d.mb),.bool true]) (Gkd (kv:=ds.map Bq) true (n,g) 2 rfl) (by rw [show Ae (ds.map Bq) (n,g)=_ from hdh▸Cs hdd hj];rfl)) (Dp 6 63 (.tuple #[.map (some d.mb),.bool true]) [4,4,4] h (Dp 7 383 (.map (some d.mb)) [4,4,4] h (Dp 8 767 (.bool true) [4,4,4] h (Dp 9 511 (.map (some d.mb)) [4,4,4] h (Dp 10 1023 (.bool true) [4,4,4] h (Dd (Af (Qt (ZP (.bool true) (ZP (.bool false) (Fs (ZP (.map (some d.mb)) (ZP (.map (some d.mb)) (ZP .nilIface (Qr (ZR [.map (some d.mb),.nilIface] [5,0,0,3,0] h ⟨rfl,rfl⟩)))))))))))))))))))))))))))))))))
 exact Bb
theorem A6 {B:Nat} (ad:Nat→Addr) (s:ByteArray) (hs:s.size≤9223372036854775807) (hok:A0 s):Ap Tryz.prog 53 #[.string s] [Bs B ad [4]] fun u L=>u=.nilIface∧L=[Bs B ad [4]]:=
  (P9 ad s hs).mono fun u L h=>by
    rcases h with ⟨_,h1,h2⟩|⟨h0,_⟩
    · exact ⟨h1,h2⟩
    · exact absurd hok h0
theorem Cd {B:Nat} (ad:Nat→Addr) (b most tb dm pm:Nat) (ps:List (Option Nat)) (gs:List Int) (vl vg:Value) (T:TypeId) (Sl Sg:Nat→Prop) (l:List (Option ND)) (ds:List DN) (pn:List ((Int×Int)×Int)) (hl:ps.length=gs.length) (hr:∀ x∈gs,0≤x∧x≤1000000) (n g:Int) (k:Nat) (N:ND) (hlk:l[k]?=some (some N)) (ha:Bm ps gs n g=some N.nb) (j:Nat) (d:DN) (hj:ds[j]?=some d) (hdh:d.h=(n,g)) (hdd:(ds.map (·.h)).Nodup) (s:ByteArray) (hs:s.size≤9223372036854775807) (hok:A0 s)  : Ap Tryz.prog 48 #[Pp b,Hg n g,.string s] [Rb b tb most dm pm,B5 tb ps gs vl vg T Sl Sg,Cn l,Ci true dm hk (ds.map Bq),Bs B ad [10],Bs B ad [4]] (fun u L=>u=.tuple #[.map (some d.mb),.nilIface]∧L=[Rb b tb most dm pm,B5 tb ps gs vl vg T Sl Sg,Cn l,Ci true dm hk (ds.map Bq),Bs B ad [10],Bs B ad [4]]):=by
 refine Zo 19 Tryz.func48 fun E w0 w h=>?_
 exact Qs (ZN [Ii n,Ii g] 34 h fun k1 w h=>ZP (.map none) (ZP .nilIface (Qm (ZP (Pp b) (ZG h (Gla 0 [Ii n,Ii g] 0) (ZC [1,1,1,1,1] (A9 ad b most tb dm pm ps gs vl vg T Sl Sg l ds pn hl hr n g k N hlk ha j d hj hdh hdd) h fun w h=>ZP (.tuple #[.map (some d.mb),.nilIface]) (ZP (.map (some d.mb)) (ZP .nilIface (ZP (.map (some d.mb)) (ZP .nilIface (Qu (ZP .nilIface (ZP (.bool false) (Fs (ZP (.map (some d.mb)) (ZP (.string s) (ZC [6] (A6 ad s hs hok) h fun w h=>ZP (.map (some d.mb)) (ZP .nilIface (Qr (ZR [.map (some d.mb),.nilIface] [1,1,1,1,1,0] h ⟨rfl,rfl⟩))))))))))))))))))))
def Am (N:ND) (m:Int):ND:={ N with kind:=N.kind,size:=Ai N,links:=N.links+m,upn:=N.upn,upg:=N.upg }
def Ab (N:ND):ND:={ N with change:=N.change+1 }
def keepN (N:ND) (a0 a1 a2 a4 a5:Int):ND:={ N with kind:=a0,size:=a1,links:=a2,upn:=a4,upg:=a5 }
theorem P1 {ps:List (Option Nat)} {gs:List Int} {k nb:Nat} {x:Int} (h1:k<ps.length) (h2:k<gs.length):Bm (ps.set k (some nb)) (gs.set k (x+1)) (k:Int) x=some nb:=by
  rw [Hk (p:=some nb) (x:=x+1) (List.getElem?_set_self h1) (List.getElem?_set_self h2)]
  simp
theorem Xa {ps:List (Option Nat)} {gs:List Int} {k i nb:Nat} {p:Option Nat} {y g:Int} (h:Bm ps gs (i:Int) g=some nb) (hn:k≠i):Bm (ps.set k p) (gs.set k y) (i:Int) g=some nb:=by
  have hl:i<ps.length∧i<gs.length:=by
    unfold Bm at h
    split at h
    · cases h
    · rename_i hb
      refine ⟨by omega,?_⟩
      simp only [Int.toNat_natCast] at h
      split at h
      · rename_i h1 h2;exact (List.getElem?_eq_some_iff.1 h2).1
      · cases h
  rw [← h,Hk (List.getElem?_eq_getElem hl.1) (List.getElem?_eq_getElem hl.2),Hk (p:=ps[i]) (x:=gs[i]) (by rw [List.getElem?_set_ne hn,List.getElem?_eq_getElem hl.1]) (by rw [List.getElem?_set_ne hn,List.getElem?_eq_getElem hl.2])]
theorem A3 {α:Type} {l:List α} {k i:Nat} {x y:α} (h:l[i]?=some y) (hn:k≠i):(l.set k x)[i]?=some y:=by rw [List.getElem?_set_ne hn,h]
theorem C2 {α:Type} {l:List α} {k:Nat} {x:α} (h:k<l.length):(l.set k x)[k]?=some x:=List.getElem?_set_self h
theorem C1 {α:Type} {l:List α} {k:Nat} {x:α} (h:l[k]?=some x):k<l.length:=(List.getElem?_eq_some_iff.1 h).1
theorem Xo {gs:List Int} {k:Nat} {x:Int} (hr:∀ y∈gs,0≤y∧y≤1000000) (hx:gs[k]?=some x) (hb:x≤1000):∀ y∈gs.set k (x+1),0≤y∧y≤1000000:=fun y hy=>by
  rcases List.mem_or_eq_of_mem_set hy with hy|rfl
  · exact hr y hy
  · have:=hr x (List.mem_of_getElem? hx);omega
theorem Wx {α β:Type} {l:List α} {m:List β} {k j:Nat} {x:α} {y:β} (h:l.length=m.length):(l.set k x).length=(m.set j y).length:=by simpa using h
theorem Da {B:Nat} (ad:Nat→Addr) (b most tb dm pm:Nat) (ps:List (Option Nat)) (gs:List Int) (vl vg:Value) (T:TypeId) (Sl Sg:Nat→Prop) (l:List (Option ND)) (ds:List DN) (pn:List ((Int×Int)×Int)) (hl:ps.length=gs.length) (hr:∀ x∈gs,0≤x∧x≤1000000) (n g:Int) (k:Nat) (N:ND) (hlk:l[k]?=some (some N)) (ha:Bm ps gs n g=some N.nb) (m:Int) (hm:-1≤m∧m≤1) (hli:0≤N.links∧N.links≤1000000)  : Ap Tryz.prog 58 #[Pp b,Hg n g,Ii m] [Rb b tb most dm pm,B5 tb ps gs vl vg T Sl Sg,Cn l,Bs B ad [10]] (fun u L=>L=[Rb b tb most dm pm,B5 tb ps gs vl vg T Sl Sg,Cn (l.set k (some (Am N m))),Bs B ad [10]]):=by
 refine Zo 26 Tryz.func58 fun E w0 w h=>?_
 refine Qs (ZN [Ii n,Ii g] 34 h fun k1 w h=>Qn (Aa (Ds 12 [0,0] h fun w h=>Dp 0 528 (Pp b) [0,0] h (Dp 1 529 (Pp b) [0,0] h (Dp 2 531 (Pp b) [0,0] h (Dq 3 535 [0,0] rfl h (Gl 0 (Pp tb) 1) (Dq 4 527 [0,0] rfl h (Gla 0 [Ii n,Ii g] 0) ?_)))))))
 refine Ay [5,9] (by kernel_rfl) rfl ?_
 refine De #[Pp tb,Hg n g] [2,2,2] [3,3] rfl (by kernel_rfl) (Bh ad tb ps gs vl vg T Sl Sg l hl hr n g k N hlk ha) (fun _=>by kernel_rfl) h ?_ ?_
 rintro v_ L_ w ⟨rfl,rfl⟩ h
 refine ⟨by kernel_rfl,?_⟩
 refine Dp 6 575 (.tuple #[.agg #[Ii N.kind,Ii (Ai N),Ii N.links,Ii N.change,Ii N.upn,Ii N.upg],.nilIface]) [3,3] h (Dp 7 895 (.agg #[Ii N.kind,Ii (Ai N),Ii N.links,Ii N.change,Ii N.upn,Ii N.upg]) [3,3] h (Dp 8 1791 .nilIface [3,3] h ?_))
 refine Ay [9] (by kernel_rfl) rfl ?_
 refine B8 [4,4] rfl (by kernel_rfl) (fun b=>Pp b) [Ii 0,Ii 0,Ii 0,Ii 0,Ii 0,Ii 0] 46 (fun _=>by kernel_rfl) h ?_ ?_
 intro k2 w h;refine ⟨by kernel_rfl,?_⟩
 refine As 10 [4,4] 0 [Ii N.kind,Ii (Ai N),Ii N.links,Ii N.change,Ii N.upn,Ii N.upg] [Ii N.kind,Ii (Ai N),Ii N.links,Ii N.change,Ii N.upn,Ii N.upg] 0 rfl h fun w h=>Dp 11 2047 .nilIface [4,4] h (Dd (Af (Qs (ZP (Pt k2 2) (ZG h (Gl 2 (Ii N.links) 0) (ZP (Ii m) (ZG h (Gw (N.links+m)) (ZP (Pt k2 2) (ZS 2 [Ii (N.links+m)] [Ii N.kind,Ii (Ai N),Ii (N.links+m),Ii N.change,Ii N.upn,Ii N.upg] 0 rfl h fun w h=>Qn (Ds 7 [0,3,3] h fun w h=>Dp 0 48 (Pp b) [0,3,3] h (Dp 1 49 (Pp b) [0,3,3] h (Dp 2 51 (Pp b) [0,3,3] h (Dq 3 55 [0,3,3] rfl h (Gl 0 (Pp tb) 2) (Dq 4 47 [0,3,3] rfl h (Gla 0 [Ii n,Ii g] 1) (Dq 5 31 [0,3,3] rfl h (Gla 0 [Ii N.kind,Ii (Ai N),Ii (N.links+m),Ii N.change,Ii N.upn,Ii N.upg] 0) ?_)))))))))))))))
 refine Ad 6 [1,1,1] [3,3,3] (Gg ad tb ps gs vl vg T Sl Sg l hl hr n g k N hlk ha N.kind (Ai N) (N.links+m) N.change N.upn N.upg) h ?_
 rintro _ L_ w rfl h
 refine ⟨by kernel_rfl,?_⟩
 exact Dd (ZR [] [5,0,0,0] h rfl)
 exact Bb
 refine B8 [1,1] rfl (by kernel_rfl) (fun b=>Pp b) [Ii 0,Ii 0,Ii 0,Ii 0,Ii 0,Ii 0] 46 (fun _=>by kernel_rfl) h ?_ ?_
 intro k3 w h;refine ⟨by kernel_rfl,?_⟩
 refine Ad 5 [3,3,3] [4,4] (Bh ad tb ps gs vl vg T Sl Sg l hl hr n g k N hlk ha) h ?_
 rintro v_ L_ w ⟨rfl,rfl⟩ h
 refine ⟨by kernel_rfl,?_⟩
 refine Dp 6 575 (.tuple #[.agg #[Ii N.kind,Ii (Ai N),Ii N.links,Ii N.change,Ii N.upn,Ii N.upg],.nilIface]) [4,4] h (Dp 7 895 (.agg #[Ii N.kind,Ii (Ai N),Ii N.links,Ii N.change,Ii N.upn,Ii N.upg]) [4,4] h (Dp 8 1791 .nilIface [4,4] h (As 10 [4,4] 0 [Ii N.kind,Ii (Ai N),Ii N.links,Ii N.change,Ii N.upn,Ii N.upg] [Ii N.kind,Ii (Ai N),Ii N.links,Ii N.change,Ii N.upn,Ii N.upg] 3 rfl h fun w h=>Dp 11 2047 .nilIface [4,4] h (Dd (Af (Qs (ZP (Pt k3 2) (ZG h (Gl 2 (Ii N.links) 3) (ZP (Ii m) (ZG h (Gw (N.links+m)) (ZP (Pt k3 2) (ZS 2 [Ii (N.links+m)] [Ii N.kind,Ii (Ai N),Ii (N.links+m),Ii N.change,Ii N.upn,Ii N.upg] 3 rfl h fun w h=>Qn (Ds 7 [3,3,3] h fun w h=>Dp 0 48 (Pp b) [3,3,3] h (Dp 1 49 (Pp b) [3,3,3] h (Dp 2 51 (Pp b) [3,3,3] h (Dq 3 55 [3,3,3] rfl h (Gl 0 (Pp tb) 2) (Dq 4 47 [3,3,3] rfl h (Gla 0 [Ii n,Ii g] 1) (Dq 5 31 [3,3,3] rfl h (Gla 0 [Ii N.kind,Ii (Ai N),Ii (N.links+m),Ii N.change,Ii N.upn,Ii N.upg] 0) ?_))))))))))))))))))
 refine Ad 6 [0,0,0] [3,3,3] (Gg ad tb ps gs vl vg T Sl Sg l hl hr n g k N hlk ha N.kind (Ai N) (N.links+m) N.change N.upn N.upg) h ?_
 rintro _ L_ w rfl h
 refine ⟨by kernel_rfl,?_⟩
 exact Dd (ZR [] [5,0,0,0] h rfl)
 exact Bb
theorem X5 (b most tb dm pm:Nat)  : Ap Tryz.prog 13 #[Pp b] [Rb b tb most dm pm] (fun u L=>u=Hg 0 0∧L=[Rb b tb most dm pm]):=by
 refine Zo 6 Tryz.func13 fun E w0 w h=>?_
 refine Qs (ZN [Ii 0,Ii 0] 34 h fun k1 w h=>Qm (ZP (Pp b) (ZP (Pp b) (ZP (Pt b 2) (ZG h (Gla 2 [Ii 0,Ii 0] 1) (ZSs [Ii 0,Ii 0] 0 rfl h fun w h=>Qr ?_))))))
 refine B0 [Hg 0 0] [1] h (by kernel_rfl) (Di 0 [Ii 0,Ii 0] (Hg 0 0) 0 rfl (by kernel_rfl) Dh) ?_
 exact ⟨rfl,rfl⟩
theorem U1 (b most tb dm pm:Nat) (ps:List (Option Nat)) (gs:List Int) (vl vg:Value) (T:TypeId) (Sl Sg:Nat→Prop) (hlen:ps.length≤300)  : Ap Tryz.prog 15 #[Pp b] [Rb b tb most dm pm,B5 tb ps gs vl vg T Sl Sg] (fun u L=>u=Ii (Fj ps:Nat)∧L=[Rb b tb most dm pm,B5 tb ps gs vl vg T Sl Sg]):=by
 refine Zo 7 Tryz.func15 fun E w0 w h=>?_
 exact Qs (ZP (Ii 0) (Qm (ZP (Pp b) (ZP (Pp b) (ZP (Pp b) (ZG h (Gl 0 (Pp tb) 0) (ZC [1] (Pm tb ps gs vl vg T Sl Sg hlen) h fun w h=>ZP (Ii (Fj ps:Nat)) (Qr (ZR [Ii (Fj ps:Nat)] [1,0] h ⟨rfl,rfl⟩)))))))))
section
variable {B:Nat} (ad:Nat→Addr) (b most tb dm pm:Nat) (ps:List (Option Nat)) (gs:List Int) (vl vg:Value) (T:TypeId) (Sl Sg:Nat→Prop) (l:List (Option ND)) (ds:List DN) (pn:List ((Int×Int)×Int)) (hl:ps.length=gs.length) (hr:∀ x∈gs,0≤x∧x≤1000000) (n g:Int) (k:Nat) (N:ND) (hlk:l[k]?=some (some N)) (ha:Bm ps gs n g=some N.nb) (j:Nat) (d:DN) (hj:ds[j]?=some d) (hdh:d.h=(n,g)) (hdd:(ds.map (·.h)).Nodup) (s:ByteArray) (hs:s.size≤9223372036854775807) (hok:A0 s)
include B ad b most tb dm pm ps gs vl vg T Sl Sg l ds pn hl hr n g k N hlk ha j d hj hdh hdd s hs hok
theorem Hv (x:Int×Int) (hx:Ae d.es s=some x):Ap Tryz.prog 17 #[Pp b,Hg n g,.string s] [Rb b tb most dm pm,B5 tb ps gs vl vg T Sl Sg,Cn l,Ci true dm hk (ds.map Bq),Ef ds,Bs B ad [10],Bs B ad [4]] (fun u L=>u=.tuple #[Hg x.1 x.2,.nilIface]∧L=[Rb b tb most dm pm,B5 tb ps gs vl vg T Sl Sg,Cn l,Ci true dm hk (ds.map Bq),Ef ds,Bs B ad [10],Bs B ad [4]]):=by
 refine Zo 31 Tryz.func17 fun E w0 w h=>?_
 refine Qs (ZN [Ii n,Ii g] 34 h fun k1 w h=>ZN [Ii 0,Ii 0] 34 h fun k2 w h=>ZP .nilIface (Qm (ZP (Pp b) (ZG h (Gla 0 [Ii n,Ii g] 1) (ZP (.string s) (ZC [2,2,2,2,3,3] (Cd ad b most tb dm pm ps gs vl vg T Sl Sg l ds pn hl hr n g k N hlk ha j d hj hdh hdd s hs hok) h fun w h=>?_))))))
 have h:=(h.pkr [8]).dirOpen hj
 refine ZP (.tuple #[.map (some d.mb),.nilIface]) (ZP (.map (some d.mb)) (ZP .nilIface (ZP (.map (some d.mb)) (ZP .nilIface (Qu (ZP .nilIface (ZP (.bool false) (Fs (ZP (.map (some d.mb)) (ZP (.string s) (ZG h (A1 (v':=.tuple #[Hg x.1 x.2,.bool true]) (Gks (kv:=d.es.map A8) true s 0 rfl) (by rw [Cb hx];rfl)) (ZP (.tuple #[Hg x.1 x.2,.bool true]) (ZP (Hg x.1 x.2) (ZP (.bool true) (ZN [Ii 0,Ii 0] 34 h fun k3 w h=>ZSs [Ii x.1,Ii x.2] 0 rfl h fun w h=>ZP (.bool true) (Qu (ZP (.bool true) (ZP (.bool false) (Fs (ZG h (Gla 0 [Ii x.1,Ii x.2] 0) (ZSs [Ii x.1,Ii x.2] 9 rfl h fun w h=>ZP .nilIface (Qr ?_))))))))))))))))))))))
 have h:=(h.pkr [1,1]).dirBack (d:=d) hj
 refine B0 [Hg x.1 x.2,.nilIface] [2,2,2,2,0,1,1] h (by kernel_rfl) (Di 0 [Ii x.1,Ii x.2] (Hg x.1 x.2) 8 rfl (by kernel_rfl) (Dy (by kernel_rfl) Dh)) ?_
 exact ⟨rfl,rfl⟩
theorem Nc (hx:Ae d.es s=none) (kind:Int) (hki:kind=1∨kind=2) (hfew:60≤d.es.length):Ap Tryz.prog 28 #[Pp b,Hg n g,.string s,Ii kind] [Rb b tb most dm pm,B5 tb ps gs vl vg T Sl Sg,Cn l,Ci true dm hk (ds.map Bq),Ef ds,Bs B ad [10],Bs B ad [4],Bs B ad [9]] (fun u L=>u=.tuple #[Hg 0 0,Ag ad 9]∧L=[Rb b tb most dm pm,B5 tb ps gs vl vg T Sl Sg,Cn l,Ci true dm hk (ds.map Bq),Ef ds,Bs B ad [10],Bs B ad [4],Bs B ad [9]]):=by
 refine Zo 94 Tryz.func28 fun E w0 w h=>?_
 refine Qs (ZN [Ii n,Ii g] 34 h fun k1 w h=>ZN [Ii 0,Ii 0] 34 h fun k2 w h=>ZP .nilIface (Qm (ZP (Pp b) (ZG h (Gla 0 [Ii n,Ii g] 1) (ZP (.string s) (ZC [2,2,2,2,3,3] (Cd ad b most tb dm pm ps gs vl vg T Sl Sg l ds pn hl hr n g k N hlk ha j d hj hdh hdd s hs hok) h fun w h=>?_))))))
 have h:=(h.pkr [8]).dirOpen hj
 refine ZP (.tuple #[.map (some d.mb),.nilIface]) (ZP (.map (some d.mb)) (ZP .nilIface (ZP (.map (some d.mb)) (ZP .nilIface (Qm (ZP (.map (some d.mb)) (ZP (.string s) (ZG h (A1 (v':=.tuple #[Hg 0 0,.bool false]) (Gks (kv:=d.es.map A8) true s 0 rfl) (by rw [Eb hx];rfl)) (ZP (.tuple #[Hg 0 0,.bool false]) (ZP (Hg 0 0) (ZP (.bool false) (ZN [Ii 0,Ii 0] 34 h fun k3 w h=>ZSs [Ii 0,Ii 0] 0 rfl h fun w h=>ZP (.bool false) (Qn (Aa (Ar (Qs (ZP .nilIface (ZP (.bool false) (ZP (.bool false) (Qf (Qs (ZP (Ii kind) ?_))))))))))))))))))))))
 obtain ⟨b4,hb4⟩:=nmB (!(decide (kind=1)))
 refine ZB hb4 (ZP (.bool b4) (ZM1 (v:=Ii kind) b4 h (fun hB=>by subst hB;exact Gp (Ii kind)) ?_))
 obtain ⟨b5,hb5⟩:=nmB (!(decide (kind=2)))
 refine ZM1 (v:=.bool b5) b4 h (fun hB=>by subst hB;exact by subst hb5;exact Ax (v:=.bool (!(decide (kind=2)))) fun _=>by kernel_rfl) ?_
 obtain ⟨b6,hb6⟩:=nmB (b4&&b5)
 refine ZBc b4 hb6 (ZP (.bool b6) (Qn (Zi (b6) (fun hc7=>?_) fun hc7=>?_)))
 have q8:=hb6.symm.trans hc7
 have q9:=aL q8
 have q10:=aR q8
 have q11:=hb4.symm.trans q9
 have q12:(decide (kind=1))=false:=by simpa using q11
 have q12:=dcF q12
 have q13:=hb5.symm.trans q10
 have q14:(decide (kind=2))=false:=by simpa using q13
 have q14:=dcF q14
 exfalso;revert hc7;subst hb6;subst hb5;subst hb4;simp;omega
 have q15:=hb6.symm.trans hc7
 refine Qs (ZP (.bool false) (ZP (.bool false) (Qf (Qs (ZP (.map (some d.mb)) (ZG h (Ek (K:=9) (E:=34) (by kernel_rfl) 1 rfl) (ZP (.bool (decide (((d.es.map A8).length:Int)≥60))) (ZP (.bool (decide (((d.es.map A8).length:Int)≥60))) (Qn (Zd (((d.es.map A8).length:Int)≥60) (fun hc16=>?_) fun hc16=>?_))))))))))
 refine Aa (Ds 4 [11] h fun w h=>Dp 0 2 (Hg 0 0) [11] h (Dq 1 5 [11] rfl h (Gr 0 (Ag ad 9) 0 rfl (Fd (c:=9) (by decide) rfl)) (As 2 [11] 0 [Ii 0,Ii 0] [Ii 0,Ii 0] 9 rfl h fun w h=>Dp 3 7 (Ag ad 9) [11] h (Dd (Af (Hs (Cj (Au ?_))))))))
 have h:=(h.pkr [1,1]).dirBack (d:=d) hj
 refine B0 [Hg 0 0,Ag ad 9] [2,2,2,2,0,1,1,3] h (by kernel_rfl) (Di 0 [Ii 0,Ii 0] (Hg 0 0) 8 rfl (by kernel_rfl) (Dy (by kernel_rfl) Dh)) ?_
 exact ⟨rfl,rfl⟩
 exfalso;revert hc16;simp;omega
theorem Ro (hx:Ae d.es s=none) (hfew:d.es.length<60) (hnk:n=(k:Int)) (kf:Nat) (x:Int) (hf:Fy ps=some kf) (hxx:gs[kf]?=some x) (hx1:x≤1000) (hlen:ps.length≤300) (hll:l.length=ps.length) (hkk:kf≠k) (hch:0≤N.change∧N.change≤1000000):Ap Tryz.prog 28 #[Pp b,Hg n g,.string s,Ii 1] [Rb b tb most dm pm,B5 tb ps gs vl vg T Sl Sg,Cn l,Ci true dm hk (ds.map Bq),Ef ds,Bs B ad [10],Bs B ad [4]] (fun u L=>∃ nb db,u=.tuple #[Hg kf x,.nilIface]∧L=[Rb b tb most dm pm,B5 tb (ps.set kf (some nb)) (gs.set kf (x+1)) vl vg T Sl Sg,Cn (((l.set kf (some (Cv nb 1 (some (Hm db))))).set kf (some (Am (Cv nb 1 (some (Hm db))) 1))).set k (some (Ab N))),Ci true dm hk ((ds.set j { d with es:=Az d.es s ((kf:Int),x) }).map Bq),Ef (ds.set j { d with es:=Az d.es s ((kf:Int),x) }),Bs B ad [10],Bs B ad [4]]):=by
 refine Zo 94 Tryz.func28 fun E w0 w h=>?_
 refine Qs (ZN [Ii n,Ii g] 34 h fun k1 w h=>ZN [Ii 0,Ii 0] 34 h fun k2 w h=>ZP .nilIface (Qm (ZP (Pp b) (ZG h (Gla 0 [Ii n,Ii g] 1) (ZP (.string s) (ZC [2,2,2,2,3,3] (Cd ad b most tb dm pm ps gs vl vg T Sl Sg l ds pn hl hr n g k N hlk ha j d hj hdh hdd s hs hok) h fun w h=>?_))))))
 have h:=(h.pkr [8]).dirOpen hj
 refine ZP (.tuple #[.map (some d.mb),.nilIface]) (ZP (.map (some d.mb)) (ZP .nilIface (ZP (.map (some d.mb)) (ZP .nilIface (Qm (ZP (.map (some d.mb)) (ZP (.string s) (ZG h (A1 (v':=.tuple #[Hg 0 0,.bool false]) (Gks (kv:=d.es.map A8) true s 0 rfl) (by rw [Eb hx];rfl)) (ZP (.tuple #[Hg 0 0,.bool false]) (ZP (Hg 0 0) (ZP (.bool false) (ZN [Ii 0,Ii 0] 34 h fun k3 w h=>ZSs [Ii 0,Ii 0] 0 rfl h fun w h=>ZP (.bool false) (Qn (Aa (Ar (Qs (ZP .nilIface (ZP (.bool false) (ZP (.bool false) (Qf (Qs (ZP (Ii 1) (ZP (.bool false) (ZP (.bool false) (Zx (Zx (ZP (.bool false) (ZP (.bool false) (Qf (Qs (ZP (.bool false) (ZP (.bool false) (Qf (Qs (ZP (.map (some d.mb)) (ZG h (Ek (K:=9) (E:=34) (by kernel_rfl) 1 rfl) (ZP (.bool (decide (((d.es.map A8).length:Int)≥60))) (ZP (.bool (decide (((d.es.map A8).length:Int)≥60))) (Qn (Zd (((d.es.map A8).length:Int)≥60) (fun hc4=>?_) fun hc4=>?_))))))))))))))))))))))))))))))))))))))))
 exfalso;revert hc4;simp;omega
 refine Bz ?_
 refine B9 (Af ?_)
 refine Qs (ZP (Pp b) (ZP (Pp b) (ZP (Pp b) (ZG h (Gl 0 (Pp tb) 3) (ZP (Ii 1) ?_)))))
 refine ZD [4,4] (Re tb kf x ps gs vl vg T Sl Sg l hlen hl hf hxx (by have:=hr x (List.mem_of_getElem? hxx);omega)) h ?_;rintro v_ L_ w ⟨nb5,db6,rfl,rfl⟩ h
 have hkfl:=C1 hxx
 have hkl:=C1 hlk
 have hx0:=hr x (List.mem_of_getElem? hxx)
 have hl2:=Wx (x:=some nb5) (y:=x+1) (k:=kf) (j:=kf) hl
 have hr2:=Xo hr hxx hx1
 have ha2:Bm (ps.set kf (some nb5)) (gs.set kf (x+1)) (kf:Int) x=some nb5:=P1 (by omega) hkfl
 have haN:Bm (ps.set kf (some nb5)) (gs.set kf (x+1)) n g=some N.nb:=by rw [hnk] at ha ⊢;exact Xa ha hkk
 refine ZP (.tuple #[Hg kf x,.nilIface]) (ZP (Hg kf x) (ZP .nilIface (ZN [Ii 0,Ii 0] 34 h fun k7 w h=>ZSs [Ii kf,Ii x] 0 rfl h fun w h=>ZP .nilIface (Qu (ZP .nilIface (ZP (.bool false) (Fs (ZP (.map (some d.mb)) (ZP (.string s) (ZG h (Gla 0 [Ii kf,Ii x] 0) ?_))))))))))
 refine Fk rfl (K:=9) (E:=34) (Cq (by kernel_rfl)) s (Hg kf x) (by kernel_rfl) h 4 rfl ?_;intro w h
 refine Qu (ZP (Ii 1) (ZP (.bool false) (Qf (Ah (ZP (Pp b) (ZG h (Gla 0 [Ii kf,Ii x] 0) ?_))))))
 refine ZD [6,1,1,5] (Da ad b most tb dm pm (ps.set kf (some nb5)) (gs.set kf (x+1)) vl vg T Sl Sg (l.set kf (some (Cv nb5 1 (some (Hm db6))))) ds pn hl2 hr2 (kf:Int) x kf (Cv nb5 1 (some (Hm db6))) (C2 (by first|omega|(simp;omega))) ha2 1 (by omega) (by first|assumption|(constructor<;>first|omega|(simp [Am,keepN,Cv,Ab]<;>omega)))) h ?_;rintro _ L_ w rfl h
 refine Qn (Aa (Ds 6 [0,10] h fun w h=>Dp 0 16 (Pp b) [0,10] h (Dp 1 17 (Pp b) [0,10] h (Dp 2 19 (Pp b) [0,10] h (Dq 3 23 [0,10] rfl h (Gl 0 (Pp tb) 0) (Dq 4 15 [0,10] rfl h (Gla 0 [Ii n,Ii g] 1) ?_))))))
 refine Ad 5 [1,1,1] [3,10] (Br ad tb (ps.set kf (some nb5)) (gs.set kf (x+1)) vl vg T Sl Sg ((l.set kf (some (Cv nb5 1 (some (Hm db6))))).set kf (some (Am (Cv nb5 1 (some (Hm db6))) 1))) hl2 hr2 n g k N (A3 (A3 hlk (by omega)) (by omega)) haN (by first|assumption|(constructor<;>first|omega|(simp [Am,keepN,Cv,Ab]<;>omega)))) h ?_
 rintro v_ L_ w ⟨rfl,rfl⟩ h
 refine ⟨by kernel_rfl,?_⟩
 refine Dd (Af (Qs (ZG h (Gla 0 [Ii kf,Ii x] 4) (ZSs [Ii kf,Ii x] 10 rfl h fun w h=>ZP .nilIface (Qr ?_)))))
 rw [show Az (d.es.map A8) s (Hg kf x)=(Az d.es s ((kf:Int),x)).map A8 from Ge s ((kf:Int),x) d.es] at h
 have h:=(h.pkr [6,6]).dirClose { d with es:=Az d.es s ((kf:Int),x) }
 try unfold Ra at h
 rw [← Bw (d':={ d with es:=Az d.es s ((kf:Int),x) }) hj rfl rfl] at h
 refine B0 [Hg kf x,.nilIface] [4,1,1,4,0,0,2] h (by kernel_rfl) (Di 0 [Ii kf,Ii x] (Hg kf x) 9 rfl (by kernel_rfl) (Dy (by kernel_rfl) Dh)) ?_
 exact ⟨_,_,rfl,rfl⟩
theorem Rn (hx:Ae d.es s=none) (hfew:d.es.length<60) (hnk:n=(k:Int)) (kf:Nat) (x:Int) (hf:Fy ps=some kf) (hxx:gs[kf]?=some x) (hx1:x≤1000) (hlen:ps.length≤300) (hll:l.length=ps.length) (hkk:kf≠k) (hch:0≤N.change∧N.change≤1000000) (hnh:∀ d∈ds,d.h≠((kf:Int),x)) (hli:0≤N.links∧N.links≤1000000):Ap Tryz.prog 28 #[Pp b,Hg n g,.string s,Ii 2] [Rb b tb most dm pm,B5 tb ps gs vl vg T Sl Sg,Cn l,Ci true dm hk (ds.map Bq),Ef ds,Bs B ad [10],Bs B ad [4]] (fun u L=>∃ nb mb2,u=.tuple #[Hg kf x,.nilIface]∧L=[Rb b tb most dm pm,B5 tb (ps.set kf (some nb)) (gs.set kf (x+1)) vl vg T Sl Sg,Cn ((((l.set kf (some (Cv nb 2 none))).set kf (some (keepN (Cv nb 2 none) 2 0 2 n g))).set k (some (Am N 1))).set k (some (Ab (Am N 1)))),Ci true dm hk ((ds.set j { d with es:=Az d.es s ((kf:Int),x) }++[(⟨((kf:Int),x),mb2,[]⟩:DN)]).map Bq),Ef (ds.set j { d with es:=Az d.es s ((kf:Int),x) }++[(⟨((kf:Int),x),mb2,[]⟩:DN)]),Bs B ad [10],Bs B ad [4]]):=by
 refine Zo 94 Tryz.func28 fun E w0 w h=>?_
 refine Qs (ZN [Ii n,Ii g] 34 h fun k1 w h=>ZN [Ii 0,Ii 0] 34 h fun k2 w h=>ZP .nilIface (Qm (ZP (Pp b) (ZG h (Gla 0 [Ii n,Ii g] 1) (ZP (.string s) (ZC [2,2,2,2,3,3] (Cd ad b most tb dm pm ps gs vl vg T Sl Sg l ds pn hl hr n g k N hlk ha j d hj hdh hdd s hs hok) h fun w h=>?_))))))
 have h:=(h.pkr [8]).dirOpen hj
 refine ZP (.tuple #[.map (some d.mb),.nilIface]) (ZP (.map (some d.mb)) (ZP .nilIface (ZP (.map (some d.mb)) (ZP .nilIface (Qm (ZP (.map (some d.mb)) (ZP (.string s) (ZG h (A1 (v':=.tuple #[Hg 0 0,.bool false]) (Gks (kv:=d.es.map A8) true s 0 rfl) (by rw [Eb hx];rfl)) (ZP (.tuple #[Hg 0 0,.bool false]) (ZP (Hg 0 0) (ZP (.bool false) (ZN [Ii 0,Ii 0] 34 h fun k3 w h=>ZSs [Ii 0,Ii 0] 0 rfl h fun w h=>ZP (.bool false) (Qn (Aa (Ar (Qs (ZP .nilIface (ZP (.bool false) (ZP (.bool false) (Qf (Qs (ZP (Ii 2) (ZP (.bool true) (ZP (.bool true) (ZP (Ii 2) (ZP (.bool false) (ZP (.bool false) (ZP (.bool false) (Qf (Qs (ZP (.bool false) (ZP (.bool false) (Qf (Qs (ZP (.map (some d.mb)) (ZG h (Ek (K:=9) (E:=34) (by kernel_rfl) 1 rfl) (ZP (.bool (decide (((d.es.map A8).length:Int)≥60))) (ZP (.bool (decide (((d.es.map A8).length:Int)≥60))) (Qn (Zd (((d.es.map A8).length:Int)≥60) (fun hc4=>?_) fun hc4=>?_))))))))))))))))))))))))))))))))))))))))
 exfalso;revert hc4;simp;omega
 refine Bz ?_
 refine B9 (Af ?_)
 refine Qs (ZP (Pp b) (ZP (Pp b) (ZP (Pp b) (ZG h (Gl 0 (Pp tb) 3) (ZP (Ii 2) ?_)))))
 refine ZD [4,4] (L3 tb kf x ps gs vl vg T Sl Sg l hlen hl hf hxx (by have:=hr x (List.mem_of_getElem? hxx);omega)) h ?_;rintro v_ L_ w ⟨nb5,rfl,rfl⟩ h
 have hkfl:=C1 hxx
 have hkl:=C1 hlk
 have hx0:=hr x (List.mem_of_getElem? hxx)
 have hl2:=Wx (x:=some nb5) (y:=x+1) (k:=kf) (j:=kf) hl
 have hr2:=Xo hr hxx hx1
 have ha2:Bm (ps.set kf (some nb5)) (gs.set kf (x+1)) (kf:Int) x=some nb5:=P1 (by omega) hkfl
 have haN:Bm (ps.set kf (some nb5)) (gs.set kf (x+1)) n g=some N.nb:=by rw [hnk] at ha ⊢;exact Xa ha hkk
 refine ZP (.tuple #[Hg kf x,.nilIface]) (ZP (Hg kf x) (ZP .nilIface (ZN [Ii 0,Ii 0] 34 h fun k7 w h=>ZSs [Ii kf,Ii x] 0 rfl h fun w h=>ZP .nilIface (Qu (ZP .nilIface (ZP (.bool false) (Fs (ZP (.map (some d.mb)) (ZP (.string s) (ZG h (Gla 0 [Ii kf,Ii x] 0) ?_))))))))))
 refine Fk rfl (K:=9) (E:=34) (Cq (by kernel_rfl)) s (Hg kf x) (by kernel_rfl) h 4 rfl ?_;intro w h
 refine Qu (ZP (Ii 2) (ZP (.bool true) (Qg (Aa (Ds 7 [0,5] h fun w h=>Dp 0 48 (Pp b) [0,5] h (Dp 1 49 (Pp b) [0,5] h (Dp 2 51 (Pt b 4) [0,5] h (Dq 3 55 [0,5] rfl h (Gl 4 (.map (some dm)) 1) (Dq 4 47 [0,5] rfl h (Gla 0 [Ii kf,Ii x] 0) ?_)))))))))
 refine Ay [5] (by kernel_rfl) rfl ?_
 refine Xg [1,6] rfl (by kernel_rfl) sk (fun _=>by kernel_rfl) h ?_ ?_
 intro k8 w h;refine ⟨by kernel_rfl,?_⟩
 refine Ay [6] (by kernel_rfl) rfl ?_
 refine Wq [1,6] rfl (by kernel_rfl) (K:=34) (E:=82) Dm ((kf:Int),x) (.map (some k8)) (by kernel_rfl) h 8 rfl ?_ ?_
 intro w h;refine ⟨by kernel_rfl,?_⟩
 refine Dd (Af (Aa (Ds 9 [1,6,10] h fun w h=>Dp 0 240 (Pp b) [1,6,10] h (Dp 1 241 (Pp b) [1,6,10] h (Dp 2 243 (Pp b) [1,6,10] h (Dq 3 247 [1,6,10] rfl h (Gl 0 (Pp tb) 1) (Dq 4 239 [1,6,10] rfl h (Gla 0 [Ii kf,Ii x] 0) (Dp 5 95 (Ii 2) [1,6,10] h (Dq 6 63 [1,6,10] rfl h (Gla 0 [Ii n,Ii g] 2) (Dp 7 127 (.agg #[Ii 2,Ii 0,Ii 2,Ii 0,Ii n,Ii g]) [1,6,10] h ?_))))))))))
 refine Ad 8 [2,2,7] [4,7,10] (Gg ad tb (ps.set kf (some nb5)) (gs.set kf (x+1)) vl vg T Sl Sg (l.set kf (some (Cv nb5 2 none))) hl2 hr2 (kf:Int) x kf (Cv nb5 2 none) (C2 (by first|omega|(simp;omega))) ha2 2 0 2 0 n g) h ?_
 rintro _ L_ w rfl h
 refine ⟨by kernel_rfl,?_⟩
 refine Dd (Af (Ah (ZP (Pp b) (ZG h (Gla 0 [Ii n,Ii g] 12) ?_))))
 refine ZD [8,0,0,0] (Da ad b most tb dm pm (ps.set kf (some nb5)) (gs.set kf (x+1)) vl vg T Sl Sg ((l.set kf (some (Cv nb5 2 none))).set kf (some (keepN (Cv nb5 2 none) 2 0 2 n g))) ds pn hl2 hr2 n g k N (A3 (A3 hlk (by omega)) (by omega)) haN 1 (by omega) (by first|assumption|(constructor<;>first|omega|(simp [Am,keepN,Cv,Ab]<;>omega)))) h ?_;rintro _ L_ w rfl h
 refine Qn (Aa (Ds 6 [0,11] h fun w h=>Dp 0 16 (Pp b) [0,11] h (Dp 1 17 (Pp b) [0,11] h (Dp 2 19 (Pp b) [0,11] h (Dq 3 23 [0,11] rfl h (Gl 0 (Pp tb) 0) (Dq 4 15 [0,11] rfl h (Gla 0 [Ii n,Ii g] 1) ?_))))))
 refine Ad 5 [1,1,1] [3,11] (Br ad tb (ps.set kf (some nb5)) (gs.set kf (x+1)) vl vg T Sl Sg (((l.set kf (some (Cv nb5 2 none))).set kf (some (keepN (Cv nb5 2 none) 2 0 2 n g))).set k (some (Am N 1))) hl2 hr2 n g k (Am N 1) (C2 (by first|omega|(simp;omega))) haN (by first|assumption|(constructor<;>first|omega|(simp [Am,keepN,Cv,Ab]<;>omega)))) h ?_
 rintro v_ L_ w ⟨rfl,rfl⟩ h
 refine ⟨by kernel_rfl,?_⟩
 refine Dd (Af (Qs (ZG h (Gla 0 [Ii kf,Ii x] 5) (ZSs [Ii kf,Ii x] 11 rfl h fun w h=>ZP .nilIface (Qr ?_)))))
 rw [show Az (d.es.map A8) s (Hg kf x)=(Az d.es s ((kf:Int),x)).map A8 from Ge s ((kf:Int),x) d.es] at h
 have h:=(h.pkr [7,7]).dirClose { d with es:=Az d.es s ((kf:Int),x) }
 try unfold Ra at h
 rw [← Bw (d':={ d with es:=Az d.es s ((kf:Int),x) }) hj rfl rfl] at h
 have h:=(h.pkr [5]).dirAdd ⟨((kf:Int),x),k8,[]⟩
 rw [W1 (es:=[]) (fun d2 hd2=>by rcases List.mem_or_eq_of_mem_set hd2 with hd2|rfl;exact hnh d2 hd2;exact hnh d (List.mem_of_getElem? hj))] at h
 refine B0 [Hg kf x,.nilIface] [4,1,1,4,0,0,2] h (by kernel_rfl) (Di 0 [Ii kf,Ii x] (Hg kf x) 9 rfl (by kernel_rfl) (Dy (by kernel_rfl) Dh)) ?_
 exact ⟨_,_,rfl,rfl⟩
 exact Bb
 exact Bb
theorem V9 (hx:Ae d.es s=none) (ni gi:Int) (ki:Nat) (Ni:ND) (hlki:l[ki]?=some (some Ni)) (hai:Bm ps gs ni gi=some Ni.nb) (hkd:Ni.kind=1) (hfew:d.es.length<60) (hli:0≤Ni.links∧Ni.links<8) (hki:ki≠k) (hch:0≤N.change∧N.change≤1000000) (hci:0≤Ni.change∧Ni.change≤1000000):Ap Tryz.prog 33 #[Pp b,Hg ni gi,Hg n g,.string s] [Rb b tb most dm pm,B5 tb ps gs vl vg T Sl Sg,Cn l,Ci true dm hk (ds.map Bq),Ef ds,Bs B ad [10],Bs B ad [4]] (fun u L=>u=.nilIface∧L=[Rb b tb most dm pm,B5 tb ps gs vl vg T Sl Sg,Cn (((l.set ki (some (Am Ni 1))).set ki (some (Ab (Am Ni 1)))).set k (some (Ab N))),Ci true dm hk ((ds.set j { d with es:=Az d.es s (ni,gi) }).map Bq),Ef (ds.set j { d with es:=Az d.es s (ni,gi) }),Bs B ad [10],Bs B ad [4]]):=by
 have hkl:=C1 hlk
 have hkil:=C1 hlki
 refine Zo 75 Tryz.func33 fun E w0 w h=>?_
 refine Qs (ZN [Ii ni,Ii gi] 34 h fun k1 w h=>ZN [Ii n,Ii g] 34 h fun k2 w h=>ZP .nilIface (Qn (Aa (Ds 12 [1,1] h fun w h=>Dp 0 528 (Pp b) [1,1] h (Dp 1 529 (Pp b) [1,1] h (Dp 2 531 (Pp b) [1,1] h (Dq 3 535 [1,1] rfl h (Gl 0 (Pp tb) 1) (Dq 4 527 [1,1] rfl h (Gla 0 [Ii ni,Ii gi] 0) ?_))))))))
 refine Ay [5,9] (by kernel_rfl) rfl ?_
 refine De #[Pp tb,Hg ni gi] [3,3,5] [4,4] rfl (by kernel_rfl) (Bh ad tb ps gs vl vg T Sl Sg l hl hr ni gi ki Ni hlki hai) (fun _=>by kernel_rfl) h ?_ ?_
 rintro v_ L_ w ⟨rfl,rfl⟩ h
 refine ⟨by kernel_rfl,?_⟩
 refine Dp 6 575 (.tuple #[.agg #[Ii Ni.kind,Ii (Ai Ni),Ii Ni.links,Ii Ni.change,Ii Ni.upn,Ii Ni.upg],.nilIface]) [4,4] h (Dp 7 895 (.agg #[Ii Ni.kind,Ii (Ai Ni),Ii Ni.links,Ii Ni.change,Ii Ni.upn,Ii Ni.upg]) [4,4] h (Dp 8 1791 .nilIface [4,4] h ?_))
 refine Ay [9] (by kernel_rfl) rfl ?_
 refine B8 [5,5] rfl (by kernel_rfl) (fun b=>Pp b) [Ii 0,Ii 0,Ii 0,Ii 0,Ii 0,Ii 0] 46 (fun _=>by kernel_rfl) h ?_ ?_
 intro k3 w h;refine ⟨by kernel_rfl,?_⟩
 refine As 10 [5,5] 0 [Ii Ni.kind,Ii (Ai Ni),Ii Ni.links,Ii Ni.change,Ii Ni.upn,Ii Ni.upg] [Ii Ni.kind,Ii (Ai Ni),Ii Ni.links,Ii Ni.change,Ii Ni.upn,Ii Ni.upg] 0 rfl h fun w h=>Dp 11 2047 .nilIface [5,5] h (Dd (Af (Qt (ZP .nilIface (ZP (.bool false) (Fs (ZP (Pp b) (ZG h (Gla 0 [Ii n,Ii g] 4) (ZP (.string s) (ZC [6,1,1,4,1,4] (Cd ad b most tb dm pm ps gs vl vg T Sl Sg l ds pn hl hr n g k N hlk ha j d hj hdh hdd s hs hok) h fun w h=>?_))))))))))
 have h:=(h.pkr [9]).dirOpen hj
 refine ZP (.tuple #[.map (some d.mb),.nilIface]) (ZP (.map (some d.mb)) (ZP .nilIface (ZP (.map (some d.mb)) (ZP .nilIface (Qm (ZP (.map (some d.mb)) (ZP (.string s) (ZG h (A1 (v':=.tuple #[Hg 0 0,.bool false]) (Gks (kv:=d.es.map A8) true s 0 rfl) (by rw [Eb hx];rfl)) (ZP (.tuple #[Hg 0 0,.bool false]) (ZP (Hg 0 0) (ZP (.bool false) (ZN [Ii 0,Ii 0] 34 h fun k4 w h=>ZSs [Ii 0,Ii 0] 0 rfl h fun w h=>ZP (.bool false) (Qn (Aa (Ar (Qs (ZP .nilIface (ZP (.bool false) (ZP (.bool false) (Qf (Qs (ZP (Pp k3) (ZG h (Gl 0 (Ii Ni.kind) 9) (ZP (.bool (decide (Ni.kind=2))) (ZP (.bool (decide (Ni.kind=2))) (Qn (Zd (Ni.kind=2) (fun hc5=>?_) fun hc5=>?_)))))))))))))))))))))))))))
 exfalso;revert hc5;simp;omega
 refine Qs (ZP (.bool false) (ZP (.bool false) (Qf (Qs (ZP (.map (some d.mb)) (ZG h (Ek (K:=9) (E:=34) (by kernel_rfl) 1 rfl) ?_))))))
 obtain ⟨b6,hb6⟩:=nmB (decide (((d.es.map A8).length:Int)≥60))
 refine ZB hb6 (ZP (.bool b6) (ZM0 (v:=Pt k3 2) b6 h (fun hB=>by subst hB;exact Gp (Pt k3 2)) (ZM0 (v:=Ii Ni.links) b6 h (fun hB=>by subst hB;exact Gl 2 (Ii Ni.links) 9) ?_)))
 obtain ⟨b7,hb7⟩:=nmB (decide (Ni.links≥8))
 refine ZM0 (v:=.bool b7) b6 h (fun hB=>by subst hB;exact by subst hb7;exact Ax (v:=.bool (decide (Ni.links≥8))) fun _=>by kernel_rfl) ?_
 obtain ⟨b8,hb8⟩:=nmB (b6||b7)
 refine ZBc b6 hb8 (ZP (.bool b8) (Qn (Zi (b8) (fun hc9=>?_) fun hc9=>?_)))
 have q10:=hb8.symm.trans hc9
 have q11:((((d.es.map A8).length:Int)≥60)∨(Ni.links≥8)):=by subst hb7;subst hb6;revert q10;first|(simp;done)|(simp;omega)
 exfalso;revert hc9;subst hb8;subst hb7;subst hb6;simp;omega
 have q12:=hb8.symm.trans hc9
 have q13:=oL q12
 have q14:=oR q12
 have q15:=hb6.symm.trans q13
 have q15:=dcF q15
 have q16:=hb7.symm.trans q14
 have q16:=dcF q16
 refine Bz ?_
 refine B9 (Af ?_)
 refine Qs (ZP (.map (some d.mb)) (ZP (.string s) (ZG h (Gla 0 [Ii ni,Ii gi] 11) ?_)))
 refine Fk rfl (K:=9) (E:=34) (Cq (by kernel_rfl)) s (Hg ni gi) (by kernel_rfl) h 1 rfl ?_;intro w h
 refine Qm (ZP (Pp b) (ZG h (Gla 0 [Ii ni,Ii gi] 11) ?_))
 refine ZD [3,3,3,4] (Da ad b most tb dm pm ps gs vl vg T Sl Sg l ds pn hl hr ni gi ki Ni hlki hai 1 (by omega) (by first|assumption|(constructor<;>first|omega|(simp [Am,keepN,Cv,Ab]<;>omega)))) h ?_;rintro _ L_ w rfl h
 refine Qn (Aa (Ds 6 [0,10] h fun w h=>Dp 0 16 (Pp b) [0,10] h (Dp 1 17 (Pp b) [0,10] h (Dp 2 19 (Pp b) [0,10] h (Dq 3 23 [0,10] rfl h (Gl 0 (Pp tb) 0) (Dq 4 15 [0,10] rfl h (Gla 0 [Ii ni,Ii gi] 1) ?_))))))
 refine Ad 5 [1,1,1] [3,10] (Br ad tb ps gs vl vg T Sl Sg (l.set ki (some (Am Ni 1))) hl hr ni gi ki (Am Ni 1) (C2 (by first|omega|(simp;omega))) hai (by first|assumption|(constructor<;>first|omega|(simp [Am,keepN,Cv,Ab]<;>omega)))) h ?_
 rintro v_ L_ w ⟨rfl,rfl⟩ h
 refine ⟨by kernel_rfl,?_⟩
 refine Dd (Af (Aa (Ds 6 [3,9] h fun w h=>Dp 0 16 (Pp b) [3,9] h (Dp 1 17 (Pp b) [3,9] h (Dp 2 19 (Pp b) [3,9] h (Dq 3 23 [3,9] rfl h (Gl 0 (Pp tb) 0) (Dq 4 15 [3,9] rfl h (Gla 0 [Ii n,Ii g] 1) ?_)))))))
 refine Ad 5 [0,0,0] [3,9] (Br ad tb ps gs vl vg T Sl Sg ((l.set ki (some (Am Ni 1))).set ki (some (Ab (Am Ni 1)))) hl hr n g k N (A3 (A3 hlk (by omega)) (by omega)) ha (by first|assumption|(constructor<;>first|omega|(simp [Am,keepN,Cv,Ab]<;>omega)))) h ?_
 rintro v_ L_ w ⟨rfl,rfl⟩ h
 refine ⟨by kernel_rfl,?_⟩
 refine Dd (Af (Qs (ZP .nilIface (Qr ?_))))
 rw [show Az (d.es.map A8) s (Hg ni gi)=(Az d.es s (ni,gi)).map A8 from Ge s (ni,gi) d.es] at h
 have h:=(h.pkr [5,5]).dirClose { d with es:=Az d.es s (ni,gi) }
 try unfold Ra at h
 rw [← Bw (d':={ d with es:=Az d.es s (ni,gi) }) hj rfl rfl] at h
 exact ZR [.nilIface] [4,1,1,3,0,0,1] h ⟨rfl,rfl⟩
 exact Bb
 refine B8 [2,2] rfl (by kernel_rfl) (fun b=>Pp b) [Ii 0,Ii 0,Ii 0,Ii 0,Ii 0,Ii 0] 46 (fun _=>by kernel_rfl) h ?_ ?_
 intro k17 w h;refine ⟨by kernel_rfl,?_⟩
 refine Ad 5 [4,4,6] [5,5] (Bh ad tb ps gs vl vg T Sl Sg l hl hr ni gi ki Ni hlki hai) h ?_
 rintro v_ L_ w ⟨rfl,rfl⟩ h
 refine ⟨by kernel_rfl,?_⟩
 refine Dp 6 575 (.tuple #[.agg #[Ii Ni.kind,Ii (Ai Ni),Ii Ni.links,Ii Ni.change,Ii Ni.upn,Ii Ni.upg],.nilIface]) [5,5] h (Dp 7 895 (.agg #[Ii Ni.kind,Ii (Ai Ni),Ii Ni.links,Ii Ni.change,Ii Ni.upn,Ii Ni.upg]) [5,5] h (Dp 8 1791 .nilIface [5,5] h (As 10 [5,5] 0 [Ii Ni.kind,Ii (Ai Ni),Ii Ni.links,Ii Ni.change,Ii Ni.upn,Ii Ni.upg] [Ii Ni.kind,Ii (Ai Ni),Ii Ni.links,Ii Ni.change,Ii Ni.upn,Ii Ni.upg] 3 rfl h fun w h=>Dp 11 2047 .nilIface [5,5] h (Dd (Af (Qt (ZP .nilIface (ZP (.bool false) (Fs (ZP (Pp b) (ZG h (Gla 0 [Ii n,Ii g] 4) (ZP (.string s) (ZC [6,0,0,4,0,4] (Cd ad b most tb dm pm ps gs vl vg T Sl Sg l ds pn hl hr n g k N hlk ha j d hj hdh hdd s hs hok) h fun w h=>?_)))))))))))))
 have h:=(h.pkr [9]).dirOpen hj
 refine ZP (.tuple #[.map (some d.mb),.nilIface]) (ZP (.map (some d.mb)) (ZP .nilIface (ZP (.map (some d.mb)) (ZP .nilIface (Qm (ZP (.map (some d.mb)) (ZP (.string s) (ZG h (A1 (v':=.tuple #[Hg 0 0,.bool false]) (Gks (kv:=d.es.map A8) true s 0 rfl) (by rw [Eb hx];rfl)) (ZP (.tuple #[Hg 0 0,.bool false]) (ZP (Hg 0 0) (ZP (.bool false) (ZN [Ii 0,Ii 0] 34 h fun k18 w h=>ZSs [Ii 0,Ii 0] 0 rfl h fun w h=>ZP (.bool false) (Qn (Aa (Ar (Qs (ZP .nilIface (ZP (.bool false) (ZP (.bool false) (Qf (Qs (ZP (Pp k17) (ZG h (Gl 0 (Ii Ni.kind) 9) (ZP (.bool (decide (Ni.kind=2))) (ZP (.bool (decide (Ni.kind=2))) (Qn (Zd (Ni.kind=2) (fun hc19=>?_) fun hc19=>?_)))))))))))))))))))))))))))
 exfalso;revert hc19;simp;omega
 refine Qs (ZP (.bool false) (ZP (.bool false) (Qf (Qs (ZP (.map (some d.mb)) (ZG h (Ek (K:=9) (E:=34) (by kernel_rfl) 1 rfl) ?_))))))
 obtain ⟨b20,hb20⟩:=nmB (decide (((d.es.map A8).length:Int)≥60))
 refine ZB hb20 (ZP (.bool b20) (ZM0 (v:=Pt k17 2) b20 h (fun hB=>by subst hB;exact Gp (Pt k17 2)) (ZM0 (v:=Ii Ni.links) b20 h (fun hB=>by subst hB;exact Gl 2 (Ii Ni.links) 9) ?_)))
 obtain ⟨b21,hb21⟩:=nmB (decide (Ni.links≥8))
 refine ZM0 (v:=.bool b21) b20 h (fun hB=>by subst hB;exact by subst hb21;exact Ax (v:=.bool (decide (Ni.links≥8))) fun _=>by kernel_rfl) ?_
 obtain ⟨b22,hb22⟩:=nmB (b20||b21)
 refine ZBc b20 hb22 (ZP (.bool b22) (Qn (Zi (b22) (fun hc23=>?_) fun hc23=>?_)))
 have q24:=hb22.symm.trans hc23
 have q25:((((d.es.map A8).length:Int)≥60)∨(Ni.links≥8)):=by subst hb21;subst hb20;revert q24;first|(simp;done)|(simp;omega)
 exfalso;revert hc23;subst hb22;subst hb21;subst hb20;simp;omega
 have q26:=hb22.symm.trans hc23
 have q27:=oL q26
 have q28:=oR q26
 have q29:=hb20.symm.trans q27
 have q29:=dcF q29
 have q30:=hb21.symm.trans q28
 have q30:=dcF q30
 refine Bz ?_
 refine B9 (Af ?_)
 refine Qs (ZP (.map (some d.mb)) (ZP (.string s) (ZG h (Gla 0 [Ii ni,Ii gi] 11) ?_)))
 refine Fk rfl (K:=9) (E:=34) (Cq (by kernel_rfl)) s (Hg ni gi) (by kernel_rfl) h 1 rfl ?_;intro w h
 refine Qm (ZP (Pp b) (ZG h (Gla 0 [Ii ni,Ii gi] 11) ?_))
 refine ZD [3,3,3,4] (Da ad b most tb dm pm ps gs vl vg T Sl Sg l ds pn hl hr ni gi ki Ni hlki hai 1 (by omega) (by first|assumption|(constructor<;>first|omega|(simp [Am,keepN,Cv,Ab]<;>omega)))) h ?_;rintro _ L_ w rfl h
 refine Qn (Aa (Ds 6 [0,10] h fun w h=>Dp 0 16 (Pp b) [0,10] h (Dp 1 17 (Pp b) [0,10] h (Dp 2 19 (Pp b) [0,10] h (Dq 3 23 [0,10] rfl h (Gl 0 (Pp tb) 0) (Dq 4 15 [0,10] rfl h (Gla 0 [Ii ni,Ii gi] 1) ?_))))))
 refine Ad 5 [1,1,1] [3,10] (Br ad tb ps gs vl vg T Sl Sg (l.set ki (some (Am Ni 1))) hl hr ni gi ki (Am Ni 1) (C2 (by first|omega|(simp;omega))) hai (by first|assumption|(constructor<;>first|omega|(simp [Am,keepN,Cv,Ab]<;>omega)))) h ?_
 rintro v_ L_ w ⟨rfl,rfl⟩ h
 refine ⟨by kernel_rfl,?_⟩
 refine Dd (Af (Aa (Ds 6 [3,9] h fun w h=>Dp 0 16 (Pp b) [3,9] h (Dp 1 17 (Pp b) [3,9] h (Dp 2 19 (Pp b) [3,9] h (Dq 3 23 [3,9] rfl h (Gl 0 (Pp tb) 0) (Dq 4 15 [3,9] rfl h (Gla 0 [Ii n,Ii g] 1) ?_)))))))
 refine Ad 5 [0,0,0] [3,9] (Br ad tb ps gs vl vg T Sl Sg ((l.set ki (some (Am Ni 1))).set ki (some (Ab (Am Ni 1)))) hl hr n g k N (A3 (A3 hlk (by omega)) (by omega)) ha (by first|assumption|(constructor<;>first|omega|(simp [Am,keepN,Cv,Ab]<;>omega)))) h ?_
 rintro v_ L_ w ⟨rfl,rfl⟩ h
 refine ⟨by kernel_rfl,?_⟩
 refine Dd (Af (Qs (ZP .nilIface (Qr ?_))))
 rw [show Az (d.es.map A8) s (Hg ni gi)=(Az d.es s (ni,gi)).map A8 from Ge s (ni,gi) d.es] at h
 have h:=(h.pkr [5,5]).dirClose { d with es:=Az d.es s (ni,gi) }
 try unfold Ra at h
 rw [← Bw (d':={ d with es:=Az d.es s (ni,gi) }) hj rfl rfl] at h
 exact ZR [.nilIface] [4,1,1,3,0,0,1] h ⟨rfl,rfl⟩
 exact Bb
theorem Pj (hx:Ae d.es s=none) (ni gi:Int) (ki:Nat) (Ni:ND) (hlki:l[ki]?=some (some Ni)) (hai:Bm ps gs ni gi=some Ni.nb) (hkd:Ni.kind=1) (hli:8≤Ni.links):Ap Tryz.prog 33 #[Pp b,Hg ni gi,Hg n g,.string s] [Rb b tb most dm pm,B5 tb ps gs vl vg T Sl Sg,Cn l,Ci true dm hk (ds.map Bq),Ef ds,Bs B ad [10],Bs B ad [4],Bs B ad [9]] (fun u L=>u=Ag ad 9∧L=[Rb b tb most dm pm,B5 tb ps gs vl vg T Sl Sg,Cn l,Ci true dm hk (ds.map Bq),Ef ds,Bs B ad [10],Bs B ad [4],Bs B ad [9]]):=by
 refine Zo 75 Tryz.func33 fun E w0 w h=>?_
 refine Qs (ZN [Ii ni,Ii gi] 34 h fun k1 w h=>ZN [Ii n,Ii g] 34 h fun k2 w h=>ZP .nilIface (Qn (Aa (Ds 12 [1,1] h fun w h=>Dp 0 528 (Pp b) [1,1] h (Dp 1 529 (Pp b) [1,1] h (Dp 2 531 (Pp b) [1,1] h (Dq 3 535 [1,1] rfl h (Gl 0 (Pp tb) 1) (Dq 4 527 [1,1] rfl h (Gla 0 [Ii ni,Ii gi] 0) ?_))))))))
 refine Ay [5,9] (by kernel_rfl) rfl ?_
 refine De #[Pp tb,Hg ni gi] [3,3,5] [4,4] rfl (by kernel_rfl) (Bh ad tb ps gs vl vg T Sl Sg l hl hr ni gi ki Ni hlki hai) (fun _=>by kernel_rfl) h ?_ ?_
 rintro v_ L_ w ⟨rfl,rfl⟩ h
 refine ⟨by kernel_rfl,?_⟩
 refine Dp 6 575 (.tuple #[.agg #[Ii Ni.kind,Ii (Ai Ni),Ii Ni.links,Ii Ni.change,Ii Ni.upn,Ii Ni.upg],.nilIface]) [4,4] h (Dp 7 895 (.agg #[Ii Ni.kind,Ii (Ai Ni),Ii Ni.links,Ii Ni.change,Ii Ni.upn,Ii Ni.upg]) [4,4] h (Dp 8 1791 .nilIface [4,4] h ?_))
 refine Ay [9] (by kernel_rfl) rfl ?_
 refine B8 [5,5] rfl (by kernel_rfl) (fun b=>Pp b) [Ii 0,Ii 0,Ii 0,Ii 0,Ii 0,Ii 0] 46 (fun _=>by kernel_rfl) h ?_ ?_
 intro k3 w h;refine ⟨by kernel_rfl,?_⟩
 refine As 10 [5,5] 0 [Ii Ni.kind,Ii (Ai Ni),Ii Ni.links,Ii Ni.change,Ii Ni.upn,Ii Ni.upg] [Ii Ni.kind,Ii (Ai Ni),Ii Ni.links,Ii Ni.change,Ii Ni.upn,Ii Ni.upg] 0 rfl h fun w h=>Dp 11 2047 .nilIface [5,5] h (Dd (Af (Qt (ZP .nilIface (ZP (.bool false) (Fs (ZP (Pp b) (ZG h (Gla 0 [Ii n,Ii g] 4) (ZP (.string s) (ZC [6,1,1,4,1,4] (Cd ad b most tb dm pm ps gs vl vg T Sl Sg l ds pn hl hr n g k N hlk ha j d hj hdh hdd s hs hok) h fun w h=>?_))))))))))
 have h:=(h.pkr [9]).dirOpen hj
 refine ZP (.tuple #[.map (some d.mb),.nilIface]) (ZP (.map (some d.mb)) (ZP .nilIface (ZP (.map (some d.mb)) (ZP .nilIface (Qm (ZP (.map (some d.mb)) (ZP (.string s) (ZG h (A1 (v':=.tuple #[Hg 0 0,.bool false]) (Gks (kv:=d.es.map A8) true s 0 rfl) (by rw [Eb hx];rfl)) (ZP (.tuple #[Hg 0 0,.bool false]) (ZP (Hg 0 0) (ZP (.bool false) (ZN [Ii 0,Ii 0] 34 h fun k4 w h=>ZSs [Ii 0,Ii 0] 0 rfl h fun w h=>ZP (.bool false) (Qn (Aa (Ar (Qs (ZP .nilIface (ZP (.bool false) (ZP (.bool false) (Qf (Qs (ZP (Pp k3) (ZG h (Gl 0 (Ii Ni.kind) 9) (ZP (.bool (decide (Ni.kind=2))) (ZP (.bool (decide (Ni.kind=2))) (Qn (Zd (Ni.kind=2) (fun hc5=>?_) fun hc5=>?_)))))))))))))))))))))))))))
 exfalso;revert hc5;simp;omega
 refine Qs (ZP (.bool false) (ZP (.bool false) (Qf (Qs (ZP (.map (some d.mb)) (ZG h (Ek (K:=9) (E:=34) (by kernel_rfl) 1 rfl) ?_))))))
 obtain ⟨b6,hb6⟩:=nmB (decide (((d.es.map A8).length:Int)≥60))
 refine ZB hb6 (ZP (.bool b6) (ZM0 (v:=Pt k3 2) b6 h (fun hB=>by subst hB;exact Gp (Pt k3 2)) (ZM0 (v:=Ii Ni.links) b6 h (fun hB=>by subst hB;exact Gl 2 (Ii Ni.links) 9) ?_)))
 obtain ⟨b7,hb7⟩:=nmB (decide (Ni.links≥8))
 refine ZM0 (v:=.bool b7) b6 h (fun hB=>by subst hB;exact by subst hb7;exact Ax (v:=.bool (decide (Ni.links≥8))) fun _=>by kernel_rfl) ?_
 obtain ⟨b8,hb8⟩:=nmB (b6||b7)
 refine ZBc b6 hb8 (ZP (.bool b8) (Qn (Zi (b8) (fun hc9=>?_) fun hc9=>?_)))
 have q10:=hb8.symm.trans hc9
 have q11:((((d.es.map A8).length:Int)≥60)∨(Ni.links≥8)):=by subst hb7;subst hb6;revert q10;first|(simp;done)|(simp;omega)
 refine Qs (ZG h (Gr 0 (Ag ad 9) 12 rfl (Fd (c:=9) (by decide) rfl)) (ZP (Ag ad 9) (Qr (Cj (Au ?_)))))
 have h:=(h.pkr [1,1]).dirBack (d:=d) hj
 exact ZR [Ag ad 9] [2,2,2,2,0,1,1,4] h ⟨rfl,rfl⟩
 have q12:=hb8.symm.trans hc9
 have q13:=oL q12
 have q14:=oR q12
 have q15:=hb6.symm.trans q13
 have q15:=dcF q15
 have q16:=hb7.symm.trans q14
 have q16:=dcF q16
 exfalso;revert hc9;subst hb8;subst hb7;subst hb6;simp;omega
 exact Bb
 refine B8 [2,2] rfl (by kernel_rfl) (fun b=>Pp b) [Ii 0,Ii 0,Ii 0,Ii 0,Ii 0,Ii 0] 46 (fun _=>by kernel_rfl) h ?_ ?_
 intro k17 w h;refine ⟨by kernel_rfl,?_⟩
 refine Ad 5 [4,4,6] [5,5] (Bh ad tb ps gs vl vg T Sl Sg l hl hr ni gi ki Ni hlki hai) h ?_
 rintro v_ L_ w ⟨rfl,rfl⟩ h
 refine ⟨by kernel_rfl,?_⟩
 refine Dp 6 575 (.tuple #[.agg #[Ii Ni.kind,Ii (Ai Ni),Ii Ni.links,Ii Ni.change,Ii Ni.upn,Ii Ni.upg],.nilIface]) [5,5] h (Dp 7 895 (.agg #[Ii Ni.kind,Ii (Ai Ni),Ii Ni.links,Ii Ni.change,Ii Ni.upn,Ii Ni.upg]) [5,5] h (Dp 8 1791 .nilIface [5,5] h (As 10 [5,5] 0 [Ii Ni.kind,Ii (Ai Ni),Ii Ni.links,Ii Ni.change,Ii Ni.upn,Ii Ni.upg] [Ii Ni.kind,Ii (Ai Ni),Ii Ni.links,Ii Ni.change,Ii Ni.upn,Ii Ni.upg] 3 rfl h fun w h=>Dp 11 2047 .nilIface [5,5] h (Dd (Af (Qt (ZP .nilIface (ZP (.bool false) (Fs (ZP (Pp b) (ZG h (Gla 0 [Ii n,Ii g] 4) (ZP (.string s) (ZC [6,0,0,4,0,4] (Cd ad b most tb dm pm ps gs vl vg T Sl Sg l ds pn hl hr n g k N hlk ha j d hj hdh hdd s hs hok) h fun w h=>?_)))))))))))))
 have h:=(h.pkr [9]).dirOpen hj
 refine ZP (.tuple #[.map (some d.mb),.nilIface]) (ZP (.map (some d.mb)) (ZP .nilIface (ZP (.map (some d.mb)) (ZP .nilIface (Qm (ZP (.map (some d.mb)) (ZP (.string s) (ZG h (A1 (v':=.tuple #[Hg 0 0,.bool false]) (Gks (kv:=d.es.map A8) true s 0 rfl) (by rw [Eb hx];rfl)) (ZP (.tuple #[Hg 0 0,.bool false]) (ZP (Hg 0 0) (ZP (.bool false) (ZN [Ii 0,Ii 0] 34 h fun k18 w h=>ZSs [Ii 0,Ii 0] 0 rfl h fun w h=>ZP (.bool false) (Qn (Aa (Ar (Qs (ZP .nilIface (ZP (.bool false) (ZP (.bool false) (Qf (Qs (ZP (Pp k17) (ZG h (Gl 0 (Ii Ni.kind) 9) (ZP (.bool (decide (Ni.kind=2))) (ZP (.bool (decide (Ni.kind=2))) (Qn (Zd (Ni.kind=2) (fun hc19=>?_) fun hc19=>?_)))))))))))))))))))))))))))
 exfalso;revert hc19;simp;omega
 refine Qs (ZP (.bool false) (ZP (.bool false) (Qf (Qs (ZP (.map (some d.mb)) (ZG h (Ek (K:=9) (E:=34) (by kernel_rfl) 1 rfl) ?_))))))
 obtain ⟨b20,hb20⟩:=nmB (decide (((d.es.map A8).length:Int)≥60))
 refine ZB hb20 (ZP (.bool b20) (ZM0 (v:=Pt k17 2) b20 h (fun hB=>by subst hB;exact Gp (Pt k17 2)) (ZM0 (v:=Ii Ni.links) b20 h (fun hB=>by subst hB;exact Gl 2 (Ii Ni.links) 9) ?_)))
 obtain ⟨b21,hb21⟩:=nmB (decide (Ni.links≥8))
 refine ZM0 (v:=.bool b21) b20 h (fun hB=>by subst hB;exact by subst hb21;exact Ax (v:=.bool (decide (Ni.links≥8))) fun _=>by kernel_rfl) ?_
 obtain ⟨b22,hb22⟩:=nmB (b20||b21)
 refine ZBc b20 hb22 (ZP (.bool b22) (Qn (Zi (b22) (fun hc23=>?_) fun hc23=>?_)))
 have q24:=hb22.symm.trans hc23
 have q25:((((d.es.map A8).length:Int)≥60)∨(Ni.links≥8)):=by subst hb21;subst hb20;revert q24;first|(simp;done)|(simp;omega)
 refine Qs (ZG h (Gr 0 (Ag ad 9) 12 rfl (Fd (c:=9) (by decide) rfl)) (ZP (Ag ad 9) (Qr (Cj (Au ?_)))))
 have h:=(h.pkr [1,1]).dirBack (d:=d) hj
 exact ZR [Ag ad 9] [2,2,2,2,0,1,1,4] h ⟨rfl,rfl⟩
 have q26:=hb22.symm.trans hc23
 have q27:=oL q26
 have q28:=oR q26
 have q29:=hb20.symm.trans q27
 have q29:=dcF q29
 have q30:=hb21.symm.trans q28
 have q30:=dcF q30
 exfalso;revert hc23;subst hb22;subst hb21;subst hb20;simp;omega
 exact Bb
end
theorem Fp (h:Int×Int):∀ pn:List ((Int×Int)×Int),Ae (pn.map Cz) h=(Ae pn h).map fun v=>Ii v
  | []=>rfl
  | p::r=>by
    rw [List.map_cons];unfold Ae
    by_cases c:h=p.1
    · rw [if_pos (show h=(Cz p).1 from c),if_pos c];rfl
    · rw [if_neg (show ¬h=(Cz p).1 from c),if_neg c];exact Fp h r
section
variable {B:Nat} (ad:Nat→Addr) (b most tb dm pm:Nat) (ps:List (Option Nat)) (gs:List Int) (vl vg:Value) (T:TypeId) (Sl Sg:Nat→Prop) (l:List (Option ND)) (ds:List DN) (pn:List ((Int×Int)×Int)) (hl:ps.length=gs.length) (hr:∀ x∈gs,0≤x∧x≤1000000) (k:Nat) (g:Int) (N:ND) (hlk:l[k]?=some (some N)) (ha:Bm ps gs (k:Int) g=some N.nb) (hkp:k<ps.length)
include B ad b most tb dm pm ps gs vl vg T Sl Sg l ds pn hl hr k g N hlk ha hkp
theorem H7 (h0:N.links=0∧(Ae pn ((k:Int),g)).getD 0=0):Ap Tryz.prog 79 #[Pp b,Hg k g] [Rb b tb most dm pm,B5 tb ps gs vl vg T Sl Sg,Cn l,Ci true pm hk (pn.map Cz),Bs B ad [10]] (fun u L=>L=[Rb b tb most dm pm,B5 tb (ps.set k none) gs vl vg T Sl Sg,Cn (l.set k none),Ci true pm hk (pn.map Cz),Bs B ad [10]]):=by
 refine Zo 31 Tryz.func79 fun E w0 w h=>?_
 refine Qs (ZN [Ii k,Ii g] 34 h fun k1 w h=>Qn (Aa (Ds 12 [0,0] h fun w h=>Dp 0 528 (Pp b) [0,0] h (Dp 1 529 (Pp b) [0,0] h (Dp 2 531 (Pp b) [0,0] h (Dq 3 535 [0,0] rfl h (Gl 0 (Pp tb) 1) (Dq 4 527 [0,0] rfl h (Gla 0 [Ii k,Ii g] 0) ?_)))))))
 refine Ay [5,9] (by kernel_rfl) rfl ?_
 refine De #[Pp tb,Hg k g] [2,2,3] [3,3] rfl (by kernel_rfl) (Bh ad tb ps gs vl vg T Sl Sg l hl hr (k:Int) g k N hlk ha) (fun _=>by kernel_rfl) h ?_ ?_
 rintro v_ L_ w ⟨rfl,rfl⟩ h
 refine ⟨by kernel_rfl,?_⟩
 refine Dp 6 575 (.tuple #[.agg #[Ii N.kind,Ii (Ai N),Ii N.links,Ii N.change,Ii N.upn,Ii N.upg],.nilIface]) [3,3] h (Dp 7 895 (.agg #[Ii N.kind,Ii (Ai N),Ii N.links,Ii N.change,Ii N.upn,Ii N.upg]) [3,3] h (Dp 8 1791 .nilIface [3,3] h ?_))
 refine Ay [9] (by kernel_rfl) rfl ?_
 refine B8 [4,4] rfl (by kernel_rfl) (fun b=>Pp b) [Ii 0,Ii 0,Ii 0,Ii 0,Ii 0,Ii 0] 46 (fun _=>by kernel_rfl) h ?_ ?_
 intro k2 w h;refine ⟨by kernel_rfl,?_⟩
 refine As 10 [4,4] 0 [Ii N.kind,Ii (Ai N),Ii N.links,Ii N.change,Ii N.upn,Ii N.upg] [Ii N.kind,Ii (Ai N),Ii N.links,Ii N.change,Ii N.upn,Ii N.upg] 0 rfl h fun w h=>Dp 11 2047 .nilIface [4,4] h (Dd (Af (Aa (Ds 12 [0,3,3,3] h fun w h=>Dp 0 0 (Pt k2 2) [0,3,3,3] h (Dq 1 1 [0,3,3,3] rfl h (Gl 2 (Ii N.links) 0) ?_)))))
 obtain ⟨b3,hb3⟩:=nmB (decide (N.links=0))
 refine Dq (v:=.bool b3) 2 3 [0,3,3,3] rfl h (by subst hb3;exact Ax (v:=.bool (decide (N.links=0))) fun _=>by kernel_rfl) (Dp 3 7 (.bool b3) [0,3,3,3] h ?_)
 refine Cr 4 271 [0,3,3,3] rfl (by kernel_rfl) (B3 B6) (ym1 (v:=Pp b) b3 (by cases b3<;>kernel_rfl) (fun hB=>by subst hB;exact Ax (v:=Pp b) fun _=>by kernel_rfl)) h (by kernel_rfl) ?_
 refine Cr 5 287 [0,3,3,3] rfl (by kernel_rfl) (B3 B6) (ym1 (v:=Pp b) b3 (by cases b3<;>kernel_rfl) (fun hB=>by subst hB;exact Ax (v:=Pp b) fun _=>by kernel_rfl)) h (by kernel_rfl) ?_
 refine Cr 6 319 [0,3,3,3] rfl (by kernel_rfl) (B3 B6) (ym1 (v:=Pt b 5) b3 (by cases b3<;>kernel_rfl) (fun hB=>by subst hB;exact Ax (v:=Pt b 5) fun _=>by kernel_rfl)) h (by kernel_rfl) ?_
 refine Cr 7 383 [0,3,3,3] rfl (by kernel_rfl) (B3 B6) (ym1 (v:=.map (some pm)) b3 (by cases b3<;>kernel_rfl) (fun hB=>by subst hB;exact Jm 5 [.map (some pm)] (.map (some pm)) (by kernel_rfl) 2 rfl)) h (by kernel_rfl) ?_
 refine Cr 8 255 [0,3,3,3] rfl (by kernel_rfl) (B3 B6) (ym1 (v:=Hg k g) b3 (by cases b3<;>kernel_rfl) (fun hB=>by subst hB;exact Jm 0 [Ii k,Ii g] (Hg k g) (by kernel_rfl) 1 rfl)) h (by kernel_rfl) ?_
 refine Cr 9 511 [0,3,3,3] rfl (by kernel_rfl) (B3 B6) (ym1 (v:=Ii ((Ae pn ((k:Int),g)).getD 0)) b3 (by cases b3<;>kernel_rfl) (fun hB=>by subst hB;exact A1 (v':=Ii ((Ae pn ((k:Int),g)).getD 0)) (H0 (K:=34) (E:=3) (z:=(Ii 0)) (kv:=(pn.map Cz)) (ok:=false) Dm ((k:Int),g) (by kernel_rfl) (fun _=>by kernel_rfl) 3 rfl) (by rw [Fp];cases Ae pn ((k:Int),g)<;>rfl))) h (by kernel_rfl) ?_
 obtain ⟨b4,hb4⟩:=nmB (decide ((Ae pn ((k:Int),g)).getD 0=0))
 refine Cr 10 1023 [0,3,3,3] rfl (by kernel_rfl) (B3 B6) (ym1 (v:=.bool b4) b3 (by cases b3<;>kernel_rfl) (fun hB=>by subst hB;exact by subst hb4;exact Ax (v:=.bool (decide ((Ae pn ((k:Int),g)).getD 0=0))) fun _=>by kernel_rfl)) h (by kernel_rfl) ?_
 obtain ⟨b5,hb5⟩:=nmB (b3&&b4)
 refine Dq (v:=.bool b5) 11 2047 [0,3,3,3] rfl h (by subst hb5;exact Ax (v:=.bool (b3&&b4)) fun _=>by cases b3<;>kernel_rfl) (Dd (Af (Zi (b5) (fun hc6=>?_) fun hc6=>?_)))
 have q7:=hb5.symm.trans hc6
 have q8:=aL q7
 have q9:=aR q7
 have q10:=hb3.symm.trans q8
 have q10:=dcT q10
 have q11:=hb4.symm.trans q9
 have q11:=dcT q11
 refine Ds 6 [4,4] h fun w h=>Dp 0 16 (Pp b) [4,4] h (Dp 1 17 (Pp b) [4,4] h (Dp 2 19 (Pp b) [4,4] h (Dq 3 23 [4,4] rfl h (Gl 0 (Pp tb) 1) (Dq 4 15 [4,4] rfl h (Gla 0 [Ii k,Ii g] 0) ?_))))
 refine Ad 5 [1,1,1] [4,4] (Jj ad tb k N.nb g ps gs vl vg T Sl Sg l hl hr hkp ha) h ?_
 rintro v_ L_ w ⟨rfl,rfl⟩ h
 refine ⟨by kernel_rfl,?_⟩
 exact Dd (ZR [] [5,0,0,3,0] h rfl)
 have q12:=hb5.symm.trans hc6
 exfalso;revert hc6;subst hb5;subst hb4;subst hb3;simp;omega
 exact Bb
 refine B8 [1,1] rfl (by kernel_rfl) (fun b=>Pp b) [Ii 0,Ii 0,Ii 0,Ii 0,Ii 0,Ii 0] 46 (fun _=>by kernel_rfl) h ?_ ?_
 intro k13 w h;refine ⟨by kernel_rfl,?_⟩
 refine Ad 5 [3,3,4] [4,4] (Bh ad tb ps gs vl vg T Sl Sg l hl hr (k:Int) g k N hlk ha) h ?_
 rintro v_ L_ w ⟨rfl,rfl⟩ h
 refine ⟨by kernel_rfl,?_⟩
 refine Dp 6 575 (.tuple #[.agg #[Ii N.kind,Ii (Ai N),Ii N.links,Ii N.change,Ii N.upn,Ii N.upg],.nilIface]) [4,4] h (Dp 7 895 (.agg #[Ii N.kind,Ii (Ai N),Ii N.links,Ii N.change,Ii N.upn,Ii N.upg]) [4,4] h (Dp 8 1791 .nilIface [4,4] h (As 10 [4,4] 0 [Ii N.kind,Ii (Ai N),Ii N.links,Ii N.change,Ii N.upn,Ii N.upg] [Ii N.kind,Ii (Ai N),Ii N.links,Ii N.change,Ii N.upn,Ii N.upg] 3 rfl h fun w h=>Dp 11 2047 .nilIface [4,4] h (Dd (Af (Aa (Ds 12 [3,3,3,3] h fun w h=>Dp 0 0 (Pt k13 2) [3,3,3,3] h (Dq 1 1 [3,3,3,3] rfl h (Gl 2 (Ii N.links) 0) ?_))))))))
 obtain ⟨b14,hb14⟩:=nmB (decide (N.links=0))
 refine Dq (v:=.bool b14) 2 3 [3,3,3,3] rfl h (by subst hb14;exact Ax (v:=.bool (decide (N.links=0))) fun _=>by kernel_rfl) (Dp 3 7 (.bool b14) [3,3,3,3] h ?_)
 refine Cr 4 271 [3,3,3,3] rfl (by kernel_rfl) (B3 B6) (ym1 (v:=Pp b) b14 (by cases b14<;>kernel_rfl) (fun hB=>by subst hB;exact Ax (v:=Pp b) fun _=>by kernel_rfl)) h (by kernel_rfl) ?_
 refine Cr 5 287 [3,3,3,3] rfl (by kernel_rfl) (B3 B6) (ym1 (v:=Pp b) b14 (by cases b14<;>kernel_rfl) (fun hB=>by subst hB;exact Ax (v:=Pp b) fun _=>by kernel_rfl)) h (by kernel_rfl) ?_
 refine Cr 6 319 [3,3,3,3] rfl (by kernel_rfl) (B3 B6) (ym1 (v:=Pt b 5) b14 (by cases b14<;>kernel_rfl) (fun hB=>by subst hB;exact Ax (v:=Pt b 5) fun _=>by kernel_rfl)) h (by kernel_rfl) ?_
 refine Cr 7 383 [3,3,3,3] rfl (by kernel_rfl) (B3 B6) (ym1 (v:=.map (some pm)) b14 (by cases b14<;>kernel_rfl) (fun hB=>by subst hB;exact Jm 5 [.map (some pm)] (.map (some pm)) (by kernel_rfl) 2 rfl)) h (by kernel_rfl) ?_
 refine Cr 8 255 [3,3,3,3] rfl (by kernel_rfl) (B3 B6) (ym1 (v:=Hg k g) b14 (by cases b14<;>kernel_rfl) (fun hB=>by subst hB;exact Jm 0 [Ii k,Ii g] (Hg k g) (by kernel_rfl) 1 rfl)) h (by kernel_rfl) ?_
 refine Cr 9 511 [3,3,3,3] rfl (by kernel_rfl) (B3 B6) (ym1 (v:=Ii ((Ae pn ((k:Int),g)).getD 0)) b14 (by cases b14<;>kernel_rfl) (fun hB=>by subst hB;exact A1 (v':=Ii ((Ae pn ((k:Int),g)).getD 0)) (H0 (K:=34) (E:=3) (z:=(Ii 0)) (kv:=(pn.map Cz)) (ok:=false) Dm ((k:Int),g) (by kernel_rfl) (fun _=>by kernel_rfl) 3 rfl) (by rw [Fp];cases Ae pn ((k:Int),g)<;>rfl))) h (by kernel_rfl) ?_
 obtain ⟨b15,hb15⟩:=nmB (decide ((Ae pn ((k:Int),g)).getD 0=0))
 refine Cr 10 1023 [3,3,3,3] rfl (by kernel_rfl) (B3 B6) (ym1 (v:=.bool b15) b14 (by cases b14<;>kernel_rfl) (fun hB=>by subst hB;exact by subst hb15;exact Ax (v:=.bool (decide ((Ae pn ((k:Int),g)).getD 0=0))) fun _=>by kernel_rfl)) h (by kernel_rfl) ?_
 obtain ⟨b16,hb16⟩:=nmB (b14&&b15)
 refine Dq (v:=.bool b16) 11 2047 [3,3,3,3] rfl h (by subst hb16;exact Ax (v:=.bool (b14&&b15)) fun _=>by cases b14<;>kernel_rfl) (Dd (Af (Zi (b16) (fun hc17=>?_) fun hc17=>?_)))
 have q18:=hb16.symm.trans hc17
 have q19:=aL q18
 have q20:=aR q18
 have q21:=hb14.symm.trans q19
 have q21:=dcT q21
 have q22:=hb15.symm.trans q20
 have q22:=dcT q22
 refine Ds 6 [4,4] h fun w h=>Dp 0 16 (Pp b) [4,4] h (Dp 1 17 (Pp b) [4,4] h (Dp 2 19 (Pp b) [4,4] h (Dq 3 23 [4,4] rfl h (Gl 0 (Pp tb) 1) (Dq 4 15 [4,4] rfl h (Gla 0 [Ii k,Ii g] 0) ?_))))
 refine Ad 5 [0,0,0] [4,4] (Jj ad tb k N.nb g ps gs vl vg T Sl Sg l hl hr hkp ha) h ?_
 rintro v_ L_ w ⟨rfl,rfl⟩ h
 refine ⟨by kernel_rfl,?_⟩
 exact Dd (ZR [] [5,0,0,3,0] h rfl)
 have q23:=hb16.symm.trans hc17
 exfalso;revert hc17;subst hb16;subst hb15;subst hb14;simp;omega
 exact Bb
theorem H8 (h0:¬(N.links=0∧(Ae pn ((k:Int),g)).getD 0=0)):Ap Tryz.prog 79 #[Pp b,Hg k g] [Rb b tb most dm pm,B5 tb ps gs vl vg T Sl Sg,Cn l,Ci true pm hk (pn.map Cz),Bs B ad [10]] (fun u L=>L=[Rb b tb most dm pm,B5 tb ps gs vl vg T Sl Sg,Cn l,Ci true pm hk (pn.map Cz),Bs B ad [10]]):=by
 refine Zo 31 Tryz.func79 fun E w0 w h=>?_
 refine Qs (ZN [Ii k,Ii g] 34 h fun k1 w h=>Qn (Aa (Ds 12 [0,0] h fun w h=>Dp 0 528 (Pp b) [0,0] h (Dp 1 529 (Pp b) [0,0] h (Dp 2 531 (Pp b) [0,0] h (Dq 3 535 [0,0] rfl h (Gl 0 (Pp tb) 1) (Dq 4 527 [0,0] rfl h (Gla 0 [Ii k,Ii g] 0) ?_)))))))
 refine Ay [5,9] (by kernel_rfl) rfl ?_
 refine De #[Pp tb,Hg k g] [2,2,3] [3,3] rfl (by kernel_rfl) (Bh ad tb ps gs vl vg T Sl Sg l hl hr (k:Int) g k N hlk ha) (fun _=>by kernel_rfl) h ?_ ?_
 rintro v_ L_ w ⟨rfl,rfl⟩ h
 refine ⟨by kernel_rfl,?_⟩
 refine Dp 6 575 (.tuple #[.agg #[Ii N.kind,Ii (Ai N),Ii N.links,Ii N.change,Ii N.upn,Ii N.upg],.nilIface]) [3,3] h (Dp 7 895 (.agg #[Ii N.kind,Ii (Ai N),Ii N.links,Ii N.change,Ii N.upn,Ii N.upg]) [3,3] h (Dp 8 1791 .nilIface [3,3] h ?_))
 refine Ay [9] (by kernel_rfl) rfl ?_
 refine B8 [4,4] rfl (by kernel_rfl) (fun b=>Pp b) [Ii 0,Ii 0,Ii 0,Ii 0,Ii 0,Ii 0] 46 (fun _=>by kernel_rfl) h ?_ ?_
 intro k2 w h;refine ⟨by kernel_rfl,?_⟩
 refine As 10 [4,4] 0 [Ii N.kind,Ii (Ai N),Ii N.links,Ii N.change,Ii N.upn,Ii N.upg] [Ii N.kind,Ii (Ai N),Ii N.links,Ii N.change,Ii N.upn,Ii N.upg] 0 rfl h fun w h=>Dp 11 2047 .nilIface [4,4] h (Dd (Af (Aa (Ds 12 [0,3,3,3] h fun w h=>Dp 0 0 (Pt k2 2) [0,3,3,3] h (Dq 1 1 [0,3,3,3] rfl h (Gl 2 (Ii N.links) 0) ?_)))))
 obtain ⟨b3,hb3⟩:=nmB (decide (N.links=0))
 refine Dq (v:=.bool b3) 2 3 [0,3,3,3] rfl h (by subst hb3;exact Ax (v:=.bool (decide (N.links=0))) fun _=>by kernel_rfl) (Dp 3 7 (.bool b3) [0,3,3,3] h ?_)
 refine Cr 4 271 [0,3,3,3] rfl (by kernel_rfl) (B3 B6) (ym1 (v:=Pp b) b3 (by cases b3<;>kernel_rfl) (fun hB=>by subst hB;exact Ax (v:=Pp b) fun _=>by kernel_rfl)) h (by kernel_rfl) ?_
 refine Cr 5 287 [0,3,3,3] rfl (by kernel_rfl) (B3 B6) (ym1 (v:=Pp b) b3 (by cases b3<;>kernel_rfl) (fun hB=>by subst hB;exact Ax (v:=Pp b) fun _=>by kernel_rfl)) h (by kernel_rfl) ?_
 refine Cr 6 319 [0,3,3,3] rfl (by kernel_rfl) (B3 B6) (ym1 (v:=Pt b 5) b3 (by cases b3<;>kernel_rfl) (fun hB=>by subst hB;exact Ax (v:=Pt b 5) fun _=>by kernel_rfl)) h (by kernel_rfl) ?_
 refine Cr 7 383 [0,3,3,3] rfl (by kernel_rfl) (B3 B6) (ym1 (v:=.map (some pm)) b3 (by cases b3<;>kernel_rfl) (fun hB=>by subst hB;exact Jm 5 [.map (some pm)] (.map (some pm)) (by kernel_rfl) 2 rfl)) h (by kernel_rfl) ?_
 refine Cr 8 255 [0,3,3,3] rfl (by kernel_rfl) (B3 B6) (ym1 (v:=Hg k g) b3 (by cases b3<;>kernel_rfl) (fun hB=>by subst hB;exact Jm 0 [Ii k,Ii g] (Hg k g) (by kernel_rfl) 1 rfl)) h (by kernel_rfl) ?_
 refine Cr 9 511 [0,3,3,3] rfl (by kernel_rfl) (B3 B6) (ym1 (v:=Ii ((Ae pn ((k:Int),g)).getD 0)) b3 (by cases b3<;>kernel_rfl) (fun hB=>by subst hB;exact A1 (v':=Ii ((Ae pn ((k:Int),g)).getD 0)) (H0 (K:=34) (E:=3) (z:=(Ii 0)) (kv:=(pn.map Cz)) (ok:=false) Dm ((k:Int),g) (by kernel_rfl) (fun _=>by kernel_rfl) 3 rfl) (by rw [Fp];cases Ae pn ((k:Int),g)<;>rfl))) h (by kernel_rfl) ?_
 obtain ⟨b4,hb4⟩:=nmB (decide ((Ae pn ((k:Int),g)).getD 0=0))
 refine Cr 10 1023 [0,3,3,3] rfl (by kernel_rfl) (B3 B6) (ym1 (v:=.bool b4) b3 (by cases b3<;>kernel_rfl) (fun hB=>by subst hB;exact by subst hb4;exact Ax (v:=.bool (decide ((Ae pn ((k:Int),g)).getD 0=0))) fun _=>by kernel_rfl)) h (by kernel_rfl) ?_
 obtain ⟨b5,hb5⟩:=nmB (b3&&b4)
 refine Dq (v:=.bool b5) 11 2047 [0,3,3,3] rfl h (by subst hb5;exact Ax (v:=.bool (b3&&b4)) fun _=>by cases b3<;>kernel_rfl) (Dd (Af (Zi (b5) (fun hc6=>?_) fun hc6=>?_)))
 have q7:=hb5.symm.trans hc6
 have q8:=aL q7
 have q9:=aR q7
 have q10:=hb3.symm.trans q8
 have q10:=dcT q10
 have q11:=hb4.symm.trans q9
 have q11:=dcT q11
 exfalso;revert hc6;subst hb5;subst hb4;subst hb3;simp;omega
 have q12:=hb5.symm.trans hc6
 exact Bz (ZR [] [5,1,1,3,1] h rfl)
 exact Bb
 refine B8 [1,1] rfl (by kernel_rfl) (fun b=>Pp b) [Ii 0,Ii 0,Ii 0,Ii 0,Ii 0,Ii 0] 46 (fun _=>by kernel_rfl) h ?_ ?_
 intro k13 w h;refine ⟨by kernel_rfl,?_⟩
 refine Ad 5 [3,3,4] [4,4] (Bh ad tb ps gs vl vg T Sl Sg l hl hr (k:Int) g k N hlk ha) h ?_
 rintro v_ L_ w ⟨rfl,rfl⟩ h
 refine ⟨by kernel_rfl,?_⟩
 refine Dp 6 575 (.tuple #[.agg #[Ii N.kind,Ii (Ai N),Ii N.links,Ii N.change,Ii N.upn,Ii N.upg],.nilIface]) [4,4] h (Dp 7 895 (.agg #[Ii N.kind,Ii (Ai N),Ii N.links,Ii N.change,Ii N.upn,Ii N.upg]) [4,4] h (Dp 8 1791 .nilIface [4,4] h (As 10 [4,4] 0 [Ii N.kind,Ii (Ai N),Ii N.links,Ii N.change,Ii N.upn,Ii N.upg] [Ii N.kind,Ii (Ai N),Ii N.links,Ii N.change,Ii N.upn,Ii N.upg] 3 rfl h fun w h=>Dp 11 2047 .nilIface [4,4] h (Dd (Af (Aa (Ds 12 [3,3,3,3] h fun w h=>Dp 0 0 (Pt k13 2) [3,3,3,3] h (Dq 1 1 [3,3,3,3] rfl h (Gl 2 (Ii N.links) 0) ?_))))))))
 obtain ⟨b14,hb14⟩:=nmB (decide (N.links=0))
 refine Dq (v:=.bool b14) 2 3 [3,3,3,3] rfl h (by subst hb14;exact Ax (v:=.bool (decide (N.links=0))) fun _=>by kernel_rfl) (Dp 3 7 (.bool b14) [3,3,3,3] h ?_)
 refine Cr 4 271 [3,3,3,3] rfl (by kernel_rfl) (B3 B6) (ym1 (v:=Pp b) b14 (by cases b14<;>kernel_rfl) (fun hB=>by subst hB;exact Ax (v:=Pp b) fun _=>by kernel_rfl)) h (by kernel_rfl) ?_
 refine Cr 5 287 [3,3,3,3] rfl (by kernel_rfl) (B3 B6) (ym1 (v:=Pp b) b14 (by cases b14<;>kernel_rfl) (fun hB=>by subst hB;exact Ax (v:=Pp b) fun _=>by kernel_rfl)) h (by kernel_rfl) ?_
 refine Cr 6 319 [3,3,3,3] rfl (by kernel_rfl) (B3 B6) (ym1 (v:=Pt b 5) b14 (by cases b14<;>kernel_rfl) (fun hB=>by subst hB;exact Ax (v:=Pt b 5) fun _=>by kernel_rfl)) h (by kernel_rfl) ?_
 refine Cr 7 383 [3,3,3,3] rfl (by kernel_rfl) (B3 B6) (ym1 (v:=.map (some pm)) b14 (by cases b14<;>kernel_rfl) (fun hB=>by subst hB;exact Jm 5 [.map (some pm)] (.map (some pm)) (by kernel_rfl) 2 rfl)) h (by kernel_rfl) ?_
 refine Cr 8 255 [3,3,3,3] rfl (by kernel_rfl) (B3 B6) (ym1 (v:=Hg k g) b14 (by cases b14<;>kernel_rfl) (fun hB=>by subst hB;exact Jm 0 [Ii k,Ii g] (Hg k g) (by kernel_rfl) 1 rfl)) h (by kernel_rfl) ?_
 refine Cr 9 511 [3,3,3,3] rfl (by kernel_rfl) (B3 B6) (ym1 (v:=Ii ((Ae pn ((k:Int),g)).getD 0)) b14 (by cases b14<;>kernel_rfl) (fun hB=>by subst hB;exact A1 (v':=Ii ((Ae pn ((k:Int),g)).getD 0)) (H0 (K:=34) (E:=3) (z:=(Ii 0)) (kv:=(pn.map Cz)) (ok:=false) Dm ((k:Int),g) (by kernel_rfl) (fun _=>by kernel_rfl) 3 rfl) (by rw [Fp];cases Ae pn ((k:Int),g)<;>rfl))) h (by kernel_rfl) ?_
 obtain ⟨b15,hb15⟩:=nmB (decide ((Ae pn ((k:Int),g)).getD 0=0))
 refine Cr 10 1023 [3,3,3,3] rfl (by kernel_rfl) (B3 B6) (ym1 (v:=.bool b15) b14 (by cases b14<;>kernel_rfl) (fun hB=>by subst hB;exact by subst hb15;exact Ax (v:=.bool (decide ((Ae pn ((k:Int),g)).getD 0=0))) fun _=>by kernel_rfl)) h (by kernel_rfl) ?_
 obtain ⟨b16,hb16⟩:=nmB (b14&&b15)
 refine Dq (v:=.bool b16) 11 2047 [3,3,3,3] rfl h (by subst hb16;exact Ax (v:=.bool (b14&&b15)) fun _=>by cases b14<;>kernel_rfl) (Dd (Af (Zi (b16) (fun hc17=>?_) fun hc17=>?_)))
 have q18:=hb16.symm.trans hc17
 have q19:=aL q18
 have q20:=aR q18
 have q21:=hb14.symm.trans q19
 have q21:=dcT q21
 have q22:=hb15.symm.trans q20
 have q22:=dcT q22
 exfalso;revert hc17;subst hb16;subst hb15;subst hb14;simp;omega
 have q23:=hb16.symm.trans hc17
 exact Bz (ZR [] [5,0,0,3,0] h rfl)
 exact Bb
end
def inC (n:Int):List Value:=[Ii n]
theorem Nn (n:Int):(inC n).length=1:=rfl
theorem Aae {x:Hdl} {n g:Int} (h:¬(x.1=n∧x.2=g)):x≠(n,g):=fun e=>h ⟨congrArg Prod.fst e,congrArg Prod.snd e⟩
theorem Wu {α:Type} {l:List α} {k:Nat} {x:α} {p:α→Prop} (hn:∀ i y,i<k→l[i]?=some y→p y) (hx:l[k]?=some x) (hp:p x):∀ i y,i<k+1→l[i]?=some y→p y:=fun i y hi hy=>by
  by_cases e:i=k
  · subst e;rw [hx] at hy;cases hy;exact hp
  · exact hn i y (by omega) hy
theorem Rk {α:Type} {l:List α} {k:Nat} {p:α→Prop} (hn:∀ i y,i<k→l[i]?=some y→p y) (hk:l.length≤k):∀ y∈l,p y:=fun y hy=>by
  obtain ⟨i,hi⟩:=List.getElem?_of_mem hy
  exact hn i y (by have:=(List.getElem?_eq_some_iff.1 hi).1;omega) hi
theorem Mg (b:Nat) (mst:Int) (vl vt:Value) (L:List RN) (n g:Int) (hl:L.length≤100000)  : Ap Tryz.prog 61 #[Pp b,Hg n g] [Rt b mst vl vt,rRL vl L] (fun u L'=>(∃ (j:Nat) (N:RN),L[j]?=some N∧N.a.h=(n,g)∧u=Pp N.nb∧L'=[Rt b mst vl vt,rRL vl L])∨((∀ N∈L,N.a.h≠(n,g))∧u=.pointer none∧L'=[Rt b mst vl vt,rRL vl L])):=by
 refine Zo 32 Tryz.func61 fun E w0 w h=>?_
 refine Qs (ZN [Ii n,Ii g] 34 h fun k1 w h=>ZP (.pointer none) (Qu (ZP (Ii 0) (Qn (Ar ?_)))))
 refine ZL (X:=Nat×(Nat→Value)) [(4,4),(6,33)] (fun ⟨i,J0⟩=>[(5,Ii i)]) (fun ⟨i,J0⟩=>J0) (fun ⟨i,J0⟩=>[Rh k1 n g,Rt b mst vl vt,rRL vl L]) (fun ⟨i,J0⟩=>i≤L.length∧∀ k y,k<i→L[k]?=some y→y.a.h≠(n,g)) (fun ⟨i,J0⟩=>L.length - i) (fun j=>⟨0,j⟩) ⟨by omega,fun k y hk=>by omega⟩ [0,0,0] h ?_
 rintro ⟨i,J0⟩ w hG h
 obtain ⟨hi0,hno⟩:i≤L.length∧∀ k y,k<i→L[k]?=some y→y.a.h≠(n,g):=hG
 refine Qt (ZP (Ii i) (ZP (Pp b) (ZP (Pp b) (ZP (Pt b 1) (ZG h (Gl 1 (vl) 1) (ZG h (D3 88 (by kernel_rfl) 2 rfl Dj) (ZP (.bool (decide ((i:Int)<(L.length:Int)))) (Qn (Zd ((i:Int)<(L.length:Int)) (fun hc2=>?_) fun hc2=>?_)))))))))
 refine Kn (Aa (Ar (Aa (Ds 12 [0,0,0] h fun w h=>Dp 0 1040 (Pp b) [0,0,0] h (Dp 1 1041 (Pp b) [0,0,0] h (Dp 2 1043 (Pt b 1) [0,0,0] h (Dq 3 1047 [0,0,0] rfl h (Gl 1 (vl) 1) (Dp 4 1039 (Ii i) [0,0,0] h ?_))))))))
 have hi3:i<L.length:=by omega
 obtain ⟨x4,hx5⟩:∃ x,L[i]?=some x:=⟨_,List.getElem?_eq_getElem hi3⟩
 refine Dq (v:=Pt (Df vl) (B1 vl+i*1)) 5 1055 [0,0,0] rfl h (Dz (k:=1) 88 i rfl (by kernel_rfl) hi3 2 rfl Dj) (Dq 6 1087 [0,0,0] rfl h (Gr (B1 vl+i*1) (Pp x4.nb) 2 rfl (Le Dj Gs hx5 (by kernel_rfl))) (Dp 7 1151 (Pp x4.nb) [0,0,0] h (Dp 8 1279 (Pp x4.nb) [0,0,0] h (Dq 9 1535 [0,0,0] rfl h (Gra 0 [Ii x4.a.h.1,Ii x4.a.h.2] 2 rfl (Cg hx5 0 (by kernel_rfl))) (Dq 10 1023 [0,0,0] rfl h (Gla 0 [Ii n,Ii g] 0) (Dq (v:=.bool ((decide (x4.a.h.1=n))&&(decide (x4.a.h.2=g)))) 11 2047 [0,0,0] rfl h (Fr (n1:=x4.a.h.1) (g1:=x4.a.h.2) (n2:=n) (g2:=g) (by kernel_rfl)) (Dd (Af (Zh (x4.a.h.1=n) (x4.a.h.2=g) (fun hc6 q7 q8=>?_) fun hc6 q9=>?_)))))))))
 exact Qs (ZP (Pp b) (ZP (Pp b) (ZP (Pt b 1) (ZG h (Gl 1 (vl) 1) (ZP (Ii i) (ZG h (Dz (k:=1) 88 i rfl (by kernel_rfl) hi3 2 rfl Dj) (ZG h (Gr (B1 vl+i*1) (Pp x4.nb) 2 rfl (Le Dj Gs hx5 (by kernel_rfl))) (ZP (Pp x4.nb) (Qr (Cj (Au (Oo (Cj (Au (ZR [Pp x4.nb] [1,1] h (.inl ⟨i,_,hx5,Prod.ext (by omega) (by omega),rfl,rfl⟩))))))))))))))))
 refine Bz ?_
 refine B9 (Af ?_)
 refine Ah (ZP (Ii i) (ZG h (A1 (v:=Ii (IntKind.i64.wrap ((i:Int)+1))) (v':=Ii ((i+1:Nat):Int)) (Ax fun _=>by kernel_rfl) (wr (by omega))) (ZP (Ii ((i+1:Nat):Int)) (Ct ?_))))
 have hQ10:((i+1)≤L.length∧∀ k y,k<(i+1)→L[k]?=some y→y.a.h≠(n,g))∧(L.length - (i+1))<(L.length - i):=⟨⟨by omega,Wu (p:=fun y:RN=>y.a.h≠(n,g)) hno hx5 (Aae (by omega))⟩,by omega⟩
 refine Bo (fun j=>⟨(i+1),j⟩) hQ10 (by kernel_rfl) [0,0,0] (by kernel_rfl) h
 exact Dk (Eh (E8 (Ev (Af (Qs (ZP (.pointer none) (Qr (ZR [.pointer none] [1,1] h (.inr ⟨Rk hno (by omega),rfl,rfl⟩)))))))))
theorem Ot {L:List RN} (hn:(L.map fun N=>N.a.h).Nodup) {i j:Nat} {N M:RN} (hi:L[i]?=some N) (hj:L[j]?=some M) (e:N.a.h=M.a.h):i=j:=by
  have hp:=List.pairwise_iff_getElem.1 hn
  obtain ⟨hi1,hi2⟩:=List.getElem?_eq_some_iff.1 hi
  obtain ⟨hj1,hj2⟩:=List.getElem?_eq_some_iff.1 hj
  rcases Nat.lt_trichotomy i j with hl|hl|hl
  · exact (hp i j (by simpa using hi1) (by simpa using hj1) hl (by simp only [List.getElem_map,hi2,hj2,e])).elim
  · exact hl
  · exact (hp j i (by simpa using hj1) (by simpa using hi1) hl (by simp only [List.getElem_map,hi2,hj2,e])).elim
theorem Cx (b:Nat) (mst:Int) (vl vt:Value) (L:List RN) (hl:L.length≤100000) (hn:(L.map fun N=>N.a.h).Nodup) (j:Nat) (N:RN) (hx:L[j]?=some N) (n g:Int) (hh:N.a.h=(n,g)):Ap Tryz.prog 61 #[Pp b,Hg n g] [Rt b mst vl vt,rRL vl L] fun u L'=>u=Pp N.nb∧L'=[Rt b mst vl vt,rRL vl L]:=
  (Mg b mst vl vt L n g hl).mono fun u L' h=>by
    rcases h with ⟨i,M,hi,hM,h2⟩|⟨hno,_⟩
    · have:=Ot hn hi hx (hM.trans hh.symm)
      subst this
      rw [hx] at hi;cases hi
      exact h2
    · exact (hno N (List.mem_of_getElem? hx) hh).elim
theorem Aj {L:List RN} (hn:(L.map fun N=>N.a.h).Nodup) {j:Nat} {N:RN} (hx:L[j]?=some N) {h:Hdl} (hh:N.a.h=h):Bp (L.map RN.a) h=some N.a:=by
  unfold Bp
  rw [List.find?_map]
  have:L.find? ((fun M:AN=>M.h==h)∘RN.a)=some N:=by
    rw [List.find?_eq_some_iff_getElem]
    obtain ⟨hj,e⟩:=List.getElem?_eq_some_iff.1 hx
    refine ⟨by simp [hh],j,hj,e,fun k hk=>?_⟩
    simp only [Function.comp,Bool.not_eq_true',beq_eq_false_iff_ne,ne_eq]
    intro e2
    have:=Ot hn (List.getElem?_eq_getElem (by omega:k<L.length)) hx (e2.trans hh.symm)
    omega
  rw [this];rfl
theorem Fx {L:List RN} {h:Hdl} (hno:∀ N∈L,N.a.h≠h):Bp (L.map RN.a) h=none:=by
  unfold Bp
  rw [List.find?_eq_none]
  intro x hx
  obtain ⟨N,hN,rfl⟩:=List.mem_map.1 hx
  simp [hno N hN]
theorem Hd (b:Nat) (mst:Int) (vl vt:Value) (L:List RN) (n g:Int) (hl:L.length≤100000)  : Ap Tryz.prog 59 #[Pp b,Hg n g] [Rt b mst vl vt,rRL vl L] (fun u L'=>((∀ N∈L,N.a.h≠(n,g))∧u=Ii 10∧L'=[Rt b mst vl vt,rRL vl L])∨(∃ (j:Nat) (N:RN),L[j]?=some N∧N.a.h=(n,g)∧¬N.a.kind=2∧u=Ii 7∧L'=[Rt b mst vl vt,rRL vl L])∨(∃ (j:Nat) (N:RN),L[j]?=some N∧N.a.h=(n,g)∧N.a.kind=2∧u=Ii 0∧L'=[Rt b mst vl vt,rRL vl L])):=by
 refine Zo 14 Tryz.func59 fun E w0 w h=>?_
 refine Qs (ZN [Ii n,Ii g] 34 h fun k1 w h=>ZP (Ii 0) (Qm (ZP (Pp b) (ZG h (Gla 0 [Ii n,Ii g] 0) ?_))))
 refine ZD [1,1] (Mg b mst vl vt L n g (by omega)) h ?_;rintro v_ L_ w (⟨j2,N3,hx4,hh5,rfl,rfl⟩|⟨hno6,rfl,rfl⟩) h
 refine ZP (Pp N3.nb) (Qu (ZP (Pp N3.nb) (ZP (.bool false) (Ft (ZP (Pp N3.nb) (ZP (Pp N3.nb) (ZP (Pt N3.nb 2) (ZG h (Gr 2 (Ii N3.a.kind) 1 rfl (Cg hx4 2 (by kernel_rfl))) (ZP (.bool (!(decide (N3.a.kind=2)))) (Qn (Zi (!(decide (N3.a.kind=2))) (fun hc7=>?_) fun hc7=>?_)))))))))))
 have q8:(decide (N3.a.kind=2))=false:=by simpa using hc7
 have q8:=dcF q8
 exact Qs (ZP (Ii 7) (Qr (Au (ZR [Ii 7] [0,0] h (.inr (.inl ⟨j2,N3,hx4,hh5,by omega,rfl,rfl⟩))))))
 have q9:(decide (N3.a.kind=2))=true:=by simpa using hc7
 have q9:=dcT q9
 exact Ks (ZP (Ii 0) (Qr (ZR [Ii 0] [0,0] h (.inr (.inr ⟨j2,N3,hx4,hh5,by omega,rfl,rfl⟩)))))
 exact ZP (.pointer none) (Qu (ZP (.pointer none) (ZP (.bool true) (Qg (Qs (ZP (Ii 10) (Qr (Au (ZR [Ii 10] [0,0] h (.inl ⟨hno6,rfl,rfl⟩))))))))))
theorem Jb (b:Nat) (mst:Int) (vl vt:Value) (L:List RN) (n g:Int) (hl:L.length≤100000)  : Ap Tryz.prog 75 #[Pp b,Hg n g] [Rt b mst vl vt,rRL vl L] (fun u L'=>((∀ N∈L,N.a.h≠(n,g))∧u=Ii 10∧L'=[Rt b mst vl vt,rRL vl L])∨(∃ (j:Nat) (N:RN),L[j]?=some N∧N.a.h=(n,g)∧¬N.a.kind=1∧u=Ii 8∧L'=[Rt b mst vl vt,rRL vl L])∨(∃ (j:Nat) (N:RN),L[j]?=some N∧N.a.h=(n,g)∧N.a.kind=1∧u=Ii 0∧L'=[Rt b mst vl vt,rRL vl L])):=by
 refine Zo 14 Tryz.func75 fun E w0 w h=>?_
 refine Qs (ZN [Ii n,Ii g] 34 h fun k1 w h=>ZP (Ii 0) (Qm (ZP (Pp b) (ZG h (Gla 0 [Ii n,Ii g] 0) ?_))))
 refine ZD [1,1] (Mg b mst vl vt L n g (by omega)) h ?_;rintro v_ L_ w (⟨j2,N3,hx4,hh5,rfl,rfl⟩|⟨hno6,rfl,rfl⟩) h
 refine ZP (Pp N3.nb) (Qu (ZP (Pp N3.nb) (ZP (.bool false) (Ft (ZP (Pp N3.nb) (ZP (Pp N3.nb) (ZP (Pt N3.nb 2) (ZG h (Gr 2 (Ii N3.a.kind) 1 rfl (Cg hx4 2 (by kernel_rfl))) (ZP (.bool (!(decide (N3.a.kind=1)))) (Qn (Zi (!(decide (N3.a.kind=1))) (fun hc7=>?_) fun hc7=>?_)))))))))))
 have q8:(decide (N3.a.kind=1))=false:=by simpa using hc7
 have q8:=dcF q8
 exact Qs (ZP (Ii 8) (Qr (Au (ZR [Ii 8] [0,0] h (.inr (.inl ⟨j2,N3,hx4,hh5,by omega,rfl,rfl⟩))))))
 have q9:(decide (N3.a.kind=1))=true:=by simpa using hc7
 have q9:=dcT q9
 exact Ks (ZP (Ii 0) (Qr (ZR [Ii 0] [0,0] h (.inr (.inr ⟨j2,N3,hx4,hh5,by omega,rfl,rfl⟩)))))
 exact ZP (.pointer none) (Qu (ZP (.pointer none) (ZP (.bool true) (Qg (Qs (ZP (Ii 10) (Qr (Au (ZR [Ii 10] [0,0] h (.inl ⟨hno6,rfl,rfl⟩))))))))))
theorem Et (vl:Value) (L:List RN) (j:Nat) (N:RN) (hx:L[j]?=some N) (nm:ByteArray) (hl:N.a.es.length≤1000)  : Ap Tryz.prog 62 #[Pp N.nb,.string nm] [rRL vl L] (fun u L'=>(∃ (i:Nat) (e:Bk),N.a.es[i]?=some e∧e.1=nm∧u=Ii i∧L'=[rRL vl L])∨((∀ e∈N.a.es,e.1≠nm)∧u=Ii (-1)∧L'=[rRL vl L])):=by
 refine Zo 24 Tryz.func62 fun E w0 w h=>?_
 refine Qs (ZP (Ii 0) (Qu (ZP (Ii 0) (Qn (Ar ?_)))))
 refine ZL (X:=Nat×(Nat→Value)) [(4,4),(6,25)] (fun ⟨i,J0⟩=>[(5,Ii i)]) (fun ⟨i,J0⟩=>J0) (fun ⟨i,J0⟩=>[rRL vl L]) (fun ⟨i,J0⟩=>i≤N.a.es.length∧∀ k y,k<i→N.a.es[k]?=some y→y.1≠nm) (fun ⟨i,J0⟩=>N.a.es.length - i) (fun j=>⟨0,j⟩) ⟨by omega,fun k y hk=>by omega⟩ [0] h ?_
 rintro ⟨i,J0⟩ w hG h
 obtain ⟨hi0,hno⟩:i≤N.a.es.length∧∀ k y,k<i→N.a.es[k]?=some y→y.1≠nm:=hG
 refine Qt (ZP (Ii i) (ZP (Pp N.nb) (ZP (Pp N.nb) (ZP (Pt N.nb 6) (ZG h (Gr 6 N.ve 0 rfl (Cg hx 6 (by kernel_rfl))) (ZG h (D3 107 (by kernel_rfl) 0 rfl (By hx)) (ZP (.bool (decide ((i:Int)<(N.a.es.length:Int)))) (Qn (Zd ((i:Int)<(N.a.es.length:Int)) (fun hc1=>?_) fun hc1=>?_)))))))))
 refine Kn (Aa (Ar (Qs (ZP (Pp N.nb) (ZP (Pp N.nb) (ZP (Pt N.nb 6) (ZG h (Gr 6 N.ve 0 rfl (Cg hx 6 (by kernel_rfl))) (ZP (Ii i) ?_))))))))
 have hi2:i<N.a.es.length:=by omega
 obtain ⟨x3,hx4⟩:∃ x,N.a.es[i]?=some x:=⟨_,List.getElem?_eq_getElem hi2⟩
 refine ZG h (Dz (k:=3) 107 i rfl (by kernel_rfl) hi2 0 rfl (By hx)) (ZP (Pt (Df N.ve) (B1 N.ve+i*3)) (ZG h (Gr (B1 N.ve+i*3) (.string x3.1) 0 rfl (Le (By hx) D4 hx4 (by kernel_rfl))) (ZP (.string nm) (ZG h (A1 (v:=.bool (x3.1.toList==nm.toList)) (v':=.bool (decide (x3.1=nm))) (Ax fun _=>by kernel_rfl) Pk) (Qn (Zd (x3.1=nm) (fun hc5=>?_) fun hc5=>?_))))))
 exact Qs (ZP (Ii i) (ZP (Ii i) (Qr (Cj (Au (Oo (Cj (Au (ZR [Ii i] [0] h (.inl ⟨i,_,hx4,by assumption,rfl,rfl⟩))))))))))
 refine Bz ?_
 refine B9 (Af ?_)
 refine Ah (ZP (Ii i) (ZG h (A1 (v:=Ii (IntKind.i64.wrap ((i:Int)+1))) (v':=Ii ((i+1:Nat):Int)) (Ax fun _=>by kernel_rfl) (wr (by omega))) (ZP (Ii ((i+1:Nat):Int)) (Ct ?_))))
 have hQ6:((i+1)≤N.a.es.length∧∀ k y,k<(i+1)→N.a.es[k]?=some y→y.1≠nm)∧(N.a.es.length - (i+1))<(N.a.es.length - i):=⟨⟨by omega,Wu (p:=fun y:Bk=>y.1≠nm) hno hx4 (by assumption)⟩,by omega⟩
 refine Bo (fun j=>⟨(i+1),j⟩) hQ6 (by kernel_rfl) [0] (by kernel_rfl) h
 exact Dk (Eh (E8 (Ev (Af (Qs (ZP (Ii (-1)) (Qr (ZR [Ii (-1)] [0] h (.inr ⟨Rk hno (by omega),rfl,rfl⟩)))))))))
section
open Go.RowKit Go.MapKept
section
variable {P:Program} {a:Act} {w w0:World} {E:Ent} {L:List Res} {dst:Option Tmp} {x y:Operand} {T T2 ty:TypeId} {pos:String} {after:Array Edge} {g:Option (Nat×Bool)}
end
end
theorem L4 {es:List Bk} {k:Nat} {x:Bk} (p:Bk→Bool) (hx:es[k]?=some x):(es.take (k+1)).countP p=(es.take k).countP p+if p x then 1 else 0:=by
  rw [List.take_add_one,hx,List.countP_append];simp [List.countP_cons]
theorem Aad {L:List RN} {k:Nat} {M:RN} (f:RN→Nat) (hx:L[k]?=some M):((L.take (k+1)).map f).sum=((L.take k).map f).sum+f M:=by
  rw [List.take_add_one,hx,List.map_append,List.sum_append];simp
theorem Afm (L:List RN) (h:Hdl):A7 (L.map RN.a) h=(L.map fun M=>Ez M.a.es h).sum:=by unfold A7;rw [List.map_map];rfl
theorem T4 {L:List RN} (hn:(L.map fun N=>N.a.h).Nodup) {j:Nat} {K:RN} (hx:L[j]?=some K) {h:Hdl} (hh:K.a.h=h):A4 (L.map RN.a) h=decide (K.a.kind=2):=by unfold A4;rw [Aj hn hx hh]
theorem up_at {L:List RN} {i:Nat} {M:RN} (hx:L[i]?=some M) {h:Hdl} {k:Nat} {e:Bk} (he:M.a.es[k]?=some e) (hh:e.2=h) (hno:∀ q y,q<i→L[q]?=some y→∀ e∈y.a.es,e.2≠h):upA (L.map RN.a) h=M.a.h:=by
  unfold upA
  rw [List.find?_map]
  have:L.find? ((fun M:AN=>M.es.any fun e=>e.2==h)∘RN.a)=some M:=by
    rw [List.find?_eq_some_iff_getElem]
    obtain ⟨hj,q⟩:=List.getElem?_eq_some_iff.1 hx
    refine ⟨?_,i,hj,q,fun k hk=>?_⟩
    · simp only [Function.comp,List.any_eq_true,beq_iff_eq];exact ⟨e,List.mem_of_getElem? he,hh⟩
    · simp only [Function.comp,Bool.not_eq_true',List.any_eq_false,beq_iff_eq]
      exact hno k _ hk (List.getElem?_eq_getElem (by omega))
  rw [this];rfl
theorem up_no {L:List RN} {h:Hdl} (hno:∀ y∈L,∀ e∈y.a.es,e.2≠h):upA (L.map RN.a) h=h:=by
  unfold upA
  have:(L.map RN.a).find? (fun M=>M.es.any fun e=>e.2==h)=none:=by
    rw [List.find?_eq_none]
    intro x hx
    obtain ⟨N,hN,rfl⟩:=List.mem_map.1 hx
    simp only [List.any_eq_true,beq_iff_eq,not_exists,not_and]
    exact hno N hN
  rw [this]
def L6 (N:AN):Int:=if N.kind=2 then (N.es.length:Int) else (N.s.size:Int)
def upH (A:List AN) (N:AN):Hdl:=if N.kind=2 then upA A N.h else (0,0)
theorem D9 {A:List AN} {N:AN} (h:N.kind=2):C4 A N=2+((N.es.countP fun e=>A4 A e.2:Nat):Int):=if_pos h
theorem Dg {A:List AN} {N:AN} (h:¬N.kind=2):C4 A N=(A7 A N.h:Int):=if_neg h
theorem V1 (es:List Bk) (p:Bk→Bool):es.countP p≤es.length:=List.countP_le_length
theorem Af2 {L:List RN} {f:RN→Nat} {c:Nat} (h:∀ M∈L,f M≤c):(L.map f).sum≤L.length*c:=by
  induction L with
  | nil=>simp
  | cons x L ih=>
    have:=h x (by simp)
    have:=ih fun M hM=>h M (by simp [hM])
    simp only [List.map_cons,List.sum_cons,List.length_cons,Nat.succ_mul];omega
theorem Aa7 {α:Type} {l:List α} {k:Nat} {x:α} (h:x∈l.take k):x∈l:=List.mem_of_mem_take h
theorem M9 (b:Nat) (mst:Int) (vl vt:Value) (L:List RN) (hl:L.length≤400) (hnod:(L.map fun N=>N.a.h).Nodup) (hent:∀ M∈L,∀ e∈M.a.es,∃ K∈L,K.a.h=e.2) (hfew:∀ M∈L,M.a.es.length≤100) (j:Nat) (N:RN) (hx:L[j]?=some N)  : Ap Tryz.prog 69 #[Pp b,Pp N.nb] [Rt b mst vl vt,rRL vl L] (fun u L'=>u=Ii (C4 (L.map RN.a) N.a)∧L'=[Rt b mst vl vt,rRL vl L]):=by
 have hfN:=hfew N (List.mem_of_getElem? hx)
 refine Zo 85 Tryz.func69 fun E w0 w h=>?_
 refine Qs (ZP (Ii 0) (Qu (ZP (Pp N.nb) (ZP (Pp N.nb) (ZP (Pt N.nb 2) (ZG h (Gr 2 (Ii N.a.kind) 1 rfl (Cg hx 2 (by kernel_rfl))) (ZP (.bool (decide (N.a.kind=2))) (Qn (Zd (N.a.kind=2) (fun hc1=>?_) fun hc1=>?_)))))))))
 refine Qs (ZP (Ii 2) (Qu (ZP (Ii 0) (Qn (Ar ?_)))))
 refine ZL (X:=Nat×Nat×(Nat→Value)) [(15,39)] (fun ⟨i1,m1,J0⟩=>[(5,Ii m1),(6,Ii i1)]) (fun ⟨i1,m1,J0⟩=>J0) (fun ⟨i1,m1,J0⟩=>[Rt b mst vl vt,rRL vl L]) (fun ⟨i1,m1,J0⟩=>i1≤N.a.es.length∧m1=2+(N.a.es.take i1).countP (fun e=>A4 (L.map RN.a) e.2)) (fun ⟨i1,m1,J0⟩=>N.a.es.length - i1) (fun j=>⟨0,2,j⟩) ⟨by omega,rfl⟩ [0,0] h ?_
 rintro ⟨i1,m1,J0⟩ w hG h
 obtain ⟨hi1,hm⟩:i1≤N.a.es.length∧m1=2+(N.a.es.take i1).countP (fun e=>A4 (L.map RN.a) e.2):=hG
 have hmb:=V1 (N.a.es.take i1) (fun e=>A4 (L.map RN.a) e.2)
 rw [List.length_take] at hmb
 refine Qt (ZP (Ii i1) (ZP (Pp N.nb) (ZP (Pp N.nb) (ZP (Pt N.nb 6) (ZG h (Gr 6 N.ve 1 rfl (Cg hx 6 (by kernel_rfl))) (ZG h (D3 107 (by kernel_rfl) 1 rfl (By hx)) (ZP (.bool (decide ((i1:Int)<(N.a.es.length:Int)))) (Qn (Zd ((i1:Int)<(N.a.es.length:Int)) (fun hc2=>?_) fun hc2=>?_)))))))))
 refine Kn (Aa (Ar (Qs (ZP (Pp b) (ZP (Pp N.nb) (ZP (Pp N.nb) (ZP (Pt N.nb 6) (ZG h (Gr 6 N.ve 1 rfl (Cg hx 6 (by kernel_rfl))) (ZP (Ii i1) ?_)))))))))
 have hi3:i1<N.a.es.length:=by omega
 obtain ⟨x4,hx5⟩:∃ x,N.a.es[i1]?=some x:=⟨_,List.getElem?_eq_getElem hi3⟩
 refine ZG h (Dz (k:=3) 107 i1 rfl (by kernel_rfl) hi3 1 rfl (By hx)) (ZP (Pt (Df N.ve) (B1 N.ve+i1*3+1)) (ZG h (Gra (B1 N.ve+i1*3+1) [Ii x4.2.1,Ii x4.2.2] 1 rfl (rdS (By hx) D4 hx5 1 (by kernel_rfl))) ?_))
 obtain ⟨K6,hK7,hKh8⟩:=hent N (List.mem_of_getElem? hx) x4 (List.mem_of_getElem? hx5)
 obtain ⟨jK9,hjK10⟩:=List.getElem?_of_mem hK7
 refine ZC [0,0] (Cx b mst vl vt L (by omega) hnod jK9 K6 hjK10 x4.2.1 x4.2.2 hKh8) h fun w h=>ZP (Pp K6.nb) (ZP (Pt K6.nb 2) (ZG h (Gr 2 (Ii K6.a.kind) 1 rfl (Cg hjK10 2 (by kernel_rfl))) (ZP (.bool (decide (K6.a.kind=2))) (Qn (Zd (K6.a.kind=2) (fun hc11=>?_) fun hc11=>?_)))))
 have hT:A4 (L.map RN.a) x4.2=true:=by rw [T4 hnod hjK10 hKh8];exact decide_eq_true (by omega)
 refine Ah (ZP (Ii m1) (ZG h (A1 (v:=Ii (IntKind.i64.wrap ((m1:Int)+1))) (v':=Ii ((m1+1:Nat):Int)) (Ax fun _=>by kernel_rfl) (wr (by omega))) (ZP (Ii ((m1+1:Nat):Int)) (Ct ?_))))
 refine B9 (Af ?_)
 refine Ah (ZP (Ii i1) (ZG h (A1 (v:=Ii (IntKind.i64.wrap ((i1:Int)+1))) (v':=Ii ((i1+1:Nat):Int)) (Ax fun _=>by kernel_rfl) (wr (by omega))) (ZP (Ii ((i1+1:Nat):Int)) (Ct ?_))))
 have hQ12:((i1+1)≤N.a.es.length∧(m1+1)=2+(N.a.es.take (i1+1)).countP (fun e=>A4 (L.map RN.a) e.2))∧(N.a.es.length - (i1+1))<(N.a.es.length - i1):=⟨⟨by omega,by (rw [L4 _ hx5,hm,hT])<;>(simp<;>try omega)⟩,by omega⟩
 refine Bo (fun j=>⟨(i1+1),m1+1,j⟩) hQ12 (by kernel_rfl) [0,0] (by kernel_rfl) h
 have hT:A4 (L.map RN.a) x4.2=false:=by rw [T4 hnod hjK10 hKh8];exact decide_eq_false (by omega)
 refine Bz ?_
 refine B9 (Af ?_)
 refine Ah (ZP (Ii i1) (ZG h (A1 (v:=Ii (IntKind.i64.wrap ((i1:Int)+1))) (v':=Ii ((i1+1:Nat):Int)) (Ax fun _=>by kernel_rfl) (wr (by omega))) (ZP (Ii ((i1+1:Nat):Int)) (Ct ?_))))
 have hQ13:((i1+1)≤N.a.es.length∧m1=2+(N.a.es.take (i1+1)).countP (fun e=>A4 (L.map RN.a) e.2))∧(N.a.es.length - (i1+1))<(N.a.es.length - i1):=⟨⟨by omega,by (rw [L4 _ hx5,hm,hT])<;>(simp<;>try omega)⟩,by omega⟩
 refine Bo (fun j=>⟨(i1+1),m1,j⟩) hQ13 (by kernel_rfl) [0,0] (by kernel_rfl) h
 refine Dk (Eh (E8 (Ev (Af (Qs (ZP (Ii m1) (ZP (Ii m1) (Qr (Au (ZR [Ii m1] [0,0] h ?_))))))))))
 rw [D9 (by omega)]
 rw [List.take_of_length_le (by omega)] at hm
 exact ⟨by show Value.int _ _=_;congr 1;omega,rfl⟩
 refine Ks (ZP (Ii 0) (Qu (ZP (Ii 0) (Qn (Ar ?_)))))
 refine ZL (X:=Nat×Nat×(Nat→Value)) [(9,9),(41,85)] (fun ⟨i2,m2,J1⟩=>[(7,Ii m2),(8,Ii i2)]) (fun ⟨i2,m2,J1⟩=>J1) (fun ⟨i2,m2,J1⟩=>[Rt b mst vl vt,rRL vl L]) (fun ⟨i2,m2,J1⟩=>i2≤L.length∧m2=((L.take i2).map fun M=>Ez M.a.es N.a.h).sum) (fun ⟨i2,m2,J1⟩=>L.length - i2) (fun j=>⟨0,0,j⟩) ⟨by omega,rfl⟩ [0,0] h ?_
 rintro ⟨i2,m2,J1⟩ w hG h
 obtain ⟨hi2,hm⟩:i2≤L.length∧m2=((L.take i2).map fun M=>Ez M.a.es N.a.h).sum:=hG
 have hmb:m2≤40000:=by have h1:=Af2 (L:=L.take i2) (f:=fun M=>Ez M.a.es N.a.h) (c:=100) (fun M hM=>Nat.le_trans (V1 _ _) (hfew M (Aa7 hM)));rw [List.length_take] at h1;have:min i2 L.length*100≤400*100:=Nat.mul_le_mul_right _ (by omega);omega
 refine Qt (ZP (Ii i2) (ZP (Pp b) (ZP (Pp b) (ZP (Pt b 1) (ZG h (Gl 1 (vl) 0) (ZG h (D3 88 (by kernel_rfl) 1 rfl Dj) (ZP (.bool (decide ((i2:Int)<(L.length:Int)))) (Qn (Zd ((i2:Int)<(L.length:Int)) (fun hc14=>?_) fun hc14=>?_)))))))))
 refine Kn (Aa (Ar (Qs (ZP (Ii 0) (Qn (Ar ?_))))))
 have hi15:i2<L.length:=by omega
 obtain ⟨x16,hx17⟩:∃ x,L[i2]?=some x:=⟨_,List.getElem?_eq_getElem hi15⟩
 have hfX:=hfew x16 (List.mem_of_getElem? hx17)
 refine ZL (X:=Nat×Nat×(Nat→Value)) [(50,85)] (fun ⟨kq,m3,J2⟩=>[(7,Ii m3),(9,Ii kq)]) (fun ⟨kq,m3,J2⟩=>J2) (fun ⟨kq,m3,J2⟩=>[Rt b mst vl vt,rRL vl L]) (fun ⟨kq,m3,J2⟩=>kq≤x16.a.es.length∧m3=m2+Ez (x16.a.es.take kq) N.a.h) (fun ⟨kq,m3,J2⟩=>x16.a.es.length - kq) (fun j=>⟨0,m2,j⟩) ⟨by omega,rfl⟩ [0,0] h ?_
 rintro ⟨kq,m3,J2⟩ w hG h
 obtain ⟨hkq,hm3⟩:kq≤x16.a.es.length∧m3=m2+Ez (x16.a.es.take kq) N.a.h:=hG
 have hm3b:Ez (x16.a.es.take kq) N.a.h≤_:=V1 _ _
 rw [List.length_take] at hm3b
 refine Qt (ZP (Ii kq) (ZP (Pp b) (ZP (Pp b) (ZP (Pt b 1) (ZG h (Gl 1 (vl) 0) (ZP (Ii i2) (ZG h (Dz (k:=1) 88 i2 rfl (by kernel_rfl) hi15 1 rfl Dj) (ZG h (Gr (B1 vl+i2*1) (Pp x16.nb) 1 rfl (Le Dj Gs hx17 (by kernel_rfl))) (ZP (Pp x16.nb) (ZP (Pt x16.nb 6) (ZG h (Gr 6 x16.ve 1 rfl (Cg hx17 6 (by kernel_rfl))) (ZG h (D3 107 (by kernel_rfl) 1 rfl (By hx17)) (ZP (.bool (decide ((kq:Int)<(x16.a.es.length:Int)))) (Qn (Zd ((kq:Int)<(x16.a.es.length:Int)) (fun hc18=>?_) fun hc18=>?_)))))))))))))))
 refine Kn (Aa (Ar (Aa (Ds 19 [0,0] h fun w h=>Dp 0 246800 (Pp b) [0,0] h (Dp 1 246801 (Pp b) [0,0] h (Dp 2 246803 (Pt b 1) [0,0] h (Dq 3 246807 [0,0] rfl h (Gl 1 (vl) 0) (Dp 4 246799 (Ii i2) [0,0] h (Dq (v:=Pt (Df vl) (B1 vl+i2*1)) 5 246815 [0,0] rfl h (Dz (k:=1) 88 i2 rfl (by kernel_rfl) hi15 1 rfl Dj) (Dq 6 246847 [0,0] rfl h (Gr (B1 vl+i2*1) (Pp x16.nb) 1 rfl (Le Dj Gs hx17 (by kernel_rfl))) (Dp 7 246911 (Pp x16.nb) [0,0] h (Dp 8 247039 (Pt x16.nb 6) [0,0] h (Dq 9 247295 [0,0] rfl h (Gr 6 x16.ve 1 rfl (Cg hx17 6 (by kernel_rfl))) (Dp 10 246783 (Ii kq) [0,0] h ?_))))))))))))))
 have hi19:kq<x16.a.es.length:=by omega
 obtain ⟨x20,hx21⟩:∃ x,x16.a.es[kq]?=some x:=⟨_,List.getElem?_eq_getElem hi19⟩
 refine Dq (v:=Pt (Df x16.ve) (B1 x16.ve+kq*3)) 11 247807 [0,0] rfl h (Dz (k:=3) 107 kq rfl (by kernel_rfl) hi19 1 rfl (By hx17)) (Dp 12 249855 (Pt (Df x16.ve) (B1 x16.ve+kq*3+1)) [0,0] h (Dq 13 253951 [0,0] rfl h (Gra (B1 x16.ve+kq*3+1) [Ii x20.2.1,Ii x20.2.2] 1 rfl (rdS (By hx17) D4 hx21 1 (by kernel_rfl))) (Dp 14 16383 (Pp N.nb) [0,0] h (Dp 15 32767 (Pp N.nb) [0,0] h (Dp 16 65535 (Pp N.nb) [0,0] h (Dq 17 131071 [0,0] rfl h (Gra 0 [Ii N.a.h.1,Ii N.a.h.2] 1 rfl (Cg hx 0 (by kernel_rfl))) (Dq (v:=.bool ((decide (x20.2.1=N.a.h.1))&&(decide (x20.2.2=N.a.h.2)))) 18 262143 [0,0] rfl h (Fr (n1:=x20.2.1) (g1:=x20.2.2) (n2:=N.a.h.1) (g2:=N.a.h.2) (by kernel_rfl)) (Dd (Af (Zh (x20.2.1=N.a.h.1) (x20.2.2=N.a.h.2) (fun hc22 q23 q24=>?_) fun hc22 q26=>?_))))))))))
 have hT:(x20.2==N.a.h)=true:=beq_iff_eq.2 (Prod.ext (by omega) (by omega))
 refine Ah (ZP (Ii m3) (ZG h (A1 (v:=Ii (IntKind.i64.wrap ((m3:Int)+1))) (v':=Ii ((m3+1:Nat):Int)) (Ax fun _=>by kernel_rfl) (wr (by omega))) (ZP (Ii ((m3+1:Nat):Int)) (Ct ?_))))
 refine B9 (Af ?_)
 refine Ah (ZP (Ii kq) (ZG h (A1 (v:=Ii (IntKind.i64.wrap ((kq:Int)+1))) (v':=Ii ((kq+1:Nat):Int)) (Ax fun _=>by kernel_rfl) (wr (by omega))) (ZP (Ii ((kq+1:Nat):Int)) (Ct ?_))))
 have hQ25:((kq+1)≤x16.a.es.length∧(m3+1)=m2+Ez (x16.a.es.take (kq+1)) N.a.h)∧(x16.a.es.length - (kq+1))<(x16.a.es.length - kq):=⟨⟨by omega,by unfold Ez at hm3 ⊢;(rw [L4 _ hx21,hm3,hT])<;>(simp<;>try omega)⟩,by omega⟩
 refine Bo (fun j=>⟨(kq+1),m3+1,j⟩) hQ25 (by kernel_rfl) [0,0] (by kernel_rfl) h
 have hT:(x20.2==N.a.h)=false:=beq_eq_false_iff_ne.2 (fun e=>by have e1:=congrArg Prod.fst e;have e2:=congrArg Prod.snd e;omega)
 refine Bz ?_
 refine B9 (Af ?_)
 refine Ah (ZP (Ii kq) (ZG h (A1 (v:=Ii (IntKind.i64.wrap ((kq:Int)+1))) (v':=Ii ((kq+1:Nat):Int)) (Ax fun _=>by kernel_rfl) (wr (by omega))) (ZP (Ii ((kq+1:Nat):Int)) (Ct ?_))))
 have hQ27:((kq+1)≤x16.a.es.length∧m3=m2+Ez (x16.a.es.take (kq+1)) N.a.h)∧(x16.a.es.length - (kq+1))<(x16.a.es.length - kq):=⟨⟨by omega,by unfold Ez at hm3 ⊢;(rw [L4 _ hx21,hm3,hT])<;>(simp<;>try omega)⟩,by omega⟩
 refine Bo (fun j=>⟨(kq+1),m3,j⟩) hQ27 (by kernel_rfl) [0,0] (by kernel_rfl) h
 refine Dk (Eh (E8 (Ev (B9 (Af (Ah (ZP (Ii i2) (ZG h (A1 (v:=Ii (IntKind.i64.wrap ((i2:Int)+1))) (v':=Ii ((i2+1:Nat):Int)) (Ax fun _=>by kernel_rfl) (wr (by omega))) (ZP (Ii ((i2+1:Nat):Int)) (Ct ?_))))))))))
 have hQ28:((i2+1)≤L.length∧m3=((L.take (i2+1)).map fun M=>Ez M.a.es N.a.h).sum)∧(L.length - (i2+1))<(L.length - i2):=⟨⟨by omega,by rw [Aad _ hx17,← hm,hm3,List.take_of_length_le (by omega)]<;>rfl⟩,by omega⟩
 refine Bo (fun j=>⟨(i2+1),m3,j⟩) hQ28 (by kernel_rfl) [0,0] (by kernel_rfl) h
 refine Dk (Eh (E8 (Ev (Af (Qs (ZP (Ii m2) (ZP (Ii m2) (Qr (ZR [Ii m2] [0,0] h ?_)))))))))
 rw [Dg (by omega),Afm]
 rw [List.take_of_length_le (by omega)] at hm
 exact ⟨by show Value.int _ _=_;rw [hm],rfl⟩
theorem Ud (b:Nat) (mst:Int) (vl vt:Value) (L:List RN) (hl:L.length≤400) (hfew:∀ M∈L,M.a.es.length≤100) (n g:Int)  : Ap Tryz.prog 72 #[Pp b,Hg n g] [Rt b mst vl vt,rRL vl L] (fun u L'=>u=.agg #[Ii (upA (L.map RN.a) (n,g)).1,Ii (upA (L.map RN.a) (n,g)).2]∧L'=[Rt b mst vl vt,rRL vl L]):=by
 refine Zo 56 Tryz.func72 fun E w0 w h=>?_
 refine Qs (ZN [Ii n,Ii g] 34 h fun k1 w h=>ZN [Ii 0,Ii 0] 34 h fun k2 w h=>Qu (ZP (Ii 0) (Qn (Ar ?_))))
 refine ZL (X:=Nat×(Nat→Value)) [(6,56)] (fun ⟨i2,J0⟩=>[(5,Ii i2)]) (fun ⟨i2,J0⟩=>J0) (fun ⟨i2,J0⟩=>[Rh k2 0 0,Rh k1 n g,Rt b mst vl vt,rRL vl L]) (fun ⟨i2,J0⟩=>i2≤L.length∧∀ q y,q<i2→L[q]?=some y→∀ e∈y.a.es,e.2≠(n,g)) (fun ⟨i2,J0⟩=>L.length - i2) (fun j=>⟨0,j⟩) ⟨by omega,fun q y hq=>by omega⟩ [0,0,0,0] h ?_
 rintro ⟨i2,J0⟩ w hG h
 obtain ⟨hi2,hno⟩:i2≤L.length∧∀ q y,q<i2→L[q]?=some y→∀ e∈y.a.es,e.2≠(n,g):=hG
 refine Qt (ZP (Ii i2) (ZP (Pp b) (ZP (Pp b) (ZP (Pt b 1) (ZG h (Gl 1 (vl) 2) (ZG h (D3 88 (by kernel_rfl) 3 rfl Dj) (ZP (.bool (decide ((i2:Int)<(L.length:Int)))) (Qn (Zd ((i2:Int)<(L.length:Int)) (fun hc3=>?_) fun hc3=>?_)))))))))
 refine Kn (Aa (Ar (Qs (ZP (Ii 0) (Qn (Ar ?_))))))
 have hi4:i2<L.length:=by omega
 obtain ⟨x5,hx6⟩:∃ x,L[i2]?=some x:=⟨_,List.getElem?_eq_getElem hi4⟩
 have hfX:=hfew x5 (List.mem_of_getElem? hx6)
 refine ZL (X:=Nat×(Nat→Value)) [(16,56)] (fun ⟨kq,J1⟩=>[(6,Ii kq)]) (fun ⟨kq,J1⟩=>J1) (fun ⟨kq,J1⟩=>[Rh k2 0 0,Rh k1 n g,Rt b mst vl vt,rRL vl L]) (fun ⟨kq,J1⟩=>kq≤x5.a.es.length∧∀ q y,q<kq→x5.a.es[q]?=some y→y.2≠(n,g)) (fun ⟨kq,J1⟩=>x5.a.es.length - kq) (fun j=>⟨0,j⟩) ⟨by omega,fun q y hq=>by omega⟩ [0,0,0,0] h ?_
 rintro ⟨kq,J1⟩ w hG h
 obtain ⟨hkq,hno2⟩:kq≤x5.a.es.length∧∀ q y,q<kq→x5.a.es[q]?=some y→y.2≠(n,g):=hG
 refine Qt (ZP (Ii kq) (ZP (Pp b) (ZP (Pp b) (ZP (Pt b 1) (ZG h (Gl 1 (vl) 2) (ZP (Ii i2) (ZG h (Dz (k:=1) 88 i2 rfl (by kernel_rfl) hi4 3 rfl Dj) (ZG h (Gr (B1 vl+i2*1) (Pp x5.nb) 3 rfl (Le Dj Gs hx6 (by kernel_rfl))) (ZP (Pp x5.nb) (ZP (Pt x5.nb 6) (ZG h (Gr 6 x5.ve 3 rfl (Cg hx6 6 (by kernel_rfl))) (ZG h (D3 107 (by kernel_rfl) 3 rfl (By hx6)) (ZP (.bool (decide ((kq:Int)<(x5.a.es.length:Int)))) (Qn (Zd ((kq:Int)<(x5.a.es.length:Int)) (fun hc7=>?_) fun hc7=>?_)))))))))))))))
 refine Kn (Aa (Ar (Aa (Ds 16 [1,1,1] h fun w h=>Dp 0 17424 (Pp b) [1,1,1] h (Dp 1 17425 (Pp b) [1,1,1] h (Dp 2 17427 (Pt b 1) [1,1,1] h (Dq 3 17431 [1,1,1] rfl h (Gl 1 (vl) 1) (Dp 4 17423 (Ii i2) [1,1,1] h (Dq (v:=Pt (Df vl) (B1 vl+i2*1)) 5 17439 [1,1,1] rfl h (Dz (k:=1) 88 i2 rfl (by kernel_rfl) hi4 2 rfl Dj) (Dq 6 17471 [1,1,1] rfl h (Gr (B1 vl+i2*1) (Pp x5.nb) 2 rfl (Le Dj Gs hx6 (by kernel_rfl))) (Dp 7 17535 (Pp x5.nb) [1,1,1] h (Dp 8 17663 (Pt x5.nb 6) [1,1,1] h (Dq 9 17919 [1,1,1] rfl h (Gr 6 x5.ve 2 rfl (Cg hx6 6 (by kernel_rfl))) (Dp 10 17407 (Ii kq) [1,1,1] h ?_))))))))))))))
 have hi8:kq<x5.a.es.length:=by omega
 obtain ⟨x9,hx10⟩:∃ x,x5.a.es[kq]?=some x:=⟨_,List.getElem?_eq_getElem hi8⟩
 refine Dq (v:=Pt (Df x5.ve) (B1 x5.ve+kq*3)) 11 18431 [1,1,1] rfl h (Dz (k:=3) 107 kq rfl (by kernel_rfl) hi8 2 rfl (By hx6)) (Dp 12 20479 (Pt (Df x5.ve) (B1 x5.ve+kq*3+1)) [1,1,1] h (Dq 13 24575 [1,1,1] rfl h (Gra (B1 x5.ve+kq*3+1) [Ii x9.2.1,Ii x9.2.2] 2 rfl (rdS (By hx6) D4 hx10 1 (by kernel_rfl))) (Dq 14 16383 [1,1,1] rfl h (Gla 0 [Ii n,Ii g] 0) (Dq (v:=.bool ((decide (x9.2.1=n))&&(decide (x9.2.2=g)))) 15 32767 [1,1,1] rfl h (Fr (n1:=x9.2.1) (g1:=x9.2.2) (n2:=n) (g2:=g) (by kernel_rfl)) (Dd (Af (Zh (x9.2.1=n) (x9.2.2=g) (fun hc11 q12 q13=>?_) fun hc11 q14=>?_)))))))
 refine Qs (ZP (Pp b) (ZP (Pp b) (ZP (Pt b 1) (ZG h (Gl 1 (vl) 2) (ZP (Ii i2) (ZG h (Dz (k:=1) 88 i2 rfl (by kernel_rfl) hi4 3 rfl Dj) (ZG h (Gr (B1 vl+i2*1) (Pp x5.nb) 3 rfl (Le Dj Gs hx6 (by kernel_rfl))) (ZP (Pp x5.nb) (ZP (Pp x5.nb) (ZG h (Gra 0 [Ii x5.a.h.1,Ii x5.a.h.2] 3 rfl (Cg hx6 0 (by kernel_rfl))) (ZSs [Ii x5.a.h.1,Ii x5.a.h.2] 0 rfl h fun w h=>Qr (Cj (Au (Oo (Cj (Cj (Au (Oo (Cj (Au ?_))))))))))))))))))))
 refine B0 [Hg x5.a.h.1 x5.a.h.2] [2,2] h (by kernel_rfl) (Di 0 [Ii x5.a.h.1,Ii x5.a.h.2] (Hg x5.a.h.1 x5.a.h.2) 0 rfl (by kernel_rfl) Dh) ?_
 rw [up_at hx6 hx10 (Prod.ext (by omega) (by omega)) hno]
 exact ⟨rfl,rfl⟩
 refine Bz ?_
 refine B9 (Af ?_)
 refine Ah (ZP (Ii kq) (ZG h (A1 (v:=Ii (IntKind.i64.wrap ((kq:Int)+1))) (v':=Ii ((kq+1:Nat):Int)) (Ax fun _=>by kernel_rfl) (wr (by omega))) (ZP (Ii ((kq+1:Nat):Int)) (Ct ?_))))
 have hQ15:((kq+1)≤x5.a.es.length∧∀ q y,q<(kq+1)→x5.a.es[q]?=some y→y.2≠(n,g))∧(x5.a.es.length - (kq+1))<(x5.a.es.length - kq):=⟨⟨by omega,Wu (p:=fun y:Bk=>y.2≠(n,g)) hno2 hx10 (Aae (by omega))⟩,by omega⟩
 refine Bo (fun j=>⟨(kq+1),j⟩) hQ15 (by kernel_rfl) [0,0,0,0] (by kernel_rfl) h
 refine Dk (Eh (E8 (Ev (B9 (Af (Ah (ZP (Ii i2) (ZG h (A1 (v:=Ii (IntKind.i64.wrap ((i2:Int)+1))) (v':=Ii ((i2+1:Nat):Int)) (Ax fun _=>by kernel_rfl) (wr (by omega))) (ZP (Ii ((i2+1:Nat):Int)) (Ct ?_))))))))))
 have hQ16:((i2+1)≤L.length∧∀ q y,q<(i2+1)→L[q]?=some y→∀ e∈y.a.es,e.2≠(n,g))∧(L.length - (i2+1))<(L.length - i2):=⟨⟨by omega,Wu (p:=fun y:RN=>∀ e∈y.a.es,e.2≠(n,g)) hno hx6 (Rk hno2 (by omega))⟩,by omega⟩
 refine Bo (fun j=>⟨(i2+1),j⟩) hQ16 (by kernel_rfl) [0,0,0,0] (by kernel_rfl) h
 refine Dk (Eh (E8 (Ev (Af (Qs (ZG h (Gla 0 [Ii n,Ii g] 1) (ZSs [Ii n,Ii g] 0 rfl h fun w h=>Qr ?_)))))))
 refine B0 [Hg n g] [2,2] h (by kernel_rfl) (Di 0 [Ii n,Ii g] (Hg n g) 0 rfl (by kernel_rfl) Dh) ?_
 rw [up_no (Rk hno (by omega))]
 exact ⟨rfl,rfl⟩
theorem Gi (vl:Value) (L:List RN) (j:Nat) (N:RN) (hx:L[j]?=some N) (nm:ByteArray) (n g:Int) (hl:N.a.es.length≤1000)  : Ap Tryz.prog 68 #[Pp N.nb,.string nm,Hg n g] [rRL vl L] (fun u L'=>∃ v',L'=[rRL vl (L.set j (⟨N.nb,N.vh,v',⟨N.a.h,N.a.kind,N.a.change,N.a.s,N.a.holes,Bj nm (n,g) N.a.es,N.a.pins⟩⟩:RN))]):=by
 refine Zo 57 Tryz.func68 fun E w0 w h=>?_
 refine Qs (ZN [Ii n,Ii g] 34 h fun k1 w h=>Qm (ZP (.slice none 0 0) (Qm (ZP (.bool false) (Qu (ZP (Ii 0) (Qn (Ar ?_))))))))
 have h:=h.nilRows 107 3 e3C
 refine ZL (X:=Nat×Bool×List Bk×Value×(Nat→Value)) [(9,47)] (fun ⟨i,done,out,vo,J0⟩=>[(6,vo),(7,.bool done),(8,Ii i)]) (fun ⟨i,done,out,vo,J0⟩=>J0) (fun ⟨i,done,out,vo,J0⟩=>[Bf true vo 107 3 e3C out,Rh k1 n g,rRL vl L]) (fun ⟨i,done,out,vo,J0⟩=>i≤N.a.es.length∧(done,out)=Lr nm (n,g) (N.a.es.take i)∧out.length≤2*i) (fun ⟨i,done,out,vo,J0⟩=>N.a.es.length - i) (fun j=>⟨0,false,[],(.slice none 0 0),j⟩) ⟨by omega,rfl,by simp⟩ [0,0,0] h ?_
 rintro ⟨i,done,out,vo,J0⟩ w hG h
 obtain ⟨hi0,ho,hol⟩:i≤N.a.es.length∧(done,out)=Lr nm (n,g) (N.a.es.take i)∧out.length≤2*i:=hG
 refine Qt (ZP (Ii i) (ZP (Pp N.nb) (ZP (Pp N.nb) (ZP (Pt N.nb 6) (ZG h (Gr 6 N.ve 2 rfl (Cg hx 6 (by kernel_rfl))) (ZG h (D3 107 (by kernel_rfl) 2 rfl (By hx)) (ZP (.bool (decide ((i:Int)<(N.a.es.length:Int)))) (Qn (Zd ((i:Int)<(N.a.es.length:Int)) (fun hc2=>?_) fun hc2=>?_)))))))))
 refine Kn (Aa (Ar (Qt (ZP (.bool done) ?_))))
 obtain ⟨b3,hb3⟩:=nmB (!done)
 refine ZB hb3 (ZP (.bool b3) (ZM1 (v:=.string nm) b3 h (fun hB=>by subst hB;exact Gp (.string nm)) (ZM1 (v:=Pp N.nb) b3 h (fun hB=>by subst hB;exact Gp (Pp N.nb)) (ZM1 (v:=Pp N.nb) b3 h (fun hB=>by subst hB;exact Gp (Pp N.nb)) (ZM1 (v:=Pt N.nb 6) b3 h (fun hB=>by subst hB;exact Gp (Pt N.nb 6)) (ZM1 (v:=N.ve) b3 h (fun hB=>by subst hB;exact Gr 6 N.ve 2 rfl (Cg hx 6 (by kernel_rfl))) (ZM1 (v:=Ii i) b3 h (fun hB=>by subst hB;exact Gp (Ii i)) ?_)))))))
 have hi4:i<N.a.es.length:=by omega
 obtain ⟨x5,hx6⟩:∃ x,N.a.es[i]?=some x:=⟨_,List.getElem?_eq_getElem hi4⟩
 refine ZM1 (v:=Pt (Df N.ve) (B1 N.ve+i*3)) b3 h (fun hB=>by subst hB;exact Dz (k:=3) 107 i rfl (by kernel_rfl) hi4 2 rfl (By hx)) (ZM1 (v:=Pt (Df N.ve) (B1 N.ve+i*3)) b3 h (fun hB=>by subst hB;exact Gp (Pt (Df N.ve) (B1 N.ve+i*3))) (ZM1 (v:=.string x5.1) b3 h (fun hB=>by subst hB;exact Gr (B1 N.ve+i*3) (.string x5.1) 2 rfl (Le (By hx) D4 hx6 (by kernel_rfl))) ?_))
 obtain ⟨b7,hb7⟩:=nmB (Lt nm x5.1)
 refine ZM1 (v:=.bool b7) b3 h (fun hB=>by subst hB;exact by subst hb7;exact Ax (v:=.bool (Lt nm x5.1)) fun _=>by kernel_rfl) ?_
 obtain ⟨b8,hb8⟩:=nmB (b3&&b7)
 refine ZBc b3 hb8 (Qn ?_)
 have hT:(!done&&Lt nm x5.1)=b8:=by subst hb8 hb7 hb3;rfl
 refine Zi (b8) (fun hc9=>?_) fun hc9=>?_
 have q10:=hb8.symm.trans hc9
 have q11:=aL q10
 have q12:=aR q10
 have q13:=hb3.symm.trans q11
 have q14:done=false:=by simpa using q13
 have q15:=hb7.symm.trans q12
 rw [hc9] at hT
 refine Qs (ZP vo (ZP (.string nm) (ZG h (Gla 0 [Ii n,Ii g] 1) (ZP (.agg #[.string nm,Ii n,Ii g]) ?_))))
 refine G0 rfl (fun b=>.slice (some ⟨b,0,none⟩) 1 1) [.string nm,Ii n,Ii g] 107 (fun _=>by kernel_rfl) h ?_;intro k16 w h
 refine Hp (b:=k16) (o:=0) rfl 1 (nm,n,g) (by kernel_rfl) h 1 rfl 0 rfl (Fq 0 (by kernel_rfl)) (by (try simp only [List.length_append,List.length_cons,List.length_nil,List.length_map]);omega) ?_;intro v17 w h
 refine ZP v17 (Qn (Ah (ZP (.bool true) (Qn (Ah (ZP v17 (ZP (Pp N.nb) (ZP (Pp N.nb) (ZP (Pt N.nb 6) (ZG h (Gr 6 N.ve 3 rfl (Cg hx 6 (by kernel_rfl))) (ZP (Ii i) (ZG h (Dz (k:=3) 107 i rfl (by kernel_rfl) hi4 3 rfl (By hx)) (ZG h (Gra (B1 N.ve+i*3) [.string x5.1,Ii x5.2.1,Ii x5.2.2] 3 rfl (Le (By hx) D4 hx6 (by kernel_rfl))) ?_)))))))))))))
 refine G0 rfl (fun b=>.slice (some ⟨b,0,none⟩) 1 1) [.string x5.1,Ii x5.2.1,Ii x5.2.2] 107 (fun _=>by kernel_rfl) h ?_;intro k18 w h
 refine Hp (b:=k18) (o:=0) rfl 1 x5 (by kernel_rfl) h 2 rfl 0 rfl (Fq 0 (by kernel_rfl)) (by (try simp only [List.length_append,List.length_cons,List.length_nil,List.length_map]);omega) ?_;intro v19 w h
 refine ZP v19 (Ct ?_)
 refine B9 (Af ?_)
 refine Ah (ZP (Ii i) (ZG h (A1 (v:=Ii (IntKind.i64.wrap ((i:Int)+1))) (v':=Ii ((i+1:Nat):Int)) (Ax fun _=>by kernel_rfl) (wr (by omega))) (ZP (Ii ((i+1:Nat):Int)) (Ct ?_))))
 have hQ20:((i+1)≤N.a.es.length∧(true,(out++[(nm,n,g)]++[x5]))=Lr nm (n,g) (N.a.es.take (i+1))∧(out++[(nm,n,g)]++[x5]).length≤2*(i+1))∧(N.a.es.length - (i+1))<(N.a.es.length - i):=⟨⟨by omega,by rw [Qa hx6,← ho];unfold C9;rw [if_pos hT],by (try simp only [List.length_append,List.length_cons,List.length_nil]);omega⟩,by omega⟩
 refine Bo (fun j=>⟨(i+1),true,out++[(nm,n,g)]++[x5],v19,j⟩) hQ20 (by kernel_rfl) [2,2,2] (by kernel_rfl) h
 have q21:=hb8.symm.trans hc9
 rw [hc9] at hT
 refine Kn (Ah (ZP vo (ZP (Pp N.nb) (ZP (Pp N.nb) (ZP (Pt N.nb 6) (ZG h (Gr 6 N.ve 2 rfl (Cg hx 6 (by kernel_rfl))) (ZP (Ii i) (ZG h (Dz (k:=3) 107 i rfl (by kernel_rfl) hi4 2 rfl (By hx)) (ZG h (Gra (B1 N.ve+i*3) [.string x5.1,Ii x5.2.1,Ii x5.2.2] 2 rfl (Le (By hx) D4 hx6 (by kernel_rfl))) ?_)))))))))
 refine G0 rfl (fun b=>.slice (some ⟨b,0,none⟩) 1 1) [.string x5.1,Ii x5.2.1,Ii x5.2.2] 107 (fun _=>by kernel_rfl) h ?_;intro k22 w h
 refine Hp (b:=k22) (o:=0) rfl 1 x5 (by kernel_rfl) h 1 rfl 0 rfl (Fq 0 (by kernel_rfl)) (by (try simp only [List.length_append,List.length_cons,List.length_nil,List.length_map]);omega) ?_;intro v23 w h
 refine ZP v23 (Ct ?_)
 refine B9 (Af ?_)
 refine Ah (ZP (Ii i) (ZG h (A1 (v:=Ii (IntKind.i64.wrap ((i:Int)+1))) (v':=Ii ((i+1:Nat):Int)) (Ax fun _=>by kernel_rfl) (wr (by omega))) (ZP (Ii ((i+1:Nat):Int)) (Ct ?_))))
 have hQ24:((i+1)≤N.a.es.length∧(done,(out++[x5]))=Lr nm (n,g) (N.a.es.take (i+1))∧(out++[x5]).length≤2*(i+1))∧(N.a.es.length - (i+1))<(N.a.es.length - i):=⟨⟨by omega,by rw [Qa hx6,← ho];unfold C9;rw [if_neg (by rw [hT];exact Bool.false_ne_true)],by (try simp only [List.length_append,List.length_cons,List.length_nil]);omega⟩,by omega⟩
 refine Bo (fun j=>⟨(i+1),done,out++[x5],v23,j⟩) hQ24 (by kernel_rfl) [1,1,1] (by kernel_rfl) h
 refine Dk (Eh (E8 (Ev (Af (Qt (ZP (.bool done) (ZP (.bool (!done)) (Qn (Zi (!done) (fun hc25=>?_) fun hc25=>?_)))))))))
 have q26:done=false:=by simpa using hc25
 refine Ah (ZP vo (ZP (.string nm) (ZG h (Gla 0 [Ii n,Ii g] 1) (ZP (.agg #[.string nm,Ii n,Ii g]) ?_))))
 refine G0 rfl (fun b=>.slice (some ⟨b,0,none⟩) 1 1) [.string nm,Ii n,Ii g] 107 (fun _=>by kernel_rfl) h ?_;intro k27 w h
 refine Hp (b:=k27) (o:=0) rfl 1 (nm,n,g) (by kernel_rfl) h 1 rfl 0 rfl (Fq 0 (by kernel_rfl)) (by (try simp only [List.length_append,List.length_cons,List.length_nil,List.length_map]);omega) ?_;intro v28 w h
 refine ZP v28 (Qn (Ah (ZP (Pp N.nb) (ZP v28 (ZP (Pp N.nb) (ZP (Pt N.nb 6) ?_))))))
 have h:=(h.pkr [3]).rtOpen hx
 refine I4 rfl (h.slv 6 rfl) 6 [Ii N.a.h.1,Ii N.a.h.2,Ii N.a.kind,Ii N.a.change,.string N.a.s,N.vh,v28,Ii N.a.pins] h 0 rfl (by kernel_rfl) ?_;intro w h
 refine Ct ?_
 have h:=Own.rtClose hx (Rx N v28 (out++[(nm,n,g)])) rfl (h.pkr [0,0,4,1,1])
 refine ZR [] [0] h ?_
 rw [List.take_of_length_le (by omega)] at ho
 have hE:Bj nm (n,g) N.a.es=out++[(nm,n,g)]:=by unfold Bj;rw [← ho];exact if_neg (by simp_all)
 exact ⟨v28,by rw [hE];rfl⟩
 have q29:done=true:=by simpa using hc25
 refine Kn (Ah (ZP (Pp N.nb) (ZP vo (ZP (Pp N.nb) (ZP (Pt N.nb 6) ?_)))))
 have h:=(h.pkr [2]).rtOpen hx
 refine I4 rfl (h.slv 5 rfl) 6 [Ii N.a.h.1,Ii N.a.h.2,Ii N.a.kind,Ii N.a.change,.string N.a.s,N.vh,vo,Ii N.a.pins] h 0 rfl (by kernel_rfl) ?_;intro w h
 refine Ct ?_
 have h:=Own.rtClose hx (Rx N vo out) rfl (h.pkr [0,0,3,1,1])
 refine ZR [] [0] h ?_
 rw [List.take_of_length_le (by omega)] at ho
 have hE:Bj nm (n,g) N.a.es=out:=by unfold Bj;rw [← ho];exact if_pos (by simp_all)
 exact ⟨vo,by rw [hE];rfl⟩
theorem Fu (vl:Value) (L:List RN) (j:Nat) (N:RN) (hx:L[j]?=some N) (k:Nat) (hl:N.a.es.length≤1000) (hk:k<N.a.es.length)  : Ap Tryz.prog 70 #[Pp N.nb,Ii k] [rRL vl L] (fun u L'=>∃ v',L'=[rRL vl (L.set j (⟨N.nb,N.vh,v',⟨N.a.h,N.a.kind,N.a.change,N.a.s,N.a.holes,N.a.es.eraseIdx k,N.a.pins⟩⟩:RN))]):=by
 refine Zo 23 Tryz.func70 fun E w0 w h=>?_
 refine Qs (ZP (.slice none 0 0) (Qm (ZP (.slice none 0 0) (ZP (Pp N.nb) (ZP (Pp N.nb) (ZP (Pt N.nb 6) (ZG h (Gr 6 N.ve 0 rfl (Cg hx 6 (by kernel_rfl))) (ZP (Ii k) (ZG h (Vk (v:=N.ve) (d:=107) (k:=3) (LV:=none) (HV:=(some (Ii k))) 0 k (by kernel_rfl) rfl (bnd rfl) (by first|omega|(simp;omega)) (by first|omega|(simp;omega)) 0 rfl (By hx)) ?_)))))))))
 have h:=h.nilRows 107 3 e3C
 refine Wt rfl 0 k (by kernel_rfl) D4 (fun _=>rfl) (by omega) (by omega) h 0 rfl 1 rfl (By hx) (by (try simp only [List.length_append,List.length_cons,List.length_nil,List.length_take,List.length_drop]);omega) ?_;intro v1 w h
 refine ZP v1 (Qn (Ah (ZP (Pp N.nb) (ZP v1 (ZP (Pp N.nb) (ZP (Pp N.nb) (ZP (Pt N.nb 6) (ZG h (Gr 6 N.ve 1 rfl (Cg hx 6 (by kernel_rfl))) (ZP (Ii k) (ZG h (A1 (v:=Ii (IntKind.i64.wrap ((k:Int)+1))) (v':=Ii ((k+1:Nat):Int)) (Ax fun _=>by kernel_rfl) (wr (by omega))) (ZG h (Vk (v:=N.ve) (d:=107) (k:=3) (LV:=(some (Ii ((k+1:Nat):Int)))) (HV:=none) (k+1) N.a.es.length (by kernel_rfl) (bnd rfl) rfl (by first|omega|(simp;omega)) (by first|omega|(simp;omega)) 1 rfl (By hx)) ?_)))))))))))
 refine Wt rfl (k+1) N.a.es.length (by kernel_rfl) D4 (fun _=>rfl) (by omega) (by omega) h 0 rfl 1 rfl (By hx) (by (try simp only [List.length_append,List.length_cons,List.length_nil,List.length_take,List.length_drop]);omega) ?_;intro v2 w h
 refine ZP (Pp N.nb) (ZP (Pt N.nb 6) ?_)
 have h:=(h.pkr [1]).rtOpen hx
 refine I4 rfl (h.slv 5 rfl) 6 [Ii N.a.h.1,Ii N.a.h.2,Ii N.a.kind,Ii N.a.change,.string N.a.s,N.vh,v2,Ii N.a.pins] h 0 rfl (by kernel_rfl) ?_;intro w h
 refine Ct ?_
 have h:=Own.rtClose hx (Rx N v2 ([]++(N.a.es.take k).drop 0++(N.a.es.take N.a.es.length).drop (k+1))) rfl (h.pkr [0,0,3,1,1])
 refine ZR [] [0] h ?_
 have hE:N.a.es.eraseIdx k=[]++(N.a.es.take k).drop 0++(N.a.es.take N.a.es.length).drop (k+1):=by rw [List.eraseIdx_eq_take_drop_succ];simp
 exact ⟨v2,by rw [hE];rfl⟩
structure Dt (A:List AN) (c:Int):Prop where
  len:A.length≤300
  nod:(A.map (·.h)).Nodup
  ent:∀ M∈A,∀ e∈M.es,∃ K∈A,K.h=e.2
  few:∀ M∈A,M.es.length≤60
  nms:∀ M∈A,(M.es.map (·.1)).Nodup
  rng:∀ M∈A,0≤M.change∧M.change≤c∧0≤M.pins∧M.pins≤c
theorem Dt.mono {A:List AN} {c d:Int} (h:Dt A c) (hc:c≤d):Dt A d:=⟨h.len,h.nod,h.ent,h.few,h.nms,fun M hM=>by have:=h.rng M hM;omega⟩
theorem Dt.hl {L:List RN} {c:Int} (h:Dt (L.map RN.a) c):L.length≤300:=by have:=h.len;simpa using this
theorem Dt.hnod {L:List RN} {c:Int} (h:Dt (L.map RN.a) c):(L.map fun N=>N.a.h).Nodup:=by
  have:=h.nod
  rw [List.map_map] at this
  exact this
theorem Dt.hent {L:List RN} {c:Int} (h:Dt (L.map RN.a) c):∀ M∈L,∀ e∈M.a.es,∃ K∈L,K.a.h=e.2:=fun M hM e he=>by
  obtain ⟨K,hK,e2⟩:=h.ent M.a (List.mem_map.2 ⟨M,hM,rfl⟩) e he
  obtain ⟨K',hK',rfl⟩:=List.mem_map.1 hK
  exact ⟨K',hK',e2⟩
theorem Dt.hfew {L:List RN} {c:Int} (h:Dt (L.map RN.a) c):∀ M∈L,M.a.es.length≤100:=fun M hM=>by have:=h.few M.a (List.mem_map.2 ⟨M,hM,rfl⟩);omega
theorem Dt.at_few {L:List RN} {c:Int} (h:Dt (L.map RN.a) c) {j:Nat} {N:RN} (hx:L[j]?=some N):N.a.es.length≤60:=h.few N.a (List.mem_map.2 ⟨N,List.mem_of_getElem? hx,rfl⟩)
theorem Dt.at_nms {L:List RN} {c:Int} (h:Dt (L.map RN.a) c) {j:Nat} {N:RN} (hx:L[j]?=some N):(N.a.es.map (·.1)).Nodup:=h.nms N.a (List.mem_map.2 ⟨N,List.mem_of_getElem? hx,rfl⟩)
theorem Dt.at_rng {L:List RN} {c:Int} (h:Dt (L.map RN.a) c) {j:Nat} {N:RN} (hx:L[j]?=some N):0≤N.a.change∧N.a.change≤c∧0≤N.a.pins∧N.a.pins≤c:=h.rng N.a (List.mem_map.2 ⟨N,List.mem_of_getElem? hx,rfl⟩)
def Ee (es:List Bk) (nm:ByteArray):Option Hdl:=(es.find? fun e=>decide (e.1=nm)).map (·.2)
theorem F7 {es:List Bk} {nm:ByteArray} (h:∀ e∈es,e.1≠nm):Ee es nm=none:=by
  unfold Ee
  have:es.find? (fun e=>decide (e.1=nm))=none:=by
    rw [List.find?_eq_none]
    intro e he
    simp [h e he]
  rw [this];rfl
theorem Tb {es:List Bk} (hn:(es.map (·.1)).Nodup) {i j:Nat} {e f:Bk} (hi:es[i]?=some e) (hj:es[j]?=some f) (h:e.1=f.1):i=j:=by
  have hp:=List.pairwise_iff_getElem.1 hn
  obtain ⟨hi1,hi2⟩:=List.getElem?_eq_some_iff.1 hi
  obtain ⟨hj1,hj2⟩:=List.getElem?_eq_some_iff.1 hj
  rcases Nat.lt_trichotomy i j with hl|hl|hl
  · exact (hp i j (by simpa using hi1) (by simpa using hj1) hl (by simp only [List.getElem_map,hi2,hj2,h])).elim
  · exact hl
  · exact (hp j i (by simpa using hj1) (by simpa using hi1) hl (by simp only [List.getElem_map,hi2,hj2,h])).elim
theorem Bt {es:List Bk} (hn:(es.map (·.1)).Nodup) {i:Nat} {e:Bk} (he:es[i]?=some e) {nm:ByteArray} (h:e.1=nm):Ee es nm=some e.2:=by
  unfold Ee
  have:es.find? (fun e=>decide (e.1=nm))=some e:=by
    rw [List.find?_eq_some_iff_getElem]
    obtain ⟨hj,q⟩:=List.getElem?_eq_some_iff.1 he
    refine ⟨by simp [h],i,hj,q,fun k hk=>?_⟩
    simp only [Bool.not_eq_true',decide_eq_false_iff_not]
    intro e2
    have:=Tb hn (List.getElem?_eq_getElem (by omega:k<es.length)) he (e2.trans h.symm)
    omega
  rw [this];rfl
theorem Pg {es:List Bk} (hn:(es.map (·.1)).Nodup) {i:Nat} {e:Bk} (he:es[i]?=some e) {nm:ByteArray} (h:e.1=nm):es.eraseIdx i=es.filter fun x=>!decide (x.1=nm):=by
  obtain ⟨hi,q⟩:=List.getElem?_eq_some_iff.1 he
  have e1:es=es.take i++es[i]::es.drop (i+1):=by rw [List.getElem_cons_drop,List.take_append_drop]
  rw [List.eraseIdx_eq_take_drop_succ]
  conv=>rhs;rw [e1]
  rw [List.filter_append,List.filter_cons,if_neg (by rw [q];simp [h])]
  have h1:(es.take i).filter (fun x=>!decide (x.1=nm))=es.take i:=by
    rw [List.filter_eq_self]
    intro x hx
    obtain ⟨j,hj⟩:=List.getElem?_of_mem hx
    rw [List.getElem?_take] at hj
    split at hj
    · rename_i hji
      simp only [Bool.not_eq_true',decide_eq_false_iff_not]
      intro e2
      have:=Tb hn hj he (e2.trans h.symm)
      omega
    · cases hj
  have h2:(es.drop (i+1)).filter (fun x=>!decide (x.1=nm))=es.drop (i+1):=by
    rw [List.filter_eq_self]
    intro x hx
    obtain ⟨j,hj⟩:=List.getElem?_of_mem hx
    rw [List.getElem?_drop] at hj
    simp only [Bool.not_eq_true',decide_eq_false_iff_not]
    intro e2
    have:=Tb hn hj he (e2.trans h.symm)
    omega
  rw [h1,h2]
def Cy (A:List AN) (h:Hdl) (f:AN→AN):List AN:=A.map fun N=>if N.h==h then f N else N
def Ao (A:List AN) (h:Hdl):List AN:=Cy A h fun N=>⟨N.h,N.kind,N.change+1,N.s,N.holes,N.es,N.pins⟩
def Aw (A:List AN) (h:Hdl) (nm:ByteArray) (x:Hdl):List AN:=Cy A h fun N=>⟨N.h,N.kind,N.change,N.s,N.holes,Bj nm x N.es,N.pins⟩
def Al (A:List AN) (h:Hdl) (nm:ByteArray):List AN:=Cy A h fun N=>⟨N.h,N.kind,N.change,N.s,N.holes,N.es.filter fun x=>!decide (x.1=nm),N.pins⟩
def Gv (A:List AN) (h:Hdl) (d:Int):List AN:=Cy A h fun N=>⟨N.h,N.kind,N.change,N.s,N.holes,N.es,N.pins+d⟩
def Eg (A:List AN) (N:AN):Bool:=decide (N.kind=2)||(decide (N.pins>0)||decide (C4 A N>0))
def Gf (A:List AN):List AN:=A.filter (Eg A)
def Ex (A:List AN) (h:Hdl):List AN:=A.filter fun N=>!(N.h==h)
def C3 (A:List AN) (h:Hdl):List AN:=match Bp A h with|some N=>if N.kind=2 then Ex A h else Gf (Ao A h)|none=>A
theorem C8 {L:List RN} (hn:(L.map fun N=>N.a.h).Nodup) {j:Nat} {N:RN} (hx:L[j]?=some N) {h:Hdl} (hh:N.a.h=h) {N':RN} {f:AN→AN} (hf:N'.a=f N.a):(L.set j N').map RN.a=Cy (L.map RN.a) h f:=by
  unfold Cy
  apply List.ext_getElem?
  intro i
  rw [List.map_set,List.getElem?_map,List.getElem?_set]
  by_cases e:j=i
  · subst e
    rw [if_pos rfl,List.getElem?_map,hx]
    have hl:=(List.getElem?_eq_some_iff.1 hx).1
    simp [hl,hh,hf]
  · rw [if_neg e,List.getElem?_map]
    cases hi:L[i]? with
    | none=>rfl
    | some M=>
      simp only [Option.map_some]
      have:M.a.h≠h:=fun e2=>e (Ot hn hx hi (hh.trans e2.symm))
      simp [this]
def Ba (A:List AN) (h:Hdl) (nm:ByteArray):Hdl×Nat:=
  match Bp A h with
  | none=>((0,0),10)
  | some N=>if N.kind=2 then (if Hr nm=0 then (match Ee N.es nm with|some x=>(x,0)|none=>((0,0),5)) else ((0,0),4)) else ((0,0),7)
section
variable {A:List AN} {h:Hdl} {nm:ByteArray} {N:AN}
theorem Adm (h1:Bp A h=none):Ba A h nm=((0,0),10):=by unfold Ba;rw [h1]
theorem Adf (h1:Bp A h=some N) (h2:¬N.kind=2):Ba A h nm=((0,0),7):=by unfold Ba;rw [h1];exact if_neg h2
theorem Ady (h1:Bp A h=some N) (h2:N.kind=2) (h3:¬A0 nm):Ba A h nm=((0,0),4):=by unfold Ba;rw [h1];simp only [if_pos h2];rw [C5 h3];rfl
theorem tL_no (h1:Bp A h=some N) (h2:N.kind=2) (h3:A0 nm) (h4:Ee N.es nm=none):Ba A h nm=((0,0),5):=by unfold Ba;rw [h1];simp only [if_pos h2];rw [Bg h3,h4];rfl
theorem Ado (h1:Bp A h=some N) (h2:N.kind=2) (h3:A0 nm) {x:Hdl} (h4:Ee N.es nm=some x):Ba A h nm=(x,0):=by unfold Ba;rw [h1];simp only [if_pos h2];rw [Bg h3,h4];rfl
end
theorem Uk {L:List RN} {p:RN→Bool}:(L.filter p).Sublist L:=List.filter_sublist
theorem Hh {L:List RN} {k:Nat} {x:RN} {p:RN→Bool} (hx:L[k]?=some x):(L.take (k+1)).filter p=(L.take k).filter p++if p x then [x] else []:=by
  rw [List.take_add_one,hx,List.filter_append]
  cases h:p x<;>simp [h]
theorem Own.rlFilter {w0 w:World} {E:Ent} {M:List Res} {L L':List RN} {vl vo:Value} (h:Own w0 E (Bf true vo 88 1 ptB (L'.map RN.nb)::rRL vl L::M) w) (hs:L'.Sublist L):Own w0 E (rRL vo L'::M) w:=by
  have h1:Own w0 E (rRL vl L::Bf true vo 88 1 ptB (L'.map RN.nb)::M) w:=h.perm (List.Perm.swap _ _ _)
  have h2:=h1.rlOpen.pick1
  have h3:=h2.rnSub hs
  exact Own.rlClose (h3.perm (List.Perm.swap _ _ _))
theorem Pa {L:List RN} {p:AN→Bool}:(L.filter fun N=>p N.a).map RN.a=(L.map RN.a).filter p:=by rw [List.filter_map];rfl
theorem Su {x:Hdl} {n g:Int}:(x==(n,g))=(decide (x.1=n)&&decide (x.2=g)):=by
  obtain ⟨x1,x2⟩:=x
  by_cases c1:x1=n<;>by_cases c2:x2=g<;>simp [c1,c2]
theorem Dt.setN {L:List RN} {c:Int} (hok:Dt (L.map RN.a) c) {j:Nat} {N N':RN} (hx:L[j]?=some N) (h1:N'.a.h=N.a.h) (h2:∀ e∈N'.a.es,∃ K∈L.map RN.a,K.h=e.2) (h3:N'.a.es.length≤60) (h4:(N'.a.es.map (·.1)).Nodup) (h5:0≤N'.a.change∧N'.a.change≤c∧0≤N'.a.pins∧N'.a.pins≤c):Dt ((L.set j N').map RN.a) c:=by
  have hj:=(List.getElem?_eq_some_iff.1 hx).1
  have hmem:∀ M∈(L.set j N').map RN.a,M=N'.a∨M∈L.map RN.a:=fun M hM=>by
    obtain ⟨K,hK,rfl⟩:=List.mem_map.1 hM
    rcases List.mem_or_eq_of_mem_set hK with hK|rfl
    · exact .inr (List.mem_map.2 ⟨K,hK,rfl⟩)
    · exact .inl rfl
  have hhs:((L.set j N').map RN.a).map (·.h)=(L.map RN.a).map (·.h):=by
    rw [List.map_map,List.map_map,List.map_set]
    refine Hz _ _ _ ?_
    rw [List.getElem?_map,hx]
    simp [h1]
  have hex:∀ x:Hdl,(∃ K∈L.map RN.a,K.h=x)→∃ K∈(L.set j N').map RN.a,K.h=x:=fun x ⟨K,hK,e⟩=>by
    have:x∈((L.set j N').map RN.a).map (·.h):=by rw [hhs,← e];exact List.mem_map.2 ⟨K,hK,rfl⟩
    obtain ⟨K',hK',e'⟩:=List.mem_map.1 this
    exact ⟨K',hK',e'⟩
  refine ⟨by have:=hok.len;simpa using this,by rw [hhs];exact hok.nod,fun M hM e he=>?_,fun M hM=>?_,fun M hM=>?_,fun M hM=>?_⟩
  · rcases hmem M hM with rfl|hM
    · exact hex _ (h2 e he)
    · exact hex _ (hok.ent M hM e he)
  · rcases hmem M hM with rfl|hM
    · exact h3
    · exact hok.few M hM
  · rcases hmem M hM with rfl|hM
    · exact h4
    · exact hok.nms M hM
  · rcases hmem M hM with rfl|hM
    · exact h5
    · exact hok.rng M hM
theorem Dt.setC {L:List RN} {c:Int} (hok:Dt (L.map RN.a) c) {j:Nat} {N N':RN} (hx:L[j]?=some N) (h1:N'.a.h=N.a.h) (h2:N'.a.es=N.a.es) (h5:0≤N'.a.change∧N'.a.change≤c∧0≤N'.a.pins∧N'.a.pins≤c):Dt ((L.set j N').map RN.a) c:=by
  have hm:N.a∈L.map RN.a:=List.mem_map.2 ⟨N,List.mem_of_getElem? hx,rfl⟩
  exact hok.setN hx h1 (by rw [h2];exact hok.ent N.a hm) (by rw [h2];exact hok.few N.a hm) (by rw [h2];exact hok.nms N.a hm) h5
section
variable (b:Nat) (mst:Int) (vl vt:Value) (L:List RN) (c:Int) (hc:c≤999999) (hok:Dt (L.map RN.a) c)
include b mst vl vt L c hc hok
theorem Rv (n g:Int) (nm:ByteArray) (hnz:nm.size≤100000):Ap Tryz.prog 22 #[Pp b,Hg n g,.string nm] [Rt b mst vl vt,rRL vl L] (fun u L'=>u=.tuple #[.agg #[Ii (Ba (L.map RN.a) (n,g) nm).1.1,Ii (Ba (L.map RN.a) (n,g) nm).1.2],Ii ((Ba (L.map RN.a) (n,g) nm).2:Nat)]∧L'=[Rt b mst vl vt,rRL vl L]):=by
 have hl:=hok.hl
 have hnod:=hok.hnod
 have hent:=hok.hent
 have hfew:=hok.hfew
 refine Zo 36 Tryz.func22 fun E w0 w h=>?_
 refine Qs (ZN [Ii n,Ii g] 34 h fun k1 w h=>ZN [Ii 0,Ii 0] 34 h fun k2 w h=>ZP (Ii 0) (Qm (ZP (Pp b) (ZG h (Gla 0 [Ii n,Ii g] 1) ?_))))
 refine ZD [2,2] (Hd b mst vl vt L n g (by omega)) h ?_;rintro v_ L_ w (⟨hno8,rfl,rfl⟩|⟨j3,N4,hx5,hh6,hkd7,rfl,rfl⟩|⟨j3,N4,hx5,hh6,hkd7,rfl,rfl⟩) h
 refine ZP (Ii 10) (Qu (ZP (Ii 10) (ZP (.bool false) (Ft (ZP (Ii 10) (ZP (.bool true) (Qg (Qs (ZP (Hg 0 0) (ZP (Ii 10) (ZSs [Ii 0,Ii 0] 2 rfl h fun w h=>ZP (Ii 10) (Qr (Au ?_)))))))))))))
 refine B0 [Hg 0 0,Ii 10] [0,0] h (by kernel_rfl) (Di 0 [Ii 0,Ii 0] (Hg 0 0) 2 rfl (by kernel_rfl) (Dy (by kernel_rfl) Dh)) ?_
 rw [Adm (Fx hno8)]
 exact ⟨rfl,rfl⟩
 refine ZP (Ii 7) (Qu (ZP (Ii 7) (ZP (.bool false) (Ft (ZP (Ii 7) (ZP (.bool true) (Qg (Qs (ZP (Hg 0 0) (ZP (Ii 7) (ZSs [Ii 0,Ii 0] 2 rfl h fun w h=>ZP (Ii 7) (Qr (Au ?_)))))))))))))
 refine B0 [Hg 0 0,Ii 7] [0,0] h (by kernel_rfl) (Di 0 [Ii 0,Ii 0] (Hg 0 0) 2 rfl (by kernel_rfl) (Dy (by kernel_rfl) Dh)) ?_
 rw [Adf (Aj hnod hx5 hh6) hkd7]
 exact ⟨rfl,rfl⟩
 refine ZP (Ii 0) (Qu (ZP (Ii 0) (ZP (.bool true) (Qg (Ah (ZP (.string nm) ?_))))))
 refine ZD [] (Er nm (by omega)) h ?_;rintro v_ L_ w (⟨hnm9,rfl,rfl⟩|⟨hnm9,rfl,rfl⟩) h
 refine ZP (Ii 0) (Qu (ZP (Ii 0) (ZP (.bool false) (Fs (ZP (Pp b) (ZG h (Gla 0 [Ii n,Ii g] 3) (ZC [0,0] (Cx b mst vl vt L (by omega) hnod j3 N4 hx5 n g hh6) h fun w h=>ZP (Pp N4.nb) (Qm (ZP (Pp N4.nb) (ZP (.string nm) ?_))))))))))
 refine ZD [1] (Et vl L j3 N4 hx5 nm (by have:=hok.at_few hx5;omega)) h ?_;rintro v_ L_ w (⟨iq10,eq11,he12,hen13,rfl,rfl⟩|⟨hno14,rfl,rfl⟩) h
 have hfliq10:=(List.getElem?_eq_some_iff.1 he12).1
 refine ZP (Ii iq10) (Qu (ZP (Ii iq10) (ZP (.bool (decide ((iq10:Int)<0))) (Qn (Zd ((iq10:Int)<0) (fun hc15=>?_) fun hc15=>?_)))))
 exfalso;omega
 refine Ks (ZP (Pp N4.nb) (ZP (Pp N4.nb) (ZP (Pt N4.nb 6) (ZG h (Gr 6 N4.ve 0 rfl (Cg hx5 6 (by kernel_rfl))) (ZP (Ii iq10) (ZG h (Dz (k:=3) 107 iq10 rfl (by kernel_rfl) (List.getElem?_eq_some_iff.1 he12).1 0 rfl (By hx5)) (ZP (Pt (Df N4.ve) (B1 N4.ve+iq10*3+1)) (ZG h (Gra (B1 N4.ve+iq10*3+1) [Ii eq11.2.1,Ii eq11.2.2] 0 rfl (rdS (By hx5) D4 he12 1 (by kernel_rfl))) (ZSs [Ii eq11.2.1,Ii eq11.2.2] 2 rfl h fun w h=>ZP (Ii 0) (Qr ?_))))))))))
 refine B0 [Hg eq11.2.1 eq11.2.2,Ii 0] [1,0] h (by kernel_rfl) (Di 0 [Ii eq11.2.1,Ii eq11.2.2] (Hg eq11.2.1 eq11.2.2) 2 rfl (by kernel_rfl) (Dy (by kernel_rfl) Dh)) ?_
 rw [Ado (Aj hnod hx5 hh6) hkd7 hnm9 (Bt (hok.at_nms hx5) he12 hen13)]
 exact ⟨rfl,rfl⟩
 refine ZP (Ii (-1)) (Qu (ZP (Ii (-1)) (ZP (.bool true) (Qg (Qs (ZP (Hg 0 0) (ZSs [Ii 0,Ii 0] 2 rfl h fun w h=>ZP (Ii 5) (Qr (Au ?_)))))))))
 refine B0 [Hg 0 0,Ii 5] [1,0] h (by kernel_rfl) (Di 0 [Ii 0,Ii 0] (Hg 0 0) 2 rfl (by kernel_rfl) (Dy (by kernel_rfl) Dh)) ?_
 rw [tL_no (Aj hnod hx5 hh6) hkd7 hnm9 (F7 hno14)]
 exact ⟨rfl,rfl⟩
 refine ZP (Ii 4) (Qu (ZP (Ii 4) (ZP (.bool true) (Qg (Qs (ZP (Hg 0 0) (ZP (Ii 4) (ZSs [Ii 0,Ii 0] 2 rfl h fun w h=>ZP (Ii 4) (Qr (Au ?_))))))))))
 refine B0 [Hg 0 0,Ii 4] [0,0] h (by kernel_rfl) (Di 0 [Ii 0,Ii 0] (Hg 0 0) 2 rfl (by kernel_rfl) (Dy (by kernel_rfl) Dh)) ?_
 rw [Ady (Aj hnod hx5 hh6) hkd7 hnm9]
 exact ⟨rfl,rfl⟩
theorem Mz:Ap Tryz.prog 80 #[Pp b] [Rt b mst vl vt,rRL vl L] (fun u L'=>∃ v',L'=[Rt b mst v' vt,rRL v' (L.filter (fun N=>Eg (L.map RN.a) N.a))]):=by
 have hl:=hok.hl
 have hnod:=hok.hnod
 have hent:=hok.hent
 have hfew:=hok.hfew
 refine Zo 46 Tryz.func80 fun E w0 w h=>?_
 refine Qs (ZP (.slice none 0 0) (Qu (ZP (Ii 0) (Qn (Ar ?_)))))
 have h:=h.nilRows 88 1 ptB
 refine ZL (X:=Nat×List Nat×Value×(Nat→Value)) [(4,42)] (fun ⟨i,ob,vo,J0⟩=>[(2,vo),(3,Ii i)]) (fun ⟨i,ob,vo,J0⟩=>J0) (fun ⟨i,ob,vo,J0⟩=>[Bf true vo 88 1 ptB ob,Rt b mst vl vt,rRL vl L]) (fun ⟨i,ob,vo,J0⟩=>i≤L.length∧ob=((L.take i).filter (fun N=>Eg (L.map RN.a) N.a)).map RN.nb) (fun ⟨i,ob,vo,J0⟩=>L.length - i) (fun j=>⟨0,[],(.slice none 0 0),j⟩) ⟨by omega,rfl⟩ [0,0,0] h ?_
 rintro ⟨i,ob,vo,J0⟩ w hG h
 obtain ⟨hi0,ho⟩:i≤L.length∧ob=((L.take i).filter (fun N=>Eg (L.map RN.a) N.a)).map RN.nb:=hG
 have hol:ob.length≤1000:=by rw [ho,List.length_map];have:=List.length_filter_le (fun N=>Eg (L.map RN.a) N.a) (L.take i);rw [List.length_take] at this;omega
 refine Qt (ZP (Ii i) (ZP (Pp b) (ZP (Pp b) (ZP (Pt b 1) (ZG h (Gl 1 (vl) 1) (ZG h (D3 88 (by kernel_rfl) 2 rfl Dj) (ZP (.bool (decide ((i:Int)<(L.length:Int)))) (Qn (Zd ((i:Int)<(L.length:Int)) (fun hc1=>?_) fun hc1=>?_)))))))))
 refine Kn (Aa (Ar (Qs (ZP (Pp b) (ZP (Pp b) (ZP (Pt b 1) (ZG h (Gl 1 (vl) 1) (ZP (Ii i) ?_))))))))
 have hi2:i<L.length:=by omega
 obtain ⟨x3,hx4⟩:∃ x,L[i]?=some x:=⟨_,List.getElem?_eq_getElem hi2⟩
 refine ZG h (Dz (k:=1) 88 i rfl (by kernel_rfl) hi2 2 rfl Dj) (ZG h (Gr (B1 vl+i*1) (Pp x3.nb) 2 rfl (Le Dj Gs hx4 (by kernel_rfl))) (ZP (Pp x3.nb) (Qm (ZP (Pp x3.nb) (ZP (Pp x3.nb) (ZP (Pt x3.nb 2) (ZG h (Gr 2 (Ii x3.a.kind) 2 rfl (Cg hx4 2 (by kernel_rfl))) ?_)))))))
 obtain ⟨b5,hb5⟩:=nmB (decide (x3.a.kind=2))
 refine ZB hb5 (ZP (.bool b5) ?_)
 rcases Bool.eq_false_or_eq_true b5 with hc6|hc6
 subst hc6
 have q7:=hb5.symm
 have q7:=dcT q7
 refine Zx (Zx (Zx (Zx (Zx (ZP (.bool true) (ZP (.bool true) (Zx (Zx (Zx (Zx (ZP (.bool true) (Qg (Ah (ZP vo (ZP (Pp x3.nb) ?_)))))))))))))))
 refine G0 rfl (fun b=>.slice (some ⟨b,0,none⟩) 1 1) [Pp x3.nb] 88 (fun _=>by kernel_rfl) h ?_;intro k8 w h
 refine Hp (b:=k8) (o:=0) rfl 1 x3.nb (by kernel_rfl) h 1 rfl 0 rfl (Fq 0 (by kernel_rfl)) (by (try simp only [List.length_append,List.length_cons,List.length_nil,List.length_map]);omega) ?_;intro v9 w h
 refine ZP v9 (Ct ?_)
 refine B9 (Af ?_)
 refine Ah (ZP (Ii i) (ZG h (A1 (v:=Ii (IntKind.i64.wrap ((i:Int)+1))) (v':=Ii ((i+1:Nat):Int)) (Ax fun _=>by kernel_rfl) (wr (by omega))) (ZP (Ii ((i+1:Nat):Int)) (Ct ?_))))
 have hT:Eg (L.map RN.a) x3.a=true:=by unfold Eg;by_cases c1:x3.a.kind=2<;>by_cases c2:x3.a.pins>0<;>by_cases c3:C4 (L.map RN.a) x3.a>0<;>simp [c1,c2,c3]<;>omega
 have hQ10:((i+1)≤L.length∧(ob++[x3.nb])=((L.take (i+1)).filter (fun N=>Eg (L.map RN.a) N.a)).map RN.nb)∧(L.length - (i+1))<(L.length - i):=⟨⟨by omega,by rw [Hh hx4,hT,ho];simp⟩,by omega⟩
 refine Bo (fun j=>⟨(i+1),ob++[x3.nb],v9,j⟩) hQ10 (by kernel_rfl) [1,1,1] (by kernel_rfl) h
 subst hc6
 have q11:=hb5.symm
 have q11:=dcF q11
 refine ZP (Pp x3.nb) (ZP (Pp x3.nb) (ZP (Pt x3.nb 7) (ZG h (Gr 7 (Ii x3.a.pins) 2 rfl (Cg hx4 7 (by kernel_rfl))) ?_)))
 obtain ⟨b12,hb12⟩:=nmB (decide (x3.a.pins>0))
 refine ZB hb12 (ZP (.bool b12) (ZP (.bool b12) ?_))
 rcases Bool.eq_false_or_eq_true b12 with hc13|hc13
 subst hc13
 have q14:=hb12.symm
 have q14:=dcT q14
 refine Zx (Zx (Zx (Zx (ZP (.bool true) (Qg (Ah (ZP vo (ZP (Pp x3.nb) ?_))))))))
 refine G0 rfl (fun b=>.slice (some ⟨b,0,none⟩) 1 1) [Pp x3.nb] 88 (fun _=>by kernel_rfl) h ?_;intro k15 w h
 refine Hp (b:=k15) (o:=0) rfl 1 x3.nb (by kernel_rfl) h 1 rfl 0 rfl (Fq 0 (by kernel_rfl)) (by (try simp only [List.length_append,List.length_cons,List.length_nil,List.length_map]);omega) ?_;intro v16 w h
 refine ZP v16 (Ct ?_)
 refine B9 (Af ?_)
 refine Ah (ZP (Ii i) (ZG h (A1 (v:=Ii (IntKind.i64.wrap ((i:Int)+1))) (v':=Ii ((i+1:Nat):Int)) (Ax fun _=>by kernel_rfl) (wr (by omega))) (ZP (Ii ((i+1:Nat):Int)) (Ct ?_))))
 have hT:Eg (L.map RN.a) x3.a=true:=by unfold Eg;by_cases c1:x3.a.kind=2<;>by_cases c2:x3.a.pins>0<;>by_cases c3:C4 (L.map RN.a) x3.a>0<;>simp [c1,c2,c3]<;>omega
 have hQ17:((i+1)≤L.length∧(ob++[x3.nb])=((L.take (i+1)).filter (fun N=>Eg (L.map RN.a) N.a)).map RN.nb)∧(L.length - (i+1))<(L.length - i):=⟨⟨by omega,by rw [Hh hx4,hT,ho];simp⟩,by omega⟩
 refine Bo (fun j=>⟨(i+1),ob++[x3.nb],v16,j⟩) hQ17 (by kernel_rfl) [1,1,1] (by kernel_rfl) h
 subst hc13
 have q18:=hb12.symm
 have q18:=dcF q18
 refine ZP (Pp b) (ZP (Pp x3.nb) (ZC [1,1] (M9 b mst vl vt L (by omega) hnod hent hfew i x3 hx4) h fun w h=>?_))
 obtain ⟨b19,hb19⟩:=nmB (decide (C4 (L.map RN.a) x3.a>0))
 refine ZB hb19 (ZP (.bool b19) (Qn (Zi (b19) (fun hc20=>?_) fun hc20=>?_)))
 have q21:=hb19.symm.trans hc20
 have q21:=dcT q21
 refine Ah (ZP vo (ZP (Pp x3.nb) ?_))
 refine G0 rfl (fun b=>.slice (some ⟨b,0,none⟩) 1 1) [Pp x3.nb] 88 (fun _=>by kernel_rfl) h ?_;intro k22 w h
 refine Hp (b:=k22) (o:=0) rfl 1 x3.nb (by kernel_rfl) h 3 rfl 0 rfl (Fq 0 (by kernel_rfl)) (by (try simp only [List.length_append,List.length_cons,List.length_nil,List.length_map]);omega) ?_;intro v23 w h
 refine ZP v23 (Ct ?_)
 refine B9 (Af ?_)
 refine Ah (ZP (Ii i) (ZG h (A1 (v:=Ii (IntKind.i64.wrap ((i:Int)+1))) (v':=Ii ((i+1:Nat):Int)) (Ax fun _=>by kernel_rfl) (wr (by omega))) (ZP (Ii ((i+1:Nat):Int)) (Ct ?_))))
 have hT:Eg (L.map RN.a) x3.a=true:=by unfold Eg;by_cases c1:x3.a.kind=2<;>by_cases c2:x3.a.pins>0<;>by_cases c3:C4 (L.map RN.a) x3.a>0<;>simp [c1,c2,c3]<;>omega
 have hQ24:((i+1)≤L.length∧(ob++[x3.nb])=((L.take (i+1)).filter (fun N=>Eg (L.map RN.a) N.a)).map RN.nb)∧(L.length - (i+1))<(L.length - i):=⟨⟨by omega,by rw [Hh hx4,hT,ho];simp⟩,by omega⟩
 refine Bo (fun j=>⟨(i+1),ob++[x3.nb],v23,j⟩) hQ24 (by kernel_rfl) [3,1,1] (by kernel_rfl) h
 have q25:=hb19.symm.trans hc20
 have q25:=dcF q25
 refine Bz ?_
 refine B9 (Af ?_)
 refine Ah (ZP (Ii i) (ZG h (A1 (v:=Ii (IntKind.i64.wrap ((i:Int)+1))) (v':=Ii ((i+1:Nat):Int)) (Ax fun _=>by kernel_rfl) (wr (by omega))) (ZP (Ii ((i+1:Nat):Int)) (Ct ?_))))
 have hT:Eg (L.map RN.a) x3.a=false:=by unfold Eg;by_cases c1:x3.a.kind=2<;>by_cases c2:x3.a.pins>0<;>by_cases c3:C4 (L.map RN.a) x3.a>0<;>simp [c1,c2,c3]<;>omega
 have hQ26:((i+1)≤L.length∧ob=((L.take (i+1)).filter (fun N=>Eg (L.map RN.a) N.a)).map RN.nb)∧(L.length - (i+1))<(L.length - i):=⟨⟨by omega,by rw [Hh hx4,hT,ho];simp⟩,by omega⟩
 refine Bo (fun j=>⟨(i+1),ob,vo,j⟩) hQ26 (by kernel_rfl) [2,0,0] (by kernel_rfl) h
 refine Dk (Eh (E8 (Ev (Af (Ah (ZP (Pp b) (ZP vo (ZP (Pp b) (ZP (Pt b 1) ?_)))))))))
 refine I4 rfl (h.slv 0 rfl) 1 [Ii mst,vo,vt] h 1 rfl (by kernel_rfl) ?_;intro w h
 refine Ct ?_
 have h:=h.pkr [0,1]
 rw [List.take_of_length_le (by omega)] at ho
 subst ho
 have h:=Own.rlFilter (L':=L.filter (fun N=>Eg (L.map RN.a) N.a)) h Uk
 exact ZR [] [1,0] h ⟨_,rfl⟩
theorem Vl (n g:Int):Ap Tryz.prog 93 #[Pp b,Hg n g] [Rt b mst vl vt,rRL vl L] (fun u L'=>∃ v',L'=[Rt b mst v' vt,rRL v' (L.filter (fun N=>!(N.a.h==(n,g))))]):=by
 have hl:=hok.hl
 have hnod:=hok.hnod
 have hent:=hok.hent
 have hfew:=hok.hfew
 refine Zo 39 Tryz.func93 fun E w0 w h=>?_
 refine Qs (ZN [Ii n,Ii g] 34 h fun k1 w h=>Qm (ZP (.slice none 0 0) (Qu (ZP (Ii 0) (Qn (Ar ?_))))))
 have h:=h.nilRows 88 1 ptB
 refine ZL (X:=Nat×List Nat×Value×(Nat→Value)) [(6,36)] (fun ⟨i,ob,vo,J0⟩=>[(4,vo),(5,Ii i)]) (fun ⟨i,ob,vo,J0⟩=>J0) (fun ⟨i,ob,vo,J0⟩=>[Bf true vo 88 1 ptB ob,Rh k1 n g,Rt b mst vl vt,rRL vl L]) (fun ⟨i,ob,vo,J0⟩=>i≤L.length∧ob=((L.take i).filter (fun N=>!(N.a.h==(n,g)))).map RN.nb) (fun ⟨i,ob,vo,J0⟩=>L.length - i) (fun j=>⟨0,[],(.slice none 0 0),j⟩) ⟨by omega,rfl⟩ [0,0,0,0] h ?_
 rintro ⟨i,ob,vo,J0⟩ w hG h
 obtain ⟨hi0,ho⟩:i≤L.length∧ob=((L.take i).filter (fun N=>!(N.a.h==(n,g)))).map RN.nb:=hG
 have hol:ob.length≤1000:=by rw [ho,List.length_map];have:=List.length_filter_le (fun N=>!(N.a.h==(n,g))) (L.take i);rw [List.length_take] at this;omega
 refine Qt (ZP (Ii i) (ZP (Pp b) (ZP (Pp b) (ZP (Pt b 1) (ZG h (Gl 1 (vl) 2) (ZG h (D3 88 (by kernel_rfl) 3 rfl Dj) (ZP (.bool (decide ((i:Int)<(L.length:Int)))) (Qn (Zd ((i:Int)<(L.length:Int)) (fun hc2=>?_) fun hc2=>?_)))))))))
 refine Kn (Aa (Ar (Aa (Ds 12 [1,1,1] h fun w h=>Dp 0 1040 (Pp b) [1,1,1] h (Dp 1 1041 (Pp b) [1,1,1] h (Dp 2 1043 (Pt b 1) [1,1,1] h (Dq 3 1047 [1,1,1] rfl h (Gl 1 (vl) 1) (Dp 4 1039 (Ii i) [1,1,1] h ?_))))))))
 have hi3:i<L.length:=by omega
 obtain ⟨x4,hx5⟩:∃ x,L[i]?=some x:=⟨_,List.getElem?_eq_getElem hi3⟩
 refine Dq (v:=Pt (Df vl) (B1 vl+i*1)) 5 1055 [1,1,1] rfl h (Dz (k:=1) 88 i rfl (by kernel_rfl) hi3 2 rfl Dj) (Dq 6 1087 [1,1,1] rfl h (Gr (B1 vl+i*1) (Pp x4.nb) 2 rfl (Le Dj Gs hx5 (by kernel_rfl))) (Dp 7 1151 (Pp x4.nb) [1,1,1] h (Dp 8 1279 (Pp x4.nb) [1,1,1] h (Dq 9 1535 [1,1,1] rfl h (Gra 0 [Ii x4.a.h.1,Ii x4.a.h.2] 2 rfl (Cg hx5 0 (by kernel_rfl))) (Dq 10 1023 [1,1,1] rfl h (Gla 0 [Ii n,Ii g] 0) (Dq (v:=.bool (!((decide (x4.a.h.1=n))&&(decide (x4.a.h.2=g))))) 11 2047 [1,1,1] rfl h (Ew (n1:=x4.a.h.1) (g1:=x4.a.h.2) (n2:=n) (g2:=g) (by kernel_rfl)) (Dd (Af (Zi (!((decide (x4.a.h.1=n))&&(decide (x4.a.h.2=g)))) (fun hc6=>?_) fun hc6=>?_)))))))))
 have q7:=nT hc6
 have q8:=ndA q7
 refine Ah (ZP vo (ZP (Pp b) (ZP (Pp b) (ZP (Pt b 1) (ZG h (Gl 1 (vl) 2) (ZP (Ii i) (ZG h (Dz (k:=1) 88 i rfl (by kernel_rfl) hi3 3 rfl Dj) (ZG h (Gr (B1 vl+i*1) (Pp x4.nb) 3 rfl (Le Dj Gs hx5 (by kernel_rfl))) ?_))))))))
 refine G0 rfl (fun b=>.slice (some ⟨b,0,none⟩) 1 1) [Pp x4.nb] 88 (fun _=>by kernel_rfl) h ?_;intro k9 w h
 refine Hp (b:=k9) (o:=0) rfl 1 x4.nb (by kernel_rfl) h 1 rfl 0 rfl (Fq 0 (by kernel_rfl)) (by (try simp only [List.length_append,List.length_cons,List.length_nil,List.length_map]);omega) ?_;intro v10 w h
 refine ZP v10 (Ct ?_)
 refine B9 (Af ?_)
 refine Ah (ZP (Ii i) (ZG h (A1 (v:=Ii (IntKind.i64.wrap ((i:Int)+1))) (v':=Ii ((i+1:Nat):Int)) (Ax fun _=>by kernel_rfl) (wr (by omega))) (ZP (Ii ((i+1:Nat):Int)) (Ct ?_))))
 have hT:(!(x4.a.h==(n,g)))=true:=by rw [Su];by_cases c1:x4.a.h.1=n<;>by_cases c2:x4.a.h.2=g<;>simp [c1,c2]<;>omega
 have hQ11:((i+1)≤L.length∧(ob++[x4.nb])=((L.take (i+1)).filter (fun N=>!(N.a.h==(n,g)))).map RN.nb)∧(L.length - (i+1))<(L.length - i):=⟨⟨by omega,by rw [Hh hx5,hT,ho];simp⟩,by omega⟩
 refine Bo (fun j=>⟨(i+1),ob++[x4.nb],v10,j⟩) hQ11 (by kernel_rfl) [1,1,1,1] (by kernel_rfl) h
 have q12:=nF hc6
 have q13:=aL q12
 have q14:=aR q12
 have q13:=dcT q13
 have q14:=dcT q14
 refine Bz ?_
 refine B9 (Af ?_)
 refine Ah (ZP (Ii i) (ZG h (A1 (v:=Ii (IntKind.i64.wrap ((i:Int)+1))) (v':=Ii ((i+1:Nat):Int)) (Ax fun _=>by kernel_rfl) (wr (by omega))) (ZP (Ii ((i+1:Nat):Int)) (Ct ?_))))
 have hT:(!(x4.a.h==(n,g)))=false:=by rw [Su];by_cases c1:x4.a.h.1=n<;>by_cases c2:x4.a.h.2=g<;>simp [c1,c2]<;>omega
 have hQ15:((i+1)≤L.length∧ob=((L.take (i+1)).filter (fun N=>!(N.a.h==(n,g)))).map RN.nb)∧(L.length - (i+1))<(L.length - i):=⟨⟨by omega,by rw [Hh hx5,hT,ho];simp⟩,by omega⟩
 refine Bo (fun j=>⟨(i+1),ob,vo,j⟩) hQ15 (by kernel_rfl) [0,0,0,0] (by kernel_rfl) h
 refine Dk (Eh (E8 (Ev (Af (Ah (ZP (Pp b) (ZP vo (ZP (Pp b) (ZP (Pt b 1) ?_)))))))))
 refine I4 rfl (h.slv 0 rfl) 1 [Ii mst,vo,vt] h 2 rfl (by kernel_rfl) ?_;intro w h
 refine Ct ?_
 have h:=h.pkr [0,2]
 rw [List.take_of_length_le (by omega)] at ho
 subst ho
 have h:=Own.rlFilter (L':=L.filter (fun N=>!(N.a.h==(n,g)))) h Uk
 exact ZR [] [2,0] h ⟨_,rfl⟩
end
def C7 (h:Hdl) (kind:Int):AN:=⟨h,kind,0,⟨#[]⟩,[],[],0⟩
def Ey (A:List AN) (k:Nat):Bool:=A.any fun N=>decide (N.h.1=(k:Int))
def H1 (most:Nat) (A:List AN):Option Nat:=(List.range most).find? fun k=>!Ey A k
theorem Z2 {most:Nat} {A:List AN} {k:Nat} (hk:k<most) (hu:Ey A k=false) (hno:∀ q,q<k→Ey A q=true):H1 most A=some k:=by
  unfold H1
  rw [List.find?_eq_some_iff_getElem]
  refine ⟨by simp [hu],k,by simpa using hk,by simp,fun q hq=>?_⟩
  simp [hno q hq]
theorem Aa6 {most:Nat} {A:List AN} (hno:∀ q,q<most→Ey A q=true):H1 most A=none:=by
  unfold H1
  rw [List.find?_eq_none]
  intro k hk
  simp [hno k (List.mem_range.1 hk)]
def Av (ts:List Int) (k:Nat):Int:=ts.getD k 0
def B2 (most:Nat) (A:List AN) (h:Hdl) (nm:ByteArray) (kind:Int):Option Nat×Nat:=
  match Bp A h with
  | none=>(none,10)
  | some D=>if D.kind=2 then (if Hr nm=0 then (if kind=1∨kind=2 then (match Ee D.es nm with
      | some _=>(none,6)
      | none=>if 60≤D.es.length then (none,9) else match H1 most A with|none=>(none,9)|some k=>(some k,0)) else (none,3)) else (none,4)) else (none,7)
section
variable {most:Nat} {A:List AN} {h:Hdl} {nm:ByteArray} {kind:Int} {D:AN}
theorem W0 (h1:Bp A h=none):B2 most A h nm kind=(none,10):=by unfold B2;rw [h1]
theorem Xe (h1:Bp A h=some D) (h2:¬D.kind=2):B2 most A h nm kind=(none,7):=by unfold B2;rw [h1];exact if_neg h2
theorem Xc (h1:Bp A h=some D) (h2:D.kind=2) (h3:¬A0 nm):B2 most A h nm kind=(none,4):=by unfold B2;rw [h1];simp only [if_pos h2];rw [C5 h3];rfl
theorem Xn (h1:Bp A h=some D) (h2:D.kind=2) (h3:A0 nm) (h4:¬(kind=1∨kind=2)):B2 most A h nm kind=(none,3):=by unfold B2;rw [h1];simp only [if_pos h2];rw [Bg h3];simp only [if_neg h4,if_true]
theorem Ae6 (h1:Bp A h=some D) (h2:D.kind=2) (h3:A0 nm) (h4:kind=1∨kind=2) {x:Hdl} (h5:Ee D.es nm=some x):B2 most A h nm kind=(none,6):=by unfold B2;rw [h1];simp only [if_pos h2];rw [Bg h3,h5];simp only [if_pos h4,if_true]
theorem Xm (h1:Bp A h=some D) (h2:D.kind=2) (h3:A0 nm) (h4:kind=1∨kind=2) (h5:Ee D.es nm=none) (h6:60≤D.es.length):B2 most A h nm kind=(none,9):=by unfold B2;rw [h1];simp only [if_pos h2];rw [Bg h3,h5];simp only [if_pos h4,if_true,if_pos h6]
theorem Abs (h1:Bp A h=some D) (h2:D.kind=2) (h3:A0 nm) (h4:kind=1∨kind=2) (h5:Ee D.es nm=none) (h6:¬60≤D.es.length) (h7:H1 most A=none):B2 most A h nm kind=(none,9):=by unfold B2;rw [h1];simp only [if_pos h2];rw [Bg h3,h5,h7];simp only [if_pos h4,if_true,if_neg h6]
theorem Z8 (h1:Bp A h=some D) (h2:D.kind=2) (h3:A0 nm) (h4:kind=1∨kind=2) (h5:Ee D.es nm=none) (h6:¬60≤D.es.length) {k:Nat} (h7:H1 most A=some k):B2 most A h nm kind=(some k,0):=by unfold B2;rw [h1];simp only [if_pos h2];rw [Bg h3,h5,h7];simp only [if_pos h4,if_true,if_neg h6]
end
def F5 (A:List AN) (ts:List Int) (h:Hdl) (nm:ByteArray) (kind:Int) (k:Nat):List AN:=Ao (Aw (A++[C7 ((k:Int),Av ts k) kind]) h nm ((k:Int),Av ts k)) h
def C0 (A:List AN) (x d:Hdl) (nm:ByteArray):Nat:=
  match Bp A x with
  | none=>10
  | some X=>match Bp A d with
    | none=>10
    | some D=>if D.kind=2 then (if Hr nm=0 then (if X.kind=2 then 8 else match Ee D.es nm with
        | some _=>6
        | none=>if 60≤D.es.length∨8≤C4 A X then 9 else 0) else 4) else 7
section
variable {A:List AN} {x d:Hdl} {nm:ByteArray} {X D:AN}
theorem tK_x (h1:Bp A x=none):C0 A x d nm=10:=by unfold C0;rw [h1]
theorem tK_d (h0:Bp A x=some X) (h1:Bp A d=none):C0 A x d nm=10:=by unfold C0;rw [h0];simp only;rw [h1]
theorem Wy (h0:Bp A x=some X) (h1:Bp A d=some D) (h2:¬D.kind=2):C0 A x d nm=7:=by unfold C0;rw [h0];simp only;rw [h1];exact if_neg h2
theorem Wj (h0:Bp A x=some X) (h1:Bp A d=some D) (h2:D.kind=2) (h3:¬A0 nm):C0 A x d nm=4:=by unfold C0;rw [h0];simp only;rw [h1];simp only [if_pos h2];rw [C5 h3];rfl
theorem Zw (h0:Bp A x=some X) (h1:Bp A d=some D) (h2:D.kind=2) (h3:A0 nm) (h4:X.kind=2):C0 A x d nm=8:=by unfold C0;rw [h0];simp only;rw [h1];simp only [if_pos h2];rw [Bg h3];simp only [if_pos h4,if_true]
theorem Ae8 (h0:Bp A x=some X) (h1:Bp A d=some D) (h2:D.kind=2) (h3:A0 nm) (h4:¬X.kind=2) {y:Hdl} (h5:Ee D.es nm=some y):C0 A x d nm=6:=by unfold C0;rw [h0];simp only;rw [h1];simp only [if_pos h2];rw [Bg h3,h5];simp only [if_neg h4,if_true]
theorem Nm (h0:Bp A x=some X) (h1:Bp A d=some D) (h2:D.kind=2) (h3:A0 nm) (h4:¬X.kind=2) (h5:Ee D.es nm=none) (h6:60≤D.es.length∨8≤C4 A X):C0 A x d nm=9:=by unfold C0;rw [h0];simp only;rw [h1];simp only [if_pos h2];rw [Bg h3,h5];simp only [if_neg h4,if_true,if_pos h6]
theorem Aey (h0:Bp A x=some X) (h1:Bp A d=some D) (h2:D.kind=2) (h3:A0 nm) (h4:¬X.kind=2) (h5:Ee D.es nm=none) (h6:¬(60≤D.es.length∨8≤C4 A X)):C0 A x d nm=0:=by unfold C0;rw [h0];simp only;rw [h1];simp only [if_pos h2];rw [Bg h3,h5];simp only [if_neg h4,if_true,if_neg h6]
end
def K8 (A:List AN) (x d:Hdl) (nm:ByteArray):List AN:=Ao (Ao (Aw A d nm x) d) x
def Cf (A:List AN) (d:Hdl) (nm:ByteArray):Nat:=
  if (Ba A d nm).2=0 then (match Bp A (Ba A d nm).1 with|some N=>if 0<N.es.length then 11 else 0|none=>0) else (Ba A d nm).2
def Dx (A:List AN) (d:Hdl) (nm:ByteArray):List AN:=C3 (Ao (Al A d nm) d) (Ba A d nm).1
def Ei (A:List AN) (h:Hdl):Nat:=match Bp A h with|none=>10|some N=>if N.kind=1 then 0 else 8
theorem Wz {A:List AN} {h:Hdl} (h1:Bp A h=none):Ei A h=10:=by unfold Ei;rw [h1]
theorem Aa1 {A:List AN} {h:Hdl} {N:AN} (h1:Bp A h=some N) (h2:¬N.kind=1):Ei A h=8:=by unfold Ei;rw [h1];exact if_neg h2
theorem Aex {A:List AN} {h:Hdl} {N:AN} (h1:Bp A h=some N) (h2:N.kind=1):Ei A h=0:=by unfold Ei;rw [h1];exact if_pos h2
def Ch (A:List AN) (h:Hdl):Nat:=match Bp A h with|none=>10|some N=>if N.kind=1 then (if N.pins=0 then 5 else 0) else 8
theorem Vu {L:List RN} {j:Nat} {N K X:RN} (hx:L[j]?=some N) (hK:K∈L) (hne:K≠N):K∈L.set j X:=by
  obtain ⟨i,hi⟩:=List.getElem?_of_mem hK
  refine List.mem_of_getElem? (i:=i) ?_
  rw [List.getElem?_set_ne (fun e=>by subst e;rw [hx] at hi;exact hne (Option.some.inj hi).symm)]
  exact hi
theorem Lh (b:Nat) (mst:Int) (vl vt:Value) (L:List RN) (c:Int) (hc:c≤990000) (hok:Dt (L.map RN.a) c) (j:Nat) (N:RN) (hx:L[j]?=some N) (n g:Int) (hh:N.a.h=(n,g))  : Ap Tryz.prog 71 #[Pp b,Hg n g] [Rt b mst vl vt,rRL vl L] (fun u L'=>∃ v' L2,L2.map RN.a=C3 (L.map RN.a) (n,g)∧(∀ K∈L,K.a.kind=2→K.a.h≠(n,g)→K∈L2)∧L'=[Rt b mst v' vt,rRL v' L2]):=by
 have hl:=hok.hl
 have hnod:=hok.hnod
 have hent:=hok.hent
 have hfew:=hok.hfew
 have hrg:=hok.at_rng hx
 refine Zo 23 Tryz.func71 fun E w0 w h=>?_
 refine Qs (ZN [Ii n,Ii g] 34 h fun k1 w h=>Qm (ZP (Pp b) (ZG h (Gla 0 [Ii n,Ii g] 0) (ZC [1,1] (Cx b mst vl vt L (by omega) hnod j N hx n g hh) h fun w h=>ZP (Pp N.nb) (Qu (ZP (Pp N.nb) (ZP (Pp N.nb) (ZP (Pt N.nb 2) (ZG h (Gr 2 (Ii N.a.kind) 1 rfl (Cg hx 2 (by kernel_rfl))) (ZP (.bool (decide (N.a.kind=2))) (Qn (Zd (N.a.kind=2) (fun hc2=>?_) fun hc2=>?_))))))))))))
 refine Qs (ZP (Pp b) (ZG h (Gla 0 [Ii n,Ii g] 2) ?_))
 refine ZD [0,0] (Vl b mst vl vt L c (by omega) hok n g) h ?_;rintro u4 L_ w ⟨v3,rfl⟩ h
 refine Qr (Au (ZR [] [0,0] h ?_))
 refine ⟨_,_,?_,fun K hK _ hne=>List.mem_filter.2 ⟨hK,by simp [hne]⟩,rfl⟩
 rw [Pa (p:=fun N=>!(N.h==(n,g)))]
 unfold C3
 rw [Aj hnod hx hh]
 simp only [if_pos (show N.a.kind=2 by omega)]
 rfl
 refine Ks (ZP (Pp N.nb) (ZP (Pp N.nb) (ZP (Pt N.nb 3) (ZG h (Gr 3 (Ii N.a.change) 1 rfl (Cg hx 3 (by kernel_rfl))) (ZG h (Gw (N.a.change+1)) (ZP (Pp N.nb) (ZP (Pt N.nb 3) ?_)))))))
 refine Fa rfl (b:=N.nb) 3 [Ii (N.a.change+1)] h 1 rfl (by kernel_rfl) (Li hx 3 [Ii (N.a.change+1)] (Rw N N.ve (N.a.change+1) N.a.es) (Nat.le_of_ble_eq_true (by kernel_rfl)) (by kernel_rfl) rfl rfl rfl rfl rfl) ?_;intro w h
 have hx5:=Ce (Rw N N.ve (N.a.change+1) N.a.es) hx
 refine Qn (Ah (ZP (Pp b) ?_))
 refine ZD [0,0] (Mz b mst vl vt (L.set j (Rw N N.ve (N.a.change+1) N.a.es)) (c+1) (by omega) ((hok.mono (d:=c+1) (by omega)).setC (N':=(Rw N N.ve (N.a.change+1) N.a.es)) hx rfl rfl (by have:=hok.at_rng hx;exact ⟨by show 0≤N.a.change+1;omega,by show N.a.change+1≤c+1;omega,by show 0≤N.a.pins;omega,by show N.a.pins≤c+1;omega⟩))) h ?_;rintro u7 L_ w ⟨v6,rfl⟩ h
 refine Ct (ZR [] [0,0] h ?_)
 refine ⟨_,_,?_,fun K hK hk hne=>List.mem_filter.2 ⟨Vu hx hK (fun e=>hne (by rw [e];exact hh)),by unfold Eg;simp [hk]⟩,rfl⟩
 have hS:(L.set j (Rw N N.ve (N.a.change+1) N.a.es)).map RN.a=Ao (L.map RN.a) (n,g):=C8 hnod hx hh rfl
 rw [Pa (p:=Eg ((L.set j (Rw N N.ve (N.a.change+1) N.a.es)).map RN.a)),hS]
 unfold C3
 rw [Aj hnod hx hh]
 simp only [if_neg (show ¬N.a.kind=2 by omega)]
 rfl
theorem Own.rlAdd {w0 w:World} {E:Ent} {M:List Res} {L:List RN} {v:Value} (N':RN) (h:Own w0 E (F0 N'::rnH N'::rnE N'::I2 L::Bf true v 88 1 ptB (L.map RN.nb++[N'.nb])::M) w):Own w0 E (rRL v (L++[N'])::M) w:=by
  have h1:=h.rnAdd N'
  have e:L.map RN.nb++[N'.nb]=(L++[N']).map RN.nb:=by rw [List.map_append];rfl
  rw [e] at h1
  exact Own.rlClose (h1.perm (List.Perm.swap _ _ _))
theorem Kp {L:List RN} (hn:(L.map fun N=>N.a.h).Nodup) {j:Nat} {N N':RN} (hx:L[j]?=some N) (h:N'.a.h=N.a.h):((L.set j N').map fun N=>N.a.h).Nodup:=by
  rw [List.map_set,h,Hz _ j N.a.h (by rw [List.getElem?_map,hx];rfl)];exact hn
theorem Add {L:List RN} (hn:(L.map fun N=>N.a.h).Nodup) {k:Nat} (hu:Ey (L.map RN.a) k=false) {N':RN} (h:N'.a.h.1=(k:Int)):((L++[N']).map fun N=>N.a.h).Nodup:=by
  rw [List.map_append]
  refine List.nodup_append.2 ⟨hn,by simp,fun a ha b hb e=>?_⟩
  obtain ⟨M,hM,rfl⟩:=List.mem_map.1 ha
  simp only [List.map_cons,List.map_nil,List.mem_singleton] at hb
  unfold Ey at hu
  rw [List.any_eq_false] at hu
  exact hu M.a (List.mem_map.2 ⟨M,hM,rfl⟩) (decide_eq_true (by rw [e,hb];exact h))
theorem Qo {L:List RN} {i:Nat} {x:RN} (k:Nat) (hx:L[i]?=some x):Ey ((L.take (i+1)).map RN.a) k=(Ey ((L.take i).map RN.a) k||decide (x.a.h.1=(k:Int))):=by
  unfold Ey
  rw [List.take_add_one,hx,List.map_append,List.any_append];simp
theorem In {ts:List Int} {k:Nat} {x:Int} (hx:ts[k]?=some x):Av ts k=x:=by unfold Av;rw [List.getD_eq_getElem?_getD,hx];rfl
theorem Mi (b most:Nat) (vl vt:Value) (ts:List Int) (L:List RN) (c:Int) (hc:c≤900000) (hok:Dt (L.map RN.a) c) (hts:ts.length=most) (htr:∀ x∈ts,0≤x∧x≤1000000) (hm:most≤300) (n g:Int) (nm:ByteArray) (kind:Int) (hnz:nm.size≤100000)  : Ap Tryz.prog 32 #[Pp b,Hg n g,.string nm,Ii kind] [Rt b most vl vt,Bf true vt 3 1 inC ts,rRL vl L] (fun u L'=>(∃ e:Nat,B2 most (L.map RN.a) (n,g) nm kind=(none,e)∧u=.tuple #[Hg 0 0,Ii e]∧L'=[Rt b most vl vt,Bf true vt 3 1 inC ts,rRL vl L])∨(∃ (kq:Nat) (v':Value) (L2:List RN),B2 most (L.map RN.a) (n,g) nm kind=(some kq,0)∧L2.map RN.a=F5 (L.map RN.a) ts (n,g) nm kind kq∧u=.tuple #[Hg kq (Av ts kq),Ii 0]∧L'=[Rt b most v' vt,Bf true vt 3 1 inC (ts.set kq (Av ts kq+1)),rRL v' L2])):=by
 have hl:=hok.hl
 have hnod:=hok.hnod
 have hent:=hok.hent
 have hfew:=hok.hfew
 refine Zo 122 Tryz.func32 fun E w0 w h=>?_
 refine Qs (ZN [Ii n,Ii g] 34 h fun k1 w h=>ZN [Ii 0,Ii 0] 34 h fun k2 w h=>ZP (Ii 0) (Qm (ZP (Pp b) (ZG h (Gla 0 [Ii n,Ii g] 1) ?_))))
 refine ZD [2,3] (Hd b (most:Int) vl vt L n g (by omega)) h ?_;rintro v_ L_ w (⟨hno8,rfl,rfl⟩|⟨j3,N4,hx5,hh6,hkd7,rfl,rfl⟩|⟨j3,N4,hx5,hh6,hkd7,rfl,rfl⟩) h
 refine ZP (Ii 10) (Qu (ZP (Ii 10) (ZP (.bool false) (Ft (ZP (Ii 10) (ZP (.bool true) (Qg (Qs (ZP (Hg 0 0) (ZP (Ii 10) (ZSs [Ii 0,Ii 0] 2 rfl h fun w h=>ZP (Ii 10) (Qr (Au ?_)))))))))))))
 refine B0 [Hg 0 0,Ii 10] [0,3,0] h (by kernel_rfl) (Di 0 [Ii 0,Ii 0] (Hg 0 0) 2 rfl (by kernel_rfl) (Dy (by kernel_rfl) Dh)) ?_
 exact .inl ⟨10,W0 (Fx hno8),rfl,rfl⟩
 refine ZP (Ii 7) (Qu (ZP (Ii 7) (ZP (.bool false) (Ft (ZP (Ii 7) (ZP (.bool true) (Qg (Qs (ZP (Hg 0 0) (ZP (Ii 7) (ZSs [Ii 0,Ii 0] 2 rfl h fun w h=>ZP (Ii 7) (Qr (Au ?_)))))))))))))
 refine B0 [Hg 0 0,Ii 7] [0,3,0] h (by kernel_rfl) (Di 0 [Ii 0,Ii 0] (Hg 0 0) 2 rfl (by kernel_rfl) (Dy (by kernel_rfl) Dh)) ?_
 exact .inl ⟨7,Xe (Aj hnod hx5 hh6) hkd7,rfl,rfl⟩
 refine ZP (Ii 0) (Qu (ZP (Ii 0) (ZP (.bool true) (Qg (Ah (ZP (.string nm) ?_))))))
 refine ZD [] (Er nm (by omega)) h ?_;rintro v_ L_ w (⟨hnm9,rfl,rfl⟩|⟨hnm9,rfl,rfl⟩) h
 refine ZP (Ii 0) (Qu (ZP (Ii 0) (ZP (.bool false) (Ft (ZP (Ii kind) ?_)))))
 obtain ⟨b10,hb10⟩:=nmB (!(decide (kind=1)))
 refine ZB hb10 (ZP (.bool b10) (ZM1 (v:=Ii kind) b10 h (fun hB=>by subst hB;exact Gp (Ii kind)) ?_))
 obtain ⟨b11,hb11⟩:=nmB (!(decide (kind=2)))
 refine ZM1 (v:=.bool b11) b10 h (fun hB=>by subst hB;exact by subst hb11;exact Ax (v:=.bool (!(decide (kind=2)))) fun _=>by kernel_rfl) ?_
 obtain ⟨b12,hb12⟩:=nmB (b10&&b11)
 refine ZBc b10 hb12 (Qn (Zi (b12) (fun hc13=>?_) fun hc13=>?_))
 have q14:=hb12.symm.trans hc13
 have q15:=aL q14
 have q16:=aR q14
 have q17:=hb10.symm.trans q15
 have q18:(decide (kind=1))=false:=by simpa using q17
 have q18:=dcF q18
 have q19:=hb11.symm.trans q16
 have q20:(decide (kind=2))=false:=by simpa using q19
 have q20:=dcF q20
 have hkd:¬(kind=1∨kind=2):=by subst hb12 hb11 hb10;revert hc13;by_cases c1:kind=1<;>by_cases c2:kind=2<;>simp [c1,c2]
 refine Qs (ZP (Hg 0 0) (ZSs [Ii 0,Ii 0] 2 rfl h fun w h=>ZP (Ii 3) (Qr (Au ?_))))
 refine B0 [Hg 0 0,Ii 3] [0,3,0] h (by kernel_rfl) (Di 0 [Ii 0,Ii 0] (Hg 0 0) 2 rfl (by kernel_rfl) (Dy (by kernel_rfl) Dh)) ?_
 exact .inl ⟨3,Xn (Aj hnod hx5 hh6) hkd7 hnm9 hkd,rfl,rfl⟩
 have q21:=hb12.symm.trans hc13
 have hkd:(kind=1∨kind=2):=by subst hb12 hb11 hb10;revert hc13;by_cases c1:kind=1<;>by_cases c2:kind=2<;>simp [c1,c2]
 refine Ks (ZP (Pp b) (ZG h (Gla 0 [Ii n,Ii g] 3) (ZC [0,0] (Cx b (most:Int) vl vt L (by omega) hnod j3 N4 hx5 n g hh6) h fun w h=>ZP (Pp N4.nb) (Qu (ZP (Pp N4.nb) (ZP (.string nm) ?_))))))
 refine ZD [1] (Et vl L j3 N4 hx5 nm (by have:=hok.at_few hx5;omega)) h ?_;rintro v_ L_ w (⟨iq22,eq23,he24,hen25,rfl,rfl⟩|⟨hno26,rfl,rfl⟩) h
 have hfliq22:=(List.getElem?_eq_some_iff.1 he24).1
 refine ZP (.bool (decide ((iq22:Int)≥0))) (Qn (Zd ((iq22:Int)≥0) (fun hc27=>?_) fun hc27=>?_))
 refine Qs (ZP (Hg 0 0) (ZSs [Ii 0,Ii 0] 2 rfl h fun w h=>ZP (Ii 6) (Qr (Au ?_))))
 refine B0 [Hg 0 0,Ii 6] [1,3,0] h (by kernel_rfl) (Di 0 [Ii 0,Ii 0] (Hg 0 0) 2 rfl (by kernel_rfl) (Dy (by kernel_rfl) Dh)) ?_
 exact .inl ⟨6,Ae6 (Aj hnod hx5 hh6) hkd7 hnm9 hkd (Bt (hok.at_nms hx5) he24 hen25),rfl,rfl⟩
 exfalso;omega
 refine ZP (.bool false) (Ft (ZP (Pp N4.nb) (ZP (Pp N4.nb) (ZP (Pt N4.nb 6) (ZG h (Gr 6 N4.ve 0 rfl (Cg hx5 6 (by kernel_rfl))) (ZG h (D3 107 (by kernel_rfl) 0 rfl (By hx5)) (ZP (.bool (decide ((N4.a.es.length:Int)≥60))) (Qn (Zd ((N4.a.es.length:Int)≥60) (fun hc28=>?_) fun hc28=>?_)))))))))
 refine Qs (ZP (Hg 0 0) (ZSs [Ii 0,Ii 0] 2 rfl h fun w h=>ZP (Ii 9) (Qr (Au ?_))))
 refine B0 [Hg 0 0,Ii 9] [1,3,0] h (by kernel_rfl) (Di 0 [Ii 0,Ii 0] (Hg 0 0) 2 rfl (by kernel_rfl) (Dy (by kernel_rfl) Dh)) ?_
 exact .inl ⟨9,Xm (Aj hnod hx5 hh6) hkd7 hnm9 hkd (F7 hno26) (by omega),rfl,rfl⟩
 refine Kw (ZP (Ii 0) (Qn (Ar ?_)))
 refine ZL (X:=Nat×(Nat→Value)) [(9,9),(13,16),(50,124)] (fun ⟨kq,J0⟩=>[(12,Ii kq)]) (fun ⟨kq,J0⟩=>J0) (fun ⟨kq,J0⟩=>[rRL vl L,Rt b most vl vt,Rh k2 0 0,Rh k1 n g,Bf true vt 3 1 inC ts]) (fun ⟨kq,J0⟩=>kq≤most∧∀ q,q<kq→Ey (L.map RN.a) q=true) (fun ⟨kq,J0⟩=>most - kq) (fun j=>⟨0,j⟩) ⟨by omega,fun q hq=>by omega⟩ [0,0,0,0,0] h ?_
 rintro ⟨kq,J0⟩ w hG h
 obtain ⟨hkq,hno⟩:kq≤most∧∀ q,q<kq→Ey (L.map RN.a) q=true:=hG
 refine Qt (ZP (Ii kq) (ZP (Pp b) (ZP (Pp b) (ZP (Pp b) (ZG h (Gl 0 (Ii most) 1) (ZP (.bool (decide ((kq:Int)<(most:Int)))) (Qn (Zd ((kq:Int)<(most:Int)) (fun hc29=>?_) fun hc29=>?_))))))))
 refine Kn (Aa (Ar (Qs (ZP (.bool false) (Qu (ZP (Ii 0) (Qn (Ar ?_))))))))
 refine ZL (X:=Nat×Bool×(Nat→Value)) [(58,79)] (fun ⟨iu,ub,J1⟩=>[(13,.bool ub),(14,Ii iu)]) (fun ⟨iu,ub,J1⟩=>J1) (fun ⟨iu,ub,J1⟩=>[rRL vl L,Rt b most vl vt,Rh k2 0 0,Rh k1 n g,Bf true vt 3 1 inC ts]) (fun ⟨iu,ub,J1⟩=>iu≤L.length∧ub=Ey ((L.take iu).map RN.a) kq) (fun ⟨iu,ub,J1⟩=>L.length - iu) (fun j=>⟨0,false,j⟩) ⟨by omega,rfl⟩ [0,0,0,0,0] h ?_
 rintro ⟨iu,ub,J1⟩ w hG h
 obtain ⟨hiu,hub⟩:iu≤L.length∧ub=Ey ((L.take iu).map RN.a) kq:=hG
 refine Qt (ZP (Ii iu) (ZP (Pp b) (ZP (Pp b) (ZP (Pt b 1) (ZG h (Gl 1 (vl) 1) (ZG h (D3 88 (by kernel_rfl) 0 rfl Dj) (ZP (.bool (decide ((iu:Int)<(L.length:Int)))) (Qn (Zd ((iu:Int)<(L.length:Int)) (fun hc30=>?_) fun hc30=>?_)))))))))
 refine Kn (Aa (Ar (Qs (ZP (Pp b) (ZP (Pp b) (ZP (Pt b 1) (ZG h (Gl 1 (vl) 1) (ZP (Ii iu) ?_))))))))
 have hi31:iu<L.length:=by omega
 obtain ⟨x32,hx33⟩:∃ x,L[iu]?=some x:=⟨_,List.getElem?_eq_getElem hi31⟩
 refine ZG h (Dz (k:=1) 88 iu rfl (by kernel_rfl) hi31 0 rfl Dj) (ZG h (Gr (B1 vl+iu*1) (Pp x32.nb) 0 rfl (Le Dj Gs hx33 (by kernel_rfl))) (ZP (Pp x32.nb) (ZP (Pp x32.nb) (ZP (Pp x32.nb) (ZG h (Gr 0 (Ii x32.a.h.1) 0 rfl (Cg hx33 0 (by kernel_rfl))) (ZP (Ii kq) (ZP (.bool (decide (x32.a.h.1=(kq:Int)))) (Qn (Zd (x32.a.h.1=(kq:Int)) (fun hc34=>?_) fun hc34=>?_)))))))))
 refine Ah (ZP (.bool true) (Ct ?_))
 refine B9 (Af ?_)
 refine Ah (ZP (Ii iu) (ZG h (A1 (v:=Ii (IntKind.i64.wrap ((iu:Int)+1))) (v':=Ii ((iu+1:Nat):Int)) (Ax fun _=>by kernel_rfl) (wr (by omega))) (ZP (Ii ((iu+1:Nat):Int)) (Ct ?_))))
 have hQ35:((iu+1)≤L.length∧true=Ey ((L.take (iu+1)).map RN.a) kq)∧(L.length - (iu+1))<(L.length - iu):=⟨⟨by omega,by rw [Qo kq hx33,← hub,decide_eq_true (by omega)];simp⟩,by omega⟩
 refine Bo (fun j=>⟨(iu+1),true,j⟩) hQ35 (by kernel_rfl) [0,0,0,0,0] (by kernel_rfl) h
 refine Bz ?_
 refine B9 (Af ?_)
 refine Ah (ZP (Ii iu) (ZG h (A1 (v:=Ii (IntKind.i64.wrap ((iu:Int)+1))) (v':=Ii ((iu+1:Nat):Int)) (Ax fun _=>by kernel_rfl) (wr (by omega))) (ZP (Ii ((iu+1:Nat):Int)) (Ct ?_))))
 have hQ36:((iu+1)≤L.length∧ub=Ey ((L.take (iu+1)).map RN.a) kq)∧(L.length - (iu+1))<(L.length - iu):=⟨⟨by omega,by rw [Qo kq hx33,← hub,decide_eq_false (by omega)];simp⟩,by omega⟩
 refine Bo (fun j=>⟨(iu+1),ub,j⟩) hQ36 (by kernel_rfl) [0,0,0,0,0] (by kernel_rfl) h
 refine Dk (Eh (E8 (Ev (Af (Qt (ZP (.bool ub) (Qn (Zi (ub) (fun hc37=>?_) fun hc37=>?_))))))))
 have hus:Ey (L.map RN.a) kq=true:=by rw [List.take_of_length_le (by omega)] at hub;rw [← hub];exact hc37
 refine Dk (Eh (Ev (Af (Ah (ZP (Ii kq) (ZG h (A1 (v:=Ii (IntKind.i64.wrap ((kq:Int)+1))) (v':=Ii ((kq+1:Nat):Int)) (Ax fun _=>by kernel_rfl) (wr (by omega))) (ZP (Ii ((kq+1:Nat):Int)) (Ct ?_))))))))
 have hQ38:((kq+1)≤most∧∀ q,q<(kq+1)→Ey (L.map RN.a) q=true)∧(most - (kq+1))<(most - kq):=⟨⟨by omega,fun q hq=>by by_cases e:q=kq;(subst e;exact hus);exact hno q (by omega)⟩,by omega⟩
 refine Bo (fun j=>⟨(kq+1),j⟩) hQ38 (by kernel_rfl) [0,0,0,0,0] (by kernel_rfl) h
 have hus:Ey (L.map RN.a) kq=false:=by rw [List.take_of_length_le (by omega)] at hub;rw [← hub];exact hc37
 refine Ks (ZP (Ii kq) (ZP (Pp b) (ZP (Pp b) (ZP (Pt b 2) (ZG h (Gl 2 (vt) 1) (ZP (Ii kq) ?_))))))
 have hi39:kq<ts.length:=by omega
 obtain ⟨x40,hx41⟩:∃ x,ts[kq]?=some x:=⟨_,List.getElem?_eq_getElem hi39⟩
 have htb:=htr x40 (List.mem_of_getElem? hx41)
 refine ZG h (I3 kq (by kernel_rfl) hi39 4 rfl) (ZG h (Gr (B1 vt+kq*1) (Ii x40) 4 rfl (Lk Nn hx41 (by kernel_rfl))) (ZP (Hg kq x40) (ZN [Ii 0,Ii 0] 34 h fun k42 w h=>ZSs [Ii kq,Ii x40] 0 rfl h fun w h=>Qm ?_)))
 have h:=(h.pkr [1]).rlOpen
 refine ZP (Pp b) (ZP (Pp b) (ZP (Pt b 2) (ZG h (Gl 2 (vt) 3) (ZP (Ii kq) (ZG h (I3 kq (by kernel_rfl) hi39 6 rfl) (ZG h (Gr (B1 vt+kq*1) (Ii x40) 6 rfl (Lk Nn hx41 (by kernel_rfl))) (ZG h (Gw (x40+1)) (ZG h (I3 kq (by kernel_rfl) hi39 6 rfl) ?_))))))))
 refine Fa rfl (b:=Df vt) (B1 vt+kq*1) [Ii (x40+1)] h 6 rfl (by kernel_rfl) (Wi Nn hx41 0 (x40+1) (by kernel_rfl) (by kernel_rfl)) ?_;intro w h
 refine Qn (Aa (Ds 11 [2,2] h fun w h=>Dp 0 496 (Pp b) [2,2] h (Dp 1 497 (Pp b) [2,2] h (Dp 2 499 (Pt b 1) [2,2] h (Dq 3 503 [2,2] rfl h (Gl 1 (vl) 1) (Dq 4 47 [2,2] rfl h (Gla 0 [Ii kq,Ii x40] 0) (Dp 5 31 (Ii kind) [2,2] h (Dp 6 63 (.agg #[Ii kq,Ii x40,Ii kind,Ii 0,.string (⟨#[]⟩:ByteArray),.slice none 0 0,.slice none 0 0,Ii 0]) [2,2] h ?_))))))))
 refine Ay [7] (by kernel_rfl) rfl ?_
 refine B8 [3,3] rfl (by kernel_rfl) (fun b=>Pp b) [Ii kq,Ii x40,Ii kind,Ii 0,.string (⟨#[]⟩:ByteArray),.slice none 0 0,.slice none 0 0,Ii 0] 93 (fun _=>by kernel_rfl) h ?_ ?_
 intro k43 w h;refine ⟨by kernel_rfl,?_⟩
 refine Ay [8] (by kernel_rfl) rfl ?_
 refine B8 [4,4] rfl (by kernel_rfl) (fun b=>.slice (some ⟨b,0,none⟩) 1 1) [Pp k43] 88 (fun _=>by kernel_rfl) h ?_ ?_
 intro k44 w h;refine ⟨by kernel_rfl,?_⟩
 refine Ay [9] (by kernel_rfl) rfl ?_
 refine Acz (b:=k44) (o:=0) [4,4] rfl (by kernel_rfl) 1 k43 (by kernel_rfl) h 2 rfl 0 rfl (Fq 0 (by kernel_rfl)) (by (try simp only [List.length_append,List.length_cons,List.length_nil,List.length_map]);omega) ?_ ?_
 intro v45 w h;refine ⟨by kernel_rfl,?_⟩
 refine Dp 10 1023 v45 [4,4] h (Dd (Af (Qs (ZP (Pp b) (ZP v45 (ZP (Pp b) (ZP (Pt b 1) ?_)))))))
 refine I4 rfl (h.slv 2 rfl) 1 [Ii most,v45,vt] h 5 rfl (by kernel_rfl) ?_;intro w h
 refine Qm ?_
 have h:=((h.nilRows 107 3 e3C).nilRows 4 1 hlC).pkr [3,0,0,2,1]
 have htx:Av ts kq=x40:=In hx41
 have h:=Own.rlAdd (L:=L) (⟨k43,.slice none 0 0,.slice none 0 0,C7 ((kq:Int),x40) kind⟩:RN) h
 have hx46:(L++[(⟨k43,.slice none 0 0,.slice none 0 0,C7 ((kq:Int),x40) kind⟩:RN)])[j3]?=some N4:=by rw [List.getElem?_append_left (List.getElem?_eq_some_iff.1 hx5).1];exact hx5
 have hrg:=hok.at_rng hx5
 refine ZP (Pp N4.nb) (ZP (.string nm) (ZG h (Gla 0 [Ii kq,Ii x40] 2) ?_))
 refine ZD [0] (Gi v45 (L++[(⟨k43,.slice none 0 0,.slice none 0 0,C7 ((kq:Int),x40) kind⟩:RN)]) j3 N4 hx46 nm (kq:Int) x40 (by have:=hok.at_few hx5;omega)) h ?_;rintro u48 L_ w ⟨v47,rfl⟩ h
 have hx49:=Ce (Rx N4 v47 (Bj nm ((kq:Int),x40) N4.a.es)) hx46
 refine Qm (ZP (Pp N4.nb) (ZP (Pp N4.nb) (ZP (Pt N4.nb 3) (ZG h (Gr 3 (Ii N4.a.change) 0 rfl (Cg hx49 3 (by kernel_rfl))) (ZG h (Gw (N4.a.change+1)) (ZP (Pp N4.nb) (ZP (Pt N4.nb 3) ?_)))))))
 refine Fa rfl (b:=N4.nb) 3 [Ii (N4.a.change+1)] h 0 rfl (by kernel_rfl) (Li hx49 3 [Ii (N4.a.change+1)] (Rw N4 v47 (N4.a.change+1) (Bj nm ((kq:Int),x40) N4.a.es)) (Nat.le_of_ble_eq_true (by kernel_rfl)) (by kernel_rfl) rfl rfl rfl rfl rfl) ?_;intro w h
 have hx50:=Ce (Rw N4 v47 (N4.a.change+1) (Bj nm ((kq:Int),x40) N4.a.es)) hx49
 refine Qm (ZG h (Gla 0 [Ii kq,Ii x40] 2) (ZSs [Ii kq,Ii x40] 4 rfl h fun w h=>ZP (Ii 0) (Qr (Cj (Au (Oo (Cj (Au ?_))))))))
 refine B0 [Hg kq x40,Ii 0] [3,5,0] h (by kernel_rfl) (Di 0 [Ii kq,Ii x40] (Hg kq x40) 4 rfl (by kernel_rfl) (Dy (by kernel_rfl) Dh)) ?_
 have hnA:=Add hnod hus (N':=(⟨k43,.slice none 0 0,.slice none 0 0,C7 ((kq:Int),x40) kind⟩:RN)) rfl
 have hT1:((L++[(⟨k43,.slice none 0 0,.slice none 0 0,C7 ((kq:Int),x40) kind⟩:RN)]).set j3 (Rx N4 v47 (Bj nm ((kq:Int),x40) N4.a.es))).map RN.a=Aw ((L++[(⟨k43,.slice none 0 0,.slice none 0 0,C7 ((kq:Int),x40) kind⟩:RN)]).map RN.a) (n,g) nm ((kq:Int),x40):=C8 hnA hx46 hh6 rfl
 have hnB:=Kp hnA hx46 (N':=(Rx N4 v47 (Bj nm ((kq:Int),x40) N4.a.es))) rfl
 have hT2:(((L++[(⟨k43,.slice none 0 0,.slice none 0 0,C7 ((kq:Int),x40) kind⟩:RN)]).set j3 (Rx N4 v47 (Bj nm ((kq:Int),x40) N4.a.es))).set j3 (Rw N4 v47 (N4.a.change+1) (Bj nm ((kq:Int),x40) N4.a.es))).map RN.a=Ao (((L++[(⟨k43,.slice none 0 0,.slice none 0 0,C7 ((kq:Int),x40) kind⟩:RN)]).set j3 (Rx N4 v47 (Bj nm ((kq:Int),x40) N4.a.es))).map RN.a) (n,g):=C8 hnB hx49 hh6 rfl
 refine .inr ⟨kq,v45,((L++[(⟨k43,.slice none 0 0,.slice none 0 0,C7 ((kq:Int),x40) kind⟩:RN)]).set j3 (Rx N4 v47 (Bj nm ((kq:Int),x40) N4.a.es))).set j3 (Rw N4 v47 (N4.a.change+1) (Bj nm ((kq:Int),x40) N4.a.es)),Z8 (Aj hnod hx5 hh6) hkd7 hnm9 hkd (F7 hno26) (by omega) (Z2 (by omega) hus hno),?_,?_,?_⟩
 · rw [hT2,hT1,List.map_append,← htx];rfl
 · rw [htx];rfl
 · rw [htx];rfl
 exact Bb
 exact Bb
 exact Bb
 refine Dk (Eh (E8 (Ev (Af (Qs (ZP (Hg 0 0) (ZSs [Ii 0,Ii 0] 2 rfl h fun w h=>ZP (Ii 9) (Qr ?_))))))))
 refine B0 [Hg 0 0,Ii 9] [1,3,0] h (by kernel_rfl) (Di 0 [Ii 0,Ii 0] (Hg 0 0) 2 rfl (by kernel_rfl) (Dy (by kernel_rfl) Dh)) ?_
 exact .inl ⟨9,Abs (Aj hnod hx5 hh6) hkd7 hnm9 hkd (F7 hno26) (by omega) (Aa6 fun q hq=>hno q (by omega)),rfl,rfl⟩
 refine ZP (Ii 4) (Qu (ZP (Ii 4) (ZP (.bool true) (Qg (Qs (ZP (Hg 0 0) (ZP (Ii 4) (ZSs [Ii 0,Ii 0] 2 rfl h fun w h=>ZP (Ii 4) (Qr (Au ?_))))))))))
 refine B0 [Hg 0 0,Ii 4] [0,3,0] h (by kernel_rfl) (Di 0 [Ii 0,Ii 0] (Hg 0 0) 2 rfl (by kernel_rfl) (Dy (by kernel_rfl) Dh)) ?_
 exact .inl ⟨4,Xc (Aj hnod hx5 hh6) hkd7 hnm9,rfl,rfl⟩
theorem Aeo {L:List RN} {i j:Nat} {M N:RN} (h1:L[i]?=some M) (h2:L[j]?=some N) (h:M.a.kind≠N.a.kind):i≠j:=fun e=>by
  subst e;rw [h1] at h2;cases h2;exact h rfl
theorem Mq {es:List Bk} {i:Nat} {e:Bk} (h:e∈es.eraseIdx i):e∈es:=(List.eraseIdx_sublist es i).subset h
theorem Dt.leave {L:List RN} {c:Int} (hok:Dt (L.map RN.a) c) {j:Nat} {N:RN} (hx:L[j]?=some N) (i:Nat) (v:Value):Dt ((L.set j (Rx N v (N.a.es.eraseIdx i))).map RN.a) c:=by
  have hm:N.a∈L.map RN.a:=List.mem_map.2 ⟨N,List.mem_of_getElem? hx,rfl⟩
  exact hok.setN hx rfl (fun e he=>hok.ent N.a hm e (Mq he)) (Nat.le_trans (List.eraseIdx_sublist _ _).length_le (hok.few N.a hm)) (((List.eraseIdx_sublist N.a.es i).map (·.1)).nodup (hok.nms N.a hm)) (hok.rng N.a hm)
theorem Dt.touch {L:List RN} {c:Int} (hok:Dt (L.map RN.a) c) {j:Nat} {N N':RN} (hx:L[j]?=some N) (h:N'.a=⟨N.a.h,N.a.kind,N.a.change+1,N.a.s,N.a.holes,N.a.es,N.a.pins⟩):Dt ((L.set j N').map RN.a) (c+1):=by
  have hr:=hok.at_rng hx
  exact (hok.mono (d:=c+1) (by omega)).setC hx (by rw [h]) (by rw [h]) (by rw [h];exact ⟨by show 0≤N.a.change+1;omega,by show N.a.change+1≤c+1;omega,by show 0≤N.a.pins;omega,by show N.a.pins≤c+1;omega⟩)
theorem Ha {L:List RN} {c:Int} (hok:Dt (L.map RN.a) c) {j:Nat} {N:RN} (hx:L[j]?=some N) {h:Hdl} (hh:N.a.h=h) {i:Nat} {e:Bk} (he:N.a.es[i]?=some e) {nm:ByteArray} (hn:e.1=nm) (v:Value):(L.set j (Rx N v (N.a.es.eraseIdx i))).map RN.a=Al (L.map RN.a) h nm:=
  C8 hok.hnod hx hh (by show (⟨N.a.h,N.a.kind,N.a.change,N.a.s,N.a.holes,N.a.es.eraseIdx i,N.a.pins⟩:AN)=_;rw [Pg (hok.at_nms hx) he hn])
theorem Aee {L:List RN} {c:Int} (hok:Dt (L.map RN.a) c) {h:Hdl} {nm:ByteArray} (he:(Ba (L.map RN.a) h nm).2=0):∃ (j:Nat) (N:RN) (i:Nat) (e:Bk) (jK:Nat) (K:RN),L[j]?=some N∧N.a.h=h∧N.a.es[i]?=some e∧e.1=nm∧e.2=(Ba (L.map RN.a) h nm).1∧L[jK]?=some K∧K.a.h=(Ba (L.map RN.a) h nm).1:=by
  unfold Ba at he ⊢
  split at he
  · exact absurd he (by decide)
  · rename_i M hM
    split at he
    · rename_i hkd
      split at he
      · rename_i hnm
        split at he
        · rename_i x hx
          obtain ⟨A,hA,rfl⟩:∃ N∈L,N.a=M:=by
            unfold Bp at hM
            exact List.mem_map.1 (List.mem_of_find?_eq_some hM)
          have hAh:A.a.h=h:=by
            have:=List.find?_some hM
            simpa using this
          obtain ⟨j,hj⟩:=List.getElem?_of_mem hA
          unfold Ee at hx
          obtain ⟨e,he1,rfl⟩:=Option.map_eq_some_iff.1 hx
          obtain ⟨i,hi⟩:=List.getElem?_of_mem (List.mem_of_find?_eq_some he1)
          have hen:e.1=nm:=by have:=List.find?_some he1;simpa using this
          obtain ⟨K,hK,hKh⟩:=hok.hent A hA e (List.mem_of_find?_eq_some he1)
          obtain ⟨jK,hjK⟩:=List.getElem?_of_mem hK
          have hS:(if A.a.kind=2 then if Hr nm=0 then ((e.2,0):Hdl×Nat) else ((0,0),4) else ((0,0),7))=(e.2,0):=by rw [if_pos hkd,if_pos hnm]
          exact ⟨j,A,i,e,jK,K,hj,hAh,hi,hen,(congrArg Prod.fst hS).symm,hjK,hKh.trans (congrArg Prod.fst hS).symm⟩
        · exact absurd he (by decide)
      · exact absurd he (by decide)
    · exact absurd he (by decide)
theorem U3 {L:List RN} {j k:Nat} {N N' K:RN} (hx:L[j]?=some N) (h1:N'.a.h=N.a.h) (hk:L[k]?=some K) {x:Hdl} (hK:K.a.h=x):∃ K',(L.set j N')[k]?=some K'∧K'.a.h=x:=by
  by_cases e:j=k
  · subst e;rw [hx] at hk;cases hk
    exact ⟨N',List.getElem?_set_self (List.getElem?_eq_some_iff.1 hx).1,h1.trans hK⟩
  · exact ⟨K,by rw [List.getElem?_set_ne e];exact hk,hK⟩
section
variable (b:Nat) (mst:Int) (vl vt:Value) (L:List RN) (c:Int) (hc:c≤900000) (hok:Dt (L.map RN.a) c)
include b mst vl vt L c hc hok
theorem Va (n g m f:Int) (nm:ByteArray) (hnz:nm.size≤100000):Ap Tryz.prog 34 #[Pp b,Hg n g,Hg m f,.string nm] [Rt b mst vl vt,rRL vl L] (fun u L'=>∃ L2:List RN,L2.map RN.a=(if C0 (L.map RN.a) (n,g) (m,f) nm=0 then K8 (L.map RN.a) (n,g) (m,f) nm else (L.map RN.a))∧u=Ii ((C0 (L.map RN.a) (n,g) (m,f) nm:Nat):Int)∧L'=[Rt b mst vl vt,rRL vl L2]):=by
 have hl:=hok.hl
 have hnod:=hok.hnod
 have hent:=hok.hent
 have hfew:=hok.hfew
 refine Zo 65 Tryz.func34 fun E w0 w h=>?_
 refine Qs (ZN [Ii n,Ii g] 34 h fun k1 w h=>ZN [Ii m,Ii f] 34 h fun k2 w h=>ZP (Ii 0) (Qm (ZP (Pp b) (ZG h (Gla 0 [Ii n,Ii g] 1) ?_))))
 refine ZD [2,2] (Mg b mst vl vt L n g (by omega)) h ?_;rintro v_ L_ w (⟨j3,N4,hx5,hh6,rfl,rfl⟩|⟨hno7,rfl,rfl⟩) h
 refine ZP (Pp N4.nb) (Qu (ZP (Pp N4.nb) (ZP (.bool false) (Fs (ZP (Pp b) (ZG h (Gla 0 [Ii m,Ii f] 2) ?_))))))
 refine ZD [0,0] (Hd b mst vl vt L m f (by omega)) h ?_;rintro v_ L_ w (⟨hno13,rfl,rfl⟩|⟨j8,N9,hx10,hh11,hkd12,rfl,rfl⟩|⟨j8,N9,hx10,hh11,hkd12,rfl,rfl⟩) h
 refine ZP (Ii 10) (Qu (ZP (Ii 10) (ZP (.bool false) (Ft (ZP (Ii 10) (ZP (.bool true) (Qg (Qs (ZP (Ii 10) (ZP (Ii 10) (Qr (Au (ZR [Ii 10] [0,0] h ?_)))))))))))))
 have hT:=tK_d (A:=L.map RN.a) (x:=(n,g)) (d:=(m,f)) (nm:=nm) (Aj hnod hx5 hh6) (Fx hno13)
 exact ⟨L,by rw [hT];rfl,by rw [hT];rfl,rfl⟩
 refine ZP (Ii 7) (Qu (ZP (Ii 7) (ZP (.bool false) (Ft (ZP (Ii 7) (ZP (.bool true) (Qg (Qs (ZP (Ii 7) (ZP (Ii 7) (Qr (Au (ZR [Ii 7] [0,0] h ?_)))))))))))))
 have hT:=Wy (A:=L.map RN.a) (x:=(n,g)) (d:=(m,f)) (nm:=nm) (Aj hnod hx5 hh6) (Aj hnod hx10 hh11) hkd12
 exact ⟨L,by rw [hT];rfl,by rw [hT];rfl,rfl⟩
 refine ZP (Ii 0) (Qu (ZP (Ii 0) (ZP (.bool true) (Qg (Ah (ZP (.string nm) ?_))))))
 refine ZD [] (Er nm (by omega)) h ?_;rintro v_ L_ w (⟨hnm14,rfl,rfl⟩|⟨hnm14,rfl,rfl⟩) h
 refine ZP (Ii 0) (Qu (ZP (Ii 0) (ZP (.bool false) (Ft (ZP (Pp N4.nb) (ZP (Pp N4.nb) (ZP (Pt N4.nb 2) (ZG h (Gr 2 (Ii N4.a.kind) 1 rfl (Cg hx5 2 (by kernel_rfl))) (ZP (.bool (decide (N4.a.kind=2))) (Qn (Zd (N4.a.kind=2) (fun hc15=>?_) fun hc15=>?_)))))))))))
 refine Qs (ZP (Ii 8) (Qr (Au (ZR [Ii 8] [0,0] h ?_))))
 have hT:=Zw (A:=L.map RN.a) (x:=(n,g)) (d:=(m,f)) (nm:=nm) (Aj hnod hx5 hh6) (Aj hnod hx10 hh11) hkd12 hnm14 (by omega)
 exact ⟨L,by rw [hT];rfl,by rw [hT];rfl,rfl⟩
 refine Ks (ZP (Pp b) (ZG h (Gla 0 [Ii m,Ii f] 2) (ZC [0,0] (Cx b mst vl vt L (by omega) hnod j8 N9 hx10 m f hh11) h fun w h=>ZP (Pp N9.nb) (Qu (ZP (Pp N9.nb) (ZP (.string nm) ?_))))))
 refine ZD [1] (Et vl L j8 N9 hx10 nm (by have:=hok.at_few hx10;omega)) h ?_;rintro v_ L_ w (⟨iq16,eq17,he18,hen19,rfl,rfl⟩|⟨hno20,rfl,rfl⟩) h
 have hfliq16:=(List.getElem?_eq_some_iff.1 he18).1
 refine ZP (.bool (decide ((iq16:Int)≥0))) (Qn (Zd ((iq16:Int)≥0) (fun hc21=>?_) fun hc21=>?_))
 refine Qs (ZP (Ii 6) (Qr (Au (ZR [Ii 6] [1,0] h ?_))))
 have hT:=Ae8 (A:=L.map RN.a) (x:=(n,g)) (d:=(m,f)) (nm:=nm) (Aj hnod hx5 hh6) (Aj hnod hx10 hh11) hkd12 hnm14 (by omega) (Bt (hok.at_nms hx10) he18 hen19)
 exact ⟨L,by rw [hT];rfl,by rw [hT];rfl,rfl⟩
 exfalso;omega
 refine ZP (.bool false) (Ft (ZP (Pp N9.nb) (ZP (Pp N9.nb) (ZP (Pt N9.nb 6) (ZG h (Gr 6 N9.ve 0 rfl (Cg hx10 6 (by kernel_rfl))) (ZG h (D3 107 (by kernel_rfl) 0 rfl (By hx10)) ?_))))))
 obtain ⟨b22,hb22⟩:=nmB (decide ((N9.a.es.length:Int)≥60))
 refine ZB hb22 (ZP (.bool b22) (ZM0 (v:=Pp b) b22 h (fun hB=>by subst hB;exact Gp (Pp b)) (ZM0 (v:=Pp N4.nb) b22 h (fun hB=>by subst hB;exact Gp (Pp N4.nb)) ?_)))
 rcases Bool.eq_false_or_eq_true b22 with hc23|hc23
 subst hc23
 have q24:=hb22.symm
 have q24:=dcT q24
 refine Zx (Zx (ZP (.bool true) (Qg (Qs (ZP (Ii 9) (Qr (Au (ZR [Ii 9] [1,0] h ?_))))))))
 have hT:=Nm (A:=L.map RN.a) (x:=(n,g)) (d:=(m,f)) (nm:=nm) (Aj hnod hx5 hh6) (Aj hnod hx10 hh11) hkd12 hnm14 (by omega) (F7 hno20) (by omega)
 exact ⟨L,by rw [hT];rfl,by rw [hT];rfl,rfl⟩
 subst hc23
 have q25:=hb22.symm
 have q25:=dcF q25
 refine ZC [1,0] (M9 b mst vl vt L (by omega) hnod hent hfew j3 N4 hx5) h fun w h=>?_
 obtain ⟨b26,hb26⟩:=nmB (decide (C4 (L.map RN.a) N4.a≥8))
 refine ZB hb26 (ZP (.bool b26) (Qn (Zi (b26) (fun hc27=>?_) fun hc27=>?_)))
 have q28:=hb26.symm.trans hc27
 have q28:=dcT q28
 refine Qs (ZP (Ii 9) (Qr (Au (ZR [Ii 9] [0,0] h ?_))))
 have hT:=Nm (A:=L.map RN.a) (x:=(n,g)) (d:=(m,f)) (nm:=nm) (Aj hnod hx5 hh6) (Aj hnod hx10 hh11) hkd12 hnm14 (by omega) (F7 hno20) (by omega)
 exact ⟨L,by rw [hT];rfl,by rw [hT];rfl,rfl⟩
 have q29:=hb26.symm.trans hc27
 have q29:=dcF q29
 refine Ks ?_
 have hne:=Aeo hx5 hx10 (by omega)
 have hrX:=hok.at_rng hx5
 have hrD:=hok.at_rng hx10
 refine ZP (Pp N9.nb) (ZP (.string nm) (ZG h (Gla 0 [Ii n,Ii g] 3) ?_))
 refine ZD [1] (Gi vl L j8 N9 hx10 nm n g (by have:=hok.at_few hx10;omega)) h ?_;rintro u31 L_ w ⟨v30,rfl⟩ h
 have hx32:=Ce (Rx N9 v30 (Bj nm (n,g) N9.a.es)) hx10
 have hx33:(L.set j8 (Rx N9 v30 (Bj nm (n,g) N9.a.es)))[j3]?=some N4:=by rw [List.getElem?_set_ne (Ne.symm hne)];exact hx5
 refine Qm (ZP (Pp N9.nb) (ZP (Pp N9.nb) (ZP (Pt N9.nb 3) (ZG h (Gr 3 (Ii N9.a.change) 0 rfl (Cg hx32 3 (by kernel_rfl))) (ZG h (Gw (N9.a.change+1)) (ZP (Pp N9.nb) (ZP (Pt N9.nb 3) ?_)))))))
 refine Fa rfl (b:=N9.nb) 3 [Ii (N9.a.change+1)] h 0 rfl (by kernel_rfl) (Li hx32 3 [Ii (N9.a.change+1)] (Rw N9 v30 (N9.a.change+1) (Bj nm (n,g) N9.a.es)) (Nat.le_of_ble_eq_true (by kernel_rfl)) (by kernel_rfl) rfl rfl rfl rfl rfl) ?_;intro w h
 have hx34:=Ce (Rw N9 v30 (N9.a.change+1) (Bj nm (n,g) N9.a.es)) hx32
 have hx35:((L.set j8 (Rx N9 v30 (Bj nm (n,g) N9.a.es))).set j8 (Rw N9 v30 (N9.a.change+1) (Bj nm (n,g) N9.a.es)))[j3]?=some N4:=by rw [List.getElem?_set_ne (Ne.symm hne)];exact hx33
 refine Qm (ZP (Pp N4.nb) (ZP (Pp N4.nb) (ZP (Pt N4.nb 3) (ZG h (Gr 3 (Ii N4.a.change) 0 rfl (Cg hx35 3 (by kernel_rfl))) (ZG h (Gw (N4.a.change+1)) (ZP (Pp N4.nb) (ZP (Pt N4.nb 3) ?_)))))))
 refine Fa rfl (b:=N4.nb) 3 [Ii (N4.a.change+1)] h 0 rfl (by kernel_rfl) (Li hx35 3 [Ii (N4.a.change+1)] (Rw N4 N4.ve (N4.a.change+1) N4.a.es) (Nat.le_of_ble_eq_true (by kernel_rfl)) (by kernel_rfl) rfl rfl rfl rfl rfl) ?_;intro w h
 have hx36:=Ce (Rw N4 N4.ve (N4.a.change+1) N4.a.es) hx35
 have hx37:(((L.set j8 (Rx N9 v30 (Bj nm (n,g) N9.a.es))).set j8 (Rw N9 v30 (N9.a.change+1) (Bj nm (n,g) N9.a.es))).set j3 (Rw N4 N4.ve (N4.a.change+1) N4.a.es))[j8]?=some (Rw N9 v30 (N9.a.change+1) (Bj nm (n,g) N9.a.es)):=by rw [List.getElem?_set_ne hne];exact hx34
 refine Qm (ZP (Ii 0) (Qr (ZR [Ii 0] [1,0] h ?_)))
 have hT:=Aey (A:=L.map RN.a) (x:=(n,g)) (d:=(m,f)) (nm:=nm) (Aj hnod hx5 hh6) (Aj hnod hx10 hh11) hkd12 hnm14 (by omega) (F7 hno20) (by omega)
 have h1:(L.set j8 (Rx N9 v30 (Bj nm (n,g) N9.a.es))).map RN.a=Aw (L.map RN.a) (m,f) nm (n,g):=C8 hnod hx10 hh11 rfl
 have hn1:=Kp hnod hx10 (N':=(Rx N9 v30 (Bj nm (n,g) N9.a.es))) rfl
 have hy1:(L.set j8 (Rx N9 v30 (Bj nm (n,g) N9.a.es)))[j8]?=some (Rx N9 v30 (Bj nm (n,g) N9.a.es)):=List.getElem?_set_self (List.getElem?_eq_some_iff.1 hx10).1
 have h2:((L.set j8 (Rx N9 v30 (Bj nm (n,g) N9.a.es))).set j8 (Rw N9 v30 (N9.a.change+1) (Bj nm (n,g) N9.a.es))).map RN.a=Ao ((L.set j8 (Rx N9 v30 (Bj nm (n,g) N9.a.es))).map RN.a) (m,f):=C8 hn1 hy1 hh11 rfl
 have hn2:=Kp hn1 hy1 (N':=(Rw N9 v30 (N9.a.change+1) (Bj nm (n,g) N9.a.es))) rfl
 have hz:((L.set j8 (Rx N9 v30 (Bj nm (n,g) N9.a.es))).set j8 (Rw N9 v30 (N9.a.change+1) (Bj nm (n,g) N9.a.es)))[j3]?=some N4:=by rw [List.getElem?_set_ne (Ne.symm hne),List.getElem?_set_ne (Ne.symm hne)];exact hx5
 have h3:(((L.set j8 (Rx N9 v30 (Bj nm (n,g) N9.a.es))).set j8 (Rw N9 v30 (N9.a.change+1) (Bj nm (n,g) N9.a.es))).set j3 (Rw N4 N4.ve (N4.a.change+1) N4.a.es)).map RN.a=Ao (((L.set j8 (Rx N9 v30 (Bj nm (n,g) N9.a.es))).set j8 (Rw N9 v30 (N9.a.change+1) (Bj nm (n,g) N9.a.es))).map RN.a) (n,g):=C8 hn2 hz hh6 rfl
 exact ⟨((L.set j8 (Rx N9 v30 (Bj nm (n,g) N9.a.es))).set j8 (Rw N9 v30 (N9.a.change+1) (Bj nm (n,g) N9.a.es))).set j3 (Rw N4 N4.ve (N4.a.change+1) N4.a.es),by rw [hT,h3,h2,h1];rfl,by rw [hT];rfl,rfl⟩
 refine ZP (Ii 4) (Qu (ZP (Ii 4) (ZP (.bool true) (Qg (Qs (ZP (Ii 4) (ZP (Ii 4) (Qr (Au (ZR [Ii 4] [0,0] h ?_))))))))))
 have hT:=Wj (A:=L.map RN.a) (x:=(n,g)) (d:=(m,f)) (nm:=nm) (Aj hnod hx5 hh6) (Aj hnod hx10 hh11) hkd12 hnm14
 exact ⟨L,by rw [hT];rfl,by rw [hT];rfl,rfl⟩
 refine ZP (.pointer none) (Qu (ZP (.pointer none) (ZP (.bool true) (Qg (Qs (ZP (Ii 10) (Qr (Au (ZR [Ii 10] [0,0] h ?_)))))))))
 have hT:=tK_x (A:=L.map RN.a) (x:=(n,g)) (d:=(m,f)) (nm:=nm) (Fx hno7)
 exact ⟨L,by rw [hT];rfl,by rw [hT];rfl,rfl⟩
theorem R0 (n g:Int) (nm:ByteArray) (hnz:nm.size≤100000):Ap Tryz.prog 36 #[Pp b,Hg n g,.string nm] [Rt b mst vl vt,rRL vl L] (fun u L'=>∃ (v':Value) (L2:List RN),L2.map RN.a=(if Cf (L.map RN.a) (n,g) nm=0 then Dx (L.map RN.a) (n,g) nm else (L.map RN.a))∧u=Ii ((Cf (L.map RN.a) (n,g) nm:Nat):Int)∧L'=[Rt b mst v' vt,rRL v' L2]):=by
 have hl:=hok.hl
 have hnod:=hok.hnod
 have hent:=hok.hent
 have hfew:=hok.hfew
 refine Zo 43 Tryz.func36 fun E w0 w h=>?_
 refine Qs (ZN [Ii n,Ii g] 34 h fun k1 w h=>ZP (Ii 0) (Qm (ZP (Pp b) (ZG h (Gla 0 [Ii n,Ii g] 0) (ZP (.string nm) (ZC [1,1] (Rv b mst vl vt L c (by omega) hok n g nm (by omega)) h fun w h=>ZP (.tuple #[.agg #[Ii ((Ba (L.map RN.a) (n,g) nm).1.1),Ii ((Ba (L.map RN.a) (n,g) nm).1.2)],Ii ((Ba (L.map RN.a) (n,g) nm).2:Int)]) (ZP (.agg #[Ii ((Ba (L.map RN.a) (n,g) nm).1.1),Ii ((Ba (L.map RN.a) (n,g) nm).1.2)]) (ZP (Ii ((Ba (L.map RN.a) (n,g) nm).2:Int)) (ZN [Ii 0,Ii 0] 34 h fun k2 w h=>ZSs [Ii ((Ba (L.map RN.a) (n,g) nm).1.1),Ii ((Ba (L.map RN.a) (n,g) nm).1.2)] 0 rfl h fun w h=>ZP (Ii ((Ba (L.map RN.a) (n,g) nm).2:Int)) (Qu (ZP (Ii ((Ba (L.map RN.a) (n,g) nm).2:Int)) (ZP (.bool (decide (((Ba (L.map RN.a) (n,g) nm).2:Int)>0))) (Qn (Zd (((Ba (L.map RN.a) (n,g) nm).2:Int)>0) (fun hc3=>?_) fun hc3=>?_))))))))))))))
 refine Qs (ZP (Ii ((Ba (L.map RN.a) (n,g) nm).2:Int)) (ZP (Ii ((Ba (L.map RN.a) (n,g) nm).2:Int)) (Qr (Au (ZR [Ii ((Ba (L.map RN.a) (n,g) nm).2:Int)] [1,1] h ?_)))))
 have hT:Cf (L.map RN.a) (n,g) nm=(Ba (L.map RN.a) (n,g) nm).2:=if_neg (by omega)
 exact ⟨vl,L,by rw [hT];exact (if_neg (by omega)).symm,by rw [hT];rfl,rfl⟩
 obtain ⟨j,N,i,e,jK,K,hx,hh,he,hen,hE,hxK,hKh⟩:=Aee hok (h:=(n,g)) (nm:=nm) (by omega)
 have hrD:=hok.at_rng hx
 refine Kw (ZP (Pp b) (ZG h (Gla 0 [Ii ((Ba (L.map RN.a) (n,g) nm).1.1),Ii ((Ba (L.map RN.a) (n,g) nm).1.2)] 0) (ZC [1,1] (Cx b mst vl vt L (by omega) hnod jK K hxK ((Ba (L.map RN.a) (n,g) nm).1.1) ((Ba (L.map RN.a) (n,g) nm).1.2) hKh) h fun w h=>ZP (Pp K.nb) (ZP (Pt K.nb 6) (ZG h (Gr 6 K.ve 1 rfl (Cg hxK 6 (by kernel_rfl))) (ZG h (D3 107 (by kernel_rfl) 1 rfl (By hxK)) (ZP (.bool (decide ((K.a.es.length:Int)>0))) (Qn (Zd ((K.a.es.length:Int)>0) (fun hc4=>?_) fun hc4=>?_)))))))))
 refine Qs (ZP (Ii 11) (Qr (Au (ZR [Ii 11] [0,0] h ?_))))
 have hT0:Cf (L.map RN.a) (n,g) nm=if 0<K.a.es.length then 11 else 0:=by unfold Cf;rw [if_pos (by omega),(Aj hnod hxK hKh)]
 rw [if_pos (by omega)] at hT0
 exact ⟨vl,L,by rw [hT0];rfl,by rw [hT0];rfl,rfl⟩
 refine Ks (ZP (Pp b) (ZG h (Gla 0 [Ii n,Ii g] 3) (ZC [0,0] (Cx b mst vl vt L (by omega) hnod j N hx n g hh) h fun w h=>ZP (Pp N.nb) (Qm (ZP (Pp N.nb) (ZP (Pp N.nb) (ZP (.string nm) ?_)))))))
 refine ZD [1] (Et vl L j N hx nm (by have:=hok.at_few hx;omega)) h ?_;rintro v_ L_ w (⟨iq5,eq6,he7,hen8,rfl,rfl⟩|⟨hno9,rfl,rfl⟩) h
 have hfliq5:=(List.getElem?_eq_some_iff.1 he7).1
 refine ZD [0] (Fu vl L j N hx iq5 (by have:=hok.at_few hx;omega) (by omega)) h ?_;rintro u11 L_ w ⟨v10,rfl⟩ h
 have hx12:=Ce (Rx N v10 (N.a.es.eraseIdx iq5)) hx
 refine Qm (ZP (Pp N.nb) (ZP (Pp N.nb) (ZP (Pt N.nb 3) (ZG h (Gr 3 (Ii N.a.change) 0 rfl (Cg hx12 3 (by kernel_rfl))) (ZG h (Gw (N.a.change+1)) (ZP (Pp N.nb) (ZP (Pt N.nb 3) ?_)))))))
 refine Fa rfl (b:=N.nb) 3 [Ii (N.a.change+1)] h 0 rfl (by kernel_rfl) (Li hx12 3 [Ii (N.a.change+1)] (Rw N v10 (N.a.change+1) (N.a.es.eraseIdx iq5)) (Nat.le_of_ble_eq_true (by kernel_rfl)) (by kernel_rfl) rfl rfl rfl rfl rfl) ?_;intro w h
 have hx13:=Ce (Rw N v10 (N.a.change+1) (N.a.es.eraseIdx iq5)) hx12
 refine Qm (ZP (Pp b) (ZG h (Gla 0 [Ii ((Ba (L.map RN.a) (n,g) nm).1.1),Ii ((Ba (L.map RN.a) (n,g) nm).1.2)] 2) ?_))
 have hy1:(L.set j (Rx N v10 (N.a.es.eraseIdx iq5)))[j]?=some (Rx N v10 (N.a.es.eraseIdx iq5)):=List.getElem?_set_self (List.getElem?_eq_some_iff.1 hx).1
 obtain ⟨K1,hK1,hKh1⟩:=U3 (N':=(Rx N v10 (N.a.es.eraseIdx iq5))) hx rfl hxK hKh
 obtain ⟨K2,hK2,hKh2⟩:=U3 (N':=(Rw N v10 (N.a.change+1) (N.a.es.eraseIdx iq5))) hy1 rfl hK1 hKh1
 refine ZD [1,0] (Lh b mst vl vt ((L.set j (Rx N v10 (N.a.es.eraseIdx iq5))).set j (Rw N v10 (N.a.change+1) (N.a.es.eraseIdx iq5))) (c+1) (by omega) ((hok.leave hx _ _).touch (List.getElem?_set_self (List.getElem?_eq_some_iff.1 hx).1) rfl) jK K2 hK2 ((Ba (L.map RN.a) (n,g) nm).1.1) ((Ba (L.map RN.a) (n,g) nm).1.2) hKh2) h ?_;rintro u15 L_ w ⟨v14,L16,hA17,hA17K,rfl⟩ h
 refine Qm (ZP (Ii 0) (Qr (ZR [Ii 0] [0,0] h ?_)))
 have hT0:Cf (L.map RN.a) (n,g) nm=if 0<K.a.es.length then 11 else 0:=by unfold Cf;rw [if_pos (by omega),(Aj hnod hxK hKh)]
 rw [if_neg (by omega)] at hT0
 have h1:(L.set j (Rx N v10 (N.a.es.eraseIdx iq5))).map RN.a=Al (L.map RN.a) (n,g) nm:=Ha hok hx hh he7 hen8 _
 have hn1:=Kp hnod hx (N':=(Rx N v10 (N.a.es.eraseIdx iq5))) rfl
 have h2:((L.set j (Rx N v10 (N.a.es.eraseIdx iq5))).set j (Rw N v10 (N.a.change+1) (N.a.es.eraseIdx iq5))).map RN.a=Ao ((L.set j (Rx N v10 (N.a.es.eraseIdx iq5))).map RN.a) (n,g):=C8 hn1 hy1 hh rfl
 exact ⟨v14,L16,by rw [hT0,hA17,h2,h1];rfl,by rw [hT0];rfl,rfl⟩
 exact absurd hen (hno9 e (List.mem_of_getElem? he))
theorem Ym (n g:Int):Ap Tryz.prog 43 #[Pp b,Hg n g] [Rt b mst vl vt,rRL vl L] (fun u L'=>∃ L2:List RN,L2.map RN.a=(if Ei (L.map RN.a) (n,g)=0 then Gv (L.map RN.a) (n,g) 1 else (L.map RN.a))∧u=Ii ((Ei (L.map RN.a) (n,g):Nat):Int)∧L'=[Rt b mst vl vt,rRL vl L2]):=by
 have hl:=hok.hl
 have hnod:=hok.hnod
 have hent:=hok.hent
 have hfew:=hok.hfew
 refine Zo 19 Tryz.func43 fun E w0 w h=>?_
 refine Qs (ZN [Ii n,Ii g] 34 h fun k1 w h=>ZP (Ii 0) (Qm (ZP (Pp b) (ZG h (Gla 0 [Ii n,Ii g] 0) ?_))))
 refine ZD [1,1] (Jb b mst vl vt L n g (by omega)) h ?_;rintro v_ L_ w (⟨hno7,rfl,rfl⟩|⟨j2,N3,hx4,hh5,hkd6,rfl,rfl⟩|⟨j2,N3,hx4,hh5,hkd6,rfl,rfl⟩) h
 refine ZP (Ii 10) (Qu (ZP (Ii 10) (ZP (.bool false) (Fs (ZP (Ii 10) (ZP (Ii 10) (Qr (ZR [Ii 10] [0,0] h ?_))))))))
 have hT:=Wz (A:=L.map RN.a) (h:=(n,g)) (Fx hno7)
 exact ⟨L,by rw [hT];rfl,by rw [hT];rfl,rfl⟩
 refine ZP (Ii 8) (Qu (ZP (Ii 8) (ZP (.bool false) (Fs (ZP (Ii 8) (ZP (Ii 8) (Qr (ZR [Ii 8] [0,0] h ?_))))))))
 have hT:=Aa1 (A:=L.map RN.a) (h:=(n,g)) (Aj hnod hx4 hh5) hkd6
 exact ⟨L,by rw [hT];rfl,by rw [hT];rfl,rfl⟩
 refine ZP (Ii 0) (Qu (ZP (Ii 0) (ZP (.bool true) (Qg (Ah ?_)))))
 have hrD:=hok.at_rng hx4
 refine ZP (Pp b) (ZG h (Gla 0 [Ii n,Ii g] 2) (ZC [0,0] (Cx b mst vl vt L (by omega) hnod j2 N3 hx4 n g hh5) h fun w h=>ZP (Pp N3.nb) (ZP (Pt N3.nb 7) (ZG h (Gr 7 (Ii N3.a.pins) 1 rfl (Cg hx4 7 (by kernel_rfl))) (ZG h (Gw (N3.a.pins+1)) (ZP (Pp N3.nb) (ZP (Pt N3.nb 7) ?_)))))))
 refine Fa rfl (b:=N3.nb) 7 [Ii (N3.a.pins+1)] h 1 rfl (by kernel_rfl) (Li hx4 7 [Ii (N3.a.pins+1)] (⟨N3.nb,N3.vh,N3.ve,⟨N3.a.h,N3.a.kind,N3.a.change,N3.a.s,N3.a.holes,N3.a.es,N3.a.pins+1⟩⟩:RN) (Nat.le_of_ble_eq_true (by kernel_rfl)) (by kernel_rfl) rfl rfl rfl rfl rfl) ?_;intro w h
 have hx8:=Ce (⟨N3.nb,N3.vh,N3.ve,⟨N3.a.h,N3.a.kind,N3.a.change,N3.a.s,N3.a.holes,N3.a.es,N3.a.pins+1⟩⟩:RN) hx4
 refine Qm (ZP (Ii 0) (ZP (Ii 0) (Qr (ZR [Ii 0] [0,0] h ?_))))
 have hT:=Aex (A:=L.map RN.a) (h:=(n,g)) (Aj hnod hx4 hh5) hkd6
 exact ⟨L.set j2 (⟨N3.nb,N3.vh,N3.ve,⟨N3.a.h,N3.a.kind,N3.a.change,N3.a.s,N3.a.holes,N3.a.es,N3.a.pins+1⟩⟩:RN),by rw [hT];exact C8 hnod hx4 hh5 rfl,by rw [hT];rfl,rfl⟩
theorem Si (n g:Int):Ap Tryz.prog 45 #[Pp b,Hg n g] [Rt b mst vl vt,rRL vl L] (fun u L'=>∃ (v':Value) (L2:List RN),L2.map RN.a=(if Ch (L.map RN.a) (n,g)=0 then Gf (Gv (L.map RN.a) (n,g) (-1)) else (L.map RN.a))∧u=Ii ((Ch (L.map RN.a) (n,g):Nat):Int)∧L'=[Rt b mst v' vt,rRL v' L2]):=by
 have hl:=hok.hl
 have hnod:=hok.hnod
 have hent:=hok.hent
 have hfew:=hok.hfew
 refine Zo 28 Tryz.func45 fun E w0 w h=>?_
 refine Qs (ZN [Ii n,Ii g] 34 h fun k1 w h=>ZP (Ii 0) (Qm (ZP (Pp b) (ZG h (Gla 0 [Ii n,Ii g] 0) ?_))))
 refine ZD [1,1] (Jb b mst vl vt L n g (by omega)) h ?_;rintro v_ L_ w (⟨hno7,rfl,rfl⟩|⟨j2,N3,hx4,hh5,hkd6,rfl,rfl⟩|⟨j2,N3,hx4,hh5,hkd6,rfl,rfl⟩) h
 refine ZP (Ii 10) (Qu (ZP (Ii 10) (ZP (.bool true) (Qg (Qs (ZP (Ii 10) (ZP (Ii 10) (Qr (Au (ZR [Ii 10] [0,0] h ?_))))))))))
 have hT:Ch (L.map RN.a) (n,g)=10:=by unfold Ch;rw [Fx hno7]
 exact ⟨vl,L,by rw [hT];rfl,by rw [hT];rfl,rfl⟩
 refine ZP (Ii 8) (Qu (ZP (Ii 8) (ZP (.bool true) (Qg (Qs (ZP (Ii 8) (ZP (Ii 8) (Qr (Au (ZR [Ii 8] [0,0] h ?_))))))))))
 have hT:Ch (L.map RN.a) (n,g)=8:=by unfold Ch;rw [Aj hnod hx4 hh5];simp only [if_neg hkd6]
 exact ⟨vl,L,by rw [hT];rfl,by rw [hT];rfl,rfl⟩
 refine ZP (Ii 0) (Qu (ZP (Ii 0) (ZP (.bool false) (Fs ?_))))
 have hrD:=hok.at_rng hx4
 refine ZP (Pp b) (ZG h (Gla 0 [Ii n,Ii g] 2) (ZC [0,0] (Cx b mst vl vt L (by omega) hnod j2 N3 hx4 n g hh5) h fun w h=>ZP (Pp N3.nb) (Qu (ZP (Pp N3.nb) (ZP (Pp N3.nb) (ZP (Pt N3.nb 7) (ZG h (Gr 7 (Ii N3.a.pins) 1 rfl (Cg hx4 7 (by kernel_rfl))) (ZP (.bool (decide (N3.a.pins=0))) (Qn (Zd (N3.a.pins=0) (fun hc8=>?_) fun hc8=>?_))))))))))
 refine Qs (ZP (Ii 5) (Qr (Au (ZR [Ii 5] [0,0] h ?_))))
 have hT:Ch (L.map RN.a) (n,g)=5:=by unfold Ch;rw [Aj hnod hx4 hh5];simp only [if_pos hkd6,if_pos (show N3.a.pins=0 by omega)]
 exact ⟨vl,L,by rw [hT];rfl,by rw [hT];rfl,rfl⟩
 refine Ks (ZP (Pp N3.nb) (ZP (Pp N3.nb) (ZP (Pt N3.nb 7) (ZG h (Gr 7 (Ii N3.a.pins) 1 rfl (Cg hx4 7 (by kernel_rfl))) (ZG h (Gw (N3.a.pins - 1)) (ZP (Pp N3.nb) (ZP (Pt N3.nb 7) ?_)))))))
 refine Fa rfl (b:=N3.nb) 7 [Ii (N3.a.pins - 1)] h 1 rfl (by kernel_rfl) (Li hx4 7 [Ii (N3.a.pins - 1)] (⟨N3.nb,N3.vh,N3.ve,⟨N3.a.h,N3.a.kind,N3.a.change,N3.a.s,N3.a.holes,N3.a.es,N3.a.pins - 1⟩⟩:RN) (Nat.le_of_ble_eq_true (by kernel_rfl)) (by kernel_rfl) rfl rfl rfl rfl rfl) ?_;intro w h
 have hx9:=Ce (⟨N3.nb,N3.vh,N3.ve,⟨N3.a.h,N3.a.kind,N3.a.change,N3.a.s,N3.a.holes,N3.a.es,N3.a.pins - 1⟩⟩:RN) hx4
 refine Qm (ZP (Pp b) ?_)
 refine ZD [0,0] (Mz b mst vl vt (L.set j2 (⟨N3.nb,N3.vh,N3.ve,⟨N3.a.h,N3.a.kind,N3.a.change,N3.a.s,N3.a.holes,N3.a.es,N3.a.pins - 1⟩⟩:RN)) c (by omega) (hok.setC (N':=(⟨N3.nb,N3.vh,N3.ve,⟨N3.a.h,N3.a.kind,N3.a.change,N3.a.s,N3.a.holes,N3.a.es,N3.a.pins - 1⟩⟩:RN)) hx4 rfl rfl ⟨by show 0≤N3.a.change;omega,by show N3.a.change≤c;omega,by show 0≤N3.a.pins - 1;omega,by show N3.a.pins - 1≤c;omega⟩)) h ?_;rintro u11 L_ w ⟨v10,rfl⟩ h
 refine Qm (ZP (Ii 0) (Qr (ZR [Ii 0] [0,0] h ?_)))
 have hT:Ch (L.map RN.a) (n,g)=0:=by unfold Ch;rw [Aj hnod hx4 hh5];simp only [if_pos hkd6,if_neg (show ¬N3.a.pins=0 by omega)]
 have hS:(L.set j2 (⟨N3.nb,N3.vh,N3.ve,⟨N3.a.h,N3.a.kind,N3.a.change,N3.a.s,N3.a.holes,N3.a.es,N3.a.pins - 1⟩⟩:RN)).map RN.a=Gv (L.map RN.a) (n,g) (-1):=C8 hnod hx4 hh5 rfl
 refine ⟨v10,(L.set j2 (⟨N3.nb,N3.vh,N3.ve,⟨N3.a.h,N3.a.kind,N3.a.change,N3.a.s,N3.a.holes,N3.a.es,N3.a.pins - 1⟩⟩:RN)).filter (fun N=>Eg ((L.set j2 (⟨N3.nb,N3.vh,N3.ve,⟨N3.a.h,N3.a.kind,N3.a.change,N3.a.s,N3.a.holes,N3.a.es,N3.a.pins - 1⟩⟩:RN)).map RN.a) N.a),?_,by rw [hT];rfl,rfl⟩
 rw [hT,Pa (p:=Eg ((L.set j2 (⟨N3.nb,N3.vh,N3.ve,⟨N3.a.h,N3.a.kind,N3.a.change,N3.a.s,N3.a.holes,N3.a.es,N3.a.pins - 1⟩⟩:RN)).map RN.a)),hS]
 rfl
end
section
variable {P:Program} {w:World} {ops:Array Oper} {rest:List Oper} {o:Oper} {a:Act} {Q:Exit→Act→World→Prop}
end
def Gy (kv:Du) (j:Nat):UInt8:=((G4 kv (j/64))[j % 64]?).getD 0
def N0 (kv:Du) (p m:Nat):List UInt8:=(List.range m).map fun i=>Gy kv (p+i)
def Kg (sz:Nat) (p n:Int):Nat:=(max 0 (min n (sz - p))).toNat
def Aas (d:Fh) (p n:Int):ByteArray×Bool×Nat:=
  if p<0∨n<0 then (⟨#[]⟩,false,2) else (⟨(N0 d.kv p.toNat (Kg d.size p n)).toArray⟩,decide ((d.size:Int) - Kg d.size p n≤p),0)
theorem Acc (m:Nat):(Dv (List.replicate m 0)).toArray=Array.replicate m (.int .u8 0):=by
  simp [Dv]
theorem Aar (w:World) (m:Nat) (hm:m≤281474976710656) :
    (Instr.makeSlice 167 (.int .i64 (m:Int)) (.int .i64 (m:Int))).run Tryz.prog w=.ok (.slice (some ⟨w.heap.size,0,none⟩) m m) (w.alloc (.cells (Dv (List.replicate m 0)).toArray 5)):=by
  obtain ⟨i,hi,hz0,hz1,hz2⟩:=info_parts (show (Tryz.prog.info? 5).map (fun i=>(i.zero,i.size,i.bytes))=some (some (.int .u8 0),1,1) by kernel_rfl)
  have h:=run_make (P:=Tryz.prog) w 167 5 i (.int .u8 0) Tryz.underlying167 hi hz0 .i64 .i64 m m (by omega) (by omega) (by rw [hz2];omega) (by omega)
  rw [h]
  have e:madeCells (Value.cells (.int .u8 0)) ((m:Int).toNat*i.size)=(Dv (List.replicate m 0)).toArray:=by
    rw [hz1,Acc]
    apply Array.ext
    · simp [madeCells]
    · intro i h1 h2
      simp [madeCells,Value.cells,Nat.mod_one]
  rw [e];simp
theorem O1 (k n:Int) (cs:List Value) (nb:Nat) (w:World) (hk:0≤k∧k<64) (hn:w.cell? ⟨nb,0,none⟩=some (.int .i64 n)) :
    Calls Tryz.prog 96 #[.int .i64 k,.agg cs.toArray,.pointer (some ⟨nb,0,none⟩)] w fun e w'=>e=.returned (.bool (decide (n≤k*64)))∧Chg Nil w w':=by
  obtain ⟨hk0,hk1⟩:=hk
  have hnl:=World.block_lt_of_cell? _ _ hn
  go_enter Tryz.func96,Tryz.ntmps96
  go_wp2
  go_ret
  exact ⟨rfl,(Chg.refl _ _).alloc _⟩
def F6:Array Value:=#[.int .u8 0,.int .u8 0,.int .u8 0,.int .u8 0,.int .u8 0,.int .u8 0,.int .u8 0,.int .u8 0,.int .u8 0,.int .u8 0,.int .u8 0,.int .u8 0,.int .u8 0,.int .u8 0,.int .u8 0,.int .u8 0,.int .u8 0,.int .u8 0,.int .u8 0,.int .u8 0,.int .u8 0,.int .u8 0,.int .u8 0,.int .u8 0,.int .u8 0,.int .u8 0,.int .u8 0,.int .u8 0,.int .u8 0,.int .u8 0,.int .u8 0,.int .u8 0,.int .u8 0,.int .u8 0,.int .u8 0,.int .u8 0,.int .u8 0,.int .u8 0,.int .u8 0,.int .u8 0,.int .u8 0,.int .u8 0,.int .u8 0,.int .u8 0,.int .u8 0,.int .u8 0,.int .u8 0,.int .u8 0,.int .u8 0,.int .u8 0,.int .u8 0,.int .u8 0,.int .u8 0,.int .u8 0,.int .u8 0,.int .u8 0,.int .u8 0,.int .u8 0,.int .u8 0,.int .u8 0,.int .u8 0,.int .u8 0,.int .u8 0,.int .u8 0]
theorem Chg.setCells {S:Nat→Prop} {a w:World} (h:Chg S a w) {b:Nat} (hp:a.heap.size≤b∨S b) (o:Nat) (vs:List Value):Chg S a (w.setCells b o vs):=
  h.trans (Fc vs o w) (fun x hx e=>by have:x=b:=e;subst this;rcases hp with hp|hp;omega;exact hp)
def Gk (n:Int) (vis:Int→Bool) (kv:Du):Du:=kv.filter fun p=>!(vis p.1&&decide (n≤p.1*64))
theorem Qh (n:Int) (kv:Du):Gk n (fun _=>false) kv=kv:=by simp [Gk]
theorem Tv {n:Int} {vis:Int→Bool} {kv:Du} {p:Int×List UInt8} (h:p∈Gk n vis kv):p∈kv:=(List.mem_filter.1 h).1
theorem Zk {n k:Int} {vis:Int→Bool} {kv:Du} (h:¬n≤k*64):Gk n (fun x=>vis x||decide (x=k)) kv=Gk n vis kv:=by
  unfold Gk
  refine List.filter_congr (fun p _=>?_)
  by_cases e:p.1=k
  · simp [e,h]
  · simp [e]
theorem Io {α β:Type} [DecidableEq α] (k:α) (P:α×β→Bool):∀ (kv:List (α×β)),(kv.map (·.1)).Nodup→Ak (kv.filter P) k=kv.filter fun p=>P p&&!decide (p.1=k)
  | [],_=>rfl
  | p::r,h=>by
    simp only [List.map_cons,List.nodup_cons] at h
    by_cases e:p.1=k
    · have hr:∀ q∈r,¬q.1=k:=fun q hq e2=>h.1 (by rw [e,← e2];exact List.mem_map.2 ⟨q,hq,rfl⟩)
      have h1:r.filter (fun p=>P p&&!decide (p.1=k))=r.filter P:=List.filter_congr (fun q hq=>by simp [hr q hq])
      have h2:Ak (r.filter P) k=r.filter P:=by
        have:∀ l:List (α×β),(∀ q∈l,¬q.1=k)→Ak l k=l:=by
          intro l
          induction l with
          | nil=>intro _;rfl
          | cons q l ih=>
            intro hl
            unfold Ak
            rw [if_neg (fun e=>hl q (List.mem_cons_self ..) e.symm),ih (fun q hq=>hl q (List.mem_cons_of_mem _ hq))]
        exact this _ (fun q hq=>hr q ((List.mem_filter.1 hq).1))
      by_cases hp:P p=true
      · simp [List.filter_cons,hp,e,Ak,h1]
      · simp [List.filter_cons,hp,e,h1,h2]
    · have e':¬k=p.1:=fun x=>e x.symm
      by_cases hp:P p=true
      · simp [List.filter_cons,hp,e,Ak,e',Io k P r h.2]
      · simp [List.filter_cons,hp,e,Io k P r h.2]
theorem Sm {n k:Int} {vis:Int→Bool} {kv:Du} (h:n≤k*64) (hk:vis k=false) (hd:(kv.map (·.1)).Nodup):Ak (Gk n vis kv) k=Gk n (fun x=>vis x||decide (x=k)) kv:=by
  unfold Gk
  rw [Io k _ kv hd]
  refine List.filter_congr (fun p _=>?_)
  by_cases e:p.1=k
  · simp [e,h]
  · simp [e]
theorem Acf {n:Int} {vis:Int→Bool} {kv:Du} (h:∀ p∈Gk n vis kv,vis p.1=true):Gk n vis kv=kv.filter fun p=>!decide (n≤p.1*64):=by
  unfold Gk at *
  refine List.filter_congr (fun p hp=>?_)
  cases hv:vis p.1 with
  | true=>simp
  | false=>
    have:=h p (List.mem_filter.2 ⟨hp,by simp [hv]⟩)
    rw [hv] at this;cases this
def Fl (vis:Int→Bool) (kv:Du):Nat:=(kv.filter fun p=>!vis p.1).length
theorem Ms {vis:Int→Bool} {k:Int} {l:List UInt8}:∀ {kv:Du},(k,l)∈kv→vis k=false→Fl (fun x=>vis x||decide (x=k)) kv<Fl vis kv
  | [],h,_=>by cases h
  | p::r,h,hk=>by
    have mono:∀ kv:Du,Fl (fun x=>vis x||decide (x=k)) kv≤Fl vis kv:=by
      intro kv
      unfold Fl
      rw [← List.countP_eq_length_filter,← List.countP_eq_length_filter]
      exact List.countP_mono_left (fun p _ hp=>by simp at hp ⊢;exact hp.1)
    rcases List.mem_cons.1 h with rfl|h
    · have:=mono r
      simp only [Fl,List.filter_cons,hk,Bool.false_or,decide_true,Bool.not_true,Bool.not_false,if_true,Bool.false_eq_true,if_false,List.length_cons] at this ⊢
      omega
    · have:=Ms h hk
      unfold Fl at this ⊢
      simp only [List.filter_cons]
      cases hv:vis p.1<;>by_cases e:p.1=k<;>simp [e,hv] at this ⊢<;>omega
theorem Wb {vis:Int→Bool} {kv kv':Du} (h:kv'.Sublist kv):Fl vis kv'≤Fl vis kv:=(h.filter _).length_le
theorem Abw {n k:Int} {vis:Int→Bool} {kv:Du}:(Gk n (fun x=>vis x||decide (x=k)) kv).Sublist (Gk n vis kv):=by
  have:Gk n (fun x=>vis x||decide (x=k)) kv=(Gk n vis kv).filter (fun p=>!(decide (p.1=k)&&decide (n≤p.1*64))):=by
    unfold Gk;rw [List.filter_filter];refine List.filter_congr (fun p _=>?_)
    show (!((vis p.1||decide (p.1=k))&&decide (n≤p.1*64)))=_
    cases vis p.1<;>cases decide (p.1=k)<;>cases decide (n≤p.1*64)<;>rfl
  rw [this];exact List.filter_sublist
def RelD (kv:Du) (n:Int) (rm r:Nat) (w:World) (g:Nat) (wr:World):Prop:=
  ∃ vis,Gh wr rm r ik (Gc (Gk n vis kv)) vis∧g=Fl vis (Gk n vis kv)∧Chg (fun x=>x=rm∨w.heap.size≤x) w wr
theorem Vo {w:World} {rm:Nat} {kv:Du} (h:D7 w rm ik (Gc kv)):(kv.map (·.1)).Nodup:=by
  have:=h.nodup
  simpa [Gc,List.map_map,Function.comp_def] using this
theorem Acn {k:Int} {v:Value} {kv:Du} (h:(k,v)∈Gc kv):∃ l,(k,l)∈kv∧v=Oy l:=by
  obtain ⟨p,hp,e⟩:=List.mem_map.1 h
  simp only [Prod.mk.injEq] at e
  obtain ⟨rfl,rfl⟩:=e
  exact ⟨p.2,hp,rfl⟩
theorem Sd (rm nb:Nat) (n:Int) (kv:Du) (w:World) (hA:D7 w rm ik (Gc kv)) (hf:Ir kv) (hn:w.cell? ⟨nb,0,none⟩=some (.int .i64 n)) (hne:nb≠rm) :
    Calls Tryz.prog 95 #[.map (some rm),.func (.func 96) #[] #[.pointer (some ⟨nb,0,none⟩)]] w fun e w'=>
      e=.returned (.tuple #[])∧Chg (·=rm) w w'∧D7 w' rm ik (Gc (kv.filter fun p=>!decide (n≤p.1*64))):=by
  have HD:=Lib.hid (Vo hA)
  have hnl:=World.block_lt_of_cell? _ _ hn
  have hml:=hA.lt
  have HA:=Lib.hid hA
  have HF:=Lib.hid hf
  clear hA hf
  go_enter Tryz.func95,Tryz.ntmps95
  go_wp2_with (at_range;refine Px rfl _ 144 rfl _ _ Tryz.underlying144 rm rfl HA.out ?_;intro w0 hi0 hC0 hz0)
  go_loopg [8] (Fl (fun _=>false) kv) (fun g v wr=>RelD kv n rm w.heap.size w g wr)
  case atStart=>exact ⟨fun _=>false,by rw [Qh];exact hi0,by rw [Qh],hC0.mono (fun _ _ f=>f.elim)⟩
  case round=>
    obtain ⟨vis,hi,hg,hC⟩:=hrel
    have HG:=Lib.hid hg
    have HI:=Lib.hid hi
    clear hg hi hi0
    rename_i wr
    have d0:=(hC.cell (p:=⟨nb,0,none⟩) hnl (fun h=>by rcases h with h|h;exact hne h;simp at h;omega)).trans hn
    have hz:=hC.size
    go_wp2_with (at_next;refine R8 rfl _ rfl rm w.heap.size rfl vis HI.out Ky.inj ?_ ?_)
    · intro hall
      go_wp2
      go_end0
      refine ⟨rfl,hC.mono (fun x hx h=>by rcases h with h|h;exact h;omega),?_⟩
      have hm:=HI.out.map
      rw [Acf (fun p hp=>?_)] at hm
      · exact hm
      · exact hall _ _ (List.mem_map.2 ⟨p,hp,rfl⟩)
    · intro k v w1 hk hv hi1 hC1 hz1 hen
      obtain ⟨l,hkl,rfl⟩:=Acn hk
      have hl64:=(HF.out _ (Tv hkl)).1
      have hk0:=(HF.out _ (Tv hkl)).2
      simp only at hl64 hk0
      have HKL:=Lib.hid hkl
      have HV:=Lib.hid hv
      have HI1:=Lib.hid hi1
      have HL:=Lib.hid hl64
      have hil:=HI.out.lt
      have e0:=(hC1.cell (p:=⟨nb,0,none⟩) (by simp;omega) (fun h=>by have:nb=w.heap.size:=h;omega)).trans d0
      simp only [ik,Oy] at hen
      clear hk hkl hv hi1 hl64 hz1
      have hC2w:∀ {w2:World} {o:Obj},Chg (·=w1.heap.size) (w1.alloc o) w2→Gh w2 rm w.heap.size ik (Gc (Gk n vis kv)) (fun x=>vis x||decide (x=k))∧w2.cell? ⟨nb,0,none⟩=some (.int .i64 n)∧Chg (fun x=>x=rm∨w.heap.size≤x) w w2:=fun {w2 o} hC2=>by
        have c:Chg Nil w1 w2:=((Chg.refl Nil w1).alloc o).trans hC2 (fun x hx e=>by have:x=w1.heap.size:=e;omega)
        have hz1:=hC1.size
        exact ⟨HI1.out.keep c (fun f=>f) (fun f=>f),(c.cell (p:=⟨nb,0,none⟩) (by simp;omega) (fun f=>f)).trans e0,(hC.trans hC1 (fun x hx e=>.inr (by have:x=w.heap.size:=e;omega))).then c.nil⟩
      simp only [ik,Oy]
      clear hC1
      by_cases hkn:n≤k*64
      · go_wp2_with (first
          | (refine Is rfl 171 _ _ rfl w1.heap.size (Dv l) 64 rfl rfl (Bu w1 _) rfl Ja ((Em _).trans HL.out) (Ic _) ?_;intro w2 hb2 hC2 hz2;have HB2:=Lib.hid hb2;have g2:=hC2w hC2;clear hb2 hz2)
          | (refine L9 rfl 171 _ rfl w1.heap.size (Dv l) 64 _ rfl HB2.out Tryz.underlying171 rfl Ja ((Em _).trans HL.out) ?_)
          | (go_at_call 96;refine (O1 k n (Dv l) nb _ hk0 g2.2.1).mono ?_;rintro e w3 ⟨rfl,hC3⟩;have hi3:=g2.1.keep hC3 (fun f=>f) (fun f=>f);have HC3:=Lib.hid (g2.2.2.then hC3.nil))
          | (at_delete;refine Lz rfl _ _ 144 3 rfl _ _ Tryz.underlying144 Ky rm w.heap.size rfl _ hi3 k rfl ?_;intro w4 hi4 hC4 hz4))
        have hst:Ak (Gc (Gk n vis kv)) k=Gc (Gk n (fun x=>vis x||decide (x=k)) kv):=by
          rw [← Sm hkn HV.out HD.out];exact T5 Oy _ k
        rw [hst] at hi4
        have hlt:Fl (fun x=>vis x||decide (x=k)) (Gk n (fun x=>vis x||decide (x=k)) kv)<Fl vis (Gk n vis kv):=by
          have h1:=Ms HKL.out HV.out
          have h2:=Wb (vis:=fun x=>vis x||decide (x=k)) (Abw (n:=n) (k:=k) (vis:=vis) (kv:=kv))
          omega
        go_roundg (Fl (fun x=>vis x||decide (x=k)) (Gk n (fun x=>vis x||decide (x=k)) kv))
        case measure=>rw [HG.out];exact hlt
        case rel=>exact ⟨_,hi4,rfl,HC3.out.trans hC4 (fun x hx e=>.inl e)⟩
      · go_wp2_with (first
          | (refine Is rfl 171 _ _ rfl w1.heap.size (Dv l) 64 rfl rfl (Bu w1 _) rfl Ja ((Em _).trans HL.out) (Ic _) ?_;intro w2 hb2 hC2 hz2;have HB2:=Lib.hid hb2;have g2:=hC2w hC2;clear hb2 hz2)
          | (refine L9 rfl 171 _ rfl w1.heap.size (Dv l) 64 _ rfl HB2.out Tryz.underlying171 rfl Ja ((Em _).trans HL.out) ?_)
          | (go_at_call 96;refine (O1 k n (Dv l) nb _ hk0 g2.2.1).mono ?_;rintro e w3 ⟨rfl,hC3⟩;have hi3:=g2.1.keep hC3 (fun f=>f) (fun f=>f);have HC3:=Lib.hid (g2.2.2.then hC3.nil)))
        have hst:Gk n (fun x=>vis x||decide (x=k)) kv=Gk n vis kv:=Zk (by omega)
        rw [← hst] at hi3
        have hlt:Fl (fun x=>vis x||decide (x=k)) (Gk n (fun x=>vis x||decide (x=k)) kv)<Fl vis (Gk n vis kv):=by
          rw [hst];exact Ms HKL.out HV.out
        go_roundg (Fl (fun x=>vis x||decide (x=k)) (Gk n (fun x=>vis x||decide (x=k)) kv))
        case measure=>rw [HG.out];exact hlt
        case rel=>exact ⟨_,hi3,rfl,HC3.out⟩
def Jr (kv:Du) (n:Nat):Du:=match Ae kv ((n/64:Nat):Int) with
  | none=>kv
  | some l=>Az kv ((n/64:Nat):Int) (l.take (n % 64)++List.replicate (64 - n % 64) 0)
def B4 (d:Fh) (n:Int):Fh×Nat:=
  if n<0∨4096<n then (d,2) else if n<d.size then (⟨n.toNat,Jr (d.kv.filter fun p=>!decide (n≤p.1*64)) n.toNat⟩,0) else (⟨n.toNat,d.kv⟩,0)
theorem Acl {w:World} {mv:Value} {kv:Du} (h:Ju w mv ik (Gc kv)) (q:Nat):(Instr.lookup 144 mv (.int .i64 q) true).run Tryz.prog w=.ok (.tuple #[.agg (Dv (G4 kv q)).toArray,.bool (Ae kv (q:Int)).isSome]) w:=by
  have hk:=h.run_lookup (T:=144) Ky Tryz.underlying144 (S2 w) (q:Int) true
  rw [show (Value.int .i64 (q:Int))=ik (q:Int) from rfl,hk]
  simp only [Gc,O2,if_true,G4]
  cases Ae kv (q:Int)<;>rfl
theorem Ad2 (w:World):(zeroValue 5).run Tryz.prog w=.ok (.int .u8 0) w:=by kernel_rfl
theorem V7 (g r:Nat) (w:World) (hr:r<64):(Instr.sliceAt 171 (.pointer (some ⟨g,0,none⟩)) (some (.int .i64 (r:Int))) none none).run Tryz.prog w=.ok (.slice (some ⟨g,r,none⟩) (64 - r) (64 - r)) w:=by
  have hsz:(sizeOf 5).run Tryz.prog w=.ok 1 w:=by kernel_rfl
  have hne:¬64=r:=by omega
  simp [Instr.sliceAt,Instr.sliceBounds,run_underlying Tryz.underlying171,Instr.sureAddr,hsz,hne,Addr.add_lit,run_sliceBound (P:=Tryz.prog) w .i64 (r:Int) 64 .sliceB (by omega) (by omega)]
theorem U4 (g r:Nat) (w:World) (cs:List Value) (hr:r<64) (hb:w.heap[g]?=some (.cells cs.toArray 171 (0,0))) (hl:cs.length=64) (ty:TypeId) :
    (Builtin.clear_ #[167] ty #[.slice (some ⟨g,r,none⟩) (64 - r) (64 - r)]).run Tryz.prog w=.ok (.tuple #[]) (w.setCells g r (Dv (List.replicate (64 - r) 0))):=by
  have e:Dv (List.replicate (64 - r) 0)=List.replicate (64 - r) (.int .u8 0):=by simp [Dv]
  rw [e]
  exact Lib.run_clear_slice w 167 5 ty (.int .u8 0) Tryz.underlying167 Ad2 rfl rfl g r (64 - r) (64 - r) (by omega) (fun j hj=>by rw [Be hb];simp [hl];omega) (fun j hj=>Ed hb _)
def Ol (mv:Value):Nat→Prop:=fun x=>mv=.map (some x)
theorem P6 (mv:Value) (nb:Nat) (n:Int) (kv:Du) (w:World) (hM:Ju w mv ik (Gc kv)) (hf:Ir kv) (hn:w.cell? ⟨nb,0,none⟩=some (.int .i64 n)) (hne:¬Ol mv nb) :
    Calls Tryz.prog 95 #[mv,.func (.func 96) #[] #[.pointer (some ⟨nb,0,none⟩)]] w fun e w'=>
      e=.returned (.tuple #[])∧Chg (Ol mv) w w'∧Ju w' mv ik (Gc (kv.filter fun p=>!decide (n≤p.1*64))):=by
  rcases hM with ⟨rfl,hkv⟩|⟨rm,rfl,hA⟩
  · have hk0:kv=[]:=by simpa [Gc] using hkv
    subst hk0
    have hrg:=run_range_nilMap (P:=Tryz.prog) w 144 _ _ Tryz.underlying144
    have hnx:∀ ty,(Instr.next (.pointer (some ⟨w.heap.size,0,none⟩)) false ty).run Tryz.prog (w.alloc (.mapIter none 0 #[] 0))=_:=fun ty=>run_next_nilMap _ ty 0 0 #[]
    clear hkv
    go_enter Tryz.func95,Tryz.ntmps95
    go_wp2
    refine wp_loop_rounds 1 ?_
    rw [rounds_succ]
    go_wp2
    go_end0
    exact ⟨rfl,(Chg.refl _ _).alloc _,.inl ⟨rfl,rfl⟩⟩
  · refine (Sd rm nb n kv w hA hf hn (fun e=>hne (by unfold Ol;rw [e]))).mono ?_
    rintro e w' ⟨h1,h2,h3⟩
    exact ⟨h1,h2.mono (fun x _ e=>by have:x=rm:=e;subst this;rfl),.inr ⟨rm,rfl,h3⟩⟩
structure W6 (b n:Nat) (d:Fh) (mv:Value) (T:TypeId) (S:Nat→Prop) (w w2:World) (kv2:Du):Prop where
  chg:Chg S w w2
  blk:w2.heap[b]?=some (.cells #[.int .i64 d.size,mv] T (0,0))
  box:w2.heap[w.heap.size]?=some (.cells #[.int .i64 n] 3 (0,0))
  map:Ju w2 mv ik (Gc kv2)
  full:Ir kv2
theorem Oi {w wr:World} {b n:Nat} {v:Int} {mv:Value} {kv:Du} {S:Nat→Prop} {T:TypeId} {z:Value} (hS:S b) (hlt:∀ x,S x→x<w.heap.size) (hmS:∀ r,mv=.map (some r)→S r) (hC:Chg S w wr) (hb:wr.heap[b]?=some (.cells #[z,mv] T (0,0)))
    (hM:Ju wr mv ik (Gc kv)) (hv:v=n) (hsm:n≤4096) (hf:Ir kv) :
    Chg S w (wr.setCell ⟨b,0,none⟩ (.int .i64 v))∧∃ S',He (wr.setCell ⟨b,0,none⟩ (.int .i64 v)) b ⟨n,kv⟩ S'∧I0 S S' w (wr.setCell ⟨b,0,none⟩ (.int .i64 v)):=by
  rcases hM with ⟨rfl,hkv⟩|⟨rm,rfl,hA⟩
  · subst hv
    have hb2:=Cw hb 0 (.int .i64 n)
    simp at hb2
    have hz:=hC.size
    exact ⟨hC.setCell (.inr hS) _,S,⟨⟨_,T,hb2,.inl ⟨rfl,hkv⟩,fun r h=>by cases h⟩,hS,fun x hx=>by have:=hlt x hx;simp;omega,hsm,hf⟩,I0.refl _ _ _⟩
  · exact Wv hS hlt hC hb hA (.inl (hmS rm rfl)) hv hsm hf
theorem Tf {B:Nat} (ad:Nat→Addr) (b n:Nat) (d:Fh) (S:Nat→Prop) (w:World) (mv:Value) (T:TypeId) (hS:S b) (hlt:∀ x,S x→x<w.heap.size) (hsm:d.size≤4096) (hfl:Ir d.kv) (hn:n<d.size)
    (hb:w.heap[b]?=some (.cells #[.int .i64 d.size,mv] T (0,0))) (hmv:Ju w mv ik (Gc d.kv)) (hmS:∀ r,mv=.map (some r)→S r) (hok:(Ae (d.kv.filter fun p=>!decide ((n:Int)≤p.1*64)) ((n/64:Nat):Int)).isSome=false) :
    Calls Tryz.prog 77 #[.pointer (some ⟨b,0,none⟩),.int .i64 n] w fun e w'=>
      e=.returned .nilIface∧Chg S w w'∧∃ S',He w' b ⟨n,Jr (d.kv.filter fun p=>!decide ((n:Int)≤p.1*64)) n⟩ S'∧I0 S S' w w':=by
  have hc0:=Be hb 0
  have hc1:=Be hb 1
  simp only [List.getElem?_toArray,List.getElem?_cons_zero,List.getElem?_cons_succ] at hc0 hc1
  have hbl:=lt_of_block hb
  have g0:(0:Int)≤(n:Int):=by omega
  have g1:(n:Int)≤4096:=by omega
  have g2:(n:Int)<(d.size:Int):=by omega
  obtain ⟨q,hq⟩:∃ q:Nat,q=n/64:=⟨_,rfl⟩
  obtain ⟨r,hr⟩:∃ r:Nat,r=n % 64:=⟨_,rfl⟩
  have e1:(n:Int)/64=(q:Int):=by omega
  have e2:(n:Int) % 64=(r:Int):=by omega
  have hr64:r<64:=by omega
  have hnb:¬Ol mv b:=fun e=>by
    rcases hmv with ⟨h,_⟩|⟨rm,h,hA⟩
    · rw [h] at e;cases e
    · rw [h] at e;cases e;exact Afu hb hA rfl
  have hnx:¬Ol mv w.heap.size:=fun e=>by have:=hlt _ (hmS _ e);omega
  have hml:∀ r,mv=.map (some r)→r<w.heap.size:=fun r h=>hlt _ (hmS r h)
  have HB:=Lib.hid hb
  have HMV:=Lib.hid hmv
  have HF:=Lib.hid hfl
  have HQ:=Lib.hid hq
  have HR:=Lib.hid hr
  have HOK:=Lib.hid hok
  have HMS:=Lib.hid hmS
  have HML:=Lib.hid hml
  clear hb hmv hq hr hok hmS hml
  go_enter Tryz.func77,Tryz.ntmps77
  go_wp2_with fail
  go_quiet (fail)
  go_wp2_with fail
  have hA0:Chg Nil w ((w.alloc (.cells #[.int .i64 n] 3)).drewN nq):=((Chg.refl _ _).alloc _).drewsN _
  have hbx:((w.alloc (.cells #[.int .i64 n] 3)).drewN nq).heap[w.heap.size]?=some (.cells #[.int .i64 n] 3 (0,0)):=(Chg.drewN (S:=Nil) _ nq).keep (Bu w _) (fun f=>f)
  have HBX:=Lib.hid hbx
  refine (P6 mv w.heap.size n d.kv _ (HMV.out.keep hA0 (fun _ _ f=>f)) HF.out (Be hbx 0) hnx).mono ?_
  clear hbx
  rintro e w2 ⟨rfl,hC2,hM2⟩
  obtain ⟨kv2,hkv2⟩:∃ kv2,kv2=d.kv.filter fun p=>!decide ((n:Int)≤p.1*64):=⟨_,rfl⟩
  rw [← hkv2] at hM2
  have HCt:W6 b n d mv T S w w2 kv2:=⟨hA0.nil.then (hC2.mono (fun x _ h=>HMS.out x h)),hC2.keep (hA0.keep HB.out (fun f=>f)) hnb,hC2.keep HBX.out hnx,hM2,fun p hp=>HF.out p (List.mem_filter.1 (by rw [hkv2] at hp;exact hp)).1⟩
  have HOK2:Hid ((Ae kv2 (q:Int)).isSome=false):=Lib.hid (by rw [hkv2,HQ.out];exact HOK.out)
  have HKV:=Lib.hid hkv2
  clear hkv2 hM2 hC2 hA0
  obtain ⟨l,hl⟩:∃ l,l=G4 kv2 q:=⟨_,rfl⟩
  have hl64:(Dv l).length=64:=by rw [hl,Em];exact Kl HCt.full q
  have HRg:=Lib.hid (fun x (hx:Chg Nil w2 x)=>And.intro (Be (hx.keep HCt.blk (fun f=>f)) 1) (And.intro (Be (hx.keep HCt.box (fun f=>f)) 0) (Acl (w:=x) (HCt.map.keep hx (fun _ _ f=>f)) q)))
  simp only [List.getElem?_toArray,List.getElem?_cons_zero,List.getElem?_cons_succ,← hl,HOK2.out] at HRg
  have HL:=Lib.hid hl
  have HL64:=Lib.hid hl64
  have HCT:=Lib.hid HCt
  clear hl hl64 HCt
  go_wp2_with fail
  have hwq:IntKind.i64.wrap (q:Int)=(q:Int):=IntWalk.i64_in _ (by omega)
  have hu:=Tryz.underlying171
  have hi:(Tryz.prog.info? 171).map (·.size)=some (Dv l).length:=by rw [HL64.out];exact Ja
  have ho:=Ic l
  have hl64:=HL64.out
  have hth:((w2.alloc (.cells F6 171)).drew).there w2.heap.size 0 64:=Pe ((Chg.refl Nil _).drew.keep (Bu w2 (.cells F6 171)) (fun f=>f))
  unfold F6 at hth
  go_region_held3 (fun w'=>w'.cell? ⟨b,1,none⟩=some mv∧w'.cell? ⟨w.heap.size,0,none⟩=some (.int .i64 n)∧(Instr.lookup 144 mv (.int .i64 q) true).run Tryz.prog w'=.ok (.tuple #[.agg (Dv l).toArray,.bool false]) w')
    ((refine HRg.out _ ?_;repeat (first|exact Chg.refl _ _|refine Chg.drew ?_|refine Chg.drewsN ?_ _|refine Chg.alloc ?_ _|refine Chg.setCells ?_ (.inl (by simp)) _ _)))
    (fail)
  all_goals
    obtain ⟨w3,hw3⟩:∃ w3,w3=(w2.alloc (.cells F6 171)).drew.setCells w2.heap.size 0 (Dv l):=⟨_,rfl⟩
    have hb3:w3.heap[w2.heap.size]?=some (.cells (Dv l).toArray 171 (0,0)):=by
      rw [hw3];exact Mo ((Chg.refl Nil _).drew.keep (Bu w2 (.cells F6 171)) (fun f=>f)) (by rw [HL64.out];rfl)
    have hC3:Chg Nil w2 w3:=by
      rw [hw3];exact (((Chg.refl Nil w2).alloc _).drew).setCells (.inl (Nat.le_refl _)) _ _
    unfold F6 at hw3
    rw [← hw3]
    have HW3:=Lib.hid hw3
    clear hw3 hth hu hi ho hl64
    have hcx:=(hC3.cell (p:=⟨w.heap.size,0,none⟩) (lt_of_block HCT.out.box) (fun f=>f)).trans (Be HCT.out.box 0)
    have hcb:=hC3.keep HCT.out.blk (fun f=>f)
    simp only [List.getElem?_toArray,List.getElem?_cons_zero] at hcx
    have HB3:=Lib.hid hb3
    have hc0':=Be hcb 0
    have hf0':=Ed hcb 0
    simp only [List.getElem?_toArray,List.getElem?_cons_zero] at hc0'
    have HCB:=Lib.hid hcb
    clear hb3 hcb
    go_wp2_with fail
    go_ret
    have hdc:Jr (d.kv.filter fun p=>!decide ((n:Int)≤p.1*64)) n=kv2:=by
      rw [← HKV.out]
      unfold Jr
      have:=HOK2.out
      rw [← HQ.out]
      cases hg:Ae kv2 (q:Int) with
      | none=>rfl
      | some x=>rw [hg] at this;cases this
    rw [hdc]
    exact ⟨rfl,Oi hS hlt HMS.out (HCT.out.chg.then hC3.nil) HCB.out (HCT.out.map.keep hC3 (fun _ _ f=>f)) rfl (by omega) HCT.out.full⟩
theorem Uf {B:Nat} (ad:Nat→Addr) (b n:Nat) (d:Fh) (S:Nat→Prop) (w:World) (mv:Value) (T:TypeId) (hS:S b) (hlt:∀ x,S x→x<w.heap.size) (hsm:d.size≤4096) (hfl:Ir d.kv) (hn:n<d.size)
    (hb:w.heap[b]?=some (.cells #[.int .i64 d.size,mv] T (0,0))) (hmv:Ju w mv ik (Gc d.kv)) (hmS:∀ r,mv=.map (some r)→S r) (hok:(Ae (d.kv.filter fun p=>!decide ((n:Int)≤p.1*64)) ((n/64:Nat):Int)).isSome=true) :
    Calls Tryz.prog 77 #[.pointer (some ⟨b,0,none⟩),.int .i64 n] w fun e w'=>
      e=.returned .nilIface∧Chg S w w'∧∃ S',He w' b ⟨n,Jr (d.kv.filter fun p=>!decide ((n:Int)≤p.1*64)) n⟩ S'∧I0 S S' w w':=by
  have hc0:=Be hb 0
  have hc1:=Be hb 1
  simp only [List.getElem?_toArray,List.getElem?_cons_zero,List.getElem?_cons_succ] at hc0 hc1
  have hbl:=lt_of_block hb
  have g0:(0:Int)≤(n:Int):=by omega
  have g1:(n:Int)≤4096:=by omega
  have g2:(n:Int)<(d.size:Int):=by omega
  obtain ⟨q,hq⟩:∃ q:Nat,q=n/64:=⟨_,rfl⟩
  obtain ⟨r,hr⟩:∃ r:Nat,r=n % 64:=⟨_,rfl⟩
  have e1:(n:Int)/64=(q:Int):=by omega
  have e2:(n:Int) % 64=(r:Int):=by omega
  have hr64:r<64:=by omega
  have hnb:¬Ol mv b:=fun e=>by
    rcases hmv with ⟨h,_⟩|⟨rm,h,hA⟩
    · rw [h] at e;cases e
    · rw [h] at e;cases e;exact Afu hb hA rfl
  have hnx:¬Ol mv w.heap.size:=fun e=>by have:=hlt _ (hmS _ e);omega
  have hml:∀ r,mv=.map (some r)→r<w.heap.size:=fun r h=>hlt _ (hmS r h)
  have HB:=Lib.hid hb
  have HMV:=Lib.hid hmv
  have HF:=Lib.hid hfl
  have HQ:=Lib.hid hq
  have HR:=Lib.hid hr
  have HOK:=Lib.hid hok
  have HMS:=Lib.hid hmS
  have HML:=Lib.hid hml
  clear hb hmv hq hr hok hmS hml
  go_enter Tryz.func77,Tryz.ntmps77
  go_wp2_with fail
  go_quiet (fail)
  go_wp2_with fail
  have hA0:Chg Nil w ((w.alloc (.cells #[.int .i64 n] 3)).drewN nq):=((Chg.refl _ _).alloc _).drewsN _
  have hbx:((w.alloc (.cells #[.int .i64 n] 3)).drewN nq).heap[w.heap.size]?=some (.cells #[.int .i64 n] 3 (0,0)):=(Chg.drewN (S:=Nil) _ nq).keep (Bu w _) (fun f=>f)
  have HBX:=Lib.hid hbx
  refine (P6 mv w.heap.size n d.kv _ (HMV.out.keep hA0 (fun _ _ f=>f)) HF.out (Be hbx 0) hnx).mono ?_
  clear hbx
  rintro e w2 ⟨rfl,hC2,hM2⟩
  obtain ⟨kv2,hkv2⟩:∃ kv2,kv2=d.kv.filter fun p=>!decide ((n:Int)≤p.1*64):=⟨_,rfl⟩
  rw [← hkv2] at hM2
  have HCt:W6 b n d mv T S w w2 kv2:=⟨hA0.nil.then (hC2.mono (fun x _ h=>HMS.out x h)),hC2.keep (hA0.keep HB.out (fun f=>f)) hnb,hC2.keep HBX.out hnx,hM2,fun p hp=>HF.out p (List.mem_filter.1 (by rw [hkv2] at hp;exact hp)).1⟩
  have HOK2:Hid ((Ae kv2 (q:Int)).isSome=true):=Lib.hid (by rw [hkv2,HQ.out];exact HOK.out)
  have HKV:=Lib.hid hkv2
  clear hkv2 hM2 hC2 hA0
  obtain ⟨l,hl⟩:∃ l,l=G4 kv2 q:=⟨_,rfl⟩
  have hl64:(Dv l).length=64:=by rw [hl,Em];exact Kl HCt.full q
  have HRg:=Lib.hid (fun x (hx:Chg Nil w2 x)=>And.intro (Be (hx.keep HCt.blk (fun f=>f)) 1) (And.intro (Be (hx.keep HCt.box (fun f=>f)) 0) (Acl (w:=x) (HCt.map.keep hx (fun _ _ f=>f)) q)))
  simp only [List.getElem?_toArray,List.getElem?_cons_zero,List.getElem?_cons_succ,← hl,HOK2.out] at HRg
  have HL:=Lib.hid hl
  have HL64:=Lib.hid hl64
  have HCT:=Lib.hid HCt
  clear hl hl64 HCt
  go_wp2_with fail
  have hwq:IntKind.i64.wrap (q:Int)=(q:Int):=IntWalk.i64_in _ (by omega)
  have hu:=Tryz.underlying171
  have hi:(Tryz.prog.info? 171).map (·.size)=some (Dv l).length:=by rw [HL64.out];exact Ja
  have ho:=Ic l
  have hl64:=HL64.out
  have hth:((w2.alloc (.cells F6 171)).drew).there w2.heap.size 0 64:=Pe ((Chg.refl Nil _).drew.keep (Bu w2 (.cells F6 171)) (fun f=>f))
  unfold F6 at hth
  go_region_held3 (fun w'=>w'.cell? ⟨b,1,none⟩=some mv∧w'.cell? ⟨w.heap.size,0,none⟩=some (.int .i64 n)∧(Instr.lookup 144 mv (.int .i64 q) true).run Tryz.prog w'=.ok (.tuple #[.agg (Dv l).toArray,.bool true]) w')
    ((refine HRg.out _ ?_;repeat (first|exact Chg.refl _ _|refine Chg.drew ?_|refine Chg.drewsN ?_ _|refine Chg.alloc ?_ _|refine Chg.setCells ?_ (.inl (by simp)) _ _)))
    (fail)
  all_goals
    obtain ⟨w3,hw3⟩:∃ w3,w3=(w2.alloc (.cells F6 171)).drew.setCells w2.heap.size 0 (Dv l):=⟨_,rfl⟩
    have hb3:w3.heap[w2.heap.size]?=some (.cells (Dv l).toArray 171 (0,0)):=by
      rw [hw3];exact Mo ((Chg.refl Nil _).drew.keep (Bu w2 (.cells F6 171)) (fun f=>f)) (by rw [HL64.out];rfl)
    have hC3:Chg Nil w2 w3:=by
      rw [hw3];exact (((Chg.refl Nil w2).alloc _).drew).setCells (.inl (Nat.le_refl _)) _ _
    unfold F6 at hw3
    rw [← hw3]
    have HW3:=Lib.hid hw3
    clear hw3 hth hu hi ho hl64
    have hcx:=(hC3.cell (p:=⟨w.heap.size,0,none⟩) (lt_of_block HCT.out.box) (fun f=>f)).trans (Be HCT.out.box 0)
    have hcb:=hC3.keep HCT.out.blk (fun f=>f)
    simp only [List.getElem?_toArray,List.getElem?_cons_zero] at hcx
    have HB3:=Lib.hid hb3
    obtain ⟨rm,hrm⟩:∃ rm,mv=.map (some rm):=by
      rcases HCT.out.map with ⟨_,h⟩|⟨rm,h,_⟩
      · have hk:kv2=[]:=by simpa [Gc] using h
        have:=HOK2.out
        rw [hk] at this;cases this
      · exact ⟨rm,h⟩
    subst hrm
    have hsl:=V7 w2.heap.size r w3 hr64
    have hcl:=U4 w2.heap.size r w3 (Dv l) hr64 hb3 HL64.out
    have HCB:=Lib.hid hcb
    clear hb3 hcb
    go_wp2_with fail
    clear hsl hcl hcx
    obtain ⟨w4,hw4⟩:∃ w4,w4=w3.setCells w2.heap.size r (Dv (List.replicate (64 - r) 0)):=⟨_,rfl⟩
    have hl0:l.length=64:=by have:=HL64.out;rwa [Em] at this
    obtain ⟨nl,hnl⟩:∃ nl,nl=l.take r++List.replicate (64 - r) 0:=⟨_,rfl⟩
    have hb4:w4.heap[w2.heap.size]?=some (.cells (Dv nl).toArray 171 (0,0)):=by
      rw [hw4,hnl]
      have:=Py HB3.out (show r+(Dv (List.replicate (64 - r) (0:UInt8))).length=(Dv l).length by rw [Em,Em,hl0];simp;omega)
      rw [this];simp [Dv]
    have hC4:Chg Nil w2 w4:=by rw [hw4];exact hC3.setCells (.inl (Nat.le_refl _)) _ _
    rw [← hw4]
    have hn:(Dv nl).length=64:=by rw [Em,hnl];simp [hl0];omega
    have hu:=Tryz.underlying171
    have hi:(Tryz.prog.info? 171).map (·.size)=some (Dv nl).length:=by rw [hn];exact Ja
    have ho:=Ic nl
    have hm4:D7 w4 rm ik (Gc kv2):=by
      rcases HCT.out.map.keep hC4 (fun _ _ f=>f) with ⟨h,_⟩|⟨rm',h,hA⟩
      · cases h
      · cases h;exact hA
    have hmlt:=HML.out rm rfl
    have hzz:=HCT.out.chg.size
    have hxl:=lt_of_block HCT.out.box
    have hbne:b≠rm:=fun e=>hnb (by subst e;rfl)
    have HRg4:=Lib.hid (fun x (hx:Chg (·=rm) w4 x)=>And.intro (Be (hx.keep (hC4.keep HCT.out.blk (fun f=>f)) hbne) 1) (And.intro (Be (hx.keep (hC4.keep HCT.out.box (fun f=>f)) (by omega)) 0) (Lq (hx.keep hb4 (by omega)))))
    simp only [List.getElem?_toArray,List.getElem?_cons_zero,List.getElem?_cons_succ] at HRg4
    have HM4:=Lib.hid hm4
    have HB4:=Lib.hid hb4
    have HW4:=Lib.hid hw4
    have HNL:=Lib.hid hnl
    clear hm4 hb4 hw4 hnl hl0
    go_region_held3 (fun w'=>w'.cell? ⟨b,1,none⟩=some (.map (some rm))∧w'.cell? ⟨w.heap.size,0,none⟩=some (.int .i64 n)∧w'.rangeAt w2.heap.size 0 (Dv nl))
      (first|exact HK5.out|(refine HRg4.out _ ?_;repeat (first|exact Chg.refl _ _|refine Chg.drew ?_|refine Chg.drewsN ?_ _|refine Chg.alloc ?_ _|refine Chg.setCells ?_ (.inl (by simp)) _ _)))
      ((refine Jp (val:=Oy nl) Tryz.underlying144 Ky (HM4.out.keep (S:=Nil) (by repeat (first|exact Chg.refl _ _|refine Chg.drew ?_|refine Chg.drewsN ?_ _|refine Chg.alloc ?_ _|refine Chg.setCells ?_ (.inl (by simp)) _ _)) (fun f=>f)) (q:Int) rfl ?_;intro w5 hA5 hC5 hz5;have HC5:=Lib.hid (Chg.then (S:=(·=rm)) (a:=w4) (by repeat (first|exact Chg.refl _ _|refine Chg.drew ?_|refine Chg.drewsN ?_ _|refine Chg.alloc ?_ _|refine Chg.setCells ?_ (.inl (by simp)) _ _)) hC5);have HK5:=Lib.hid (HRg4.out _ HC5.out)))
    have hb5:=HC5.out.keep (hC4.keep HCT.out.blk (fun f=>f)) hbne
    have hx5:=HK5.out.2.1
    have hc5:=Be hb5 0
    have hf5:=Ed hb5 0
    simp only [List.getElem?_toArray,List.getElem?_cons_zero] at hc5
    have HB5:=Lib.hid hb5
    clear hb5 hu hi ho hn
    rw [Uc] at hA5
    have HA5:=Lib.hid hA5
    clear hA5
    go_wp2_with fail
    go_ret
    have hdc:Jr (d.kv.filter fun p=>!decide ((n:Int)≤p.1*64)) n=Az kv2 (q:Int) nl:=by
      rw [← HKV.out]
      unfold Jr
      have:=HOK2.out
      have hl:=HL.out
      unfold G4 at hl
      rw [← HQ.out,← HR.out]
      cases hg:Ae kv2 (q:Int) with
      | none=>rw [hg] at this;cases this
      | some x=>rw [hg] at hl;rw [HNL.out,hl];rfl
    have hnl64:nl.length=64:=by have h:=HL64.out;rw [Em] at h;rw [HNL.out];simp [h];omega
    rw [hdc]
    exact ⟨rfl,Oi hS hlt HMS.out ((HCT.out.chg.then hC4.nil).trans HC5.out (fun x hx e=>by have:x=rm:=e;subst this;exact HMS.out x rfl)) HB5.out (.inr ⟨rm,rfl,HA5.out⟩) rfl (by omega) (Mv HCT.out.full _ hnl64 (by omega))⟩
theorem So {B:Nat} (ad:Nat→Addr) (b:Nat) (n:Int) (d:Fh) (S:Nat→Prop) (w:World) (he:Env B ad [2] w) (ht:He w b d S) :
    Calls Tryz.prog 77 #[.pointer (some ⟨b,0,none⟩),.int .i64 n] w fun e w'=>
      e=.returned (Ag ad (B4 d n).2)∧Chg S w w'∧∃ S',He w' b (B4 d n).1 S'∧I0 S S' w w':=by
  have HT:=Lib.hid ht
  obtain ⟨h2,h2l⟩:=he.get (c:=2) (by simp)
  simp only [gl] at h2 h2l
  clear he
  by_cases hbad:n<0∨4096<n
  · have e1:B4 d n=(d,2):=if_pos hbad
    rw [e1]
    clear e1 ht
    have hgo:n<0∨¬n<0∧4096<n:=by omega
    clear hbad
    rcases hgo with h|⟨h,h'⟩
    all_goals
      go_enter Tryz.func77,Tryz.ntmps77
      go_wp2_with fail
      go_ret
      have c:Chg Nil w (w.alloc (.cells #[.int .i64 n] 3)):=(Chg.refl _ _).alloc _
      exact ⟨rfl,c.nil,S,HT.out.keep c (fun _ _ f=>f),I0.refl _ _ _⟩
  obtain ⟨n,rfl⟩:∃ k:Nat,n=k:=⟨n.toNat,by omega⟩
  by_cases hlt:n<d.size
  · have e1:B4 d n=(⟨n,Jr (d.kv.filter fun p=>!decide ((n:Int)≤p.1*64)) n⟩,0):=by rw [B4,if_neg hbad,if_pos (by omega)];simp
    rw [e1]
    obtain ⟨⟨mv,T,hb,hm,hmS⟩,hS,hltS,hsm,hf⟩:=ht
    cases hok:(Ae (d.kv.filter fun p=>!decide ((n:Int)≤p.1*64)) ((n/64:Nat):Int)).isSome with
    | true=>exact Uf (B:=B) ad b n d S w mv T hS hltS hsm hf hlt hb hm hmS hok
    | false=>exact Tf (B:=B) ad b n d S w mv T hS hltS hsm hf hlt hb hm hmS hok
  · have e1:B4 d n=(⟨n,d.kv⟩,0):=by rw [B4,if_neg hbad,if_neg (by omega)];simp
    rw [e1]
    obtain ⟨⟨mv,T,hb,hm,hmS⟩,hS,hltS,hsm,hf⟩:=ht
    have hc0:=Be hb 0
    have hf0:=Ed hb 0
    simp only [List.getElem?_toArray,List.getElem?_cons_zero] at hc0
    have hbl:=lt_of_block hb
    have HB:=Lib.hid hb
    have HM:=Lib.hid hm
    have HMS:=Lib.hid hmS
    have g0:(0:Int)≤(n:Int):=by omega
    have g1:(n:Int)≤4096:=by omega
    have g2:¬((n:Int)<(d.size:Int)):=by omega
    clear hb hm hmS e1 hbad
    go_enter Tryz.func77,Tryz.ntmps77
    go_wp2_with fail
    go_quiet (fail)
    go_wp2_with fail
    go_ret
    have c:Chg Nil w ((w.alloc (.cells #[.int .i64 n] 3)).drewN nq):=((Chg.refl _ _).alloc _).drewsN _
    exact ⟨rfl,Oi hS hltS HMS.out c.nil (c.keep HB.out (fun f=>f)) (HM.out.keep c (fun _ _ f=>f)) rfl (by omega) hf⟩
theorem Iw {α β:Type} [DecidableEq α] (k k':α) (v:β):∀ (kv:List (α×β)),Ae (Az kv k v) k'=if k'=k then some v else Ae kv k'
  | []=>by simp [Az,Ae]
  | p::r=>by
    unfold Az
    by_cases c:k=p.1
    · rw [if_pos c]
      unfold Ae
      by_cases e:k'=p.1
      · simp [e,c]
      · have:¬k'=k:=fun h=>e (h.trans c)
        simp [e,this]
    · rw [if_neg c]
      unfold Ae
      by_cases e:k'=p.1
      · have:¬p.1=k:=fun h=>c h.symm
        simp [e,this]
      · simp [e,Iw k k' v r]
theorem Ij {α β:Type} [DecidableEq α] (k:α) (P:α→Bool):∀ (kv:List (α×β)),Ae (kv.filter fun p=>P p.1) k=if P k then Ae kv k else none
  | []=>by simp [Ae]
  | p::r=>by
    by_cases c:P p.1=true
    · rw [List.filter_cons_of_pos (by simpa using c)]
      unfold Ae
      by_cases e:k=p.1
      · simp [e,c]
      · simp [e,Ij k P r]
    · rw [List.filter_cons_of_neg (by simpa using c),Ij k P r]
      by_cases e:k=p.1
      · subst e;simp [c]
      · conv=>rhs;unfold Ae
        simp [e]
theorem Acw (kv:Du) (i:Nat) (c:UInt8) (q:Nat):G4 (Pn kv i c) q=if q=i/64 then (G4 kv (i/64)).set (i % 64) c else G4 kv q:=by
  unfold Pn
  conv=>lhs;unfold G4
  rw [Iw]
  by_cases h:q=i/64
  · subst h;rw [if_pos rfl,if_pos rfl];rfl
  · have:¬((q:Int)=((i/64:Nat):Int)):=by omega
    rw [if_neg this,if_neg h];rfl
theorem Yh {kv:Du} (h:Ir kv) (i:Nat) (c:UInt8) (j:Nat):Gy (Pn kv i c) j=if j=i then c else Gy kv j:=by
  unfold Gy
  rw [Acw]
  have hl:=Kl h (i/64)
  by_cases e:j=i
  · subst e
    simp [hl,Nat.mod_lt]
  · rw [if_neg e]
    by_cases q:j/64=i/64
    · have:¬i % 64=j % 64:=by omega
      rw [if_pos q,q,List.getElem?_set_ne this]
    · rw [if_neg q]
theorem O9:∀ (s:List UInt8) {kv:Du} (i:Nat),Ir kv→i+s.length≤4096→∀ j,Gy (F1 kv i s) j=if i≤j∧j<i+s.length then (s[j - i]?).getD 0 else Gy kv j
  | [],kv,i,h,_,j=>by
    rw [if_neg (by simp only [List.length_nil];omega)];rfl
  | c::s,kv,i,h,hl,j=>by
    simp only [List.length_cons] at hl ⊢
    unfold F1
    rw [O9 s (i+1) (Q2 h i (by omega) c) (by omega) j,Yh h]
    by_cases e:j=i
    · subst e
      rw [if_neg (by omega),if_pos rfl,if_pos (by omega)];simp
    · by_cases e2:i≤j∧j<i+(s.length+1)
      · rw [if_pos (by omega),if_pos e2,show j - i=(j - (i+1))+1 by omega];rfl
      · rw [if_neg (by omega),if_neg e,if_neg e2]
theorem Y3 {kv:Du} (h:Ir kv) (n j:Nat):Gy (Jr (kv.filter fun p=>!decide ((n:Int)≤p.1*64)) n) j=if j<n then Gy kv j else 0:=by
  have hf:∀ q:Nat,Ae (kv.filter fun p=>!decide ((n:Int)≤p.1*64)) (q:Int)=if (n:Int)≤q*64 then none else Ae kv (q:Int):=fun q=>by
    rw [Ij (q:Int) (fun k=>!decide ((n:Int)≤k*64)) kv]
    by_cases c:(n:Int)≤q*64<;>simp [c]
  have hz:∀ r:Nat,(Mw[r]?).getD 0=0:=fun r=>by
    unfold Mw;rw [List.getElem?_replicate];split<;>rfl
  have hfb:∀ i,Gy (kv.filter fun p=>!decide ((n:Int)≤p.1*64)) i=if n≤i/64*64 then 0 else Gy kv i:=fun i=>by
    unfold Gy G4
    rw [hf]
    by_cases c:n≤i/64*64
    · rw [if_pos (by omega),if_pos c];exact hz _
    · rw [if_neg (by omega),if_neg c]
  unfold Jr
  have hf2:Ae (kv.filter fun p=>!decide ((n:Int)≤p.1*64)) ((n/64:Nat):Int)=if (n:Int)≤(n/64:Nat)*64 then none else Ae kv ((n/64:Nat):Int):=hf (n/64)
  cases hg:Ae (kv.filter fun p=>!decide ((n:Int)≤p.1*64)) ((n/64:Nat):Int) with
  | none=>
    simp only [hfb]
    by_cases c:j<n
    · rw [if_neg (by omega),if_pos c]
    · rw [if_neg c]
      by_cases c2:n≤j/64*64
      · rw [if_pos c2]
      · rw [if_neg c2]
        have hq:j/64=n/64:=by omega
        rw [hg] at hf2
        unfold Gy G4
        rw [hq]
        by_cases c3:(n:Int)≤((n/64:Nat):Int)*64
        · exfalso;omega
        · rw [if_neg c3] at hf2
          rw [← hf2];exact hz _
  | some l=>
    have hc3:¬(n:Int)≤((n/64:Nat):Int)*64:=fun c=>by rw [if_pos c] at hf2;rw [hg] at hf2;cases hf2
    rw [if_neg hc3,hg] at hf2
    have hl:l.length=64:=(h _ (Ki hf2.symm)).1
    show ((G4 (Az (kv.filter fun p=>!decide ((n:Int)≤p.1*64)) ((n/64:Nat):Int) (l.take (n % 64)++List.replicate (64 - n % 64) 0)) (j/64))[j % 64]?).getD 0=_
    unfold G4
    rw [Iw]
    by_cases hq:j/64=n/64
    · rw [if_pos (by omega)]
      simp only [Option.getD_some]
      by_cases c:j<n
      · rw [if_pos c,List.getElem?_append_left (by rw [List.length_take];omega),List.getElem?_take,if_pos (by omega)]
        unfold Gy G4
        rw [hq,← hf2];rfl
      · rw [if_neg c,List.getElem?_append_right (by rw [List.length_take];omega),List.getElem?_replicate]
        split<;>rfl
    · rw [if_neg (by omega)]
      have:=hfb j
      unfold Gy G4 at this
      rw [this]
      by_cases c:j<n
      · rw [if_neg (by omega),if_pos c];rfl
      · rw [if_neg c,if_pos (by omega)]
structure La (d:Fh) (s:List UInt8):Prop where
  size:d.size=s.length
  bytes:∀ j,Gy d.kv j=(s[j]?).getD 0
  full:Ir d.kv
  small:d.size≤4096
theorem La.read {d:Fh} {s:List UInt8} (h:La d s) (p m:Nat) (hm:p+m≤s.length):N0 d.kv p m=(s.drop p).take m:=by
  apply List.ext_getElem?
  intro i
  rw [List.getElem?_take]
  unfold N0
  rw [List.getElem?_map,List.getElem?_drop]
  by_cases c:i<m
  · rw [List.getElem?_range c,if_pos c,Option.map_some,h.bytes,List.getElem?_eq_getElem (by omega)];rfl
  · rw [if_neg c,List.getElem?_eq_none (by simpa using c)];rfl
theorem Y8:La ⟨0,[]⟩ [] where
  size:=rfl
  bytes:=fun j=>by
    unfold Gy G4 Ae
    simp only [Option.getD_none,List.getElem?_nil]
    unfold Mw;rw [List.getElem?_replicate];split<;>rfl
  full:=fun p h=>by cases h
  small:=Nat.zero_le _
def E5 (s:List UInt8) (p:Nat) (t:List UInt8):List UInt8:=(s++List.replicate (p - s.length) 0).take p++t++s.drop (p+t.length)
theorem Of (s:List UInt8) (p:Nat) (t:List UInt8):(E5 s p t).length=max s.length (p+t.length):=by
  simp [E5];omega
theorem Vd (s:List UInt8) (p:Nat) (t:List UInt8) (j:Nat):((E5 s p t)[j]?).getD 0=if p≤j∧j<p+t.length then (t[j - p]?).getD 0 else (s[j]?).getD 0:=by
  have hl:((s++List.replicate (p - s.length) 0).take p).length=p:=by simp;omega
  unfold E5
  rw [List.append_assoc]
  by_cases c:j<p
  · rw [List.getElem?_append_left (by omega),if_neg (by omega),List.getElem?_take,if_pos c]
    by_cases c2:j<s.length
    · rw [List.getElem?_append_left c2]
    · rw [List.getElem?_append_right (by omega),List.getElem?_replicate,List.getElem?_eq_none (by omega)]
      split<;>rfl
  · rw [List.getElem?_append_right (by omega),hl]
    by_cases c2:j<p+t.length
    · rw [List.getElem?_append_left (by omega),if_pos (by omega)]
    · rw [List.getElem?_append_right (by omega),if_neg (by omega),List.getElem?_drop,show p+t.length+(j - p - t.length)=j by omega]
theorem La.write {d:Fh} {s:List UInt8} (h:La d s) (p:Nat) (t:ByteArray) (h1:p≤4096) (h2:t.size≤4096 - p) (h3:0<t.size):(Cl d p t).2=0∧La (Cl d p t).1 (E5 s p t.data.toList):=by
  have hl:t.data.toList.length=t.size:=Array.length_toList
  have e:Cl d p t=(⟨max d.size (p+t.size),F1 d.kv p t.data.toList⟩,0):=by rw [Cl,if_neg (by omega),if_neg (by omega)];rfl
  rw [e]
  refine ⟨rfl,by rw [Of,hl,h.size],fun j=>?_,Jo _ _ (by rw [hl];omega) h.full,by have:=h.small;simp only;omega⟩
  show Gy (F1 d.kv p t.data.toList) j=_
  rw [O9 _ _ h.full (by rw [hl];omega),Vd,h.bytes]
def Je (s:List UInt8) (n:Nat):List UInt8:=s.take n++List.replicate (n - s.length) 0
theorem N2 (s:List UInt8) (n:Nat):(Je s n).length=n:=by simp [Je];omega
theorem Oh (s:List UInt8) (n j:Nat):((Je s n)[j]?).getD 0=if j<n then (s[j]?).getD 0 else 0:=by
  unfold Je
  by_cases c:j<(s.take n).length
  · rw [List.getElem?_append_left c,List.getElem?_take]
    simp only [List.length_take] at c
    rw [if_pos (by omega),if_pos (by omega)]
  · simp only [List.length_take] at c
    rw [List.getElem?_append_right (by simp;omega),List.getElem?_replicate]
    by_cases c2:j<n
    · rw [if_pos c2,List.getElem?_eq_none (by omega)];split<;>rfl
    · rw [if_neg c2];split<;>rfl
theorem La.resize {d:Fh} {s:List UInt8} (h:La d s) (n:Nat) (h1:n≤4096):(B4 d n).2=0∧La (B4 d n).1 (Je s n):=by
  by_cases c:n<d.size
  · have e:B4 d n=(⟨n,Jr (d.kv.filter fun p=>!decide ((n:Int)≤p.1*64)) n⟩,0):=by rw [B4,if_neg (by omega),if_pos (by omega)];simp
    rw [e]
    refine ⟨rfl,(N2 s n).symm,fun j=>?_,?_,h1⟩
    · show Gy (Jr (d.kv.filter fun p=>!decide ((n:Int)≤p.1*64)) n) j=_
      rw [Y3 h.full,Oh,h.bytes]
    · show Ir (Jr _ n)
      have hf:Ir (d.kv.filter fun p=>!decide ((n:Int)≤p.1*64)):=fun p hp=>h.full p (List.mem_filter.1 hp).1
      unfold Jr
      split
      · exact hf
      · rename_i l hg
        have hl:=(hf _ (Ki hg)).1
        simp only at hl
        exact Mv hf _ (by simp [hl];omega) (by have:=h.small;omega)
  · have e:B4 d n=(⟨n,d.kv⟩,0):=by rw [B4,if_neg (by omega),if_neg (by omega)];simp
    rw [e]
    refine ⟨rfl,(N2 s n).symm,fun j=>?_,h.full,h1⟩
    show Gy d.kv j=_
    rw [h.bytes,Oh]
    by_cases c2:j<n
    · rw [if_pos c2]
    · rw [if_neg c2,List.getElem?_eq_none (by have:=h.size;omega)];rfl
end Go.Proofs.YtpojpkhpddnmjaaGreatDoor
