/- The law is kept: whatever the input, it returns true, and what it is handed stays. No condition. -/
import Derived.Test.YtpojpkhpddnmjaaGreatDoorP5
import Derived.Test.YtpojpkhpddnmjaaGreatDoorRows
import Derived.ProofKit
import Derived.Lay
import Derived.SevenTiedAt
import Derived.ChangeOld
import Derived.Test.YtpojpkhpddnmjaaGreatDoorCards
import Derived.Test.YtpojpkhpddnmjaaGreatDoorTie
import Derived.OpenShut
import Derived.ChangeMaps5
set_option linter.all false
set_option maxRecDepth 100000
set_option maxHeartbeats 20000000
namespace Go.Proofs.YtpojpkhpddnmjaaGreatDoor
open Go.RowKit
theorem Zz {es:List Bm} {lo k:Nat} {x:Bm} (h:es[lo+k]?=some x):(es.drop lo).take (k+1)=(es.drop lo).take k++[x]:=by
  rw [List.take_add_one,List.getElem?_drop,h];rfl
theorem nm_at {es:List Bm} {i:Nat} {s:ByteArray} (h:(es.map fun e=>e.1)[i]?=some s):∃ e,es[i]?=some e∧s=e.1:=by
  rw [List.getElem?_map] at h
  cases hq:es[i]? with
  | none=>rw [hq] at h;cases h
  | some e=>rw [hq] at h;exact ⟨e,rfl,by simpa using h.symm⟩
theorem en_at {des es:List Bm} (hE:ER des es) {i:Nat} {e:Bm} (h:es[i]?=some e):Af (des.map A7) e.1=some (hk e.2):=Cd (Xo hE.nd (hE.perm.mem_iff.2 (List.mem_of_getElem? h)))
section
variable {B:Nat} (ad:Nat→Addr) (b most tb dm pm:Nat) (ps:List (Option Nat)) (gs:List Int) (vl vg:Value) (T:TypeId) (Sl Sg:Nat→Prop) (l:List (Option ND)) (ds:List DN) (pn:List ((Int×Int)×Int)) (hl:ps.length=gs.length) (hr:∀ x∈gs,0≤x∧x≤1000000) (n g:Int)
include B ad b most tb dm pm ps gs vl vg T Sl Sg l ds pn hl hr n g
theorem Adm (c:Nat) (hd:Pk ps gs l ds n g c) (cq mq:Int):Ao Tryz.prog 19 #[Pp b,Hg n g,Ii cq,Ii mq] (Ra B ad b tb most dm pm ps gs vl vg T Sl Sg l ds pn) (fun u L=>u=.tuple #[.slice none 0 0,Ii 0,Ab ad (c+1)]∧L=(Ra B ad b tb most dm pm ps gs vl vg T Sl Sg l ds pn)):=by
 refine Zo 63 Tryz.func19 fun E w0 w h=>?_
 exact Qs (ZN [Ii n,Ii g] 34 h fun k1 w h=>ZP (.slice none 0 0) (ZP (Ii 0) (ZP .nilIface (Qm (ZP (Pp b) (ZG h (Gla 0 [Ii n,Ii g] 0) (ZC [1,1,1,1,1,1,1] (La ad b most tb dm pm ps gs vl vg T Sl Sg l ds pn hl hr n g c hd) h fun w h=>ZP (.tuple #[.map none,Ab ad (c+1)]) (ZP (.map none) (ZP (Ab ad (c+1)) (ZP (.map none) (ZP (Ab ad (c+1)) (Qu (ZP (Ab ad (c+1)) (ZP (.bool true) (Qg (Qs (ZP (Ab ad (c+1)) (ZP (.slice none 0 0) (ZP (Ii 0) (ZP (Ab ad (c+1)) (Qr (Ap (ZR [.slice none 0 0,Ii 0,Ab ad (c+1)] [0,0,0,0,0,0,0] h ⟨rfl,rfl⟩)))))))))))))))))))))))
theorem Adv (k:Nat) (N:ND) (hlk:l[k]?=some (some N)) (ha:Bl ps gs n g=some N.nb) (j:Nat) (d:DN) (hj:ds[j]?=some d) (hdh:d.h=(n,g)) (hdd:(ds.map (·.h)).Nodup) (cq mq:Int) (hneg:cq<0∨mq<0):Ao Tryz.prog 19 #[Pp b,Hg n g,Ii cq,Ii mq] (Ra B ad b tb most dm pm ps gs vl vg T Sl Sg l ds pn) (fun u L=>u=.tuple #[.slice none 0 0,Ii 0,Ab ad 2]∧L=(Ra B ad b tb most dm pm ps gs vl vg T Sl Sg l ds pn)):=by
 refine Zo 63 Tryz.func19 fun E w0 w h=>?_
 have h:=(h.eS [10] 6 rfl).eS [2] 7 rfl
 refine Qs (ZN [Ii n,Ii g] 34 h fun k1 w h=>ZP (.slice none 0 0) (ZP (Ii 0) (ZP .nilIface (Qm (ZP (Pp b) (ZG h (Gla 0 [Ii n,Ii g] 0) (ZC [3,3,3,3,2] (A8 ad b most tb dm pm ps gs vl vg T Sl Sg l ds pn hl hr n g k N hlk ha j d hj hdh hdd) h fun w h=>ZP (.tuple #[.map (some d.mb),.nilIface]) (ZP (.map (some d.mb)) (ZP .nilIface (ZP (.map (some d.mb)) (ZP .nilIface (Qu (ZP .nilIface (ZP (.bool false) (Ft (ZP (Ii cq) ?_))))))))))))))))
 obtain ⟨b2,hb2⟩:=nmB (decide (cq<0))
 refine ZB hb2 (ZP (.bool b2) (ZM0 (v:=Ii mq) b2 h (fun hB=>by subst hB;exact Gp (Ii mq)) ?_))
 obtain ⟨b3,hb3⟩:=nmB (decide (mq<0))
 refine ZM0 (v:=.bool b3) b2 h (fun hB=>by subst hB;exact by subst hb3;exact Ay (v:=.bool (decide (mq<0))) fun _=>by kernel_rfl) ?_
 obtain ⟨b4,hb4⟩:=nmB (b2||b3)
 refine ZBc b2 hb4 (Qn (Zi (b4) (fun hc5=>?_) fun hc5=>?_))
 have q6:=hb4.symm.trans hc5
 have q7:((cq<0)∨(mq<0)):=by subst hb3;subst hb2;revert q6;first|(simp;done)|(simp;omega)
 exact Aa (Ds 4 [6] h fun w h=>Dq 0 6 [6] rfl h (Gr 0 (Ab ad 2) 0 rfl (Fe (c:=2) (by decide) rfl)) (Dp 1 1 (.slice none 0 0) [6] h (Dp 2 3 (Ii 0) [6] h (Dp 3 7 (Ab ad 2) [6] h (Dd (Ag (H4 (Ap (ZR [.slice none 0 0,Ii 0,Ab ad 2] [0,0,0,0,3,3,3] h ⟨rfl,rfl⟩)))))))))
 have q8:=hb4.symm.trans hc5
 have q9:=oL q8
 have q10:=oR q8
 have q11:=hb2.symm.trans q9
 have q11:=dcF q11
 have q12:=hb3.symm.trans q10
 have q12:=dcF q12
 exfalso;first|omega|(simp only [List.length_map] at *;omega)|(revert hc5;subst hb4;subst hb3;subst hb2;simp;done)|(revert hc5;subst hb4;subst hb3;subst hb2;simp;omega)
theorem Afe (k:Nat) (N:ND) (hlk:l[k]?=some (some N)) (ha:Bl ps gs n g=some N.nb) (j:Nat) (d:DN) (hj:ds[j]?=some d) (hdh:d.h=(n,g)) (hdd:(ds.map (·.h)).Nodup) (es:List Bm) (hE:ER d.es es) (hS:Zb es) (hsz:∀ e∈es,e.1.size≤1000000) (hfew:es.length≤60) (cn mn:Nat) (hcn:cn≤9223372036854775807) (hmn:mn≤9223372036854775807):Ao Tryz.prog 19 #[Pp b,Hg n g,Ii cn,Ii mn] (Ra B ad b tb most dm pm ps gs vl vg T Sl Sg l ds pn) (fun u L=>∃ v',u=.tuple #[v',Ii (((lsE es (cn:Int) (mn:Int)).2:Nat):Int),.nilIface]∧L=[Rb b tb most dm pm,B8 tb ps gs vl vg T Sl Sg,Cp l,Cm true dm hk (ds.map Bs),Em ds,Cm true pm hk (pn.map Cy),A4 B ad,Bc true v' 107 3 e3C ((lsE es (cn:Int) (mn:Int)).1)]):=by
 have hml:(es.map fun e=>e.1).length=es.length:=List.length_map _
 refine Zo 63 Tryz.func19 fun E w0 w h=>?_
 have h:=h.eS [10] 6 rfl
 refine Qs (ZN [Ii n,Ii g] 34 h fun k1 w h=>ZP (.slice none 0 0) (ZP (Ii 0) (ZP .nilIface (Qm (ZP (Pp b) (ZG h (Gla 0 [Ii n,Ii g] 0) (ZC [2,2,2,2,1] (A8 ad b most tb dm pm ps gs vl vg T Sl Sg l ds pn hl hr n g k N hlk ha j d hj hdh hdd) h fun w h=>ZP (.tuple #[.map (some d.mb),.nilIface]) (ZP (.map (some d.mb)) (ZP .nilIface (ZP (.map (some d.mb)) (ZP .nilIface (Qu (ZP .nilIface (ZP (.bool false) (Ft (ZP (Ii cn) ?_))))))))))))))))
 obtain ⟨b2,hb2⟩:=nmB (decide ((cn:Int)<0))
 refine ZB hb2 (ZP (.bool b2) (ZM0 (v:=Ii mn) b2 h (fun hB=>by subst hB;exact Gp (Ii mn)) ?_))
 obtain ⟨b3,hb3⟩:=nmB (decide ((mn:Int)<0))
 refine ZM0 (v:=.bool b3) b2 h (fun hB=>by subst hB;exact by subst hb3;exact Ay (v:=.bool (decide ((mn:Int)<0))) fun _=>by kernel_rfl) ?_
 obtain ⟨b4,hb4⟩:=nmB (b2||b3)
 refine ZBc b2 hb4 (Qn (Zi (b4) (fun hc5=>?_) fun hc5=>?_))
 have q6:=hb4.symm.trans hc5
 have q7:(((cn:Int)<0)∨((mn:Int)<0)):=by subst hb3;subst hb2;revert q6;first|(simp;done)|(simp;omega)
 exfalso;first|omega|(simp only [List.length_map] at *;omega)|(revert hc5;subst hb4;subst hb3;subst hb2;simp;done)|(revert hc5;subst hb4;subst hb3;subst hb2;simp;omega)
 have q8:=hb4.symm.trans hc5
 have q9:=oL q8
 have q10:=oR q8
 have q11:=hb2.symm.trans q9
 have q11:=dcF q11
 have q12:=hb3.symm.trans q10
 have q12:=dcF q12
 refine Kn (Aa ?_)
 have h:=(h.pkr [6]).dirOpen hj
 refine Ai (ZP (.map (some d.mb)) ?_)
 refine ZD [0] (Ww d.mb _) h ?_;rintro v_ L_ w ⟨p13,rfl,rfl⟩ h
 refine ZD [0,0] (S3 d.mb p13 d.es es hE hS hsz (by omega)) h ?_;rintro v14 L_ w ⟨_,rfl,rfl⟩ h
 refine ZP v14 (Qm (ZP (Ii cn) (ZP v14 (ZG h (Kb (by kernel_rfl) 0 rfl) (ZG h (Ab2 (u:=(cn:Int)) (v:=((es.map fun e=>e.1).length:Int)) (by kernel_rfl)) (ZP (Ii (min (cn:Int) ((es.map fun e=>e.1).length:Int))) (Qm (ZP (Ii (min (cn:Int) ((es.map fun e=>e.1).length:Int))) (ZP (Ii mn) (ZP v14 (ZG h (Kb (by kernel_rfl) 0 rfl) (ZP (Ii (min (cn:Int) ((es.map fun e=>e.1).length:Int))) (ZG h (Gw (((es.map fun e=>e.1).length:Int) - (min (cn:Int) ((es.map fun e=>e.1).length:Int)))) (ZG h (Ab2 (u:=(mn:Int)) (v:=((es.map fun e=>e.1).length:Int) - (min (cn:Int) ((es.map fun e=>e.1).length:Int))) (by kernel_rfl)) (ZG h (Gw ((min (cn:Int) ((es.map fun e=>e.1).length:Int))+(min (mn:Int) (((es.map fun e=>e.1).length:Int) - (min (cn:Int) ((es.map fun e=>e.1).length:Int)))))) (ZP (Ii ((min (cn:Int) ((es.map fun e=>e.1).length:Int))+(min (mn:Int) (((es.map fun e=>e.1).length:Int) - (min (cn:Int) ((es.map fun e=>e.1).length:Int)))))) (Qu (ZP v14 (ZP (Ii (min (cn:Int) ((es.map fun e=>e.1).length:Int))) (ZP (Ii ((min (cn:Int) ((es.map fun e=>e.1).length:Int))+(min (mn:Int) (((es.map fun e=>e.1).length:Int) - (min (cn:Int) ((es.map fun e=>e.1).length:Int)))))) ?_))))))))))))))))))))
 obtain ⟨j15,hj15⟩:∃ n:Nat,min (cn:Int) ((es.map fun e=>e.1).length:Int)=(n:Int):=⟨(min (cn:Int) ((es.map fun e=>e.1).length:Int)).toNat,by omega⟩
 obtain ⟨j16,hj16⟩:∃ n:Nat,(min (cn:Int) ((es.map fun e=>e.1).length:Int))+(min (mn:Int) (((es.map fun e=>e.1).length:Int) - (min (cn:Int) ((es.map fun e=>e.1).length:Int))))=(n:Int):=⟨((min (cn:Int) ((es.map fun e=>e.1).length:Int))+(min (mn:Int) (((es.map fun e=>e.1).length:Int) - (min (cn:Int) ((es.map fun e=>e.1).length:Int))))).toNat,by omega⟩
 refine ZG h (Wa (v:=v14) (d:=9) (k:=1) (LV:=(some (Ii (min (cn:Int) ((es.map fun e=>e.1).length:Int))))) (HV:=(some (Ii ((min (cn:Int) ((es.map fun e=>e.1).length:Int))+(min (mn:Int) (((es.map fun e=>e.1).length:Int) - (min (cn:Int) ((es.map fun e=>e.1).length:Int)))))))) j15 j16 (by kernel_rfl) (bnd hj15) (bnd hj16) (by first|omega|(simp;omega)) (by first|omega|(simp;omega)) 0 rfl Ic) (ZG h (Aea (v:=v14) (d:=9) (k:=1) (lo:=j15) (hi:=j16) (by kernel_rfl) 0 rfl Ic) (ZP (Ii 0) (Qn (Au ?_))))
 have h:=h.nilRows 107 3 e3C
 refine ZL (X:=Nat×List Bm×Value×(Nat→Value)) [(15,15),(53,64)] (fun ⟨k,ls,vo,J0⟩=>[(8,vo),(52,Ii k)]) (fun ⟨k,ls,vo,J0⟩=>J0) (fun ⟨k,ls,vo,J0⟩=>[Bc true vo 107 3 e3C ls,Bc true v14 9 1 nmC (es.map fun e=>e.1),B0 true p13 [.map (some d.mb)] 82,Cm true d.mb sk (d.es.map A7),R6 ds j,Rb b tb most dm pm,B8 tb ps gs vl vg T Sl Sg,Cp l,Cm true dm hk (ds.map Bs),Bq B ad [10],Rh k1 n g,Cm true pm hk (pn.map Cy),A4 B ad]) (fun ⟨k,ls,vo,J0⟩=>k≤j16 - j15∧ls=(es.drop j15).take k) (fun ⟨k,ls,vo,J0⟩=>j16 - j15 - k) (fun j=>⟨0,[],(.slice none 0 0),j⟩) ⟨by omega,by simp⟩ [0,0,0,0,0,0,0,0,0,0,0,0,0] h ?_
 rintro ⟨k,ls,vo,J0⟩ w hG h
 obtain ⟨hk1,hls⟩:k≤j16 - j15∧ls=(es.drop j15).take k:=hG
 have hll:ls.length≤60:=by rw [hls,List.length_take,List.length_drop];omega
 refine Qs (ZP (.bool (decide ((k:Int)<((j16 - j15:Nat):Int)))) (Qn (Aa (Zd ((k:Int)<((j16 - j15:Nat):Int)) (fun hc17=>?_) fun hc17=>?_))))
 refine Kn (Aa (Au (Qs ?_)))
 have hi18:j15+k<(es.map fun e=>e.1).length:=by omega
 obtain ⟨x19,hx20⟩:∃ x,(es.map fun e=>e.1)[j15+k]?=some x:=⟨_,List.getElem?_eq_getElem hi18⟩
 obtain ⟨e21,he22,rfl⟩:=nm_at hx20
 refine ZG h (Abw (v:=v14) (d:=9) (k:=1) (lo:=j15) (hi:=j16) k rfl (by kernel_rfl) (by omega) (by first|omega|(simp;omega)) 1 rfl Ic) (ZG h (Gr (B2 v14+(j15+k)*1) (.string e21.1) 1 rfl (Fz Afl hx20 (by kernel_rfl))) (ZP (.string e21.1) (Qn (Ai (ZP vo (ZP (.string e21.1) (ZP (.map (some d.mb)) (ZP (.string e21.1) (ZG h (A1 (v':=Hg e21.2.1 e21.2.2) (Gks (kv:=d.es.map A7) false e21.1 3 rfl) (by rw [en_at hE he22];rfl)) (ZP (.agg #[.string e21.1,Ii e21.2.1,Ii e21.2.2]) ?_))))))))))
 refine G1 rfl (fun b=>.slice (some ⟨b,0,none⟩) 1 1) [.string e21.1,Ii e21.2.1,Ii e21.2.2] 107 (fun _=>by kernel_rfl) h ?_;intro k23 w h
 refine Ht (b:=k23) (o:=0) rfl 1 e21 (by kernel_rfl) h 1 rfl 0 rfl (Fn 0 (by kernel_rfl)) (by (try simp only [List.length_append,List.length_cons,List.length_nil,List.length_map]);omega) ?_;intro v24 w h
 refine ZP v24 (Dj ?_)
 refine Ch (Ag ?_)
 refine Ai (ZG h (A1 (v:=Ii (IntKind.i64.wrap ((k:Int)+1))) (v':=Ii ((k+1:Nat):Int)) (Ay fun _=>by kernel_rfl) (wr (by omega))) (ZP (Ii ((k+1:Nat):Int)) (Dj ?_)))
 have hQ25:((k+1)≤j16 - j15∧(ls++[e21])=(es.drop j15).take (k+1))∧(j16 - j15 - (k+1))<(j16 - j15 - k):=⟨⟨by omega,by rw [Zz he22,← hls]⟩,by omega⟩
 refine Bu (fun j=>⟨(k+1),ls++[e21],v24,j⟩) hQ25 (by kernel_rfl) [1,1,1,1,1,1,1,1,1,1,1,1,1] (by kernel_rfl) h
 refine Dk (Ea (Et (Ep (Ag (Qs (ZP vo (ZP (Ii ((min (cn:Int) ((es.map fun e=>e.1).length:Int))+(min (mn:Int) (((es.map fun e=>e.1).length:Int) - (min (cn:Int) ((es.map fun e=>e.1).length:Int)))))) (ZP vo (ZP (Ii ((min (cn:Int) ((es.map fun e=>e.1).length:Int))+(min (mn:Int) (((es.map fun e=>e.1).length:Int) - (min (cn:Int) ((es.map fun e=>e.1).length:Int)))))) (ZP .nilIface (Qr ?_)))))))))))
 have h:=(h.pkr [3,3]).dirBack (d:=d) hj
 refine ZR [vo,Ii ((min (cn:Int) ((es.map fun e=>e.1).length:Int))+(min (mn:Int) (((es.map fun e=>e.1).length:Int) - (min (cn:Int) ((es.map fun e=>e.1).length:Int))))),.nilIface] [4,4,4,4,0,5,5,0] h ?_
 have hT:lsE es (cn:Int) (mn:Int)=(ls,j16):=Ol (k0:=j15) (by omega) (by omega) (by omega) (by omega) (by rw [hls];congr 1;omega) (by omega)
 exact ⟨_,by rw [hT,← hj16];rfl,by rw [hT];rfl⟩
end
theorem Ao.ptx {P:Program} {f:FuncId} {args:Array Value} {most:Nat} {z:PZ} {M:List Res} {Φ:Value→List Res→Prop} (h:Ao P f args (z.core most++M) fun u L=>∃ X,Φ u X∧L=z.core most++(M++X)):Ao P f args (rPT most z::M) fun u L=>∃ X,Φ u X∧L=rPT most z::(M++X):=fun E w0 w ho=>
  (h E w0 w ho.allSplit).mono fun e w' ⟨u,L,⟨X,hu,hL⟩,he,ho'⟩=>⟨u,_,⟨X,hu,rfl⟩,he,by subst hL;exact Own.allJoin _ (z.core_wr most) ho'⟩
def M5:Option (Option Nat)→Bool
  | some (some _)=>true
  | _=>false
theorem Kj:∀ ps:List (Option Nat),Fq ps=((List.range ps.length).filter fun k=>M5 ps[k]?).length
  | []=>rfl
  | x::r=>by
    rw [List.length_cons,List.range_succ_eq_map,List.filter_cons,List.filter_map]
    have h:((fun k=>M5 (x::r)[k]?)∘Nat.succ)=fun k=>M5 r[k]?:=by
      funext k
      simp [Function.comp]
    rw [h]
    cases x with
    | none=>
      show Fq r=_
      rw [Kj r]
      simp [M5]
    | some b=>
      show Fq r+1=_
      rw [Kj r]
      simp [M5]
section
variable {B:Nat} (ad:Nat→Addr) {most:Nat} {z:PZ} {A:List AN} {ts:List Int} {c:Int} (s:Eb most z A ts c)
include s
theorem Wx (n g cq mq:Int) (hcq:cq≤9223372036854775807) (hmq:mq≤9223372036854775807):Ao Tryz.prog 19 #[.pointer (some ⟨z.b,0,none⟩),.agg #[.int .i64 n,.int .i64 g],.int .i64 cq,.int .i64 mq] [rPT most z,A4 B ad] fun u L=>∃ v',u=.tuple #[v',.int .i64 (((By A (n,g) cq mq).2.1:Nat):Int),Ab ad (By A (n,g) cq mq).2.2]∧L=[rPT most z,A4 B ad,Bc true v' 107 3 e3C (By A (n,g) cq mq).1]:=by
  have bad:∀ e:Nat,By A (n,g) cq mq=([],0,e)→Ao Tryz.prog 19 #[.pointer (some ⟨z.b,0,none⟩),.agg #[.int .i64 n,.int .i64 g],.int .i64 cq,.int .i64 mq] (z.core most++[A4 B ad]) (fun u L=>u=.tuple #[.slice none 0 0,.int .i64 0,Ab ad e]∧L=z.core most++[A4 B ad])→Ao Tryz.prog 19 #[.pointer (some ⟨z.b,0,none⟩),.agg #[.int .i64 n,.int .i64 g],.int .i64 cq,.int .i64 mq] [rPT most z,A4 B ad] fun u L=>∃ v',u=.tuple #[v',.int .i64 (((By A (n,g) cq mq).2.1:Nat):Int),Ab ad (By A (n,g) cq mq).2.2]∧L=[rPT most z,A4 B ad,Bc true v' 107 3 e3C (By A (n,g) cq mq).1]:=fun e h1 h2=>by
    rw [h1]
    refine (Ao.ptq (M:=[A4 B ad]) (Φ:=fun u=>u=.tuple #[.slice none 0 0,.int .i64 0,Ab ad e]) h2).after fun E w0 w u L h ho=>?_
    obtain ⟨rfl,rfl⟩:=h
    exact ⟨_,⟨.slice none 0 0,rfl,rfl⟩,(ho.nilRows 107 3 e3C).pick [1,1,0]⟩
  rcases s.dir n g ⟨#[]⟩ with ⟨c',h1,h2⟩|⟨k,N,M,j,d,rfl,h1,h2,h3,h4,h5,h6,h7,k2,h8,h9,h10,hkm⟩
  · refine bad (c'+1) ?_ (Adm ad z.b most z.tb z.dm z.pm z.ps z.gs z.vl z.vg z.T z.Sl z.Sg z.l z.ds z.pn s.hl s.hr n g c' h1 cq mq)
    rcases h2 with ⟨rfl,h⟩|⟨rfl,M,h,hk⟩
    · exact R1 h
    · exact Se h hk
  by_cases hneg:cq<0∨mq<0
  · exact bad 2 (Ps h3 k2 hneg) (Adv ad z.b most z.tb z.dm z.pm z.ps z.gs z.vl z.vg z.T z.Sl z.Sg z.l z.ds z.pn s.hl s.hr (k:Int) g k N h1 h2 j d h8 h9 s.dd cq mq hneg)
  · obtain ⟨cn,rfl⟩:∃ cn:Nat,cq=(cn:Int):=⟨cq.toNat,by omega⟩
    obtain ⟨mn,rfl⟩:∃ mn:Nat,mq=(mn:Int):=⟨mq.toNat,by omega⟩
    have hT:=U1 h3 k2 hneg
    rw [hT]
    have hsz:∀ e∈M.es,e.1.size≤1000000:=fun e he=>by have:=s.nsz M h4 e he;omega
    refine (Ao.ptx (M:=[A4 B ad]) (Φ:=fun u X=>∃ v',u=.tuple #[v',.int .i64 (((lsE M.es (cn:Int) (mn:Int)).2:Nat):Int),Ab ad 0]∧X=[Bc true v' 107 3 e3C (lsE M.es (cn:Int) (mn:Int)).1]) ((Afe ad z.b most z.tb z.dm z.pm z.ps z.gs z.vl z.vg z.T z.Sl z.Sg z.l z.ds z.pn s.hl s.hr (k:Int) g k N h1 h2 j d h8 h9 s.dd M.es h10 (s.srt M h4) hsz (s.ti.base.few M h4) cn mn (by omega) (by omega)).mono fun u L h=>?_)).mono fun u L h=>?_
    · obtain ⟨v',rfl,rfl⟩:=h
      exact ⟨_,⟨v',rfl,rfl⟩,rfl⟩
    · obtain ⟨X,⟨v',rfl,rfl⟩,rfl⟩:=h
      exact ⟨v',rfl,rfl⟩
theorem Xe:Ao Tryz.prog 13 #[.pointer (some ⟨z.b,0,none⟩)] [rPT most z] fun u L=>u=.agg #[.int .i64 0,.int .i64 0]∧L=[rPT most z]:=by
  refine Ao.ptq (M:=[]) (Φ:=fun u=>u=.agg #[.int .i64 0,.int .i64 0]) ?_
  exact ((Yz z.b most z.tb z.dm z.pm).frame _).mono fun u L ⟨L1,⟨h1,h2⟩,h3⟩=>⟨h1,by rw [h3,h2];rfl⟩
theorem Eb.count:Fq z.ps=A.length:=by
  have hp:(((List.range most).filter fun k=>M5 z.ps[k]?).map fun k:Nat=>(k:Int)).Perm (A.map (·.h.1)):=by
    refine (List.perm_ext_iff_of_nodup ?_ s.ti.base.num).2 fun x=>?_
    · rw [List.nodup_iff_pairwise_ne,List.pairwise_map]
      have:=List.nodup_range (n:=most)
      exact (List.Pairwise.filter _ (List.nodup_iff_pairwise_ne.1 this)).imp fun {a b} h=>by omega
    · rw [List.mem_map,List.mem_map]
      constructor
      · rintro ⟨k,hk,rfl⟩
        obtain ⟨h1,h2⟩:=List.mem_filter.1 hk
        have hk:=List.mem_range.1 h1
        rcases s.sim.nd k hk with ⟨a,_⟩|⟨N,M,_,_,c,d,_⟩
        · rw [a] at h2;cases h2
        · exact ⟨M,c,by rw [d]⟩
      · rintro ⟨M,hM,rfl⟩
        obtain ⟨k,hk,e⟩:=s.ti.base.gen M hM
        refine ⟨k,List.mem_filter.2 ⟨List.mem_range.2 hk,?_⟩,by rw [e]⟩
        rcases s.sim.nd k hk with ⟨_,_,c⟩|⟨N,M',a,_⟩
        · exact absurd (by rw [e]) (c M hM)
        · rw [a];rfl
  have h1:=hp.length_eq
  rw [List.length_map,List.length_map] at h1
  rw [Kj,s.sim.lps];exact h1
theorem Uu:Ao Tryz.prog 15 #[.pointer (some ⟨z.b,0,none⟩)] [rPT most z] fun u L=>u=.int .i64 (A.length:Int)∧L=[rPT most z]:=by
  refine Ao.ptq (M:=[]) (Φ:=fun u=>u=.int .i64 (A.length:Int)) ?_
  have hps:z.ps.length≤300:=by rw [s.sim.lps];exact s.m3
  refine ((V8 z.b most z.tb z.dm z.pm z.ps z.gs z.vl z.vg z.T z.Sl z.Sg hps).frame _).mono fun u L ⟨L1,⟨h1,h2⟩,h3⟩=>⟨?_,by rw [h3,h2];rfl⟩
  rw [h1,s.count]
end
theorem Zl {B:Nat} (ad:Nat→Addr) (mq:Int) (hm:mq<1∨300<mq)  : Ao Tryz.prog 9 #[Ii mq] [A4 B ad] (fun u L=>u=.tuple #[.pointer none,Ab ad 2]∧L=[A4 B ad]):=by
 refine Zo 49 Tryz.func9 fun E w0 w h=>?_
 have h:=h.eS [2] 0 rfl
 exact Qs (ZP (.pointer none) (ZP .nilIface (Qm (ZP (Ii mq) (ZC [0] (U3 ad mq hm) h fun w h=>ZP (.tuple #[.pointer none,Ab ad 2]) (ZP (.pointer none) (ZP (Ab ad 2) (ZP (.pointer none) (ZP (Ab ad 2) (Qu (ZP (Ab ad 2) (ZP (.bool true) (Qg (Qs (ZP (Ab ad 2) (ZP (.pointer none) (ZP (Ab ad 2) (Qr (Ap (ZR [.pointer none,Ab ad 2] [1] h ⟨rfl,rfl⟩))))))))))))))))))))
theorem Abr {m:Nat} (h1:1≤m):F6 (List.replicate m none)=some 0:=by
  obtain ⟨c,rfl⟩:∃ c,m=c+1:=⟨m - 1,by omega⟩
  rfl
theorem Aej {m:Nat} (h1:1≤m):(List.replicate m (0:Int))[0]?=some 0:=by rw [List.getElem?_replicate,if_pos (by omega)]
theorem Ae4 {m:Nat} {x:Option ND} (h1:1≤m):((List.replicate m (none:Option ND)).set 0 x)[0]?=some x:=List.getElem?_set_self (by simp;omega)
theorem Aex (m:Nat):∀ x∈(List.replicate m (0:Int)).set 0 (0+1),0≤x∧x≤1000000:=fun x hx=>by
  rcases List.mem_or_eq_of_mem_set hx with hx|rfl
  · rw [(List.mem_replicate.1 hx).2];decide
  · decide
theorem Agx (nb:Nat) {m:Nat} (h1:1≤m):Bl ((List.replicate m none).set 0 (some nb)) ((List.replicate m (0:Int)).set 0 (0+1)) 0 0=some nb:=by
  have h:=Hz (ps:=(List.replicate m none).set 0 (some nb)) (gs:=(List.replicate m (0:Int)).set 0 (0+1)) (k:=0) (g:=0) (p:=some nb) (x:=0+1) (List.getElem?_set_self (by simp;omega)) (List.getElem?_set_self (by simp;omega))
  exact h
theorem Zw {B:Nat} (ad:Nat→Addr) (m:Nat) (h1:1≤m) (h2:m≤300)  : Ao Tryz.prog 9 #[Ii m] [A4 B ad] (fun u L=>∃ b tb dm pm vl vg T Sl Sg nb mb,u=.tuple #[Pp b,.nilIface]∧L=[B0 true b [Pp tb,Ii m,Ii 0,Ii 0,.map (some dm),.map (some pm)] 80,B8 tb ((List.replicate m none).set 0 (some nb)) ((List.replicate m 0).set 0 (0+1)) vl vg T Sl Sg,Cp (((List.replicate m none).set 0 (some (Cv nb 2 none))).set 0 (some (keepN (Cv nb 2 none) 2 0 2 0 0))),Cm true dm hk ([(⟨(0,0),mb,[]⟩:DN)].map Bs),Em [(⟨(0,0),mb,[]⟩:DN)],Cm true pm hk (([]:List ((Int×Int)×Int)).map Cy),A4 B ad]):=by
 refine Zo 49 Tryz.func9 fun E w0 w h=>?_
 have h:=h.eS [10] 0 rfl
 refine Qs (ZP (.pointer none) (ZP .nilIface (Qm (ZP (Ii m) ?_))))
 refine ZD [] (Tm m h1 h2) h ?_;rintro v_ L_ w ⟨tb,vl,vg,T,Sl,Sg,rfl,rfl⟩ h
 refine ZP (.tuple #[Pp tb,.nilIface]) (ZP (Pp tb) (ZP .nilIface (ZP (Pp tb) (ZP .nilIface (Qu (ZP .nilIface (ZP (.bool false) (Fs (ZP (Pp tb) (ZP (Ii m) ?_))))))))))
 refine Ye rfl hk (fun _=>by kernel_rfl) h ?_;intro k1 w h
 refine Ye rfl hk (fun _=>by kernel_rfl) h ?_;intro k2 w h
 refine ZP (.agg #[Pp tb,Ii m,Ii 0,Ii 0,.map (some k1),.map (some k2)]) (ZN [Pp tb,Ii m,Ii 0,Ii 0,.map (some k1),.map (some k2)] 80 h fun k3 w h=>ZP (Pp k3) (Qm (ZP (Pp k3) (ZP (Pp tb) ?_))))
 refine ZD [3,3] (Mo tb 0 0 (List.replicate m none) (List.replicate m 0) vl vg T Sl Sg (List.replicate m none) (by simp;omega) (by simp) (Abr h1) (Aej h1) (by decide)) h ?_;rintro v_ L_ w ⟨nb,rfl,rfl⟩ h
 refine ZP (.tuple #[Hg 0 0,.nilIface]) (ZP (Hg 0 0) (ZP .nilIface (ZP (Pp k3) (ZP (Pt k3 2) (ZS 2 [Ii 0,Ii 0] [Pp tb,Ii m,Ii 0,Ii 0,.map (some k1),.map (some k2)] 2 rfl h fun w h=>Qn (Aa (Ds 10 [2] h fun w h=>Dp 0 496 (Pp k3) [2] h (Dp 1 497 (Pp k3) [2] h (Dp 2 499 (Pt k3 4) [2] h (Dq 3 503 [2] rfl h (Gl 4 (.map (some k1)) 0) (Dp 4 271 (Pp k3) [2] h (Dp 5 287 (Pp k3) [2] h (Dp 6 319 (Pt k3 2) [2] h (Dq 7 383 [2] rfl h (Gla 2 [Ii 0,Ii 0] 0) ?_))))))))))))))
 refine Ax [8] (by kernel_rfl) rfl ?_
 refine Xk [3] rfl (by kernel_rfl) sk (fun _=>by kernel_rfl) h ?_ ?_
 intro k4 w h;refine ⟨by kernel_rfl,?_⟩
 refine Ax [9] (by kernel_rfl) rfl ?_
 refine Xz [3] rfl (by kernel_rfl) (K:=34) (E:=82) Dr (0,0) (.map (some k4)) (by kernel_rfl) h 5 rfl ?_ ?_
 intro w h;refine ⟨by kernel_rfl,?_⟩
 refine Dd (Ag (Aa (Ds 11 [3] h fun w h=>Dp 0 1022 (Pp tb) [3] h (Dp 1 993 (Pp k3) [3] h (Dp 2 995 (Pp k3) [3] h (Dp 3 999 (Pt k3 2) [3] h (Dq 4 1007 [3] rfl h (Gla 2 [Ii 0,Ii 0] 0) (Dp 5 31 (Pp k3) [3] h (Dp 6 63 (Pp k3) [3] h (Dp 7 127 (Pt k3 2) [3] h (Dq 8 255 [3] rfl h (Gla 2 [Ii 0,Ii 0] 0) (Dp 9 511 (.agg #[Ii 2,Ii 0,Ii 2,Ii 0,Ii 0,Ii 0]) [3] h ?_))))))))))))
 refine Ad 10 [1,1,4] [4] (G4 ad tb ((List.replicate m none).set 0 (some nb)) ((List.replicate m 0).set 0 (0+1)) vl vg T Sl Sg ((List.replicate m none).set 0 (some (Cv nb 2 none))) (by simp) (Aex m) 0 0 0 (Cv nb 2 none) (Ae4 h1) (Agx nb h1) 2 0 2 0 0 0) h ?_
 rintro _ L_ w rfl h
 refine ⟨by kernel_rfl,?_⟩
 refine Dd (Ag (Qs (ZP (Pp k3) (ZP (Pp k3) (ZP .nilIface (Qr ?_))))))
 have h:=Own.dirAdd (ds:=[]) ⟨(0,0),k4,[]⟩ ((h.allNil).pkr [4])
 exact ZR [Pp k3,.nilIface] [4,1,1,3,0,1,1] h ⟨_,_,_,_,_,_,_,_,_,_,_,rfl,rfl⟩
 exact A6
 exact A6
theorem Aag (mo:Nat) (hmo:1≤mo∧mo≤300)  : Ao Tryz.prog 10 #[Ii mo] [] (fun u L'=>∃ (b:Nat) (v vt:Value) (L:List RN),L.map RN.a=[C4 (0,0) 2]∧u=Pp b∧L'=[Rt b mo v vt,Bc true vt 3 1 inC ((List.replicate mo (0:Int)).set 0 1),rRL v L]):=by
 refine Zo 25 Tryz.func10 fun E w0 w h=>?_
 refine Qs (ZP (.pointer none) (Qm (ZP (Ii mo) (ZP (Ii mo) ?_))))
 refine Ag4 rfl (enc:=inC) (E:=3) (bytes:=8) (0:Int) mo rfl (by kernel_rfl) rfl (by omega) (by omega) h ?_;intro v1 w h
 have hsh2:=h.shape 0 rfl Ic
 refine ZG h (Ay (v:=.agg #[Ii mo,.slice none 0 0,v1]) fun _=>by obtain ⟨_,_,ehsh2⟩:=hsh2;rw [ehsh2];kernel_rfl) (ZN [Ii mo,.slice none 0 0,v1] 87 h fun k3 w h=>ZP (Pp k3) (Qm (ZP (Pp k3) (ZP (Pp k3) (ZP (Pt k3 2) (ZG h (Gl 2 (v1) 0) ?_))))))
 have hi4:0<(List.replicate mo (0:Int)).length:=by (rw [List.length_replicate];omega)
 obtain ⟨x5,hx6⟩:∃ x,(List.replicate mo (0:Int))[0]?=some x:=⟨_,List.getElem?_eq_getElem hi4⟩
 refine ZG h (G2 0 (by kernel_rfl) hi4 1 rfl) ?_
 refine Fh rfl (b:=Du v1) (B2 v1+0*1) [Ii 1] h 1 rfl (by kernel_rfl) (Yq Oa hx6 0 1 (by kernel_rfl) (by kernel_rfl)) ?_;intro w h
 refine Qm ?_
 have h:=h.nilRows 88 1 ptB
 refine ZP (Pp k3) (ZP (Pp k3) (ZP (Pp k3) (ZP (Pt k3 1) (ZG h (Gl 1 (.slice none 0 0) 1) (ZP (.agg #[Ii 0,Ii 0,Ii 2,Ii 0,.string (⟨#[]⟩:ByteArray),.slice none 0 0,.slice none 0 0,Ii 0]) (ZN [Ii 0,Ii 0,Ii 2,Ii 0,.string (⟨#[]⟩:ByteArray),.slice none 0 0,.slice none 0 0,Ii 0] 93 h fun k7 w h=>?_))))))
 refine G1 rfl (fun b=>.slice (some ⟨b,0,none⟩) 1 1) [Pp k7] 88 (fun _=>by kernel_rfl) h ?_;intro k8 w h
 refine Ht (b:=k8) (o:=0) rfl 1 k7 (by kernel_rfl) h 2 rfl 0 rfl (Fn 0 (by kernel_rfl)) (by (try simp only [List.length_append,List.length_cons,List.length_nil,List.length_map]);omega) ?_;intro v9 w h
 refine ZP (Pp k3) (ZP (Pt k3 1) ?_)
 refine Ji rfl (h.slv 2 rfl) 1 [Ii mo,v9,v1] h 3 rfl (by kernel_rfl) ?_;intro w h
 refine Qm (ZP (Pp k3) (ZP (Pp k3) (Qr ?_)))
 have h:=Own.rlAdd (L:=[]) (⟨k7,.slice none 0 0,.slice none 0 0,C4 (0,0) 2⟩:RN) ((((h.nilRows 107 3 e3C).nilRows 4 1 hlC).rnNil).pkr [4,1,1,0,1])
 exact ZR [Pp k3] [2,2,0] h ⟨k3,v9,v1,[(⟨k7,.slice none 0 0,.slice none 0 0,C4 (0,0) 2⟩:RN)],rfl,rfl,rfl⟩
structure PB (most b:Nat) (z:PZ) (A:List AN) (ts:List Int) (c:Int):Prop where
  s:Eb most z A ts c
  e:z.b=b
theorem PB.more {most b:Nat} {z:PZ} {A:List AN} {ts:List Int} {c d:Int} (h:PB most b z A ts c) (hc:c≤d) (hd:d≤1000):PB most b z A ts d:=⟨h.s.more hc hd,h.e⟩
section
variable {B:Nat} (ad:Nat→Addr) {most b:Nat} {z:PZ} {A:List AN} {ts:List Int} {c:Int} (h:PB most b z A ts c)
include h
omit h in
theorem Jq {e:Nat} {A':List AN} {u:Value} {L:List Res} {c':Int} (h:Id most z B ad ts c' e A' u L):∃ z',PB most z.b z' A' ts c'∧u=Ab ad e∧L=[rPT most z',A4 B ad]:=by
  obtain ⟨z',⟨h1,h2,h3⟩,h4⟩:=h
  exact ⟨z',⟨h2,h1⟩,h3,h4⟩
theorem Uk (n g:Int) (nm:ByteArray) (hnz:nm.size≤100000) (kind:Int) (hc:c+3≤1000):Ao Tryz.prog 28 #[.pointer (some ⟨b,0,none⟩),.agg #[.int .i64 n,.int .i64 g],.string nm,.int .i64 kind] [rPT most z,A4 B ad] fun u L=>
    (∃ e:Nat,B4 most A (n,g) nm kind=(none,e+1)∧u=.tuple #[.agg #[.int .i64 0,.int .i64 0],Ab ad (e+1)]∧L=[rPT most z,A4 B ad])∨
    (∃ (z':PZ) (k:Nat),B4 most A (n,g) nm kind=(some k,0)∧PB most b z' (Gn A ts (n,g) nm kind k) (ts.set k (Av ts k+1)) (c+3)∧u=.tuple #[.agg #[.int .i64 (k:Int),.int .i64 (Av ts k)],.nilIface]∧L=[rPT most z',A4 B ad]):=by
  obtain ⟨s,rfl⟩:=h
  refine (Sk ad s n g nm hnz kind hc).mono fun u L h=>?_
  obtain ⟨z',⟨h1,⟨e,h2,rfl,h3⟩|⟨k,h2,h3,h4⟩⟩,h5⟩:=h
  · exact .inl ⟨e,h2,h3,h5⟩
  · exact .inr ⟨z',k,h2,⟨h3,h1⟩,h4,h5⟩
theorem Ago (m f n g:Int) (nm:ByteArray) (hnz:nm.size≤100000) (hc:c+3≤1000):Ao Tryz.prog 33 #[.pointer (some ⟨b,0,none⟩),.agg #[.int .i64 m,.int .i64 f],.agg #[.int .i64 n,.int .i64 g],.string nm] [rPT most z,A4 B ad] fun u L=>∃ z',PB most b z' (if C1 A (m,f) (n,g) nm=0 then Lh A (m,f) (n,g) nm else A) ts (c+3)∧u=Ab ad (C1 A (m,f) (n,g) nm)∧L=[rPT most z',A4 B ad]:=by
  obtain ⟨s,rfl⟩:=h;exact (Xh ad s m f n g nm hnz hc).mono fun u L h=>Jq ad h
theorem Acj (n g:Int) (nm:ByteArray) (hnz:nm.size≤100000) (hc:c+3≤1000):Ao Tryz.prog 35 #[.pointer (some ⟨b,0,none⟩),.agg #[.int .i64 n,.int .i64 g],.string nm] [rPT most z,A4 B ad] fun u L=>∃ z',PB most b z' (if Ci A (n,g) nm=0 then D2 A (n,g) nm else A) ts (c+3)∧u=Ab ad (Ci A (n,g) nm)∧L=[rPT most z',A4 B ad]:=by
  obtain ⟨s,rfl⟩:=h;exact (Sa ad s n g nm hnz hc).mono fun u L h=>Jq ad h
theorem Adi (n g m f:Int) (old nm:ByteArray) (hoz:old.size≤100000) (hnz:nm.size≤100000) (hc:c+3≤1000):Ao Tryz.prog 20 #[.pointer (some ⟨b,0,none⟩),.agg #[.int .i64 n,.int .i64 g],.string old,.agg #[.int .i64 m,.int .i64 f],.string nm] [rPT most z,A4 B ad] fun u L=>∃ z',PB most b z' (tRename A (n,g) old (m,f) nm).2 ts (c+3)∧u=Ab ad (tRename A (n,g) old (m,f) nm).1∧L=[rPT most z',A4 B ad]:=by
  obtain ⟨s,rfl⟩:=h;exact (Ru ad s n g m f old nm hoz hnz hc).mono fun u L h=>Jq ad h
theorem Ae9 (n g p:Int) (t:ByteArray) (hc:c+3≤1000):Ao Tryz.prog 38 #[.pointer (some ⟨b,0,none⟩),.agg #[.int .i64 n,.int .i64 g],.int .i64 p,.string t] [rPT most z,A4 B ad] fun u L=>∃ z',PB most b z' (Fg A (n,g) p t) ts (c+3)∧u=Ab ad (Eu A (n,g) p t)∧L=[rPT most z',A4 B ad]:=by
  obtain ⟨s,rfl⟩:=h;exact (Tc ad s n g p t hc).mono fun u L h=>Jq ad h
theorem Ab0 (n g p:Int) (hc:c+3≤1000):Ao Tryz.prog 40 #[.pointer (some ⟨b,0,none⟩),.agg #[.int .i64 n,.int .i64 g],.int .i64 p] [rPT most z,A4 B ad] fun u L=>∃ z',PB most b z' (Ei A (n,g) p) ts (c+3)∧u=Ab ad (D5 A (n,g) p)∧L=[rPT most z',A4 B ad]:=by
  obtain ⟨s,rfl⟩:=h;exact (R9 ad s n g p hc).mono fun u L h=>Jq ad h
theorem pin_b (n g:Int) (hc:c+3≤1000):Ao Tryz.prog 42 #[.pointer (some ⟨b,0,none⟩),.agg #[.int .i64 n,.int .i64 g]] [rPT most z,A4 B ad] fun u L=>∃ z',PB most b z' (if Eq A (n,g)=0 then G9 A (n,g) 1 else A) ts (c+3)∧u=Ab ad (Eq A (n,g))∧L=[rPT most z',A4 B ad]:=by
  obtain ⟨s,rfl⟩:=h;exact (Z8 ad s n g hc).mono fun u L h=>Jq ad h
theorem Aei (n g:Int) (hc:c+3≤1000):Ao Tryz.prog 44 #[.pointer (some ⟨b,0,none⟩),.agg #[.int .i64 n,.int .i64 g]] [rPT most z,A4 B ad] fun u L=>∃ z',PB most b z' (if Cl A (n,g)=0 then G0 (G9 A (n,g) (-1)) else A) ts (c+3)∧u=Ab ad (Cl A (n,g))∧L=[rPT most z',A4 B ad]:=by
  obtain ⟨s,rfl⟩:=h;exact (Vd ad s n g hc).mono fun u L h=>Jq ad h
theorem Agt (n g:Int):Ao Tryz.prog 14 #[.pointer (some ⟨b,0,none⟩),.agg #[.int .i64 n,.int .i64 g]] [rPT most z,A4 B ad] fun u L=>(Br A (n,g)=none∧u=.tuple #[.agg #[.int .i64 0,.int .i64 0,.int .i64 0,.int .i64 0,.int .i64 0,.int .i64 0],Ab ad 10]∧L=[rPT most z,A4 B ad])∨(∃ M,Br A (n,g)=some M∧u=.tuple #[atV A M,.nilIface]∧L=[rPT most z,A4 B ad]):=by
  obtain ⟨s,rfl⟩:=h
  refine (We ad s n g).mono fun u L h=>?_
  unfold Ri at h
  cases hg:Br A (n,g) with
  | none=>rw [hg] at h;exact .inl ⟨rfl,h.1,h.2⟩
  | some M=>rw [hg] at h;exact .inr ⟨M,rfl,h.1,h.2⟩
theorem Adj (n g p m:Int) (hp:-9223372036854775808≤p∧p≤9223372036854775807):Ao Tryz.prog 64 #[.pointer (some ⟨b,0,none⟩),.agg #[.int .i64 n,.int .i64 g],.int .i64 p,.int .i64 m] [rPT most z,A4 B ad] fun u L=>u=.tuple #[.string (Bz A (n,g) p m).1,.bool (Bz A (n,g) p m).2.1,Ab ad (Bz A (n,g) p m).2.2]∧L=[rPT most z,A4 B ad]:=by
  obtain ⟨s,rfl⟩:=h;exact W9 ad s n g p m hp
theorem Adg (n g cq mq:Int) (hcq:cq≤9223372036854775807) (hmq:mq≤9223372036854775807):Ao Tryz.prog 19 #[.pointer (some ⟨b,0,none⟩),.agg #[.int .i64 n,.int .i64 g],.int .i64 cq,.int .i64 mq] [rPT most z,A4 B ad] fun u L=>∃ v',u=.tuple #[v',.int .i64 (((By A (n,g) cq mq).2.1:Nat):Int),Ab ad (By A (n,g) cq mq).2.2]∧L=[rPT most z,A4 B ad,Bc true v' 107 3 e3C (By A (n,g) cq mq).1]:=by
  obtain ⟨s,rfl⟩:=h;exact Wx ad s n g cq mq hcq hmq
theorem Aby:Ao Tryz.prog 13 #[.pointer (some ⟨b,0,none⟩)] [rPT most z] fun u L=>u=.agg #[.int .i64 0,.int .i64 0]∧L=[rPT most z]:=by
  obtain ⟨s,rfl⟩:=h;exact Xe s
theorem Xw:Ao Tryz.prog 15 #[.pointer (some ⟨b,0,none⟩)] [rPT most z] fun u L=>u=.int .i64 (A.length:Int)∧L=[rPT most z]:=by
  obtain ⟨s,rfl⟩:=h;exact Uu s
end
theorem Sim.new_ (m:Nat) (h1:1≤m) (nb mb:Nat):Sim m ((List.replicate m none).set 0 (some nb)) ((List.replicate m (0:Int)).set 0 (0+1)) (((List.replicate m (none:Option ND)).set 0 (some (Cv nb 2 none))).set 0 (some (keepN (Cv nb 2 none) 2 0 2 0 0))) [(⟨(0,0),mb,[]⟩:DN)] [] [C4 (0,0) 2] ((List.replicate m (0:Int)).set 0 1):=by
  have hl0:Be [C4 (0,0) 2] (0,0)=0:=rfl
  refine ⟨by simp,by simp,by simp,rfl,fun k hk=>?_,by simp,fun d hd=>?_,fun M hM hk=>?_,by simp,fun p hp=>(by cases hp),fun M hM hk hp=>?_⟩
  · by_cases c:k=0
    · subst c
      have e1:((List.replicate m (0:Int)).set 0 1)[0]?=some 1:=List.getElem?_set_self (by simp;omega)
      refine .inr ⟨keepN (Cv nb 2 none) 2 0 2 0 0,C4 (0,0) 2,List.getElem?_set_self (by simp;omega),List.getElem?_set_self (by simp;omega),by simp,by rw [I4 e1];rfl,⟨rfl,rfl,rfl,fun _=>⟨rfl,?_,?_⟩,fun q=>absurd (show (2:Int)=1 from q) (by decide)⟩⟩
      · rw [show (C4 (0,0) 2).h=(0,0) from rfl,Ob hl0];rfl
      · rw [show (C4 (0,0) 2).h=(0,0) from rfl,Ob hl0];rfl
    · refine .inl ⟨?_,?_,fun M hM e=>?_⟩
      · rw [List.getElem?_set_ne (by omega),List.getElem?_replicate,if_pos hk]
      · rw [List.getElem?_set_ne (by omega),List.getElem?_set_ne (by omega),List.getElem?_replicate,if_pos hk]
      · rw [List.mem_singleton.1 hM] at e
        have:(0:Int)=(k:Int):=e
        omega
  · rw [List.mem_singleton.1 hd]
    exact ⟨C4 (0,0) 2,by simp,rfl,rfl,by simp,List.Perm.refl _⟩
  · rw [List.mem_singleton.1 hM]
    exact ⟨⟨(0,0),mb,[]⟩,List.mem_singleton.2 rfl,rfl⟩
  · rw [List.mem_singleton.1 hM] at hk
    exact absurd (show (2:Int)=1 from hk) (by decide)
theorem Ade {B:Nat} (ad:Nat→Addr) (m:Nat) (h1:1≤m) (h2:m≤300):Ao Tryz.prog 9 #[.int .i64 (m:Int)] [A4 B ad] fun u L=>∃ (b:Nat) (z:PZ),PB m b z [C4 (0,0) 2] ((List.replicate m (0:Int)).set 0 1) 1∧u=.tuple #[.pointer (some ⟨b,0,none⟩),.nilIface]∧L=[rPT m z,A4 B ad]:=by
  refine (Zw ad m h1 h2).after fun E w0 w u L h ho=>?_
  obtain ⟨b,tb,dm,pm,vl,vg,T,Sl,Sg,nb,mb,rfl,rfl⟩:=h
  have hs:=Sim.new_ m h1 nb mb
  refine ⟨_,⟨b,⟨b,tb,dm,pm,_,_,vl,vg,T,Sl,Sg,_,[⟨(0,0),mb,[]⟩],[]⟩,⟨⟨hs,TI.new h1,Srt.new,fun M hM e he=>?_,fun M hM=>?_,fun x hx=>?_,by decide,h1,h2⟩,rfl⟩,rfl,rfl⟩,?_⟩
  · rw [List.mem_singleton.1 hM] at he;cases he
  · rw [List.mem_singleton.1 hM];show (0:Int)≤0∧(0:Int)≤1∧(0:Int)≤1;decide
  · rcases List.mem_or_eq_of_mem_set hx with hx|rfl
    · rw [(List.mem_replicate.1 hx).2];decide
    · decide
  · exact Own.allJoin (M:=[A4 B ad]) _ (PZ.core_wr m ⟨b,tb,dm,pm,_,_,vl,vg,T,Sl,Sg,_,[⟨(0,0),mb,[]⟩],[]⟩) ho
theorem Y8 (A:List AN) (h:Hdl) (nm:ByteArray):(A9 A h nm).2≤15:=by
  unfold A9;(repeat' split)<;>simp
theorem Aau {most:Nat} {A:List AN} {h:Hdl} {nm:ByteArray} {kind:Int}:(B4 most A h nm kind).2≤15:=by
  unfold B4;(repeat' split)<;>simp
theorem Aeo (A:List AN) (x d:Hdl) (nm:ByteArray):C1 A x d nm≤15:=by
  unfold C1;(repeat' split)<;>simp
theorem Aar (A:List AN) (d:Hdl) (nm:ByteArray):Ci A d nm≤15:=by
  have:=Y8 A d nm
  unfold Ci;(repeat' split)<;>omega
theorem Zr (A:List AN) (a:Hdl) (old:ByteArray) (b:Hdl) (nm:ByteArray):(tRename A a old b nm).1≤15:=by
  unfold tRename;(repeat' split)<;>simp
theorem Aeb (A:List AN) (h:Hdl) (p:Int) (t:ByteArray):Eu A h p t≤15:=by
  unfold Eu atF Bj;(repeat' split)<;>simp
theorem Z9 (A:List AN) (h:Hdl) (p:Int):D5 A h p≤15:=by
  unfold D5 atF Bb;(repeat' split)<;>(try simp)<;>(repeat' split)<;>simp
theorem Yi (A:List AN) (h:Hdl) (p m:Int):(Bz A h p m).2.2≤15:=by
  unfold Bz atF D9;(repeat' split)<;>(try simp)<;>(repeat' split)<;>simp
theorem Yj (A:List AN) (h:Hdl) (p m:Int):(By A h p m).2.2≤15:=by
  unfold By;(repeat' split)<;>simp
theorem Ae0 (A:List AN) (h:Hdl):Eq A h≤15:=by
  unfold Eq;(repeat' split)<;>simp
theorem Aa9 (A:List AN) (h:Hdl):Cl A h≤15:=by
  unfold Cl;(repeat' split)<;>simp
def Cw (A:List AN):Prop:=∀ M∈A,M.pins=0
section
variable {A:List AN} (h:Cw A)
include h
theorem Cw.upd (d:Hdl) (f:AN→AN) (hf:∀ M,(f M).pins=M.pins):Cw (Cz A d f):=fun M hM=>by
  obtain ⟨K,hK,rfl⟩:=Ca hM
  by_cases c:K.h=d
  · rw [if_pos c,hf];exact h K hK
  · rw [if_neg c];exact h K hK
theorem Cw.touch (d:Hdl):Cw (Ar A d):=h.upd d _ fun _=>rfl
theorem Cw.leave (d:Hdl) (nm:ByteArray):Cw (Al A d nm):=h.upd d _ fun _=>rfl
theorem Cw.enter (d:Hdl) (nm:ByteArray) (x:Hdl):Cw (Aw A d nm x):=h.upd d _ fun _=>rfl
theorem Cw.filter (p:AN→Bool):Cw (A.filter p):=fun M hM=>h M (List.mem_filter.1 hM).1
theorem Cw.app {N:AN} (hN:N.pins=0):Cw (A++[N]):=fun M hM=>by
  rcases List.mem_append.1 hM with hM|hM
  · exact h M hM
  · rw [List.mem_singleton.1 hM];exact hN
theorem Cw.lose (x:Hdl):Cw (C7 A x):=by
  unfold C7
  split
  · split
    · exact h.filter _
    · exact (h.touch _).filter _
  · exact h
theorem Cw.create (ts:List Int) (d:Hdl) (nm:ByteArray) (kind:Int) (k:Nat):Cw (Gn A ts d nm kind k):=((h.app rfl).enter d nm _).touch _
theorem Cw.link (x d:Hdl) (nm:ByteArray):Cw (Lh A x d nm):=((h.enter d nm x).touch _).touch _
theorem Cw.remove (d:Hdl) (nm:ByteArray):Cw (D2 A d nm):=((h.leave d nm).touch _).lose _
theorem Cw.wr (d:Hdl) (p:Int) (t:ByteArray):Cw (Fg A d p t):=by
  unfold Fg atF
  split
  · exact h
  · split
    · exact h.upd d _ fun _=>rfl
    · exact h
theorem Cw.rz (d:Hdl) (p:Int):Cw (Ei A d p):=by
  unfold Ei atF
  split
  · exact h
  · split
    · exact h.upd d _ fun _=>rfl
    · exact h
theorem Cw.unpin (d:Hdl):Cw (if Cl A d=0 then G0 (G9 A d (-1)) else A):=by
  rw [if_neg]
  · exact h
  · intro q
    obtain ⟨D,hD,_,_,hp,_⟩:=Rr q
    exact hp (h D hD)
theorem Cw.rename (a:Hdl) (old:ByteArray) (b:Hdl) (nm:ByteArray):Cw (tRename A a old b nm).2:=by
  have key:∀ B:List AN,Cw B→Cw (if a=b then Ar B a else Ar (Ar B a) b):=fun B hB=>by
    split
    · exact hB.touch _
    · exact (hB.touch _).touch _
  have hm:∀ x y,Cw (Ew A a old b nm x y):=fun x y=>by
    cases y with
    | none=>exact key _ ((h.leave _ _).enter _ _ _)
    | some y=>exact key _ ((((h.leave _ _).leave _ _).enter _ _ _).lose _)
  rcases Hd A a old b nm with q|⟨F,T,x,X,_,_,_,_,_,_,_,⟨_,_,q⟩|⟨y,Y,_,_,_,_,_,_,q⟩⟩
  · rw [q];exact h
  · rw [q];exact hm x none
  · rw [q];exact hm x (some y)
end
section
variable (b:Nat) (mst:Int) (vl vt:Value) (L:List RN) (c:Int) (hc:c≤900000) (hok:Dv (L.map RN.a) c)
include b mst vl vt L c hc hok
theorem Tl (htx:Aat (L.map RN.a)) (n g p:Int) (t:ByteArray) (htz:t.size≤100000) (hp:-9223372036854775808≤p∧p≤9223372036854775807):Ao Tryz.prog 39 #[Pp b,Hg n g,Ii p,.string t] [Rt b mst vl vt,rRL vl L] (fun u L'=>∃ L2:List RN,L2.map RN.a=Fg (L.map RN.a) (n,g) p t∧u=Ii ((Eu (L.map RN.a) (n,g) p t:Nat):Int)∧L'=[Rt b mst vl vt,rRL vl L2]):=by
 have hl:=hok.hl
 have hnod:=hok.hnod
 have hent:=hok.hent
 have hfew:=hok.hfew
 refine Zo 36 Tryz.func39 fun E w0 w h=>?_
 refine Qs (ZN [Ii n,Ii g] 34 h fun k1 w h=>ZP (Ii 0) (Qm (ZP (Pp b) (ZG h (Gla 0 [Ii n,Ii g] 0) ?_))))
 refine ZD [1,1] (Ij b mst vl vt L n g (by omega)) h ?_;rintro v_ L_ w (⟨hno7,rfl,rfl⟩|⟨j2,N3,hx4,hh5,hkd6,rfl,rfl⟩|⟨j2,N3,hx4,hh5,hkd6,rfl,rfl⟩) h
 refine ZP (Ii 10) (Qu (ZP (Ii 10) (ZP (.bool true) (Qg (Qs (ZP (Ii 10) (ZP (Ii 10) (Qr (Ap (ZR [Ii 10] [0,0] h ?_))))))))))
 have hE:Eu (L.map RN.a) (n,g) p t=_:=Gd (A:=L.map RN.a) (h:=(n,g)) (e:=id) (f:=fun N=>(Bj N.s N.holes p t).2.2) (E5 hno7)
 have hL:Fg (L.map RN.a) (n,g) p t=_:=Gd (A:=L.map RN.a) (h:=(n,g)) (e:=fun _=>L.map RN.a) (f:=fun _=>Cz (L.map RN.a) (n,g) (wrA p t)) (E5 hno7)
 exact ⟨L,by rw [hL],by rw [hE];rfl,rfl⟩
 refine ZP (Ii 8) (Qu (ZP (Ii 8) (ZP (.bool true) (Qg (Qs (ZP (Ii 8) (ZP (Ii 8) (Qr (Ap (ZR [Ii 8] [0,0] h ?_))))))))))
 have hE:Eu (L.map RN.a) (n,g) p t=_:=Hx (A:=L.map RN.a) (h:=(n,g)) (e:=id) (f:=fun N=>(Bj N.s N.holes p t).2.2) (Ah hnod hx4 hh5) hkd6
 have hL:Fg (L.map RN.a) (n,g) p t=_:=Hx (A:=L.map RN.a) (h:=(n,g)) (e:=fun _=>L.map RN.a) (f:=fun _=>Cz (L.map RN.a) (n,g) (wrA p t)) (Ah hnod hx4 hh5) hkd6
 exact ⟨L,by rw [hL],by rw [hE];rfl,rfl⟩
 refine ZP (Ii 0) (Qu (ZP (Ii 0) (ZP (.bool false) (Fs ?_))))
 have hrD:=hok.at_rng hx4
 refine ZP (Pp b) (ZG h (Gla 0 [Ii n,Ii g] 2) (ZC [0,0] (Cq b mst vl vt L (by omega) hnod j2 N3 hx4 n g hh5) h fun w h=>ZP (Pp N3.nb) (Qm (ZP (Pp N3.nb) (ZP (Pp N3.nb) (ZP (Pt N3.nb 4) (ZP (Ii p) (ZP (.string t) ?_))))))))
 refine ZD [1] (Sc vl L j2 N3 hx4 (htx.at_ hx4).1 (htx.at_ hx4).2 p t htz hp) h ?_;rintro v_ L_ w ⟨v8,rfl,rfl⟩ h
 have hx9:=Cg (⟨N3.nb,v8,N3.ve,⟨N3.a.h,N3.a.kind,N3.a.change,(Bj N3.a.s N3.a.holes p t).1,(Bj N3.a.s N3.a.holes p t).2.1,N3.a.es,N3.a.pins⟩⟩:RN) hx4
 refine ZP (Ii (((Bj N3.a.s N3.a.holes p t).2.2:Nat):Int)) (Qu (ZP (Ii (((Bj N3.a.s N3.a.holes p t).2.2:Nat):Int)) ?_))
 obtain ⟨b10,hb10⟩:=nmB (decide ((((Bj N3.a.s N3.a.holes p t).2.2:Nat):Int)=0))
 refine ZB hb10 (ZP (.bool b10) ?_)
 rcases Bool.eq_false_or_eq_true b10 with hc11|hc11
 subst hc11
 have q12:=hb10.symm
 have q12:=dcT q12
 refine ZP (.string t) ?_
 obtain ⟨b13,hb13⟩:=nmB (!(decide (t=(⟨#[]⟩:ByteArray))))
 refine Ku (v:=.bool b13) (by kernel_rfl) h (by subst hb13;exact A1 (v:=.bool !(t.toList==(⟨#[]⟩:ByteArray).toList)) (v':=.bool (!(decide (t=(⟨#[]⟩:ByteArray))))) (Ay fun _=>by kernel_rfl) Agy) ?_
 refine ZP (.bool b13) (Qn (Zi (b13) (fun hc14=>?_) fun hc14=>?_))
 have q15:=hb13.symm.trans hc14
 have q16:(decide (t=(⟨#[]⟩:ByteArray)))=false:=by simpa using q15
 have q16:=dcF q16
 refine Ai (ZP (Pp N3.nb) (ZP (Pp N3.nb) (ZP (Pt N3.nb 3) (ZG h (Gr 3 (Ii N3.a.change) 0 rfl (B5 hx9 3 (by kernel_rfl))) (ZG h (Gw (N3.a.change+1)) (ZP (Pp N3.nb) (ZP (Pt N3.nb 3) ?_)))))))
 refine Fh rfl (b:=N3.nb) 3 [Ii (N3.a.change+1)] h 0 rfl (by kernel_rfl) (Lq hx9 3 [Ii (N3.a.change+1)] (⟨N3.nb,v8,N3.ve,⟨N3.a.h,N3.a.kind,N3.a.change+1,(Bj N3.a.s N3.a.holes p t).1,(Bj N3.a.s N3.a.holes p t).2.1,N3.a.es,N3.a.pins⟩⟩:RN) (Nat.le_of_ble_eq_true (by kernel_rfl)) (by kernel_rfl) rfl rfl rfl rfl rfl) ?_;intro w h
 have hx17:=Cg (⟨N3.nb,v8,N3.ve,⟨N3.a.h,N3.a.kind,N3.a.change+1,(Bj N3.a.s N3.a.holes p t).1,(Bj N3.a.s N3.a.holes p t).2.1,N3.a.es,N3.a.pins⟩⟩:RN) hx9
 refine Qm (ZP (Ii (((Bj N3.a.s N3.a.holes p t).2.2:Nat):Int)) (ZP (Ii (((Bj N3.a.s N3.a.holes p t).2.2:Nat):Int)) (Qr (ZR [Ii (((Bj N3.a.s N3.a.holes p t).2.2:Nat):Int)] [1,0] h ?_))))
 have hE:Eu (L.map RN.a) (n,g) p t=_:=Gb (A:=L.map RN.a) (h:=(n,g)) (e:=id) (f:=fun N=>(Bj N.s N.holes p t).2.2) (Ah hnod hx4 hh5) hkd6
 have hL:Fg (L.map RN.a) (n,g) p t=_:=Gb (A:=L.map RN.a) (h:=(n,g)) (e:=fun _=>L.map RN.a) (f:=fun _=>Cz (L.map RN.a) (n,g) (wrA p t)) (Ah hnod hx4 hh5) hkd6
 have hch:(if (Bj N3.a.s N3.a.holes p t).2.2=0∧¬t.size=0 then (1:Int) else 0)=1:=if_pos ⟨by omega,(fun e=>absurd (Ho.1 e) (by assumption))⟩
 refine ⟨(L.set j2 (⟨N3.nb,v8,N3.ve,⟨N3.a.h,N3.a.kind,N3.a.change,(Bj N3.a.s N3.a.holes p t).1,(Bj N3.a.s N3.a.holes p t).2.1,N3.a.es,N3.a.pins⟩⟩:RN)).set j2 (⟨N3.nb,v8,N3.ve,⟨N3.a.h,N3.a.kind,N3.a.change+1,(Bj N3.a.s N3.a.holes p t).1,(Bj N3.a.s N3.a.holes p t).2.1,N3.a.es,N3.a.pins⟩⟩:RN),?_,by rw [hE];rfl,rfl⟩
 rw [hL]
 rw [List.set_set]
 refine Da hnod hx4 hh5 ?_
 unfold wrA
 rw [hch]
 have q18:=hb13.symm.trans hc14
 have q19:(decide (t=(⟨#[]⟩:ByteArray)))=true:=by simpa using q18
 have q19:=dcT q19
 refine Ks (ZP (Ii (((Bj N3.a.s N3.a.holes p t).2.2:Nat):Int)) (ZP (Ii (((Bj N3.a.s N3.a.holes p t).2.2:Nat):Int)) (Qr (ZR [Ii (((Bj N3.a.s N3.a.holes p t).2.2:Nat):Int)] [1,0] h ?_))))
 have hE:Eu (L.map RN.a) (n,g) p t=_:=Gb (A:=L.map RN.a) (h:=(n,g)) (e:=id) (f:=fun N=>(Bj N.s N.holes p t).2.2) (Ah hnod hx4 hh5) hkd6
 have hL:Fg (L.map RN.a) (n,g) p t=_:=Gb (A:=L.map RN.a) (h:=(n,g)) (e:=fun _=>L.map RN.a) (f:=fun _=>Cz (L.map RN.a) (n,g) (wrA p t)) (Ah hnod hx4 hh5) hkd6
 have hch:(if (Bj N3.a.s N3.a.holes p t).2.2=0∧¬t.size=0 then (1:Int) else 0)=0:=if_neg (fun e=>absurd (Ho.2 (by assumption)) e.2)
 refine ⟨L.set j2 (⟨N3.nb,v8,N3.ve,⟨N3.a.h,N3.a.kind,N3.a.change,(Bj N3.a.s N3.a.holes p t).1,(Bj N3.a.s N3.a.holes p t).2.1,N3.a.es,N3.a.pins⟩⟩:RN),?_,by rw [hE];rfl,rfl⟩
 rw [hL]
 refine Da hnod hx4 hh5 ?_
 unfold wrA
 rw [hch,Int.add_zero]
 subst hc11
 have q20:=hb10.symm
 have q20:=dcF q20
 refine Zx (Zx (ZP (.bool false) (Fs (ZP (Ii (((Bj N3.a.s N3.a.holes p t).2.2:Nat):Int)) (ZP (Ii (((Bj N3.a.s N3.a.holes p t).2.2:Nat):Int)) (Qr (ZR [Ii (((Bj N3.a.s N3.a.holes p t).2.2:Nat):Int)] [1,0] h ?_)))))))
 have hE:Eu (L.map RN.a) (n,g) p t=_:=Gb (A:=L.map RN.a) (h:=(n,g)) (e:=id) (f:=fun N=>(Bj N.s N.holes p t).2.2) (Ah hnod hx4 hh5) hkd6
 have hL:Fg (L.map RN.a) (n,g) p t=_:=Gb (A:=L.map RN.a) (h:=(n,g)) (e:=fun _=>L.map RN.a) (f:=fun _=>Cz (L.map RN.a) (n,g) (wrA p t)) (Ah hnod hx4 hh5) hkd6
 have hch:(if (Bj N3.a.s N3.a.holes p t).2.2=0∧¬t.size=0 then (1:Int) else 0)=0:=if_neg (fun e=>by omega)
 refine ⟨L.set j2 (⟨N3.nb,v8,N3.ve,⟨N3.a.h,N3.a.kind,N3.a.change,(Bj N3.a.s N3.a.holes p t).1,(Bj N3.a.s N3.a.holes p t).2.1,N3.a.es,N3.a.pins⟩⟩:RN),?_,by rw [hE];rfl,rfl⟩
 rw [hL]
 refine Da hnod hx4 hh5 ?_
 unfold wrA
 rw [hch,Int.add_zero]
theorem Su (htx:Aat (L.map RN.a)) (n g p:Int) (hp:-9223372036854775808≤p∧p≤9223372036854775807):Ao Tryz.prog 41 #[Pp b,Hg n g,Ii p] [Rt b mst vl vt,rRL vl L] (fun u L'=>∃ L2:List RN,L2.map RN.a=Ei (L.map RN.a) (n,g) p∧u=Ii ((D5 (L.map RN.a) (n,g) p:Nat):Int)∧L'=[Rt b mst vl vt,rRL vl L2]):=by
 have hl:=hok.hl
 have hnod:=hok.hnod
 have hent:=hok.hent
 have hfew:=hok.hfew
 refine Zo 30 Tryz.func41 fun E w0 w h=>?_
 refine Qs (ZN [Ii n,Ii g] 34 h fun k1 w h=>ZP (Ii 0) (Qm (ZP (Pp b) (ZG h (Gla 0 [Ii n,Ii g] 0) ?_))))
 refine ZD [1,1] (Ij b mst vl vt L n g (by omega)) h ?_;rintro v_ L_ w (⟨hno7,rfl,rfl⟩|⟨j2,N3,hx4,hh5,hkd6,rfl,rfl⟩|⟨j2,N3,hx4,hh5,hkd6,rfl,rfl⟩) h
 refine ZP (Ii 10) (Qu (ZP (Ii 10) (ZP (.bool true) (Qg (Qs (ZP (Ii 10) (ZP (Ii 10) (Qr (Ap (ZR [Ii 10] [0,0] h ?_))))))))))
 have hE:D5 (L.map RN.a) (n,g) p=_:=Gd (A:=L.map RN.a) (h:=(n,g)) (e:=id) (f:=fun N=>(Bb N.s N.holes p).2.2) (E5 hno7)
 have hL:Ei (L.map RN.a) (n,g) p=_:=Gd (A:=L.map RN.a) (h:=(n,g)) (e:=fun _=>L.map RN.a) (f:=fun _=>Cz (L.map RN.a) (n,g) (rzA p)) (E5 hno7)
 exact ⟨L,by rw [hL],by rw [hE];rfl,rfl⟩
 refine ZP (Ii 8) (Qu (ZP (Ii 8) (ZP (.bool true) (Qg (Qs (ZP (Ii 8) (ZP (Ii 8) (Qr (Ap (ZR [Ii 8] [0,0] h ?_))))))))))
 have hE:D5 (L.map RN.a) (n,g) p=_:=Hx (A:=L.map RN.a) (h:=(n,g)) (e:=id) (f:=fun N=>(Bb N.s N.holes p).2.2) (Ah hnod hx4 hh5) hkd6
 have hL:Ei (L.map RN.a) (n,g) p=_:=Hx (A:=L.map RN.a) (h:=(n,g)) (e:=fun _=>L.map RN.a) (f:=fun _=>Cz (L.map RN.a) (n,g) (rzA p)) (Ah hnod hx4 hh5) hkd6
 exact ⟨L,by rw [hL],by rw [hE];rfl,rfl⟩
 refine ZP (Ii 0) (Qu (ZP (Ii 0) (ZP (.bool false) (Fs (ZP (Pp b) (ZG h (Gla 0 [Ii n,Ii g] 2) (ZC [0,0] (Cq b mst vl vt L (by omega) hnod j2 N3 hx4 n g hh5) h fun w h=>ZP (Pp N3.nb) (Qm ?_))))))))
 have hrD:=hok.at_rng hx4
 refine ZP (Pp N3.nb) (ZP (Pp N3.nb) (ZP (Pt N3.nb 4) (ZP (Ii p) ?_)))
 refine ZD [1] (P8 vl L j2 N3 hx4 (htx.at_ hx4).1 (htx.at_ hx4).2 p hp) h ?_;rintro v_ L_ w ⟨v8,rfl,rfl⟩ h
 have hx9:=Cg (⟨N3.nb,v8,N3.ve,⟨N3.a.h,N3.a.kind,N3.a.change,(Bb N3.a.s N3.a.holes p).1,(Bb N3.a.s N3.a.holes p).2.1,N3.a.es,N3.a.pins⟩⟩:RN) hx4
 refine ZP (Ii (((Bb N3.a.s N3.a.holes p).2.2:Nat):Int)) (Qu (ZP (Ii (((Bb N3.a.s N3.a.holes p).2.2:Nat):Int)) (ZP (.bool (decide ((((Bb N3.a.s N3.a.holes p).2.2:Nat):Int)=0))) (Qn (Zd ((((Bb N3.a.s N3.a.holes p).2.2:Nat):Int)=0) (fun hc10=>?_) fun hc10=>?_)))))
 refine Ai (ZP (Pp N3.nb) (ZP (Pp N3.nb) (ZP (Pt N3.nb 3) (ZG h (Gr 3 (Ii N3.a.change) 0 rfl (B5 hx9 3 (by kernel_rfl))) (ZG h (Gw (N3.a.change+1)) (ZP (Pp N3.nb) (ZP (Pt N3.nb 3) ?_)))))))
 refine Fh rfl (b:=N3.nb) 3 [Ii (N3.a.change+1)] h 0 rfl (by kernel_rfl) (Lq hx9 3 [Ii (N3.a.change+1)] (⟨N3.nb,v8,N3.ve,⟨N3.a.h,N3.a.kind,N3.a.change+1,(Bb N3.a.s N3.a.holes p).1,(Bb N3.a.s N3.a.holes p).2.1,N3.a.es,N3.a.pins⟩⟩:RN) (Nat.le_of_ble_eq_true (by kernel_rfl)) (by kernel_rfl) rfl rfl rfl rfl rfl) ?_;intro w h
 have hx11:=Cg (⟨N3.nb,v8,N3.ve,⟨N3.a.h,N3.a.kind,N3.a.change+1,(Bb N3.a.s N3.a.holes p).1,(Bb N3.a.s N3.a.holes p).2.1,N3.a.es,N3.a.pins⟩⟩:RN) hx9
 refine Qm (ZP (Ii (((Bb N3.a.s N3.a.holes p).2.2:Nat):Int)) (ZP (Ii (((Bb N3.a.s N3.a.holes p).2.2:Nat):Int)) (Qr (ZR [Ii (((Bb N3.a.s N3.a.holes p).2.2:Nat):Int)] [1,0] h ?_))))
 have hE:D5 (L.map RN.a) (n,g) p=_:=Gb (A:=L.map RN.a) (h:=(n,g)) (e:=id) (f:=fun N=>(Bb N.s N.holes p).2.2) (Ah hnod hx4 hh5) hkd6
 have hL:Ei (L.map RN.a) (n,g) p=_:=Gb (A:=L.map RN.a) (h:=(n,g)) (e:=fun _=>L.map RN.a) (f:=fun _=>Cz (L.map RN.a) (n,g) (rzA p)) (Ah hnod hx4 hh5) hkd6
 have hch:(if (Bb N3.a.s N3.a.holes p).2.2=0 then (1:Int) else 0)=1:=if_pos (by omega)
 refine ⟨(L.set j2 (⟨N3.nb,v8,N3.ve,⟨N3.a.h,N3.a.kind,N3.a.change,(Bb N3.a.s N3.a.holes p).1,(Bb N3.a.s N3.a.holes p).2.1,N3.a.es,N3.a.pins⟩⟩:RN)).set j2 (⟨N3.nb,v8,N3.ve,⟨N3.a.h,N3.a.kind,N3.a.change+1,(Bb N3.a.s N3.a.holes p).1,(Bb N3.a.s N3.a.holes p).2.1,N3.a.es,N3.a.pins⟩⟩:RN),?_,by rw [hE];rfl,rfl⟩
 rw [hL]
 rw [List.set_set]
 refine Da hnod hx4 hh5 ?_
 unfold rzA
 rw [hch]
 refine Ks (ZP (Ii (((Bb N3.a.s N3.a.holes p).2.2:Nat):Int)) (ZP (Ii (((Bb N3.a.s N3.a.holes p).2.2:Nat):Int)) (Qr (ZR [Ii (((Bb N3.a.s N3.a.holes p).2.2:Nat):Int)] [1,0] h ?_))))
 have hE:D5 (L.map RN.a) (n,g) p=_:=Gb (A:=L.map RN.a) (h:=(n,g)) (e:=id) (f:=fun N=>(Bb N.s N.holes p).2.2) (Ah hnod hx4 hh5) hkd6
 have hL:Ei (L.map RN.a) (n,g) p=_:=Gb (A:=L.map RN.a) (h:=(n,g)) (e:=fun _=>L.map RN.a) (f:=fun _=>Cz (L.map RN.a) (n,g) (rzA p)) (Ah hnod hx4 hh5) hkd6
 have hch:(if (Bb N3.a.s N3.a.holes p).2.2=0 then (1:Int) else 0)=0:=if_neg (fun e=>by omega)
 refine ⟨L.set j2 (⟨N3.nb,v8,N3.ve,⟨N3.a.h,N3.a.kind,N3.a.change,(Bb N3.a.s N3.a.holes p).1,(Bb N3.a.s N3.a.holes p).2.1,N3.a.es,N3.a.pins⟩⟩:RN),?_,by rw [hE];rfl,rfl⟩
 rw [hL]
 refine Da hnod hx4 hh5 ?_
 unfold rzA
 rw [hch,Int.add_zero]
theorem P0 (htx:Aat (L.map RN.a)) (n g p m:Int) (hp:-9223372036854775808≤p∧p≤9223372036854775807) (hm:-9223372036854775808≤m∧m≤9223372036854775807):Ao Tryz.prog 65 #[Pp b,Hg n g,Ii p,Ii m] [Rt b mst vl vt,rRL vl L] (fun u L'=>u=.tuple #[.string (Bz (L.map RN.a) (n,g) p m).1,.bool (Bz (L.map RN.a) (n,g) p m).2.1,Ii (((Bz (L.map RN.a) (n,g) p m).2.2:Nat):Int)]∧L'=[Rt b mst vl vt,rRL vl L]):=by
 have hl:=hok.hl
 have hnod:=hok.hnod
 have hent:=hok.hent
 have hfew:=hok.hfew
 refine Zo 25 Tryz.func65 fun E w0 w h=>?_
 refine Qs (ZN [Ii n,Ii g] 34 h fun k1 w h=>ZP (.string (⟨#[]⟩:ByteArray)) (ZP (.bool false) (ZP (Ii 0) (Qm (ZP (Pp b) (ZG h (Gla 0 [Ii n,Ii g] 0) ?_))))))
 refine ZD [1,1] (Ij b mst vl vt L n g (by omega)) h ?_;rintro v_ L_ w (⟨hno7,rfl,rfl⟩|⟨j2,N3,hx4,hh5,hkd6,rfl,rfl⟩|⟨j2,N3,hx4,hh5,hkd6,rfl,rfl⟩) h
 refine ZP (Ii 10) (Qu (ZP (Ii 10) (ZP (.bool true) (Qg (Qs (ZP (Ii 10) (ZP (.string (⟨#[]⟩:ByteArray)) (ZP (.bool false) (ZP (Ii 10) (Qr (Ap (ZR [.string (⟨#[]⟩:ByteArray),.bool false,Ii 10] [0,0] h ?_))))))))))))
 have hE:Bz (L.map RN.a) (n,g) p m=_:=Gd (α:=ByteArray×Bool×Nat) (A:=L.map RN.a) (h:=(n,g)) (e:=fun e=>((⟨#[]⟩:ByteArray),false,e)) (f:=fun N=>D9 N.s p m) (E5 hno7)
 exact ⟨by rw [hE];rfl,rfl⟩
 refine ZP (Ii 8) (Qu (ZP (Ii 8) (ZP (.bool true) (Qg (Qs (ZP (Ii 8) (ZP (.string (⟨#[]⟩:ByteArray)) (ZP (.bool false) (ZP (Ii 8) (Qr (Ap (ZR [.string (⟨#[]⟩:ByteArray),.bool false,Ii 8] [0,0] h ?_))))))))))))
 have hE:Bz (L.map RN.a) (n,g) p m=_:=Hx (α:=ByteArray×Bool×Nat) (A:=L.map RN.a) (h:=(n,g)) (e:=fun e=>((⟨#[]⟩:ByteArray),false,e)) (f:=fun N=>D9 N.s p m) (Ah hnod hx4 hh5) hkd6
 exact ⟨by rw [hE];rfl,rfl⟩
 refine ZP (Ii 0) (Qu (ZP (Ii 0) (ZP (.bool false) (Fs (ZP (Pp b) (ZG h (Gla 0 [Ii n,Ii g] 2) (ZC [0,0] (Cq b mst vl vt L (by omega) hnod j2 N3 hx4 n g hh5) h fun w h=>ZP (Pp N3.nb) (ZP (Pt N3.nb 4) (ZP (Ii p) (ZP (Ii m) (ZC [1] (Ue vl L j2 N3 hx4 (htx.at_ hx4).1 p m hp hm) h fun w h=>ZP (.string ((D9 N3.a.s p m).1)) (ZP (.bool ((D9 N3.a.s p m).2.1)) (ZP (Ii ((D9 N3.a.s p m).2.2:Int)) (ZP (.string ((D9 N3.a.s p m).1)) (ZP (.bool ((D9 N3.a.s p m).2.1)) (ZP (Ii ((D9 N3.a.s p m).2.2:Int)) (Qr (ZR [.string ((D9 N3.a.s p m).1),.bool ((D9 N3.a.s p m).2.1),Ii ((D9 N3.a.s p m).2.2:Int)] [1,0] h ?_))))))))))))))))))
 have hE:Bz (L.map RN.a) (n,g) p m=_:=Gb (α:=ByteArray×Bool×Nat) (A:=L.map RN.a) (h:=(n,g)) (e:=fun e=>((⟨#[]⟩:ByteArray),false,e)) (f:=fun N=>D9 N.s p m) (Ah hnod hx4 hh5) hkd6
 exact ⟨by rw [hE];rfl,rfl⟩
theorem Te (n g:Int) (cn:Nat) (hcn:cn≤9223372036854775807) (m:Int) (hm:-9223372036854775808≤m∧m≤9223372036854775807):Ao Tryz.prog 23 #[Pp b,Hg n g,Ii cn,Ii m] [Rt b mst vl vt,rRL vl L] (fun u L'=>∃ v',u=.tuple #[v',Ii (((By (L.map RN.a) (n,g) (cn:Int) m).2.1:Nat):Int),Ii (((By (L.map RN.a) (n,g) (cn:Int) m).2.2:Nat):Int)]∧L'=[Rt b mst vl vt,rRL vl L,Bc true v' 107 3 e3C ((By (L.map RN.a) (n,g) (cn:Int) m).1)]):=by
 have hl:=hok.hl
 have hnod:=hok.hnod
 have hent:=hok.hent
 have hfew:=hok.hfew
 refine Zo 66 Tryz.func23 fun E w0 w h=>?_
 refine Qs (ZN [Ii n,Ii g] 34 h fun k1 w h=>ZP (.slice none 0 0) (ZP (Ii 0) (ZP (Ii 0) (Qm (ZP (Pp b) (ZG h (Gla 0 [Ii n,Ii g] 0) ?_))))))
 refine ZD [1,1] (F2 b mst vl vt L n g (by omega)) h ?_;rintro v_ L_ w (⟨hno7,rfl,rfl⟩|⟨j2,N3,hx4,hh5,hkd6,rfl,rfl⟩|⟨j2,N3,hx4,hh5,hkd6,rfl,rfl⟩) h
 refine ZP (Ii 10) (Qu (ZP (Ii 10) (ZP (.bool true) (Qg (Qs (ZP (Ii 10) (ZP (.slice none 0 0) (ZP (Ii 0) (ZP (Ii 10) (Qr (Ap ?_)))))))))))
 have h:=h.nilRows 107 3 e3C
 refine ZR [.slice none 0 0,Ii 0,Ii 10] [1,1,0] h ?_
 have hT:=R1 (A:=L.map RN.a) (h:=(n,g)) (c:=(cn:Int)) (m:=m) (E5 hno7)
 exact ⟨(.slice none 0 0),by rw [hT];rfl,by rw [hT];rfl⟩
 refine ZP (Ii 7) (Qu (ZP (Ii 7) (ZP (.bool true) (Qg (Qs (ZP (Ii 7) (ZP (.slice none 0 0) (ZP (Ii 0) (ZP (Ii 7) (Qr (Ap ?_)))))))))))
 have h:=h.nilRows 107 3 e3C
 refine ZR [.slice none 0 0,Ii 0,Ii 7] [1,1,0] h ?_
 have hT:=Se (A:=L.map RN.a) (h:=(n,g)) (c:=(cn:Int)) (m:=m) (Ah hnod hx4 hh5) hkd6
 exact ⟨(.slice none 0 0),by rw [hT];rfl,by rw [hT];rfl⟩
 refine ZP (Ii 0) (Qu (ZP (Ii 0) (ZP (.bool false) (Ft (ZP (Ii cn) ?_)))))
 obtain ⟨b8,hb8⟩:=nmB (decide ((cn:Int)<0))
 refine ZB hb8 (ZP (.bool b8) ?_)
 rcases Bool.eq_false_or_eq_true b8 with hc9|hc9
 subst hc9
 have q10:=hb8.symm
 have q10:=dcT q10
 refine Zx (Zx (ZP (.bool true) (Qg (Qs (ZP (.slice none 0 0) (ZP (Ii 0) (ZP (Ii 2) (Qr (Ap ?_)))))))))
 have h:=h.nilRows 107 3 e3C
 refine ZR [.slice none 0 0,Ii 0,Ii 2] [1,1,0] h ?_
 have hT:=Ps (A:=L.map RN.a) (h:=(n,g)) (c:=(cn:Int)) (m:=m) (Ah hnod hx4 hh5) hkd6 (by omega)
 exact ⟨(.slice none 0 0),by rw [hT];rfl,by rw [hT];rfl⟩
 subst hc9
 have q11:=hb8.symm
 have q11:=dcF q11
 refine ZP (Ii m) ?_
 obtain ⟨b12,hb12⟩:=nmB (decide (m<0))
 refine ZB hb12 (ZP (.bool b12) (Qn (Zi (b12) (fun hc13=>?_) fun hc13=>?_)))
 have q14:=hb12.symm.trans hc13
 have q14:=dcT q14
 refine Qs (ZP (.slice none 0 0) (ZP (Ii 0) (ZP (Ii 2) (Qr (Ap ?_)))))
 have h:=h.nilRows 107 3 e3C
 refine ZR [.slice none 0 0,Ii 0,Ii 2] [1,1,0] h ?_
 have hT:=Ps (A:=L.map RN.a) (h:=(n,g)) (c:=(cn:Int)) (m:=m) (Ah hnod hx4 hh5) hkd6 (by omega)
 exact ⟨(.slice none 0 0),by rw [hT];rfl,by rw [hT];rfl⟩
 have q15:=hb12.symm.trans hc13
 have q15:=dcF q15
 refine Ks (ZP (Pp b) (ZG h (Gla 0 [Ii n,Ii g] 2) (ZC [0,0] (Cq b mst vl vt L (by omega) hnod j2 N3 hx4 n g hh5) h fun w h=>ZP (Pp N3.nb) (Qm (ZP (Ii cn) (ZP (Ii cn) (Qu (ZP (Ii cn) (ZP (Pp N3.nb) (ZP (Pp N3.nb) (ZP (Pt N3.nb 6) (ZG h (Gr 6 N3.ve 1 rfl (B5 hx4 6 (by kernel_rfl))) (ZG h (Dh 107 (by kernel_rfl) 1 rfl (Bo hx4)) (ZP (.bool (decide ((cn:Int)>(N3.a.es.length:Int)))) (Qn (Zd ((cn:Int)>(N3.a.es.length:Int)) (fun hc16=>?_) fun hc16=>?_))))))))))))))))
 have hfw:=hok.at_few hx4
 refine Ai (ZP (Pp N3.nb) (ZP (Pp N3.nb) (ZP (Pt N3.nb 6) (ZG h (Gr 6 N3.ve 1 rfl (B5 hx4 6 (by kernel_rfl))) (ZG h (Dh 107 (by kernel_rfl) 1 rfl (Bo hx4)) (ZP (Ii (N3.a.es.length:Int)) (Qm (ZP (.slice none 0 0) (Qn (Aa (Au ?_)))))))))))
 have h:=h.nilRows 107 3 e3C
 refine ZL (X:=Nat×List Bm×Value×(Nat→Value)) [(43,67)] (fun ⟨k,ls,vo,J0⟩=>[(13,Ii k),(14,vo)]) (fun ⟨k,ls,vo,J0⟩=>J0) (fun ⟨k,ls,vo,J0⟩=>[Bc true vo 107 3 e3C ls,Rt b mst vl vt,rRL vl L,Rh k1 n g]) (fun ⟨k,ls,vo,J0⟩=>k≤N3.a.es.length∧N3.a.es.length≤k∧k - N3.a.es.length≤m.toNat∧ls=(N3.a.es.drop N3.a.es.length).take (k - N3.a.es.length)) (fun ⟨k,ls,vo,J0⟩=>N3.a.es.length - k) (fun j=>⟨N3.a.es.length,[],(.slice none 0 0),j⟩) ⟨by omega,by omega,by omega,by rw [Nat.sub_self];rfl⟩ [0,0,0,0] h ?_
 rintro ⟨k,ls,vo,J0⟩ w hG h
 obtain ⟨hk1,hk2,hk3,hls⟩:k≤N3.a.es.length∧N3.a.es.length≤k∧k - N3.a.es.length≤m.toNat∧ls=(N3.a.es.drop N3.a.es.length).take (k - N3.a.es.length):=hG
 have hll:ls.length=k - N3.a.es.length:=by rw [hls,List.length_take,List.length_drop];omega
 refine Qt (ZP (Ii k) (ZP (Pp N3.nb) (ZP (Pp N3.nb) (ZP (Pt N3.nb 6) (ZG h (Gr 6 N3.ve 2 rfl (B5 hx4 6 (by kernel_rfl))) (ZG h (Dh 107 (by kernel_rfl) 2 rfl (Bo hx4)) ?_))))))
 obtain ⟨b17,hb17⟩:=nmB (decide ((k:Int)<(N3.a.es.length:Int)))
 refine ZB hb17 (ZP (.bool b17) ?_)
 rcases Bool.eq_false_or_eq_true b17 with hc18|hc18
 subst hc18
 have q19:=hb17.symm
 have q19:=dcT q19
 refine ZP vo (ZG h (Kb (by kernel_rfl) 0 rfl) (ZP (Ii m) ?_))
 obtain ⟨b20,hb20⟩:=nmB (decide ((ls.length:Int)<m))
 refine ZB hb20 (ZP (.bool b20) (Qn (Zi (b20) (fun hc21=>?_) fun hc21=>?_)))
 have q22:=hb20.symm.trans hc21
 have q22:=dcT q22
 refine Kn (Au (Qs (ZP vo (ZP (Pp N3.nb) (ZP (Pp N3.nb) (ZP (Pt N3.nb 6) (ZG h (Gr 6 N3.ve 2 rfl (B5 hx4 6 (by kernel_rfl))) (ZP (Ii k) ?_))))))))
 have hi23:k<N3.a.es.length:=by omega
 obtain ⟨x24,hx25⟩:∃ x,N3.a.es[k]?=some x:=⟨_,List.getElem?_eq_getElem hi23⟩
 refine ZG h (Dx (k:=3) 107 k rfl (by kernel_rfl) hi23 2 rfl (Bo hx4)) (ZG h (Gra (B2 N3.ve+k*3) [.string x24.1,Ii x24.2.1,Ii x24.2.2] 2 rfl (Kg (Bo hx4) D3 hx25 (by kernel_rfl))) ?_)
 refine G1 rfl (fun b=>.slice (some ⟨b,0,none⟩) 1 1) [.string x24.1,Ii x24.2.1,Ii x24.2.2] 107 (fun _=>by kernel_rfl) h ?_;intro k26 w h
 refine Ht (b:=k26) (o:=0) rfl 1 x24 (by kernel_rfl) h 1 rfl 0 rfl (Fn 0 (by kernel_rfl)) (by (try simp only [List.length_append,List.length_cons,List.length_nil,List.length_map]);omega) ?_;intro v27 w h
 refine ZP v27 (Qn (Ai (ZP (Ii k) (ZG h (A1 (v:=Ii (IntKind.i64.wrap ((k:Int)+1))) (v':=Ii ((k+1:Nat):Int)) (Ay fun _=>by kernel_rfl) (wr (by omega))) (ZP (Ii ((k+1:Nat):Int)) (Dj ?_))))))
 refine Ch ?_
 have hQ28:((k+1)≤N3.a.es.length∧N3.a.es.length≤(k+1)∧(k+1) - N3.a.es.length≤m.toNat∧(ls++[x24])=(N3.a.es.drop N3.a.es.length).take ((k+1) - N3.a.es.length))∧(N3.a.es.length - (k+1))<(N3.a.es.length - k):=⟨⟨by omega,by omega,by omega,by rw [Rg hk2 hx25,← hls]⟩,by omega⟩
 refine Bu (fun j=>⟨(k+1),ls++[x24],v27,j⟩) hQ28 (by kernel_rfl) [1,1,1,1] (by kernel_rfl) h
 have q29:=hb20.symm.trans hc21
 have q29:=dcF q29
 refine Dk (Ea (Et (Ep (Ag (Qs (ZP vo (ZP (Ii k) (ZP vo (ZP (Ii k) (ZP (Ii 0) (Qr (ZR [vo,Ii k,Ii 0] [1,1,0] h ?_))))))))))))
 have hS:lsE N3.a.es (cn:Int) m=(ls,k):=Ol (k0:=N3.a.es.length) (by omega) hk2 hk1 hk3 hls (by omega)
 have hT:=U1 (A:=L.map RN.a) (h:=(n,g)) (c:=(cn:Int)) (m:=m) (Ah hnod hx4 hh5) hkd6 (by omega)
 rw [hS] at hT
 exact ⟨vo,by rw [hT];rfl,by rw [hT];rfl⟩
 subst hc18
 have q30:=hb17.symm
 have q30:=dcF q30
 refine Zx (Zx (Zx (Zx (ZP (.bool false) (Qf (Dk (Ea (Et (Ep (Ag (Qs (ZP vo (ZP (Ii k) (ZP vo (ZP (Ii k) (ZP (Ii 0) (Qr (ZR [vo,Ii k,Ii 0] [1,1,0] h ?_))))))))))))))))))
 have hS:lsE N3.a.es (cn:Int) m=(ls,k):=Ol (k0:=N3.a.es.length) (by omega) hk2 hk1 hk3 hls (by omega)
 have hT:=U1 (A:=L.map RN.a) (h:=(n,g)) (c:=(cn:Int)) (m:=m) (Ah hnod hx4 hh5) hkd6 (by omega)
 rw [hS] at hT
 exact ⟨vo,by rw [hT];rfl,by rw [hT];rfl⟩
 have hfw:=hok.at_few hx4
 refine Ks (ZP (.slice none 0 0) (Qn (Aa (Au ?_))))
 have h:=h.nilRows 107 3 e3C
 refine ZL (X:=Nat×List Bm×Value×(Nat→Value)) [(43,67)] (fun ⟨k,ls,vo,J1⟩=>[(13,Ii k),(14,vo)]) (fun ⟨k,ls,vo,J1⟩=>J1) (fun ⟨k,ls,vo,J1⟩=>[Bc true vo 107 3 e3C ls,Rt b mst vl vt,rRL vl L,Rh k1 n g]) (fun ⟨k,ls,vo,J1⟩=>k≤N3.a.es.length∧cn≤k∧k - cn≤m.toNat∧ls=(N3.a.es.drop cn).take (k - cn)) (fun ⟨k,ls,vo,J1⟩=>N3.a.es.length - k) (fun j=>⟨cn,[],(.slice none 0 0),j⟩) ⟨by omega,by omega,by omega,by rw [Nat.sub_self];rfl⟩ [0,0,0,0] h ?_
 rintro ⟨k,ls,vo,J1⟩ w hG h
 obtain ⟨hk1,hk2,hk3,hls⟩:k≤N3.a.es.length∧cn≤k∧k - cn≤m.toNat∧ls=(N3.a.es.drop cn).take (k - cn):=hG
 have hll:ls.length=k - cn:=by rw [hls,List.length_take,List.length_drop];omega
 refine Qt (ZP (Ii k) (ZP (Pp N3.nb) (ZP (Pp N3.nb) (ZP (Pt N3.nb 6) (ZG h (Gr 6 N3.ve 2 rfl (B5 hx4 6 (by kernel_rfl))) (ZG h (Dh 107 (by kernel_rfl) 2 rfl (Bo hx4)) ?_))))))
 obtain ⟨b31,hb31⟩:=nmB (decide ((k:Int)<(N3.a.es.length:Int)))
 refine ZB hb31 (ZP (.bool b31) ?_)
 rcases Bool.eq_false_or_eq_true b31 with hc32|hc32
 subst hc32
 have q33:=hb31.symm
 have q33:=dcT q33
 refine ZP vo (ZG h (Kb (by kernel_rfl) 0 rfl) (ZP (Ii m) ?_))
 obtain ⟨b34,hb34⟩:=nmB (decide ((ls.length:Int)<m))
 refine ZB hb34 (ZP (.bool b34) (Qn (Zi (b34) (fun hc35=>?_) fun hc35=>?_)))
 have q36:=hb34.symm.trans hc35
 have q36:=dcT q36
 refine Kn (Au (Qs (ZP vo (ZP (Pp N3.nb) (ZP (Pp N3.nb) (ZP (Pt N3.nb 6) (ZG h (Gr 6 N3.ve 2 rfl (B5 hx4 6 (by kernel_rfl))) (ZP (Ii k) ?_))))))))
 have hi37:k<N3.a.es.length:=by omega
 obtain ⟨x38,hx39⟩:∃ x,N3.a.es[k]?=some x:=⟨_,List.getElem?_eq_getElem hi37⟩
 refine ZG h (Dx (k:=3) 107 k rfl (by kernel_rfl) hi37 2 rfl (Bo hx4)) (ZG h (Gra (B2 N3.ve+k*3) [.string x38.1,Ii x38.2.1,Ii x38.2.2] 2 rfl (Kg (Bo hx4) D3 hx39 (by kernel_rfl))) ?_)
 refine G1 rfl (fun b=>.slice (some ⟨b,0,none⟩) 1 1) [.string x38.1,Ii x38.2.1,Ii x38.2.2] 107 (fun _=>by kernel_rfl) h ?_;intro k40 w h
 refine Ht (b:=k40) (o:=0) rfl 1 x38 (by kernel_rfl) h 1 rfl 0 rfl (Fn 0 (by kernel_rfl)) (by (try simp only [List.length_append,List.length_cons,List.length_nil,List.length_map]);omega) ?_;intro v41 w h
 refine ZP v41 (Qn (Ai (ZP (Ii k) (ZG h (A1 (v:=Ii (IntKind.i64.wrap ((k:Int)+1))) (v':=Ii ((k+1:Nat):Int)) (Ay fun _=>by kernel_rfl) (wr (by omega))) (ZP (Ii ((k+1:Nat):Int)) (Dj ?_))))))
 refine Ch ?_
 have hQ42:((k+1)≤N3.a.es.length∧cn≤(k+1)∧(k+1) - cn≤m.toNat∧(ls++[x38])=(N3.a.es.drop cn).take ((k+1) - cn))∧(N3.a.es.length - (k+1))<(N3.a.es.length - k):=⟨⟨by omega,by omega,by omega,by rw [Rg hk2 hx39,← hls]⟩,by omega⟩
 refine Bu (fun j=>⟨(k+1),ls++[x38],v41,j⟩) hQ42 (by kernel_rfl) [1,1,1,1] (by kernel_rfl) h
 have q43:=hb34.symm.trans hc35
 have q43:=dcF q43
 refine Dk (Ea (Et (Ep (Ag (Qs (ZP vo (ZP (Ii k) (ZP vo (ZP (Ii k) (ZP (Ii 0) (Qr (ZR [vo,Ii k,Ii 0] [1,1,0] h ?_))))))))))))
 have hS:lsE N3.a.es (cn:Int) m=(ls,k):=Ol (k0:=cn) (by omega) hk2 hk1 hk3 hls (by omega)
 have hT:=U1 (A:=L.map RN.a) (h:=(n,g)) (c:=(cn:Int)) (m:=m) (Ah hnod hx4 hh5) hkd6 (by omega)
 rw [hS] at hT
 exact ⟨vo,by rw [hT];rfl,by rw [hT];rfl⟩
 subst hc32
 have q44:=hb31.symm
 have q44:=dcF q44
 refine Zx (Zx (Zx (Zx (ZP (.bool false) (Qf (Dk (Ea (Et (Ep (Ag (Qs (ZP vo (ZP (Ii k) (ZP vo (ZP (Ii k) (ZP (Ii 0) (Qr (ZR [vo,Ii k,Ii 0] [1,1,0] h ?_))))))))))))))))))
 have hS:lsE N3.a.es (cn:Int) m=(ls,k):=Ol (k0:=cn) (by omega) hk2 hk1 hk3 hls (by omega)
 have hT:=U1 (A:=L.map RN.a) (h:=(n,g)) (c:=(cn:Int)) (m:=m) (Ah hnod hx4 hh5) hkd6 (by omega)
 rw [hS] at hT
 exact ⟨vo,by rw [hT];rfl,by rw [hT];rfl⟩
theorem Ty (n g:Int) (cq:Int) (hcn:cq<0) (m:Int) (hm:-9223372036854775808≤m∧m≤9223372036854775807):Ao Tryz.prog 23 #[Pp b,Hg n g,Ii cq,Ii m] [Rt b mst vl vt,rRL vl L] (fun u L'=>∃ v',u=.tuple #[v',Ii (((By (L.map RN.a) (n,g) cq m).2.1:Nat):Int),Ii (((By (L.map RN.a) (n,g) cq m).2.2:Nat):Int)]∧L'=[Rt b mst vl vt,rRL vl L,Bc true v' 107 3 e3C ((By (L.map RN.a) (n,g) cq m).1)]):=by
 have hl:=hok.hl
 have hnod:=hok.hnod
 have hent:=hok.hent
 have hfew:=hok.hfew
 refine Zo 66 Tryz.func23 fun E w0 w h=>?_
 refine Qs (ZN [Ii n,Ii g] 34 h fun k1 w h=>ZP (.slice none 0 0) (ZP (Ii 0) (ZP (Ii 0) (Qm (ZP (Pp b) (ZG h (Gla 0 [Ii n,Ii g] 0) ?_))))))
 refine ZD [1,1] (F2 b mst vl vt L n g (by omega)) h ?_;rintro v_ L_ w (⟨hno7,rfl,rfl⟩|⟨j2,N3,hx4,hh5,hkd6,rfl,rfl⟩|⟨j2,N3,hx4,hh5,hkd6,rfl,rfl⟩) h
 refine ZP (Ii 10) (Qu (ZP (Ii 10) (ZP (.bool true) (Qg (Qs (ZP (Ii 10) (ZP (.slice none 0 0) (ZP (Ii 0) (ZP (Ii 10) (Qr (Ap ?_)))))))))))
 have h:=h.nilRows 107 3 e3C
 refine ZR [.slice none 0 0,Ii 0,Ii 10] [1,1,0] h ?_
 have hT:=R1 (A:=L.map RN.a) (h:=(n,g)) (c:=cq) (m:=m) (E5 hno7)
 exact ⟨(.slice none 0 0),by rw [hT];rfl,by rw [hT];rfl⟩
 refine ZP (Ii 7) (Qu (ZP (Ii 7) (ZP (.bool true) (Qg (Qs (ZP (Ii 7) (ZP (.slice none 0 0) (ZP (Ii 0) (ZP (Ii 7) (Qr (Ap ?_)))))))))))
 have h:=h.nilRows 107 3 e3C
 refine ZR [.slice none 0 0,Ii 0,Ii 7] [1,1,0] h ?_
 have hT:=Se (A:=L.map RN.a) (h:=(n,g)) (c:=cq) (m:=m) (Ah hnod hx4 hh5) hkd6
 exact ⟨(.slice none 0 0),by rw [hT];rfl,by rw [hT];rfl⟩
 refine ZP (Ii 0) (Qu (ZP (Ii 0) (ZP (.bool false) (Ft (ZP (Ii cq) ?_)))))
 obtain ⟨b8,hb8⟩:=nmB (decide (cq<0))
 refine ZB hb8 (ZP (.bool b8) ?_)
 rcases Bool.eq_false_or_eq_true b8 with hc9|hc9
 subst hc9
 have q10:=hb8.symm
 have q10:=dcT q10
 refine Zx (Zx (ZP (.bool true) (Qg (Qs (ZP (.slice none 0 0) (ZP (Ii 0) (ZP (Ii 2) (Qr (Ap ?_)))))))))
 have h:=h.nilRows 107 3 e3C
 refine ZR [.slice none 0 0,Ii 0,Ii 2] [1,1,0] h ?_
 have hT:=Ps (A:=L.map RN.a) (h:=(n,g)) (c:=cq) (m:=m) (Ah hnod hx4 hh5) hkd6 (by omega)
 exact ⟨(.slice none 0 0),by rw [hT];rfl,by rw [hT];rfl⟩
 subst hc9
 have q11:=hb8.symm
 have q11:=dcF q11
 refine ZP (Ii m) ?_
 obtain ⟨b12,hb12⟩:=nmB (decide (m<0))
 refine ZB hb12 (ZP (.bool b12) (Qn (Zi (b12) (fun hc13=>?_) fun hc13=>?_)))
 have q14:=hb12.symm.trans hc13
 have q14:=dcT q14
 refine Qs (ZP (.slice none 0 0) (ZP (Ii 0) (ZP (Ii 2) (Qr (Ap ?_)))))
 have h:=h.nilRows 107 3 e3C
 refine ZR [.slice none 0 0,Ii 0,Ii 2] [1,1,0] h ?_
 have hT:=Ps (A:=L.map RN.a) (h:=(n,g)) (c:=cq) (m:=m) (Ah hnod hx4 hh5) hkd6 (by omega)
 exact ⟨(.slice none 0 0),by rw [hT];rfl,by rw [hT];rfl⟩
 have q15:=hb12.symm.trans hc13
 have q15:=dcF q15
 exfalso;omega
end
theorem Y9 (va vb:Value) (la lb:List Bm) (hla:la.length≤1000)  : Ao Tryz.prog 21 #[va,vb] [Bc true va 107 3 e3C la,Bc true vb 107 3 e3C lb] (fun u L'=>u=.bool (decide (la=lb))∧L'=[Bc true va 107 3 e3C la,Bc true vb 107 3 e3C lb]):=by
 refine Zo 24 Tryz.func21 fun E w0 w h=>?_
 refine Qs (ZP (.bool false) (Qu (ZP va (ZG h (Kb (by kernel_rfl) 0 rfl) (ZP vb (ZG h (Kb (by kernel_rfl) 1 rfl) (ZP (.bool (!(decide ((la.length:Int)=(lb.length:Int))))) (Qn (Zi (!(decide ((la.length:Int)=(lb.length:Int)))) (fun hc1=>?_) fun hc1=>?_)))))))))
 have q2:(decide ((la.length:Int)=(lb.length:Int)))=false:=by simpa using hc1
 have q2:=dcF q2
 refine Qs (ZP (.bool false) (Qr (Ap (ZR [.bool false] [0,0] h ?_))))
 have hE:la≠lb:=fun e=>by have:=congrArg List.length e;omega
 exact ⟨by rw [decide_eq_false hE];rfl,rfl⟩
 have q3:(decide ((la.length:Int)=(lb.length:Int)))=true:=by simpa using hc1
 have q3:=dcT q3
 refine Kw (ZP (Ii 0) (Qn (Au ?_)))
 refine ZL (X:=Nat×(Nat→Value)) [(4,4),(11,25)] (fun ⟨i,J0⟩=>[(5,Ii i)]) (fun ⟨i,J0⟩=>J0) (fun ⟨i,J0⟩=>[Bc true va 107 3 e3C la,Bc true vb 107 3 e3C lb]) (fun ⟨i,J0⟩=>i≤la.length∧la.take i=lb.take i) (fun ⟨i,J0⟩=>la.length - i) (fun j=>⟨0,j⟩) ⟨by omega,rfl⟩ [0,0] h ?_
 rintro ⟨i,J0⟩ w hG h
 obtain ⟨hi0,hsame⟩:i≤la.length∧la.take i=lb.take i:=hG
 refine Qt (ZP (Ii i) (ZP va (ZG h (Kb (by kernel_rfl) 0 rfl) (ZP (.bool (decide ((i:Int)<(la.length:Int)))) (Qn (Zd ((i:Int)<(la.length:Int)) (fun hc4=>?_) fun hc4=>?_))))))
 refine Kn (Aa (Au (Aa (Ds 9 [0,0] h fun w h=>Dp 0 242 va [0,0] h (Dp 1 241 (Ii i) [0,0] h ?_)))))
 have hi5:i<la.length:=by omega
 obtain ⟨x6,hx7⟩:∃ x,la[i]?=some x:=⟨_,List.getElem?_eq_getElem hi5⟩
 refine Dq (v:=Pt (Du va) (B2 va+i*3)) 2 243 [0,0] rfl h (G2 i (by kernel_rfl) hi5 0 rfl) (Dq 3 247 [0,0] rfl h (Gra (B2 va+i*3) [.string x6.1,Ii x6.2.1,Ii x6.2.2] 0 rfl (Fz D3 hx7 (by kernel_rfl))) (Dp 4 47 vb [0,0] h (Dp 5 31 (Ii i) [0,0] h ?_)))
 have hi8:i<lb.length:=by omega
 obtain ⟨x9,hx10⟩:∃ x,lb[i]?=some x:=⟨_,List.getElem?_eq_getElem hi8⟩
 refine Dq (v:=Pt (Du vb) (B2 vb+i*3)) 6 63 [0,0] rfl h (G2 i (by kernel_rfl) hi8 1 rfl) (Dq 7 127 [0,0] rfl h (Gra (B2 vb+i*3) [.string x9.1,Ii x9.2.1,Ii x9.2.2] 1 rfl (Fz D3 hx10 (by kernel_rfl))) (Dq (v:=.bool (!((decide (x6.1=x9.1))&&((decide (x6.2.1=x9.2.1))&&(decide (x6.2.2=x9.2.2)))))) 8 255 [0,0] rfl h (Agz (by kernel_rfl)) (Dd (Ag (Zi (!((decide (x6.1=x9.1))&&((decide (x6.2.1=x9.2.1))&&(decide (x6.2.2=x9.2.2))))) (fun hc11=>?_) fun hc11=>?_)))))
 have q12:=nT hc11
 refine Qs (ZP (.bool false) (Qr (Cj (Ap (M8 (Cj (Ap (ZR [.bool false] [0,0] h ?_))))))))
 have hE:la≠lb:=fun e=>by subst e;have e2:=Option.some.inj (hx7.symm.trans hx10);subst e2;simp_all
 exact ⟨by rw [decide_eq_false hE];rfl,rfl⟩
 have q13:=nF hc11
 have q14:=aL q13
 have q15:=aR q13
 have q14:=dcT q14
 have q16:=aL q15
 have q17:=aR q15
 have q16:=dcT q16
 have q17:=dcT q17
 refine B3 ?_
 refine Ch (Ag ?_)
 refine Ai (ZP (Ii i) (ZG h (A1 (v:=Ii (IntKind.i64.wrap ((i:Int)+1))) (v':=Ii ((i+1:Nat):Int)) (Ay fun _=>by kernel_rfl) (wr (by omega))) (ZP (Ii ((i+1:Nat):Int)) (Dj ?_))))
 have hxy:x6=x9:=Prod.ext (by assumption) (Prod.ext (by assumption) (by assumption))
 have hQ18:((i+1)≤la.length∧la.take (i+1)=lb.take (i+1))∧(la.length - (i+1))<(la.length - i):=⟨⟨by omega,by rw [List.take_add_one,List.take_add_one,hx7,hx10,hsame,hxy]⟩,by omega⟩
 refine Bu (fun j=>⟨(i+1),j⟩) hQ18 (by kernel_rfl) [0,0] (by kernel_rfl) h
 refine Dk (Ea (Et (Ep (Ag (Qs (ZP (.bool true) (Qr (ZR [.bool true] [0,0] h ?_))))))))
 have hE:la=lb:=by rw [List.take_of_length_le (by omega),List.take_of_length_le (by omega)] at hsame;exact hsame
 exact ⟨by rw [decide_eq_true hE];rfl,rfl⟩
section
variable {P:Program} {a:Act} {w w0:World} {E:Ent} {L:List Res}
theorem Afj {T:TypeId} {n k:Nat} (hT:P.underlying T=some (.int .i64)) (hk:0<k) (hn:n≤9223372036854775807):(binOp .rem T (.int .i64 (n:Int)) (.int .i64 (k:Int))).run P w=.ok (.int .i64 ((n % k:Nat):Int)) w:=by
  have h1:¬(k:Int)=0:=by omega
  have h2:((n:Int)).tmod (k:Int)=((n % k:Nat):Int):=by rw [Int.tmod_eq_emod_of_nonneg (by omega)];rfl
  have h3:n % k≤n:=Nat.mod_le n k
  have h4:IntKind.i64.wrap ((n:Int) % (k:Int))=((n % k:Nat):Int):=by
    have e:(n:Int) % (k:Int)=((n % k:Nat):Int):=rfl
    rw [e];generalize n % k=q at h3 ⊢;exact IntWalk.i64_in _ ⟨by omega,by omega⟩
  have h5:¬k=0:=by omega
  simp [binOp,run_underlying hT,Op.intDiv,h1,h2,h4,h5]
theorem g_rem {dst:Option Tmp} {T ty':TypeId} {x y:Operand} {ty:TypeId} {pos:String} {after:Array Edge} {g:Option (Nat×Bool)} (n k:Nat)
    (hx:(a.eval x,a.eval y,P.underlying T)=(.int .i64 (n:Int),.int .i64 (k:Int),some (.int .i64))) (hk:0<k) (hn:n≤9223372036854775807) :
    Ck P w0 E L ⟨dst,.binOp .rem T x y ty',ty,pos,after,g⟩ a (.int .i64 ((n % k:Nat):Int)):=fun w ho=>by
  simp only [Prod.mk.injEq] at hx
  obtain ⟨h1,h2,h3⟩:=hx
  simp only [execOp,h1,h2,Sem.run_bind,Afj h3 hk hn,Result.andThen_ok,Sem.run_pure,eqGuard]
  rfl
end

def hdC (x:Hdl):List Value:=[Ii x.1,Ii x.2]
theorem Gq (x:Hdl):(hdC x).length=2:=rfl
theorem Ff {B:Nat} (ad:Nat→Addr) (c:Nat) (code:Int) (hc:c≤15) (hcode:(c:Int)=code):Ao Tryz.prog 18 #[Ab ad c,Ii code] [A4 B ad] fun u L=>u=.bool true∧L=[A4 B ad]:=fun E w0 w ho=>
  (Zk ad c code w (ho.fact 0 rfl) hc hcode).mono fun e w' ⟨he,hc'⟩=>⟨_,_,⟨rfl,rfl⟩,he,ho.quiet hc'⟩
theorem Aav (b most:Nat) (vl vt:Value) (ts:List Int) (L:List RN) (c:Int) (hc:c≤900000) (hok:Dv (L.map RN.a) c) (ti:TI most ts (L.map RN.a)) (n g m f:Int) (old nm:ByteArray) (hoz:old.size≤100000) (hnz:nm.size≤100000):Ao Tryz.prog 37 #[Pp b,Hg n g,.string old,Hg m f,.string nm] [Rt b most vl vt,rRL vl L] fun u L'=>∃ (v':Value) (L2:List RN),L2.map RN.a=(tRename (L.map RN.a) (n,g) old (m,f) nm).2∧u=Ii (((tRename (L.map RN.a) (n,g) old (m,f) nm).1:Nat):Int)∧L'=[Rt b most v' vt,rRL v' L2]:=by
  obtain ⟨rk,hrk⟩:=ti.climbEnds
  by_cases h:((n,g):Hdl)=(m,f)
  · obtain ⟨rfl,rfl⟩:=Prod.mk.inj h
    exact W2 b most vl vt L c hc hok n g old nm hoz hnz rk hrk
  · exact Xd b most vl vt L c hc hok n g m f h old nm hoz hnz rk hrk
theorem Yp (hb:Nat) (hv:Value) (hs:List Hdl) (hsl:hs.length≤1000) (np:Int)  : Ao Tryz.prog 16 #[Pp hb,Ii np] [B0 true hb [hv] 37,Bc true hv 34 2 hdC hs] (fun u L=>∃ x:Hdl,u=Hg x.1 x.2∧L=[B0 true hb [hv] 37,Bc true hv 34 2 hdC hs]):=by
 refine Zo 23 Tryz.func16 fun E w0 w h=>?_
 refine Qs (ZN [Ii 0,Ii 0] 34 h fun k1 w h=>Qu (ZP (Ii np) ?_))
 obtain ⟨b2,hb2⟩:=nmB (decide (np≥0))
 refine ZB hb2 (ZP (.bool b2) (ZM1 (v:=Ii np) b2 h (fun hB=>by subst hB;exact Gp (Ii np)) (ZM1 (v:=Pp hb) b2 h (fun hB=>by subst hB;exact Gp (Pp hb)) (ZM1 (v:=Pp hb) b2 h (fun hB=>by subst hB;exact Gp (Pp hb)) (ZM1 (v:=Pp hb) b2 h (fun hB=>by subst hB;exact Gp (Pp hb)) (ZM1 (v:=hv) b2 h (fun hB=>by subst hB;exact Gl 0 (hv) 1) (ZM1 (v:=Ii (hs.length:Int)) b2 h (fun hB=>by subst hB;exact Kb (by kernel_rfl) 2 rfl) ?_)))))))
 obtain ⟨b3,hb3⟩:=nmB (decide (np<(hs.length:Int)))
 refine ZM1 (v:=.bool b3) b2 h (fun hB=>by subst hB;exact by subst hb3;exact Ay (v:=.bool (decide (np<(hs.length:Int)))) fun _=>by kernel_rfl) ?_
 obtain ⟨b4,hb4⟩:=nmB (b2&&b3)
 refine ZBc b2 hb4 (Qn (Zi (b4) (fun hc5=>?_) fun hc5=>?_))
 have q6:=hb4.symm.trans hc5
 have q7:=aL q6
 have q8:=aR q6
 have q9:=hb2.symm.trans q7
 have q9:=dcT q9
 have q10:=hb3.symm.trans q8
 have q10:=dcT q10
 refine Qs (ZP (Pp hb) (ZP (Pp hb) (ZP (Pp hb) (ZG h (Gl 0 (hv) 1) (ZP (Ii np) ?_)))))
 obtain ⟨j11,hj11⟩:∃ n:Nat,np=(n:Int):=⟨(np).toNat,by omega⟩
 have hi12:j11<hs.length:=by omega
 obtain ⟨x13,hx14⟩:∃ x,hs[j11]?=some x:=⟨_,List.getElem?_eq_getElem hi12⟩
 refine ZG h (Agk j11 hj11 (by kernel_rfl) hi12 2 rfl) (ZG h (Gra (B2 hv+j11*2) [Ii x13.1,Ii x13.2] 2 rfl (Fz Gq hx14 (by kernel_rfl))) (ZSs [Ii x13.1,Ii x13.2] 0 rfl h fun w h=>Qr (Ap ?_)))
 refine Bv [Hg x13.1 x13.2] [1,1] h (by kernel_rfl) (C6 0 [Ii x13.1,Ii x13.2] (Hg x13.1 x13.2) 0 rfl (by kernel_rfl) C3) ?_
 exact ⟨(x13.1,x13.2),rfl,rfl⟩
 have q15:=hb4.symm.trans hc5
 have q16:(¬(np≥0)∨¬(np<(hs.length:Int))):=by subst hb3;subst hb2;revert q15;first|(simp;done)|(simp;omega)
 refine Ks (ZP (Ii np) (ZP (Hg np 1) (ZSs [Ii np,Ii 1] 0 rfl h fun w h=>Qr ?_)))
 refine Bv [Hg np 1] [1,1] h (by kernel_rfl) (C6 0 [Ii np,Ii 1] (Hg np 1) 0 rfl (by kernel_rfl) C3) ?_
 exact ⟨(np,1),rfl,rfl⟩
theorem Afd {B:Nat} (ad:Nat→Addr) (most b rb hb:Nat) (z:PZ) (L:List RN) (ts:List Int) (c:Int) (hp:PB most b z (L.map RN.a) ts c) (vl vt hv:Value) (hs:List Hdl) (hsl:hs.length≤1000) (hc:c+3≤900) (ak:ByteArray) (aA aB:Int) (anm atx:ByteArray) (aN:Int) (hanm:anm.size≤100000) (hatx:atx.size≤100000) (haN:-9223372036854775808≤aN∧aN≤9223372036854775807)  : Ao Tryz.prog 11 #[Pp b,Pp rb,Pp hb,.agg #[.string ak,Ii aA,Ii aB,.string anm,.string atx,Ii aN]] [rPT most z,A4 B ad,Rt rb most vl vt,Bc true vt 3 1 inC ts,rRL vl L,B0 true hb [hv] 37,Bc true hv 34 2 hdC hs] (fun u L'=>∃ (z':PZ) (L2:List RN) (ts':List Int) (vl' hv':Value) (hs':List Hdl) (e:Nat),PB most b z' (L2.map RN.a) ts' (c+3)∧hs'.length≤hs.length+1∧e≤15∧(¬ak=(⟨#[112,105,110]⟩:ByteArray)→Cw (L.map RN.a)→Cw (L2.map RN.a))∧u=.tuple #[Ab ad e,Ii e]∧L'=[rPT most z',A4 B ad,Rt rb most vl' vt,Bc true vt 3 1 inC ts',rRL vl' L2,B0 true hb [hv'] 37,Bc true hv' 34 2 hdC hs']):=by
 have hok:=hp.s.ti.rtok hp.s.m3 hp.s.cnt
 have htx0:=hp.s.ti.base.txt
 have hcc0:=hp.s.c0
 have htmr:∀ x∈ts,0≤x∧x≤1000000:=fun x hx=>by have:=hp.s.tmr x hx;omega
 refine Zo 152 Tryz.func11 fun E w0 w h=>?_
 refine Qs (ZN [.string ak,Ii aA,Ii aB,.string anm,.string atx,Ii aN] 39 h fun k1 w h=>ZP .nilIface (ZP (Ii 0) (Qm (ZP (Pp hb) (ZP (Pt k1 1) (ZG h (Gl 1 (Ii aA) 0) ?_))))))
 refine ZD [6,6] (Yp hb hv hs hsl aA) h ?_;rintro v_ L_ w ⟨xh2,rfl,rfl⟩ h
 refine ZN [Ii 0,Ii 0] 34 h fun k3 w h=>ZSs [Ii xh2.1,Ii xh2.2] 0 rfl h fun w h=>Qm (ZP (Pp hb) (ZP (Pt k1 2) (ZG h (Gl 2 (Ii aB) 3) ?_)))
 refine ZD [1,1] (Yp hb hv hs hsl aB) h ?_;rintro v_ L_ w ⟨xh4,rfl,rfl⟩ h
 refine ZN [Ii 0,Ii 0] 34 h fun k5 w h=>ZSs [Ii xh4.1,Ii xh4.2] 0 rfl h fun w h=>Qu (ZP (Pp k1) (ZG h (Gl 0 (.string ak) 4) (Qn (Au (Qs (ZG h (A1 (v:=.bool (ak.toList==(⟨#[99,114,101,97,116,101]⟩:ByteArray).toList)) (v':=.bool (decide (ak=(⟨#[99,114,101,97,116,101]⟩:ByteArray)))) (Ay fun _=>by kernel_rfl) P7) (ZP (.bool (decide (ak=(⟨#[99,114,101,97,116,101]⟩:ByteArray)))) (Qn (Zd (ak=(⟨#[99,114,101,97,116,101]⟩:ByteArray)) (fun hc6=>?_) fun hc6=>?_)))))))))
 refine Qs (ZP (Pp b) (ZG h (Gla 0 [Ii xh2.1,Ii xh2.2] 3) (ZP (Pt k1 3) (ZG h (Gl 3 (.string anm) 4) (ZP (Pt k1 5) (ZG h (Gl 5 (Ii aN) 4) ?_))))))
 refine ZD [5,5] (Uk ad hp xh2.1 xh2.2 anm hanm aN (by omega)) h ?_;rintro v_ L_ w (⟨ec7,hTc8,rfl,rfl⟩|⟨z9,kc10,hTc8,hz11,rfl,rfl⟩) h
 refine ZP (.tuple #[Hg 0 0,Ab ad (ec7+1)]) (ZP (Hg 0 0) (ZP (Ab ad (ec7+1)) (ZN [Ii 0,Ii 0] 34 h fun k12 w h=>ZSs [Ii 0,Ii 0] 0 rfl h fun w h=>ZP (Ab ad (ec7+1)) (Qm (ZP (Pp rb) (ZG h (Gla 0 [Ii xh2.1,Ii xh2.2] 6) (ZP (Pt k1 3) (ZG h (Gl 3 (.string anm) 7) (ZP (Pt k1 5) (ZG h (Gl 5 (Ii aN) 7) ?_))))))))))
 refine ZD [8,8,8] (Mq rb most vl vt ts L c (by omega) hok hp.s.hlen htmr hp.s.m3 xh2.1 xh2.2 anm aN hanm) h ?_;rintro v_ L_ w (⟨ed13,hTd14,rfl,rfl⟩|⟨kd15,v16,Lq17,hTd14,hLq18,rfl,rfl⟩) h
 have hcc_:ec7+1=ed13:=(Prod.mk.inj (hTc8.symm.trans hTd14)).2
 subst hcc_
 refine ZP (.tuple #[Hg 0 0,Ii ((ec7+1:Nat):Int)]) (ZP (Hg 0 0) (ZP (Ii ((ec7+1:Nat):Int)) (ZN [Ii 0,Ii 0] 34 h fun k19 w h=>ZSs [Ii 0,Ii 0] 0 rfl h fun w h=>ZP (Ii ((ec7+1:Nat):Int)) (Qu (ZG h (Gla 0 [Ii 0,Ii 0] 4) (ZG h (Gla 0 [Ii 0,Ii 0] 0) (ZG h (A1 (v:=.bool (!((decide ((0:Int)=0))&&(decide ((0:Int)=0))))) (v':=.bool false) (Ez (n1:=0) (g1:=0) (n2:=0) (g2:=0) (by kernel_rfl)) (by rfl)) (Ft (ZP (Ii ((ec7+1:Nat):Int)) (ZP (.bool (decide (((ec7+1:Nat):Int)=0))) (Qn (Zd (((ec7+1:Nat):Int)=0) (fun hc20=>?_) fun hc20=>?_))))))))))))
 exfalso;omega
 exact Ks (ZP (Ab ad (ec7+1)) (ZP (Ii ((ec7+1:Nat):Int)) (ZP (Ab ad (ec7+1)) (ZP (Ii ((ec7+1:Nat):Int)) (Qr (Cj (Ap (ZR [Ab ad (ec7+1),Ii ((ec7+1:Nat):Int)] [5,5,1,1,1,3,3] h ⟨z,L,ts,vl,hv,hs,ec7+1,hp.more (by omega) (by omega),by simp,by have:=Aau (most:=most) (A:=L.map RN.a) (h:=(xh2.1,xh2.2)) (nm:=anm) (kind:=aN);rw [hTc8] at this;exact this,(fun _ q=>q),rfl,rfl⟩))))))))
 rw [hTc8] at hTd14;cases hTd14
 refine ZP (.tuple #[Hg kc10 (Av ts kc10),.nilIface]) (ZP (Hg kc10 (Av ts kc10)) (ZP .nilIface (ZN [Ii 0,Ii 0] 34 h fun k21 w h=>ZSs [Ii kc10,Ii (Av ts kc10)] 0 rfl h fun w h=>ZP .nilIface (Qm (ZP (Pp rb) (ZG h (Gla 0 [Ii xh2.1,Ii xh2.2] 6) (ZP (Pt k1 3) (ZG h (Gl 3 (.string anm) 7) (ZP (Pt k1 5) (ZG h (Gl 5 (Ii aN) 7) ?_))))))))))
 refine ZD [8,8,8] (Mq rb most vl vt ts L c (by omega) hok hp.s.hlen htmr hp.s.m3 xh2.1 xh2.2 anm aN hanm) h ?_;rintro v_ L_ w (⟨ed22,hTd23,rfl,rfl⟩|⟨kd24,v25,Lq26,hTd23,hLq27,rfl,rfl⟩) h
 rw [hTc8] at hTd23;cases hTd23
 have hcc_:kc10=kd24:=Option.some.inj (Prod.mk.inj (hTc8.symm.trans hTd23)).1
 subst hcc_
 refine ZP (.tuple #[Hg kc10 (Av ts kc10),Ii 0]) (ZP (Hg kc10 (Av ts kc10)) (ZP (Ii 0) (ZN [Ii 0,Ii 0] 34 h fun k28 w h=>ZSs [Ii kc10,Ii (Av ts kc10)] 0 rfl h fun w h=>ZP (Ii 0) (Qu (ZG h (Gla 0 [Ii kc10,Ii (Av ts kc10)] 4) (ZG h (Gla 0 [Ii kc10,Ii (Av ts kc10)] 0) (ZG h (Ez (n1:=(kc10:Int)) (g1:=Av ts kc10) (n2:=(kc10:Int)) (g2:=Av ts kc10) (by kernel_rfl)) (Qn (Zi (!((decide ((kc10:Int)=(kc10:Int)))&&(decide (Av ts kc10=Av ts kc10)))) (fun hc29=>?_) fun hc29=>?_)))))))))
 have q30:=nT hc29
 have q31:=ndA q30
 exfalso;revert hc29;simp
 have q32:=nF hc29
 have q33:=aL q32
 have q34:=aR q32
 have q33:=dcT q33
 have q34:=dcT q34
 refine Kw (ZP (Ii 0) (ZP (.bool true) (Qg (Aa (Ds 8 [0,7] h fun w h=>Dp 0 48 (Pp hb) [0,7] h (Dp 1 49 (Pp hb) [0,7] h (Dp 2 51 (Pp hb) [0,7] h (Dq 3 55 [0,7] rfl h (Gl 0 (hv) 1) (Dq 4 15 [0,7] rfl h (Gla 0 [Ii kc10,Ii (Av ts kc10)] 0) ?_)))))))))
 refine Ax [5] (by kernel_rfl) rfl ?_
 refine B9 [1,8] rfl (by kernel_rfl) (fun b=>.slice (some ⟨b,0,none⟩) 1 1) [Ii kc10,Ii (Av ts kc10)] 34 (fun _=>by kernel_rfl) h ?_ ?_
 intro k35 w h;refine ⟨by kernel_rfl,?_⟩
 refine Ax [6] (by kernel_rfl) rfl ?_
 refine Abf (b:=k35) (o:=0) [1,8] rfl (by kernel_rfl) 1 ((kc10:Int),Av ts kc10) (by kernel_rfl) h 10 rfl 0 rfl (Fn 0 (by kernel_rfl)) (by (try simp only [List.length_append,List.length_cons,List.length_nil,List.length_map]);omega) ?_ ?_
 intro v36 w h;refine ⟨by kernel_rfl,?_⟩
 refine Dp 7 127 v36 [1,8] h (Dd (Ag (Ai (ZP (Pp hb) (ZP v36 (ZP (Pp hb) (ZP (Pp hb) ?_)))))))
 refine Ji rfl (h.slv 10 rfl) 0 [v36] h 9 rfl (by kernel_rfl) ?_;intro w h
 exact Qm (ZP .nilIface (ZP (Ii 0) (ZP .nilIface (ZP (Ii 0) (Qr (Cj (Ap (ZR [.nilIface,Ii 0] [6,6,2,2,2,4,4] h ⟨z9,Lq26,ts.set kc10 (Av ts kc10+1),v25,v36,(hs++[((kc10:Int),Av ts kc10)]),0,by rw [hLq27];exact hz11,(by simp),by omega,(fun _ q=>by rw [hLq27];exact q.create _ _ _ _ _),rfl,rfl⟩))))))))
 exact A6
 exact A6
 refine Qs (ZG h (A1 (v:=.bool (ak.toList==(⟨#[108,105,110,107]⟩:ByteArray).toList)) (v':=.bool (decide (ak=(⟨#[108,105,110,107]⟩:ByteArray)))) (Ay fun _=>by kernel_rfl) P7) (ZP (.bool (decide (ak=(⟨#[108,105,110,107]⟩:ByteArray)))) (Qn (Zd (ak=(⟨#[108,105,110,107]⟩:ByteArray)) (fun hc37=>?_) fun hc37=>?_))))
 refine Aa (Ds 14 [0,2,2] h fun w h=>Dp 0 2014 (Pp b) [0,2,2] h (Dq 1 2013 [0,2,2] rfl h (Gla 0 [Ii xh2.1,Ii xh2.2] 1) (Dq 2 2011 [0,2,2] rfl h (Gla 0 [Ii xh4.1,Ii xh4.2] 0) (Dp 3 1991 (Pt k1 3) [0,2,2] h (Dq 4 1999 [0,2,2] rfl h (Gl 3 (.string anm) 2) (Dp 6 1983 (Pp rb) [0,2,2] h (Dq 7 1919 [0,2,2] rfl h (Gla 0 [Ii xh2.1,Ii xh2.2] 1) (Dq 8 1791 [0,2,2] rfl h (Gla 0 [Ii xh4.1,Ii xh4.2] 0) (Dp 9 511 (Pt k1 3) [0,2,2] h (Dq 10 1023 [0,2,2] rfl h (Gl 3 (.string anm) 2) ?_))))))))))
 refine Ad 5 [5,5] [2,4,4] (Ago ad hp xh2.1 xh2.2 xh4.1 xh4.2 anm hanm (by omega)) h ?_
 rintro v_ L_ w ⟨z38,hz39,rfl,rfl⟩ h
 refine ⟨by kernel_rfl,?_⟩
 refine Ad 11 [7,8] [4,6,6] (Xb rb (most:Int) vl vt L c (by omega) hok xh2.1 xh2.2 xh4.1 xh4.2 anm hanm) h ?_
 rintro v_ L_ w ⟨Lq41,hLq42,rfl,rfl⟩ h
 refine ⟨by kernel_rfl,?_⟩
 exact Dp 12 4095 (Ab ad (C1 (L.map RN.a) (xh2.1,xh2.2) (xh4.1,xh4.2) anm)) [4,6,6] h (Dp 13 8191 (Ii ((C1 (L.map RN.a) (xh2.1,xh2.2) (xh4.1,xh4.2) anm:Nat):Int)) [4,6,6] h (Dd (Ag (H4 (Cj (Ap (ZR [Ab ad (C1 (L.map RN.a) (xh2.1,xh2.2) (xh4.1,xh4.2) anm),Ii ((C1 (L.map RN.a) (xh2.1,xh2.2) (xh4.1,xh4.2) anm:Nat):Int)] [2,2,0,6,0,1,1] h ⟨z38,Lq41,ts,vl,hv,hs,(C1 (L.map RN.a) (xh2.1,xh2.2) (xh4.1,xh4.2) anm),by rw [hLq42];exact hz39,(by simp),Aeo _ _ _ _,(fun _ q=>by rw [hLq42];split;exact q.link _ _ _;exact q),rfl,rfl⟩)))))))
 refine Qs (ZG h (A1 (v:=.bool (ak.toList==(⟨#[114,101,109,111,118,101]⟩:ByteArray).toList)) (v':=.bool (decide (ak=(⟨#[114,101,109,111,118,101]⟩:ByteArray)))) (Ay fun _=>by kernel_rfl) P7) (ZP (.bool (decide (ak=(⟨#[114,101,109,111,118,101]⟩:ByteArray)))) (Qn (Zd (ak=(⟨#[114,101,109,111,118,101]⟩:ByteArray)) (fun hc43=>?_) fun hc43=>?_))))
 refine Aa (Ds 12 [3,3] h fun w h=>Dp 0 494 (Pp b) [3,3] h (Dq 1 493 [3,3] rfl h (Gla 0 [Ii xh2.1,Ii xh2.2] 0) (Dp 2 483 (Pt k1 3) [3,3] h (Dq 3 487 [3,3] rfl h (Gl 3 (.string anm) 1) (Dp 5 479 (Pp rb) [3,3] h (Dq 6 447 [3,3] rfl h (Gla 0 [Ii xh2.1,Ii xh2.2] 0) (Dp 7 127 (Pt k1 3) [3,3] h (Dq 8 255 [3,3] rfl h (Gl 3 (.string anm) 1) ?_))))))))
 refine Ad 4 [5,5] [5,5] (Acj ad hp xh2.1 xh2.2 anm hanm (by omega)) h ?_
 rintro v_ L_ w ⟨z44,hz45,rfl,rfl⟩ h
 refine ⟨by kernel_rfl,?_⟩
 refine Ad 9 [7,8] [7,7] (Rz rb (most:Int) vl vt L c (by omega) hok xh2.1 xh2.2 anm hanm) h ?_
 rintro v_ L_ w ⟨v46,Lq47,hLq48,rfl,rfl⟩ h
 refine ⟨by kernel_rfl,?_⟩
 exact Dp 10 1023 (Ab ad (Ci (L.map RN.a) (xh2.1,xh2.2) anm)) [7,7] h (Dp 11 2047 (Ii ((Ci (L.map RN.a) (xh2.1,xh2.2) anm:Nat):Int)) [7,7] h (Dd (Ag (H4 (Cj (Ap (ZR [Ab ad (Ci (L.map RN.a) (xh2.1,xh2.2) anm),Ii ((Ci (L.map RN.a) (xh2.1,xh2.2) anm:Nat):Int)] [2,2,0,6,0,1,1] h ⟨z44,Lq47,ts,v46,hv,hs,(Ci (L.map RN.a) (xh2.1,xh2.2) anm),by rw [hLq48];exact hz45,(by simp),Aar _ _ _,(fun _ q=>by rw [hLq48];split;exact q.remove _ _;exact q),rfl,rfl⟩)))))))
 refine Qs (ZG h (A1 (v:=.bool (ak.toList==(⟨#[114,101,110,97,109,101]⟩:ByteArray).toList)) (v':=.bool (decide (ak=(⟨#[114,101,110,97,109,101]⟩:ByteArray)))) (Ay fun _=>by kernel_rfl) P7) (ZP (.bool (decide (ak=(⟨#[114,101,110,97,109,101]⟩:ByteArray)))) (Qn (Zd (ak=(⟨#[114,101,110,97,109,101]⟩:ByteArray)) (fun hc49=>?_) fun hc49=>?_))))
 refine Aa (Ds 18 [0,2,2] h fun w h=>Dp 0 32638 (Pp b) [0,2,2] h (Dq 1 32637 [0,2,2] rfl h (Gla 0 [Ii xh2.1,Ii xh2.2] 1) (Dp 2 32627 (Pt k1 3) [0,2,2] h (Dq 3 32631 [0,2,2] rfl h (Gl 3 (.string anm) 2) (Dq 4 32623 [0,2,2] rfl h (Gla 0 [Ii xh4.1,Ii xh4.2] 0) (Dp 5 32543 (Pt k1 4) [0,2,2] h (Dq 6 32575 [0,2,2] rfl h (Gl 4 (.string atx) 2) (Dp 8 32511 (Pp rb) [0,2,2] h (Dq 9 32255 [0,2,2] rfl h (Gla 0 [Ii xh2.1,Ii xh2.2] 1) (Dp 10 29695 (Pt k1 3) [0,2,2] h (Dq 11 30719 [0,2,2] rfl h (Gl 3 (.string anm) 2) (Dq 12 28671 [0,2,2] rfl h (Gla 0 [Ii xh4.1,Ii xh4.2] 0) (Dp 13 8191 (Pt k1 4) [0,2,2] h (Dq 14 16383 [0,2,2] rfl h (Gl 4 (.string atx) 2) ?_))))))))))))))
 refine Ad 7 [5,5] [2,4,4] (Adi ad hp xh2.1 xh2.2 xh4.1 xh4.2 anm atx hanm hatx (by omega)) h ?_
 rintro v_ L_ w ⟨z50,hz51,rfl,rfl⟩ h
 refine ⟨by kernel_rfl,?_⟩
 refine Ad 15 [7,8] [4,6,6] (Aav rb most vl vt ts L c (by omega) hok hp.s.ti xh2.1 xh2.2 xh4.1 xh4.2 anm atx hanm hatx) h ?_
 rintro v_ L_ w ⟨v52,Lq53,hLq54,rfl,rfl⟩ h
 refine ⟨by kernel_rfl,?_⟩
 exact Dp 16 65535 (Ab ad ((tRename (L.map RN.a) (xh2.1,xh2.2) anm (xh4.1,xh4.2) atx).1)) [4,6,6] h (Dp 17 131071 (Ii (((tRename (L.map RN.a) (xh2.1,xh2.2) anm (xh4.1,xh4.2) atx).1:Nat):Int)) [4,6,6] h (Dd (Ag (H4 (Cj (Ap (ZR [Ab ad ((tRename (L.map RN.a) (xh2.1,xh2.2) anm (xh4.1,xh4.2) atx).1),Ii (((tRename (L.map RN.a) (xh2.1,xh2.2) anm (xh4.1,xh4.2) atx).1:Nat):Int)] [2,2,0,6,0,1,1] h ⟨z50,Lq53,ts,v52,hv,hs,((tRename (L.map RN.a) (xh2.1,xh2.2) anm (xh4.1,xh4.2) atx).1),by rw [hLq54];exact hz51,(by simp),Zr _ _ _ _ _,(fun _ q=>by rw [hLq54];exact q.rename _ _ _ _),rfl,rfl⟩)))))))
 refine Qs (ZG h (A1 (v:=.bool (ak.toList==(⟨#[119,114,105,116,101]⟩:ByteArray).toList)) (v':=.bool (decide (ak=(⟨#[119,114,105,116,101]⟩:ByteArray)))) (Ay fun _=>by kernel_rfl) P7) (ZP (.bool (decide (ak=(⟨#[119,114,105,116,101]⟩:ByteArray)))) (Qn (Zd (ak=(⟨#[119,114,105,116,101]⟩:ByteArray)) (fun hc55=>?_) fun hc55=>?_))))
 refine Aa (Ds 16 [3,3] h fun w h=>Dp 0 8126 (Pp b) [3,3] h (Dq 1 8125 [3,3] rfl h (Gla 0 [Ii xh2.1,Ii xh2.2] 0) (Dp 2 8115 (Pt k1 5) [3,3] h (Dq 3 8119 [3,3] rfl h (Gl 5 (Ii aN) 1) (Dp 4 8079 (Pt k1 4) [3,3] h (Dq 5 8095 [3,3] rfl h (Gl 4 (.string atx) 1) (Dp 7 8063 (Pp rb) [3,3] h (Dq 8 7935 [3,3] rfl h (Gla 0 [Ii xh2.1,Ii xh2.2] 0) (Dp 9 6655 (Pt k1 5) [3,3] h (Dq 10 7167 [3,3] rfl h (Gl 5 (Ii aN) 1) (Dp 11 2047 (Pt k1 4) [3,3] h (Dq 12 4095 [3,3] rfl h (Gl 4 (.string atx) 1) ?_))))))))))))
 refine Ad 6 [5,5] [5,5] (Ae9 ad hp xh2.1 xh2.2 aN atx  (by omega)) h ?_
 rintro v_ L_ w ⟨z56,hz57,rfl,rfl⟩ h
 refine ⟨by kernel_rfl,?_⟩
 refine Ad 13 [7,8] [7,7] (Tl rb (most:Int) vl vt L c (by omega) hok htx0 xh2.1 xh2.2 aN atx hatx haN) h ?_
 rintro v_ L_ w ⟨Lq59,hLq60,rfl,rfl⟩ h
 refine ⟨by kernel_rfl,?_⟩
 exact Dp 14 16383 (Ab ad (Eu (L.map RN.a) (xh2.1,xh2.2) aN atx)) [7,7] h (Dp 15 32767 (Ii ((Eu (L.map RN.a) (xh2.1,xh2.2) aN atx:Nat):Int)) [7,7] h (Dd (Ag (H4 (Cj (Ap (ZR [Ab ad (Eu (L.map RN.a) (xh2.1,xh2.2) aN atx),Ii ((Eu (L.map RN.a) (xh2.1,xh2.2) aN atx:Nat):Int)] [2,2,0,6,0,1,1] h ⟨z56,Lq59,ts,vl,hv,hs,(Eu (L.map RN.a) (xh2.1,xh2.2) aN atx),by rw [hLq60];exact hz57,(by simp),Aeb _ _ _ _,(fun _ q=>by rw [hLq60];exact q.wr _ _ _),rfl,rfl⟩)))))))
 refine Qs (ZG h (A1 (v:=.bool (ak.toList==(⟨#[114,101,115,105,122,101]⟩:ByteArray).toList)) (v':=.bool (decide (ak=(⟨#[114,101,115,105,122,101]⟩:ByteArray)))) (Ay fun _=>by kernel_rfl) P7) (ZP (.bool (decide (ak=(⟨#[114,101,115,105,122,101]⟩:ByteArray)))) (Qn (Zd (ak=(⟨#[114,101,115,105,122,101]⟩:ByteArray)) (fun hc61=>?_) fun hc61=>?_))))
 refine Aa (Ds 12 [3,3] h fun w h=>Dp 0 494 (Pp b) [3,3] h (Dq 1 493 [3,3] rfl h (Gla 0 [Ii xh2.1,Ii xh2.2] 0) (Dp 2 483 (Pt k1 5) [3,3] h (Dq 3 487 [3,3] rfl h (Gl 5 (Ii aN) 1) (Dp 5 479 (Pp rb) [3,3] h (Dq 6 447 [3,3] rfl h (Gla 0 [Ii xh2.1,Ii xh2.2] 0) (Dp 7 127 (Pt k1 5) [3,3] h (Dq 8 255 [3,3] rfl h (Gl 5 (Ii aN) 1) ?_))))))))
 refine Ad 4 [5,5] [5,5] (Ab0 ad hp xh2.1 xh2.2 aN  (by omega)) h ?_
 rintro v_ L_ w ⟨z62,hz63,rfl,rfl⟩ h
 refine ⟨by kernel_rfl,?_⟩
 refine Ad 9 [7,8] [7,7] (Su rb (most:Int) vl vt L c (by omega) hok htx0 xh2.1 xh2.2 aN haN) h ?_
 rintro v_ L_ w ⟨Lq65,hLq66,rfl,rfl⟩ h
 refine ⟨by kernel_rfl,?_⟩
 exact Dp 10 1023 (Ab ad (D5 (L.map RN.a) (xh2.1,xh2.2) aN)) [7,7] h (Dp 11 2047 (Ii ((D5 (L.map RN.a) (xh2.1,xh2.2) aN:Nat):Int)) [7,7] h (Dd (Ag (H4 (Cj (Ap (ZR [Ab ad (D5 (L.map RN.a) (xh2.1,xh2.2) aN),Ii ((D5 (L.map RN.a) (xh2.1,xh2.2) aN:Nat):Int)] [2,2,0,6,0,1,1] h ⟨z62,Lq65,ts,vl,hv,hs,(D5 (L.map RN.a) (xh2.1,xh2.2) aN),by rw [hLq66];exact hz63,(by simp),Z9 _ _ _,(fun _ q=>by rw [hLq66];exact q.rz _ _),rfl,rfl⟩)))))))
 refine Qs (ZG h (A1 (v:=.bool (ak.toList==(⟨#[112,105,110]⟩:ByteArray).toList)) (v':=.bool (decide (ak=(⟨#[112,105,110]⟩:ByteArray)))) (Ay fun _=>by kernel_rfl) P7) (ZP (.bool (decide (ak=(⟨#[112,105,110]⟩:ByteArray)))) (Qn (Zd (ak=(⟨#[112,105,110]⟩:ByteArray)) (fun hc67=>?_) fun hc67=>?_))))
 refine Aa (Ds 8 [3] h fun w h=>Dp 0 26 (Pp b) [3] h (Dq 1 25 [3] rfl h (Gla 0 [Ii xh2.1,Ii xh2.2] 0) (Dp 3 23 (Pp rb) [3] h (Dq 4 15 [3] rfl h (Gla 0 [Ii xh2.1,Ii xh2.2] 0) ?_))))
 refine Ad 2 [5,5] [5] (pin_b ad hp xh2.1 xh2.2  (by omega)) h ?_
 rintro v_ L_ w ⟨z68,hz69,rfl,rfl⟩ h
 refine ⟨by kernel_rfl,?_⟩
 refine Ad 5 [7,8] [7] (Aal rb (most:Int) vl vt L c (by omega) hok xh2.1 xh2.2) h ?_
 rintro v_ L_ w ⟨Lq71,hLq72,rfl,rfl⟩ h
 refine ⟨by kernel_rfl,?_⟩
 exact Dp 6 63 (Ab ad (Eq (L.map RN.a) (xh2.1,xh2.2))) [7] h (Dp 7 127 (Ii ((Eq (L.map RN.a) (xh2.1,xh2.2):Nat):Int)) [7] h (Dd (Ag (H4 (Cj (Ap (ZR [Ab ad (Eq (L.map RN.a) (xh2.1,xh2.2)),Ii ((Eq (L.map RN.a) (xh2.1,xh2.2):Nat):Int)] [2,2,0,6,0,1,1] h ⟨z68,Lq71,ts,vl,hv,hs,(Eq (L.map RN.a) (xh2.1,xh2.2)),by rw [hLq72];exact hz69,(by simp),Ae0 _ _,(fun hk=>absurd hc67 hk),rfl,rfl⟩)))))))
 refine Qs (ZG h (A1 (v:=.bool (ak.toList==(⟨#[117,110,112,105,110]⟩:ByteArray).toList)) (v':=.bool (decide (ak=(⟨#[117,110,112,105,110]⟩:ByteArray)))) (Ay fun _=>by kernel_rfl) P7) (ZP (.bool (decide (ak=(⟨#[117,110,112,105,110]⟩:ByteArray)))) (Qn (Zd (ak=(⟨#[117,110,112,105,110]⟩:ByteArray)) (fun hc73=>?_) fun hc73=>?_))))
 refine Aa (Ds 8 [3] h fun w h=>Dp 0 26 (Pp b) [3] h (Dq 1 25 [3] rfl h (Gla 0 [Ii xh2.1,Ii xh2.2] 0) (Dp 3 23 (Pp rb) [3] h (Dq 4 15 [3] rfl h (Gla 0 [Ii xh2.1,Ii xh2.2] 0) ?_))))
 refine Ad 2 [5,5] [5] (Aei ad hp xh2.1 xh2.2  (by omega)) h ?_
 rintro v_ L_ w ⟨z74,hz75,rfl,rfl⟩ h
 refine ⟨by kernel_rfl,?_⟩
 refine Ad 5 [7,8] [7] (Ur rb (most:Int) vl vt L c (by omega) hok xh2.1 xh2.2) h ?_
 rintro v_ L_ w ⟨v76,Lq77,hLq78,rfl,rfl⟩ h
 refine ⟨by kernel_rfl,?_⟩
 exact Dp 6 63 (Ab ad (Cl (L.map RN.a) (xh2.1,xh2.2))) [7] h (Dp 7 127 (Ii ((Cl (L.map RN.a) (xh2.1,xh2.2):Nat):Int)) [7] h (Dd (Ag (H4 (Cj (Ap (ZR [Ab ad (Cl (L.map RN.a) (xh2.1,xh2.2)),Ii ((Cl (L.map RN.a) (xh2.1,xh2.2):Nat):Int)] [2,2,0,6,0,1,1] h ⟨z74,Lq77,ts,v76,hv,hs,(Cl (L.map RN.a) (xh2.1,xh2.2)),by rw [hLq78];exact hz75,(by simp),Aa9 _ _,(fun _ q=>by rw [hLq78];exact q.unpin _),rfl,rfl⟩)))))))
 refine B3 ?_
 refine Ch (Ag ?_)
 exact Qs (ZP .nilIface (ZP (Ii 0) (Qr (ZR [.nilIface,Ii 0] [5,5,5,5,5,1,1] h ⟨z,L,ts,vl,hv,hs,0,hp.more (by omega) (by omega),by simp,by omega,(fun _ q=>q),rfl,rfl⟩))))
theorem Aek {B:Nat} (ad:Nat→Addr) {most b:Nat} {z:PZ} {L:List RN} {ts:List Int} {c:Int} (h:PB most b z (L.map RN.a) ts c) (n g:Int):Ao Tryz.prog 14 #[Pp b,Hg n g] [rPT most z,A4 B ad] fun u L'=>((∀ N∈L,N.a.h≠(n,g))∧u=.tuple #[.agg #[Ii 0,Ii 0,Ii 0,Ii 0,Ii 0,Ii 0],Ab ad 10]∧L'=[rPT most z,A4 B ad])∨(∃ (j:Nat) (N:RN),L[j]?=some N∧N.a.h=(n,g)∧u=.tuple #[.agg #[Ii N.a.kind,Ii (Gg N.a),Ii (Bf (L.map RN.a) N.a),Ii N.a.change,Ii (upH (L.map RN.a) N.a).1,Ii (upH (L.map RN.a) N.a).2],.nilIface]∧L'=[rPT most z,A4 B ad]):=
  (Agt ad h n g).mono fun u L' q=>by
    rcases q with ⟨h1,h2,h3⟩|⟨M,h1,h2,h3⟩
    · refine .inl ⟨fun N hN e=>?_,h2,h3⟩
      have:=Cx h.s.ti.base.nod (List.mem_map.2 ⟨N,hN,rfl⟩:N.a∈L.map RN.a)
      rw [e,h1] at this;cases this
    · obtain ⟨h4,h5⟩:=C8 h1
      obtain ⟨N,hN,rfl⟩:=List.mem_map.1 h4
      obtain ⟨j,hj⟩:=List.getElem?_of_mem hN
      exact .inr ⟨j,N,hj,h5,h2,h3⟩
theorem Pj (b:Nat) (mst:Int) (vl vt:Value) (L:List RN) (c:Int) (hc:c≤900000) (hok:Dv (L.map RN.a) c) (n g cq m:Int) (hcq:-9223372036854775808≤cq∧cq≤9223372036854775807) (hm:-9223372036854775808≤m∧m≤9223372036854775807):Ao Tryz.prog 23 #[Pp b,Hg n g,Ii cq,Ii m] [Rt b mst vl vt,rRL vl L] fun u L'=>∃ v',u=.tuple #[v',Ii (((By (L.map RN.a) (n,g) cq m).2.1:Nat):Int),Ii (((By (L.map RN.a) (n,g) cq m).2.2:Nat):Int)]∧L'=[Rt b mst vl vt,rRL vl L,Bc true v' 107 3 e3C ((By (L.map RN.a) (n,g) cq m).1)]:=by
  by_cases h:cq<0
  · exact Ty b mst vl vt L c hc hok n g cq h m hm
  · obtain ⟨cn,rfl⟩:∃ cn:Nat,cq=(cn:Int):=⟨cq.toNat,by omega⟩
    exact Te b mst vl vt L c hc hok n g cn (by omega) m hm
theorem Q2 {A:List AN} (hf:∀ M∈A,M.es.length≤60) (h:Hdl) (p m:Int):(By A h p m).1.length≤1000:=by
  unfold By
  split
  · simp
  · rename_i N hN
    have:=hf N (C8 hN).1
    split
    · split
      · simp
      · show ((N.es.drop p.toNat).take m.toNat).length≤1000
        rw [List.length_take,List.length_drop];omega
    · simp
theorem O2 (va vb:Value) (la:List Bm) (hla:la.length≤1000):Ao Tryz.prog 21 #[va,vb] [Bc true va 107 3 e3C la,Bc true vb 107 3 e3C la] fun u L'=>u=.bool true∧L'=[Bc true va 107 3 e3C la,Bc true vb 107 3 e3C la]:=
  (Y9 va vb la la hla).mono fun u L' h=>⟨by rw [h.1];simp,h.2⟩
def Aci:Sh:=.and .str (.and .int (.and .int (.and .str (.and .str (.and .int .unit)))))
abbrev Y5:=ByteArray×Int×Int×ByteArray×ByteArray×Int×Unit
def Xj (x:Y5):List Value:=[.string x.1,Ii x.2.1,Ii x.2.2.1,.string x.2.2.2.1,.string x.2.2.2.2.1,Ii x.2.2.2.2.2.1]
structure Aca (x:Y5):Prop where
  nm:x.2.2.2.1.size≤140737488355327
  tx:x.2.2.2.2.1.size≤140737488355327
  n:-9223372036854775808≤x.2.2.2.2.2.1∧x.2.2.2.2.2.1≤9223372036854775807
def ActSm (x:Y5):Prop:=x.2.2.2.1.size≤3000∧x.2.2.2.2.1.size≤3000
theorem Ae6 {α:Type} {l:List α} {k:Nat} {x:α} (h:l[k]?=some x):k<l.length:=(List.getElem?_eq_some_iff.1 h).1
theorem Pd {B:Nat} (ad:Nat→Addr) (most b rb hb:Nat) (z:PZ) (L:List RN) (ts:List Int) (c:Int) (hp:PB most b z (L.map RN.a) ts c) (vl vt hv:Value) (hs:List Hdl) (hsl:hs.length≤1000) (hc:c≤900)  : Ao Tryz.prog 27 #[Pp b,Pp rb,Pp hb] [rPT most z,A4 B ad,Rt rb most vl vt,Bc true vt 3 1 inC ts,rRL vl L,B0 true hb [hv] 37,Bc true hv 34 2 hdC hs] (fun u L'=>u=.bool true∧L'=[rPT most z,A4 B ad,Rt rb most vl vt,Bc true vt 3 1 inC ts,rRL vl L,B0 true hb [hv] 37,Bc true hv 34 2 hdC hs]):=by
 have hok:=hp.s.ti.rtok hp.s.m3 hp.s.cnt
 have htx0:=hp.s.ti.base.txt
 have hcc0:=hp.s.c0
 have hol:=hok.len
 refine Zo 148 Tryz.func27 fun E w0 w h=>?_
 refine Qs (ZP (.bool false) (Qn (Aa (Aa (Ds 8 [2,3] h fun w h=>Dp 0 124 (Pp b) [2,3] h (Dp 2 3 (Pp rb) [2,3] h (Dp 3 7 (Pp rb) [2,3] h (Dp 4 15 (Pt rb 1) [2,3] h (Dq 5 31 [2,3] rfl h (Gl 1 (vl) 0) (Dq (v:=Ii (L.length:Int)) 6 63 [2,3] rfl h (Dh 88 (by kernel_rfl) 1 rfl Dn) ?_))))))))))
 refine Ad 1 [0] [2,3] (Xw hp) h ?_
 rintro v_ L_ w ⟨rfl,rfl⟩ h
 refine ⟨by kernel_rfl,?_⟩
 refine Dp 7 127 (.bool (!(decide (((L.map RN.a).length:Int)=(L.length:Int))))) [2,3] h (Dd (Ag (Zi (!(decide (((L.map RN.a).length:Int)=(L.length:Int)))) (fun hc1=>?_) fun hc1=>?_)))
 have q2:(decide (((L.map RN.a).length:Int)=(L.length:Int)))=false:=by simpa using hc1
 have q2:=dcF q2
 exfalso;revert hc1;simp
 have q3:(decide (((L.map RN.a).length:Int)=(L.length:Int)))=true:=by simpa using hc1
 have q3:=dcT q3
 refine Kw (ZP (Ii 0) (Qn (Au ?_)))
 refine ZL (X:=Nat×(Nat→Value)) [(6,6),(8,19),(28,150)] (fun ⟨i0,J0⟩=>[(7,Ii i0)]) (fun ⟨i0,J0⟩=>J0) (fun ⟨i0,J0⟩=>[rPT most z,A4 B ad,Rt rb most vl vt,Bc true vt 3 1 inC ts,rRL vl L,B0 true hb [hv] 37,Bc true hv 34 2 hdC hs]) (fun ⟨i0,J0⟩=>i0≤hs.length) (fun ⟨i0,J0⟩=>hs.length - i0) (fun j=>⟨0,j⟩) (by omega) [0,0,0,0,0,0,0] h ?_
 rintro ⟨i0,J0⟩ w hG h
 have hi0:i0≤hs.length:=hG
 refine Qt (ZP (Ii i0) (ZP (Pp hb) (ZP (Pp hb) (ZP (Pp hb) (ZG h (Gl 0 (hv) 5) (ZG h (Kb (by kernel_rfl) 6 rfl) (ZP (.bool (decide ((i0:Int)<(hs.length:Int)))) (Qn (Zd ((i0:Int)<(hs.length:Int)) (fun hc4=>?_) fun hc4=>?_)))))))))
 refine Kn (Aa (Au (Qs (ZP (Pp b) (ZP (Pp hb) (ZP (Pp hb) (ZP (Pp hb) (ZG h (Gl 0 (hv) 5) (ZP (Ii i0) ?_)))))))))
 have hi5:i0<hs.length:=by omega
 obtain ⟨x6,hx7⟩:∃ x,hs[i0]?=some x:=⟨_,List.getElem?_eq_getElem hi5⟩
 refine ZG h (G2 i0 (by kernel_rfl) hi5 6 rfl) (ZG h (Gra (B2 hv+i0*2) [Ii x6.1,Ii x6.2] 6 rfl (Fz Gq hx7 (by kernel_rfl))) ?_)
 refine ZD [0,0] (Aek ad hp x6.1 x6.2) h ?_;rintro v_ L_ w (⟨h0n12,rfl,rfl⟩|⟨jn8,Nn9,hxn10,hhn11,rfl,rfl⟩) h
 refine ZP (.tuple #[.agg #[Ii 0,Ii 0,Ii 0,Ii 0,Ii 0,Ii 0],Ab ad 10]) (ZP (.agg #[Ii 0,Ii 0,Ii 0,Ii 0,Ii 0,Ii 0]) (ZP (Ab ad 10) (ZN [Ii 0,Ii 0,Ii 0,Ii 0,Ii 0,Ii 0] 46 h fun k13 w h=>ZSs [Ii 0,Ii 0,Ii 0,Ii 0,Ii 0,Ii 0] 0 rfl h fun w h=>ZP (Ab ad 10) (Qm (ZP (Pp rb) (ZP (Pp hb) (ZP (Pp hb) (ZP (Pp hb) (ZG h (Gl 0 (hv) 6) (ZP (Ii i0) (ZG h (G2 i0 (by kernel_rfl) hi5 7 rfl) (ZG h (Gra (B2 hv+i0*2) [Ii x6.1,Ii x6.2] 7 rfl (Fz Gq hx7 (by kernel_rfl))) ?_))))))))))))
 refine ZD [3,4] (Oq rb (most:Int) vl vt L (by have:=hok.hl;omega) hok.hnod hok.hent hok.hfew x6.1 x6.2) h ?_;rintro v_ L_ w (⟨h0m18,rfl,rfl⟩|⟨jm14,Nm15,hxm16,hhm17,rfl,rfl⟩) h
 refine ZP (.tuple #[.agg #[Ii 0,Ii 0,Ii 0,Ii 0,Ii 0,Ii 0],Ii 10]) (ZP (.agg #[Ii 0,Ii 0,Ii 0,Ii 0,Ii 0,Ii 0]) (ZP (Ii 10) (ZN [Ii 0,Ii 0,Ii 0,Ii 0,Ii 0,Ii 0] 46 h fun k19 w h=>ZSs [Ii 0,Ii 0,Ii 0,Ii 0,Ii 0,Ii 0] 0 rfl h fun w h=>ZP (Ii 10) (Qu (ZP (Ab ad 10) (ZP (Ii 10) (ZC [5] (Ff ad 10 10 (by decide) rfl) h fun w h=>ZP (.bool false) (ZP (.bool false) (ZG h (Gla 0 [Ii 0,Ii 0,Ii 0,Ii 0,Ii 0,Ii 0] 4) (ZG h (Gla 0 [Ii 0,Ii 0,Ii 0,Ii 0,Ii 0,Ii 0] 1) (ZG h (A1 (v:=.bool (!((decide ((0:Int)=0))&&((decide ((0:Int)=0))&&((decide ((0:Int)=0))&&((decide ((0:Int)=0))&&((decide ((0:Int)=0))&&(decide ((0:Int)=0))))))))) (v':=.bool false) (Af0 (by kernel_rfl)) (by rfl)) (ZP (.bool false) (Fs (ZP (Pp b) (ZP (Pp hb) (ZP (Pp hb) (ZP (Pp hb) (ZG h (Gl 0 (hv) 7) (ZP (Ii i0) (ZG h (G2 i0 (by kernel_rfl) hi5 8 rfl) (ZG h (Gra (B2 hv+i0*2) [Ii x6.1,Ii x6.2] 8 rfl (Fz Gq hx7 (by kernel_rfl))) ?_)))))))))))))))))))))
 refine ZD [5,0] (Adg ad hp x6.1 x6.2 0 60 (by omega) (by omega)) h ?_;rintro v_ L_ w ⟨vl20,rfl,rfl⟩ h
 refine ZP (.tuple #[vl20,Ii (((By (L.map RN.a) (x6.1,x6.2) 0 60).2.1:Nat):Int),Ab ad ((By (L.map RN.a) (x6.1,x6.2) 0 60).2.2)]) (ZP vl20 (ZP (Ii (((By (L.map RN.a) (x6.1,x6.2) 0 60).2.1:Nat):Int)) (ZP (Ab ad ((By (L.map RN.a) (x6.1,x6.2) 0 60).2.2)) (ZP vl20 (ZP (Ii (((By (L.map RN.a) (x6.1,x6.2) 0 60).2.1:Nat):Int)) (ZP (Ab ad ((By (L.map RN.a) (x6.1,x6.2) 0 60).2.2)) (Qm (ZP (Pp rb) (ZP (Pp hb) (ZP (Pp hb) (ZP (Pp hb) (ZG h (Gl 0 (hv) 8) (ZP (Ii i0) (ZG h (G2 i0 (by kernel_rfl) hi5 9 rfl) (ZG h (Gra (B2 hv+i0*2) [Ii x6.1,Ii x6.2] 9 rfl (Fz Gq hx7 (by kernel_rfl))) ?_)))))))))))))))
 refine ZD [4,4] (Pj rb (most:Int) vl vt L c (by omega) hok x6.1 x6.2 0 60 (by omega) (by omega)) h ?_;rintro v_ L_ w ⟨vr21,rfl,rfl⟩ h
 refine ZP (.tuple #[vr21,Ii (((By (L.map RN.a) (x6.1,x6.2) 0 60).2.1:Nat):Int),Ii (((By (L.map RN.a) (x6.1,x6.2) 0 60).2.2:Nat):Int)]) (ZP vr21 (ZP (Ii (((By (L.map RN.a) (x6.1,x6.2) 0 60).2.1:Nat):Int)) (ZP (Ii (((By (L.map RN.a) (x6.1,x6.2) 0 60).2.2:Nat):Int)) (ZP vr21 (ZP (Ii (((By (L.map RN.a) (x6.1,x6.2) 0 60).2.1:Nat):Int)) (ZP (Ii (((By (L.map RN.a) (x6.1,x6.2) 0 60).2.2:Nat):Int)) (Qu (ZP (Ab ad ((By (L.map RN.a) (x6.1,x6.2) 0 60).2.2)) (ZP (Ii (((By (L.map RN.a) (x6.1,x6.2) 0 60).2.2:Nat):Int)) (ZC [4] (Ff ad ((By (L.map RN.a) (x6.1,x6.2) 0 60).2.2) (((By (L.map RN.a) (x6.1,x6.2) 0 60).2.2:Nat):Int) (Yj _ _ _ _) rfl) h fun w h=>ZP (.bool false) (ZP (.bool false) (ZP (Ii (((By (L.map RN.a) (x6.1,x6.2) 0 60).2.1:Nat):Int)) (ZP (Ii (((By (L.map RN.a) (x6.1,x6.2) 0 60).2.1:Nat):Int)) (ZG h (A1 (v:=.bool (!decide ((((By (L.map RN.a) (x6.1,x6.2) 0 60).2.1:Nat):Int)=(((By (L.map RN.a) (x6.1,x6.2) 0 60).2.1:Nat):Int)))) (v':=.bool false) (Ay fun _=>by kernel_rfl) (by simp)) (ZP (.bool false) (ZP (.bool false) (ZP vl20 (ZP vr21 (ZC [5,3] (O2 vl20 vr21 ((By (L.map RN.a) (x6.1,x6.2) 0 60).1) (by exact Q2 hok.few _ _ _)) h fun w h=>ZP (.bool false) (ZP (.bool false) (Fs (ZP (Pp b) (ZP (Pp hb) (ZP (Pp hb) (ZP (Pp hb) (ZG h (Gl 0 (hv) 9) (ZP (Ii i0) (ZG h (G2 i0 (by kernel_rfl) hi5 10 rfl) (ZG h (Gra (B2 hv+i0*2) [Ii x6.1,Ii x6.2] 10 rfl (Fz Gq hx7 (by kernel_rfl))) (ZC [5,2] (Adj ad hp x6.1 x6.2 0 4096 (by omega)) h fun w h=>ZP (.tuple #[.string ((Bz (L.map RN.a) (x6.1,x6.2) 0 4096).1),.bool ((Bz (L.map RN.a) (x6.1,x6.2) 0 4096).2.1),Ab ad ((Bz (L.map RN.a) (x6.1,x6.2) 0 4096).2.2)]) (ZP (.string ((Bz (L.map RN.a) (x6.1,x6.2) 0 4096).1)) (ZP (.bool ((Bz (L.map RN.a) (x6.1,x6.2) 0 4096).2.1)) (ZP (Ab ad ((Bz (L.map RN.a) (x6.1,x6.2) 0 4096).2.2)) (ZP (.string ((Bz (L.map RN.a) (x6.1,x6.2) 0 4096).1)) (ZP (.bool ((Bz (L.map RN.a) (x6.1,x6.2) 0 4096).2.1)) (ZP (Ab ad ((Bz (L.map RN.a) (x6.1,x6.2) 0 4096).2.2)) (Qm (ZP (Pp rb) (ZP (Pp hb) (ZP (Pp hb) (ZP (Pp hb) (ZG h (Gl 0 (hv) 9) (ZP (Ii i0) (ZG h (G2 i0 (by kernel_rfl) hi5 10 rfl) (ZG h (Gra (B2 hv+i0*2) [Ii x6.1,Ii x6.2] 10 rfl (Fz Gq hx7 (by kernel_rfl))) (ZC [4,4] (P0 rb (most:Int) vl vt L c (by omega) hok htx0 x6.1 x6.2 0 4096 (by omega) (by omega)) h fun w h=>ZP (.tuple #[.string ((Bz (L.map RN.a) (x6.1,x6.2) 0 4096).1),.bool ((Bz (L.map RN.a) (x6.1,x6.2) 0 4096).2.1),Ii (((Bz (L.map RN.a) (x6.1,x6.2) 0 4096).2.2:Nat):Int)]) (ZP (.string ((Bz (L.map RN.a) (x6.1,x6.2) 0 4096).1)) (ZP (.bool ((Bz (L.map RN.a) (x6.1,x6.2) 0 4096).2.1)) (ZP (Ii (((Bz (L.map RN.a) (x6.1,x6.2) 0 4096).2.2:Nat):Int)) (ZP (.string ((Bz (L.map RN.a) (x6.1,x6.2) 0 4096).1)) (ZP (.bool ((Bz (L.map RN.a) (x6.1,x6.2) 0 4096).2.1)) (ZP (Ii (((Bz (L.map RN.a) (x6.1,x6.2) 0 4096).2.2:Nat):Int)) (Qm (ZP (Ab ad ((Bz (L.map RN.a) (x6.1,x6.2) 0 4096).2.2)) (ZP (Ii (((Bz (L.map RN.a) (x6.1,x6.2) 0 4096).2.2:Nat):Int)) (ZC [3] (Ff ad ((Bz (L.map RN.a) (x6.1,x6.2) 0 4096).2.2) (((Bz (L.map RN.a) (x6.1,x6.2) 0 4096).2.2:Nat):Int) (Yi _ _ _ _) rfl) h fun w h=>ZP (.bool false) (ZP (.bool false) (ZP (.string ((Bz (L.map RN.a) (x6.1,x6.2) 0 4096).1)) (ZP (.string ((Bz (L.map RN.a) (x6.1,x6.2) 0 4096).1)) (ZG h (A1 (v:=.bool (!(((Bz (L.map RN.a) (x6.1,x6.2) 0 4096).1).toList==((Bz (L.map RN.a) (x6.1,x6.2) 0 4096).1).toList))) (v':=.bool false) (Ay fun _=>by kernel_rfl) (by simp)) (ZP (.bool false) (ZP (.bool false) ?_))))))))))))))))))))))))))))))))))))))))))))))))))))))))))))))
 obtain ⟨b22,hb22⟩:=nmB ((Bz (L.map RN.a) (x6.1,x6.2) 0 4096).2.1)
 refine ZB hb22 (ZB hb22 (ZG h (A1 (v:=.bool (!(b22==b22))) (v':=.bool false) (Ay fun _=>by kernel_rfl) (by simp)) (ZP (.bool false) (Qf (B3 ?_)))))
 refine Ch (Ag ?_)
 refine Ai (ZP (Ii i0) (ZG h (A1 (v:=Ii (IntKind.i64.wrap ((i0:Int)+1))) (v':=Ii ((i0+1:Nat):Int)) (Ay fun _=>by kernel_rfl) (wr (by omega))) (ZP (Ii ((i0+1:Nat):Int)) (Dj ?_))))
 have hQ23:((i0+1)≤hs.length)∧(hs.length - (i0+1))<(hs.length - i0):=⟨by omega,by omega⟩
 refine Bu (fun j=>⟨(i0+1),j⟩) hQ23 (by kernel_rfl) [3,0,0,5,0,4,4] (by kernel_rfl) h
 exact absurd hhm17 (h0n12 Nm15 (List.mem_of_getElem? hxm16))
 refine ZP (.tuple #[.agg #[Ii Nn9.a.kind,Ii (Gg Nn9.a),Ii (Bf (L.map RN.a) Nn9.a),Ii Nn9.a.change,Ii ((upH (L.map RN.a) Nn9.a).1),Ii ((upH (L.map RN.a) Nn9.a).2)],.nilIface]) (ZP (.agg #[Ii Nn9.a.kind,Ii (Gg Nn9.a),Ii (Bf (L.map RN.a) Nn9.a),Ii Nn9.a.change,Ii ((upH (L.map RN.a) Nn9.a).1),Ii ((upH (L.map RN.a) Nn9.a).2)]) (ZP .nilIface (ZN [Ii 0,Ii 0,Ii 0,Ii 0,Ii 0,Ii 0] 46 h fun k24 w h=>ZSs [Ii Nn9.a.kind,Ii (Gg Nn9.a),Ii (Bf (L.map RN.a) Nn9.a),Ii Nn9.a.change,Ii ((upH (L.map RN.a) Nn9.a).1),Ii ((upH (L.map RN.a) Nn9.a).2)] 0 rfl h fun w h=>ZP .nilIface (Qm (ZP (Pp rb) (ZP (Pp hb) (ZP (Pp hb) (ZP (Pp hb) (ZG h (Gl 0 (hv) 6) (ZP (Ii i0) (ZG h (G2 i0 (by kernel_rfl) hi5 7 rfl) (ZG h (Gra (B2 hv+i0*2) [Ii x6.1,Ii x6.2] 7 rfl (Fz Gq hx7 (by kernel_rfl))) ?_))))))))))))
 refine ZD [3,4] (Oq rb (most:Int) vl vt L (by have:=hok.hl;omega) hok.hnod hok.hent hok.hfew x6.1 x6.2) h ?_;rintro v_ L_ w (⟨h0m29,rfl,rfl⟩|⟨jm25,Nm26,hxm27,hhm28,rfl,rfl⟩) h
 exact absurd hhn11 (h0m29 Nn9 (List.mem_of_getElem? hxn10))
 obtain ⟨hja_,hna_⟩:jn8=jm25∧Nn9=Nm26:=X4 hok.hnod hxn10 hxm27 (hhn11.trans hhm28.symm)
 subst hja_
 subst hna_
 refine ZP (.tuple #[.agg #[Ii Nn9.a.kind,Ii (Gg Nn9.a),Ii (Bf (L.map RN.a) Nn9.a),Ii Nn9.a.change,Ii ((upH (L.map RN.a) Nn9.a).1),Ii ((upH (L.map RN.a) Nn9.a).2)],Ii 0]) (ZP (.agg #[Ii Nn9.a.kind,Ii (Gg Nn9.a),Ii (Bf (L.map RN.a) Nn9.a),Ii Nn9.a.change,Ii ((upH (L.map RN.a) Nn9.a).1),Ii ((upH (L.map RN.a) Nn9.a).2)]) (ZP (Ii 0) (ZN [Ii 0,Ii 0,Ii 0,Ii 0,Ii 0,Ii 0] 46 h fun k30 w h=>ZSs [Ii Nn9.a.kind,Ii (Gg Nn9.a),Ii (Bf (L.map RN.a) Nn9.a),Ii Nn9.a.change,Ii ((upH (L.map RN.a) Nn9.a).1),Ii ((upH (L.map RN.a) Nn9.a).2)] 0 rfl h fun w h=>ZP (Ii 0) (Qu (ZP .nilIface (ZP (Ii 0) (ZC [5] (Ff ad 0 0 (by decide) rfl) h fun w h=>ZP (.bool false) (ZP (.bool false) (ZG h (Gla 0 [Ii Nn9.a.kind,Ii (Gg Nn9.a),Ii (Bf (L.map RN.a) Nn9.a),Ii Nn9.a.change,Ii ((upH (L.map RN.a) Nn9.a).1),Ii ((upH (L.map RN.a) Nn9.a).2)] 4) (ZG h (Gla 0 [Ii Nn9.a.kind,Ii (Gg Nn9.a),Ii (Bf (L.map RN.a) Nn9.a),Ii Nn9.a.change,Ii ((upH (L.map RN.a) Nn9.a).1),Ii ((upH (L.map RN.a) Nn9.a).2)] 1) (ZG h (A1 (v:=.bool (!((decide (Nn9.a.kind=Nn9.a.kind))&&((decide (Gg Nn9.a=Gg Nn9.a))&&((decide (Bf (L.map RN.a) Nn9.a=Bf (L.map RN.a) Nn9.a))&&((decide (Nn9.a.change=Nn9.a.change))&&((decide ((upH (L.map RN.a) Nn9.a).1=(upH (L.map RN.a) Nn9.a).1))&&(decide ((upH (L.map RN.a) Nn9.a).2=(upH (L.map RN.a) Nn9.a).2))))))))) (v':=.bool false) (Af0 (by kernel_rfl)) (by simp)) (ZP (.bool false) (Fs (ZP (Pp b) (ZP (Pp hb) (ZP (Pp hb) (ZP (Pp hb) (ZG h (Gl 0 (hv) 7) (ZP (Ii i0) (ZG h (G2 i0 (by kernel_rfl) hi5 8 rfl) (ZG h (Gra (B2 hv+i0*2) [Ii x6.1,Ii x6.2] 8 rfl (Fz Gq hx7 (by kernel_rfl))) ?_)))))))))))))))))))))
 refine ZD [5,0] (Adg ad hp x6.1 x6.2 0 60 (by omega) (by omega)) h ?_;rintro v_ L_ w ⟨vl31,rfl,rfl⟩ h
 refine ZP (.tuple #[vl31,Ii (((By (L.map RN.a) (x6.1,x6.2) 0 60).2.1:Nat):Int),Ab ad ((By (L.map RN.a) (x6.1,x6.2) 0 60).2.2)]) (ZP vl31 (ZP (Ii (((By (L.map RN.a) (x6.1,x6.2) 0 60).2.1:Nat):Int)) (ZP (Ab ad ((By (L.map RN.a) (x6.1,x6.2) 0 60).2.2)) (ZP vl31 (ZP (Ii (((By (L.map RN.a) (x6.1,x6.2) 0 60).2.1:Nat):Int)) (ZP (Ab ad ((By (L.map RN.a) (x6.1,x6.2) 0 60).2.2)) (Qm (ZP (Pp rb) (ZP (Pp hb) (ZP (Pp hb) (ZP (Pp hb) (ZG h (Gl 0 (hv) 8) (ZP (Ii i0) (ZG h (G2 i0 (by kernel_rfl) hi5 9 rfl) (ZG h (Gra (B2 hv+i0*2) [Ii x6.1,Ii x6.2] 9 rfl (Fz Gq hx7 (by kernel_rfl))) ?_)))))))))))))))
 refine ZD [4,4] (Pj rb (most:Int) vl vt L c (by omega) hok x6.1 x6.2 0 60 (by omega) (by omega)) h ?_;rintro v_ L_ w ⟨vr32,rfl,rfl⟩ h
 refine ZP (.tuple #[vr32,Ii (((By (L.map RN.a) (x6.1,x6.2) 0 60).2.1:Nat):Int),Ii (((By (L.map RN.a) (x6.1,x6.2) 0 60).2.2:Nat):Int)]) (ZP vr32 (ZP (Ii (((By (L.map RN.a) (x6.1,x6.2) 0 60).2.1:Nat):Int)) (ZP (Ii (((By (L.map RN.a) (x6.1,x6.2) 0 60).2.2:Nat):Int)) (ZP vr32 (ZP (Ii (((By (L.map RN.a) (x6.1,x6.2) 0 60).2.1:Nat):Int)) (ZP (Ii (((By (L.map RN.a) (x6.1,x6.2) 0 60).2.2:Nat):Int)) (Qu (ZP (Ab ad ((By (L.map RN.a) (x6.1,x6.2) 0 60).2.2)) (ZP (Ii (((By (L.map RN.a) (x6.1,x6.2) 0 60).2.2:Nat):Int)) (ZC [4] (Ff ad ((By (L.map RN.a) (x6.1,x6.2) 0 60).2.2) (((By (L.map RN.a) (x6.1,x6.2) 0 60).2.2:Nat):Int) (Yj _ _ _ _) rfl) h fun w h=>ZP (.bool false) (ZP (.bool false) (ZP (Ii (((By (L.map RN.a) (x6.1,x6.2) 0 60).2.1:Nat):Int)) (ZP (Ii (((By (L.map RN.a) (x6.1,x6.2) 0 60).2.1:Nat):Int)) (ZG h (A1 (v:=.bool (!decide ((((By (L.map RN.a) (x6.1,x6.2) 0 60).2.1:Nat):Int)=(((By (L.map RN.a) (x6.1,x6.2) 0 60).2.1:Nat):Int)))) (v':=.bool false) (Ay fun _=>by kernel_rfl) (by simp)) (ZP (.bool false) (ZP (.bool false) (ZP vl31 (ZP vr32 (ZC [5,3] (O2 vl31 vr32 ((By (L.map RN.a) (x6.1,x6.2) 0 60).1) (by exact Q2 hok.few _ _ _)) h fun w h=>ZP (.bool false) (ZP (.bool false) (Fs (ZP (Pp b) (ZP (Pp hb) (ZP (Pp hb) (ZP (Pp hb) (ZG h (Gl 0 (hv) 9) (ZP (Ii i0) (ZG h (G2 i0 (by kernel_rfl) hi5 10 rfl) (ZG h (Gra (B2 hv+i0*2) [Ii x6.1,Ii x6.2] 10 rfl (Fz Gq hx7 (by kernel_rfl))) (ZC [5,2] (Adj ad hp x6.1 x6.2 0 4096 (by omega)) h fun w h=>ZP (.tuple #[.string ((Bz (L.map RN.a) (x6.1,x6.2) 0 4096).1),.bool ((Bz (L.map RN.a) (x6.1,x6.2) 0 4096).2.1),Ab ad ((Bz (L.map RN.a) (x6.1,x6.2) 0 4096).2.2)]) (ZP (.string ((Bz (L.map RN.a) (x6.1,x6.2) 0 4096).1)) (ZP (.bool ((Bz (L.map RN.a) (x6.1,x6.2) 0 4096).2.1)) (ZP (Ab ad ((Bz (L.map RN.a) (x6.1,x6.2) 0 4096).2.2)) (ZP (.string ((Bz (L.map RN.a) (x6.1,x6.2) 0 4096).1)) (ZP (.bool ((Bz (L.map RN.a) (x6.1,x6.2) 0 4096).2.1)) (ZP (Ab ad ((Bz (L.map RN.a) (x6.1,x6.2) 0 4096).2.2)) (Qm (ZP (Pp rb) (ZP (Pp hb) (ZP (Pp hb) (ZP (Pp hb) (ZG h (Gl 0 (hv) 9) (ZP (Ii i0) (ZG h (G2 i0 (by kernel_rfl) hi5 10 rfl) (ZG h (Gra (B2 hv+i0*2) [Ii x6.1,Ii x6.2] 10 rfl (Fz Gq hx7 (by kernel_rfl))) (ZC [4,4] (P0 rb (most:Int) vl vt L c (by omega) hok htx0 x6.1 x6.2 0 4096 (by omega) (by omega)) h fun w h=>ZP (.tuple #[.string ((Bz (L.map RN.a) (x6.1,x6.2) 0 4096).1),.bool ((Bz (L.map RN.a) (x6.1,x6.2) 0 4096).2.1),Ii (((Bz (L.map RN.a) (x6.1,x6.2) 0 4096).2.2:Nat):Int)]) (ZP (.string ((Bz (L.map RN.a) (x6.1,x6.2) 0 4096).1)) (ZP (.bool ((Bz (L.map RN.a) (x6.1,x6.2) 0 4096).2.1)) (ZP (Ii (((Bz (L.map RN.a) (x6.1,x6.2) 0 4096).2.2:Nat):Int)) (ZP (.string ((Bz (L.map RN.a) (x6.1,x6.2) 0 4096).1)) (ZP (.bool ((Bz (L.map RN.a) (x6.1,x6.2) 0 4096).2.1)) (ZP (Ii (((Bz (L.map RN.a) (x6.1,x6.2) 0 4096).2.2:Nat):Int)) (Qm (ZP (Ab ad ((Bz (L.map RN.a) (x6.1,x6.2) 0 4096).2.2)) (ZP (Ii (((Bz (L.map RN.a) (x6.1,x6.2) 0 4096).2.2:Nat):Int)) (ZC [3] (Ff ad ((Bz (L.map RN.a) (x6.1,x6.2) 0 4096).2.2) (((Bz (L.map RN.a) (x6.1,x6.2) 0 4096).2.2:Nat):Int) (Yi _ _ _ _) rfl) h fun w h=>ZP (.bool false) (ZP (.bool false) (ZP (.string ((Bz (L.map RN.a) (x6.1,x6.2) 0 4096).1)) (ZP (.string ((Bz (L.map RN.a) (x6.1,x6.2) 0 4096).1)) (ZG h (A1 (v:=.bool (!(((Bz (L.map RN.a) (x6.1,x6.2) 0 4096).1).toList==((Bz (L.map RN.a) (x6.1,x6.2) 0 4096).1).toList))) (v':=.bool false) (Ay fun _=>by kernel_rfl) (by simp)) (ZP (.bool false) (ZP (.bool false) ?_))))))))))))))))))))))))))))))))))))))))))))))))))))))))))))))
 obtain ⟨b33,hb33⟩:=nmB ((Bz (L.map RN.a) (x6.1,x6.2) 0 4096).2.1)
 refine ZB hb33 (ZB hb33 (ZG h (A1 (v:=.bool (!(b33==b33))) (v':=.bool false) (Ay fun _=>by kernel_rfl) (by simp)) (ZP (.bool false) (Qf (B3 ?_)))))
 refine Ch (Ag ?_)
 refine Ai (ZP (Ii i0) (ZG h (A1 (v:=Ii (IntKind.i64.wrap ((i0:Int)+1))) (v':=Ii ((i0+1:Nat):Int)) (Ay fun _=>by kernel_rfl) (wr (by omega))) (ZP (Ii ((i0+1:Nat):Int)) (Dj ?_))))
 have hQ34:((i0+1)≤hs.length)∧(hs.length - (i0+1))<(hs.length - i0):=⟨by omega,by omega⟩
 refine Bu (fun j=>⟨(i0+1),j⟩) hQ34 (by kernel_rfl) [3,0,0,5,0,4,4] (by kernel_rfl) h
 exact Dk (Ea (Et (Ep (Ag (Qs (ZP (.bool true) (Qr (ZR [.bool true] [0,0,0,0,0,0,0] h ⟨rfl,rfl⟩))))))))
theorem Aad (v:Value) (acts:List Y5) (hacts:∀ x∈acts,Aca x)  : Ao Tryz.prog 8 #[v] [Nw v 6 Xj acts] (fun u L=>∃ bm:Bool,(bm=false→acts.length≤30∧∀ x∈acts,ActSm x)∧u=.bool bm∧L=[Nw v 6 Xj acts]):=by
 refine Zo 30 Tryz.func8 fun E w0 w h=>?_
 refine Qs (ZP (.bool false) (Qu (ZP v (ZG h (Wk 39 (by kernel_rfl) 0 rfl) (ZP (.bool (decide ((acts.length:Int)>30))) (Qn (Zd ((acts.length:Int)>30) (fun hc1=>?_) fun hc1=>?_)))))))
 exact Qs (ZP (.bool true) (Qr (Ap (ZR [.bool true] [0] h ⟨true,fun h=>(by cases h),rfl,rfl⟩))))
 refine Ks (ZP (Ii 0) (Qu (ZP (Ii 0) (Qn (Au ?_)))))
 refine ZL (X:=Nat×Int×(Nat→Value)) [(8,28)] (fun ⟨k0,s0,J0⟩=>[(3,Ii s0),(4,Ii k0)]) (fun ⟨k0,s0,J0⟩=>J0) (fun ⟨k0,s0,J0⟩=>[Nw v 6 Xj acts]) (fun ⟨k0,s0,J0⟩=>k0≤acts.length∧0≤s0∧s0≤(k0:Int)*281474976710656∧∀ i x,i<k0→acts[i]?=some x→(x.2.2.2.1.size:Int)+x.2.2.2.2.1.size≤s0) (fun ⟨k0,s0,J0⟩=>acts.length - k0) (fun j=>⟨0,0,j⟩) ⟨by omega,by omega,by omega,fun i x h=>absurd h (by omega)⟩ [0] h ?_
 rintro ⟨k0,s0,J0⟩ w hG h
 obtain ⟨hk0,hs0,hs1,hno⟩:k0≤acts.length∧0≤s0∧s0≤(k0:Int)*281474976710656∧∀ i x,i<k0→acts[i]?=some x→(x.2.2.2.1.size:Int)+x.2.2.2.2.1.size≤s0:=hG
 refine Qt (ZP (Ii k0) (ZP v (ZG h (Wk 39 (by kernel_rfl) 0 rfl) (ZP (.bool (decide ((k0:Int)<(acts.length:Int)))) (Qn (Zd ((k0:Int)<(acts.length:Int)) (fun hc2=>?_) fun hc2=>?_))))))
 refine Kn (Aa (Au (Ds 16 [0] h fun w h=>Dp 0 16254 (Ii s0) [0] h (Dp 1 16133 v [0] h (Dp 2 16131 (Ii k0) [0] h ?_)))))
 have hi3:k0<acts.length:=by omega
 obtain ⟨x4,hx5⟩:∃ x,acts[k0]?=some x:=⟨_,List.getElem?_eq_getElem hi3⟩
 obtain ⟨ho1,ho2,ho3⟩:=hacts x4 (List.mem_of_getElem? hx5)
 refine Dq (v:=Pt (Du v) (B2 v+k0*6)) 3 16135 [0] rfl h (Xg 39 k0 (by kernel_rfl) hi3 0 rfl) (Dp 4 16143 (Pt (Du v) (B2 v+k0*6+3)) [0] h (Dq 5 16159 [0] rfl h (Gr (B2 v+k0*6+3) (.string x4.2.2.2.1) 0 rfl (Acc hx5 3 (by kernel_rfl))) (Dp 6 16191 (Ii (x4.2.2.2.1.size:Int)) [0] h (Dq 7 16255 [0] rfl h (Gw (s0+(x4.2.2.2.1.size:Int))) (Dp 8 767 v [0] h (Dp 9 511 (Ii k0) [0] h (Dq (v:=Pt (Du v) (B2 v+k0*6)) 10 1023 [0] rfl h (Xg 39 k0 (by kernel_rfl) hi3 0 rfl) (Dp 11 2047 (Pt (Du v) (B2 v+k0*6+4)) [0] h (Dq 12 4095 [0] rfl h (Gr (B2 v+k0*6+4) (.string x4.2.2.2.2.1) 0 rfl (Acc hx5 4 (by kernel_rfl))) (Dp 13 8191 (Ii (x4.2.2.2.2.1.size:Int)) [0] h (Dq 14 16383 [0] rfl h (Gw ((s0+(x4.2.2.2.1.size:Int))+(x4.2.2.2.2.1.size:Int))) (Dp 15 32767 (Ii ((s0+(x4.2.2.2.1.size:Int))+(x4.2.2.2.2.1.size:Int))) [0] h (Dd ?_)))))))))))))
 refine Ch (Ag ?_)
 refine Ai (ZP (Ii k0) (ZG h (A1 (v:=Ii (IntKind.i64.wrap ((k0:Int)+1))) (v':=Ii ((k0+1:Nat):Int)) (Ay fun _=>by kernel_rfl) (wr (by omega))) (ZP (Ii ((k0+1:Nat):Int)) (Dj ?_))))
 have hQ6:((k0+1)≤acts.length∧0≤((s0+(x4.2.2.2.1.size:Int))+(x4.2.2.2.2.1.size:Int))∧((s0+(x4.2.2.2.1.size:Int))+(x4.2.2.2.2.1.size:Int))≤((k0+1):Int)*281474976710656∧∀ i x,i<(k0+1)→acts[i]?=some x→(x.2.2.2.1.size:Int)+x.2.2.2.2.1.size≤((s0+(x4.2.2.2.1.size:Int))+(x4.2.2.2.2.1.size:Int)))∧(acts.length - (k0+1))<(acts.length - k0):=⟨⟨by omega,by omega,by omega,fun i x hi hx=>by
   by_cases e:i=k0
   · subst e;rw [hx5] at hx;cases hx;omega
   · have:=hno i x (by omega) hx;omega⟩,by omega⟩
 refine Bu (fun j=>⟨(k0+1),(s0+(x4.2.2.2.1.size:Int))+(x4.2.2.2.2.1.size:Int),j⟩) hQ6 (by kernel_rfl) [0] (by kernel_rfl) h
 refine Dk (Ea (Et (Ep (Ag (Qs (ZP (Ii s0) (ZP (.bool (decide (s0>3000))) (ZP (.bool (decide (s0>3000))) (Qr (ZR [.bool (decide (s0>3000))] [0] h ?_))))))))))
 refine ⟨_,fun hb=>?_,rfl,rfl⟩
 have hb2:=dcF hb
 exact ⟨by omega,fun x hx=>by
 obtain ⟨i,hi⟩:=List.getElem?_of_mem hx
 have:=hno i x (by have:=Ae6 hi;omega) hi
 constructor<;>omega⟩
theorem Nk:B4 3 [C4 (0,0) 2] (0,0) ⟨#[97]⟩ 1=(some 1,0):=Ac2 (D:=C4 (0,0) 2) rfl rfl (by decide) (.inl rfl) rfl (by decide) (by decide)
theorem Wl {B:Nat} (ad:Nat→Addr) (mo:Int):Ao Tryz.prog 9 #[Ii mo] [A4 B ad] fun u L=>((mo<1∨300<mo)∧u=.tuple #[.pointer none,Ab ad 2]∧L=[A4 B ad])∨(∃ (m b:Nat) (z:PZ),mo=(m:Int)∧1≤m∧m≤300∧PB m b z [C4 (0,0) 2] ((List.replicate m (0:Int)).set 0 1) 1∧u=.tuple #[Pp b,.nilIface]∧L=[rPT m z,A4 B ad]):=by
  by_cases h:mo<1∨300<mo
  · exact (Zl ad mo h).mono fun u L q=>.inl ⟨h,q.1,q.2⟩
  · obtain ⟨m,rfl⟩:∃ m:Nat,mo=(m:Int):=⟨mo.toNat,by omega⟩
    exact (Ade ad m (by omega) (by omega)).mono fun u L ⟨b,z,h1,h2,h3⟩=>.inr ⟨m,b,z,rfl,by omega,by omega,h1,h2,h3⟩
theorem Vh {B:Nat} (ad:Nat→Addr)  : Ao Tryz.prog 7 #[] [A4 B ad] (fun u L=>u=.bool true∧L=[A4 B ad]):=by
 refine Zo 33 Tryz.func7 fun E w0 w h=>?_
 refine Qs (ZP (.bool false) (Qm ?_))
 refine ZD [0] (Ade ad 3 (by decide) (by decide)) h ?_;rintro v_ L_ w ⟨b0,z0,hz0,rfl,rfl⟩ h
 refine ZP (.tuple #[Pp b0,.nilIface]) (ZP (Pp b0) (ZP .nilIface (ZP (Pp b0) (ZP .nilIface (Qu (ZP .nilIface (ZP (.bool false) (ZP (.bool false) (ZP (Pp b0) (ZP (.bool false) (ZP (.bool false) (ZP (.bool false) (ZP (Pp b0) (ZC [0] (Xw hz0) h fun w h=>ZP (.bool false) (ZP (.bool false) (Fs (ZP (Pp b0) (ZP (Pp b0) (ZC [0] (Aby hz0) h fun w h=>?_)))))))))))))))))))
 refine ZD [0,0] (Uk ad hz0 0 0 ⟨#[97]⟩ (by decide) 1 (by decide)) h ?_;rintro v_ L_ w (⟨_,hTr1,rfl,rfl⟩|⟨z1,k1,hTr2,hz1,rfl,rfl⟩) h
 rw [Nk] at hTr1;cases hTr1
 have hk1_:1=k1:=Option.some.inj (Prod.mk.inj (Nk.symm.trans hTr2)).1
 subst hk1_
 exact ZP (.tuple #[Hg 1 0,.nilIface]) (ZP (Hg 1 0) (ZP .nilIface (ZN [Ii 0,Ii 0] 34 h fun k3 w h=>ZSs [Ii 1,Ii 0] 0 rfl h fun w h=>ZP .nilIface (Qm (ZP .nilIface (ZP (.bool true) (ZP (.bool true) (ZG h (Gla 0 [Ii 1,Ii 0] 0) (ZP (Hg 1 0) (ZG h (A1 (v:=.bool (((decide ((1:Int)=1))&&(decide ((0:Int)=0))))) (v':=.bool true) (F7 (n1:=1) (g1:=0) (n2:=1) (g2:=0) (by kernel_rfl)) (by rfl)) (ZP (.bool true) (ZP (.bool true) (Qr (ZR [.bool true] [2] h ⟨rfl,rfl⟩))))))))))))))
theorem Own.cellRowI {α:Type} {w0 w:World} {E:Ent} {L:List Res} {b:Nat} {d:TypeId} {x:α} {k:Nat} {enc:α→List Value} {i:Nat} (hi:L[i]?=some (B0 true b (enc x) d)) (he:(enc x).length=k) (h:Own w0 E L w):Own w0 E (L.set i (Bc true (.slice (some ⟨b,0,none⟩) 1 1) d k enc [x])) w:=
  h.upd (i:=i) (r:=B0 true b (enc x) d) hi rfl (Chg.refl _ _) ⟨by simp [he],.inr ⟨b,0,1,(enc x).toArray,rfl,h.fact i hi,Nat.le_refl _,by unfold maxLen;omega,by simp [he],fun j u hj=>by simpa using hj,rfl⟩⟩ fun y hy=>.inl hy
theorem Qh {B:Nat} (ad:Nat→Addr) (mo:Int) (v:Value) (acts:List Y5) (hacts:∀ x∈acts,Aca x)  : Ao Tryz.prog 6 #[Ii mo,v] [Nw v 6 Xj acts,A4 B ad] (fun u L=>u=.bool true∧L=[Nw v 6 Xj acts,A4 B ad]):=by
 refine Zo 91 Tryz.func6 fun E w0 w h=>?_
 refine Qs (ZP (.bool false) (Qm (ZC [1] (Vh ad) h fun w h=>ZP (.bool true) (Qu (ZP (.bool true) (ZP (.bool false) (ZP (.bool false) (ZP v ?_))))))))
 refine ZD [1] (Aad v acts hacts) h ?_;rintro v_ L_ w ⟨bm,hbm,rfl,rfl⟩ h
 refine ZP (.bool bm) (Qn (Zi (bm) (fun hc1=>?_) fun hc1=>?_))
 exact Qs (ZP (.bool true) (ZP (.bool true) (Qr (Ap (ZR [.bool true] [0,0] h ⟨rfl,rfl⟩)))))
 obtain ⟨hfew,hsz⟩:=hbm hc1
 refine Ks (ZP (Ii mo) ?_)
 refine ZD [1] (Wl ad mo) h ?_;rintro v_ L_ w (⟨hbad0,rfl,rfl⟩|⟨m,b,z0,hmo0,hm1,hm2,hz0,rfl,rfl⟩) h
 refine ZP (.tuple #[.pointer none,Ab ad 2]) (ZP (.pointer none) (ZP (Ab ad 2) (ZP (.pointer none) (ZP (Ab ad 2) (Qu (ZP (Ii mo) ?_))))))
 obtain ⟨b2,hb2⟩:=nmB (decide (mo<1))
 refine ZB hb2 (ZP (.bool b2) (ZM0 (v:=Ii mo) b2 h (fun hB=>by subst hB;exact Gp (Ii mo)) ?_))
 obtain ⟨b3,hb3⟩:=nmB (decide (mo>300))
 refine ZM0 (v:=.bool b3) b2 h (fun hB=>by subst hB;exact by subst hb3;exact Ay (v:=.bool (decide (mo>300))) fun _=>by kernel_rfl) ?_
 obtain ⟨b4,hb4⟩:=nmB (b2||b3)
 refine ZBc b2 hb4 (Qn (Zi (b4) (fun hc5=>?_) fun hc5=>?_))
 have q6:=hb4.symm.trans hc5
 have q7:((mo<1)∨(mo>300)):=by subst hb3;subst hb2;revert q6;first|(simp;done)|(simp;omega)
 exact Qs (ZP (Ab ad 2) (ZC [0] (Ff ad 2 2 (by decide) rfl) h fun w h=>ZP (.bool true) (ZP (.pointer none) (ZP (.bool true) (ZP (.bool true) (ZP (.bool true) (Qr (Ap (ZR [.bool true] [1,0] h ⟨rfl,rfl⟩)))))))))
 have q8:=hb4.symm.trans hc5
 have q9:=oL q8
 have q10:=oR q8
 have q11:=hb2.symm.trans q9
 have q11:=dcF q11
 have q12:=hb3.symm.trans q10
 have q12:=dcF q12
 exfalso;revert hc5;subst hb4;subst hb3;subst hb2;simp;omega
 obtain rfl:=hmo0
 refine ZP (.tuple #[Pp b,.nilIface]) (ZP (Pp b) (ZP .nilIface (ZP (Pp b) (ZP .nilIface (Qu (ZP (Ii m) ?_))))))
 obtain ⟨b13,hb13⟩:=nmB (decide ((m:Int)<1))
 refine ZB hb13 (ZP (.bool b13) (ZM0 (v:=Ii m) b13 h (fun hB=>by subst hB;exact Gp (Ii m)) ?_))
 obtain ⟨b14,hb14⟩:=nmB (decide ((m:Int)>300))
 refine ZM0 (v:=.bool b14) b13 h (fun hB=>by subst hB;exact by subst hb14;exact Ay (v:=.bool (decide ((m:Int)>300))) fun _=>by kernel_rfl) ?_
 obtain ⟨b15,hb15⟩:=nmB (b13||b14)
 refine ZBc b13 hb15 (Qn (Zi (b15) (fun hc16=>?_) fun hc16=>?_))
 have q17:=hb15.symm.trans hc16
 have q18:(((m:Int)<1)∨((m:Int)>300)):=by subst hb14;subst hb13;revert q17;first|(simp;done)|(simp;omega)
 exfalso;revert hc16;subst hb15;subst hb14;subst hb13;simp;omega
 have q19:=hb15.symm.trans hc16
 have q20:=oL q19
 have q21:=oR q19
 have q22:=hb13.symm.trans q20
 have q22:=dcF q22
 have q23:=hb14.symm.trans q21
 have q23:=dcF q23
 refine Kw (ZP .nilIface (ZP (.bool false) (ZP (.bool false) (ZP (Pp b) (ZP (.bool false) (ZP (.bool false) (ZP (.bool false) (ZP (Pp b) (ZC [0] (Aby hz0) h fun w h=>ZP (Hg 0 0) (ZG h (A1 (v:=.bool (!((decide ((0:Int)=0))&&(decide ((0:Int)=0))))) (v':=.bool false) (Ez (n1:=0) (g1:=0) (n2:=0) (g2:=0) (by kernel_rfl)) (by rfl)) (ZP (.bool false) (Fs (ZP (Ii m) ?_)))))))))))))
 refine ZD [] (Aag m (by omega)) h ?_;rintro v_ L_ w ⟨rb,vl0,vt,L0,hL0,rfl,rfl⟩ h
 have hp0:PB m b z0 (L0.map RN.a) ((List.replicate m (0:Int)).set 0 1) 1:=by rw [hL0];exact hz0
 refine ZP (Pp rb) (Qm (ZP (Hg 0 0) ?_))
 refine G1 rfl (fun b=>.slice (some ⟨b,0,none⟩) 1 1) [Ii 0,Ii 0] 34 (fun _=>by kernel_rfl) h ?_;intro k24 w h
 refine ZP (.agg #[.slice (some ⟨k24,0,none⟩) 1 1]) (ZN [.slice (some ⟨k24,0,none⟩) 1 1] 37 h fun k25 w h=>ZP (Pp k25) (Qn (Aa (Aa ?_))))
 have h:Own w0 E [B0 true k25 [.slice (some ⟨k24,0,none⟩) 1 1] 37,Bc true (.slice (some ⟨k24,0,none⟩) 1 1) 34 2 hdC [((0,0):Hdl)],Rt rb m vl0 vt,Bc true vt 3 1 inC ((List.replicate m (0:Int)).set 0 1),rRL vl0 L0,rPT m z0,A4 B ad,Nw v 6 Xj acts] w:=Own.cellRowI (x:=((0,0):Hdl)) (k:=2) (enc:=hdC) (i:=1) rfl rfl h
 refine Ai (ZP (Ii 0) (Qn (Au ?_)))
 refine ZL (X:=Nat×PZ×List RN×List Int×Value×Value×List Hdl×(Nat→Value)) [(4,4),(11,12),(56,88)] (fun ⟨i0,z,L,ts,vl,hv,hs,J0⟩=>[(10,Ii i0)]) (fun ⟨i0,z,L,ts,vl,hv,hs,J0⟩=>J0) (fun ⟨i0,z,L,ts,vl,hv,hs,J0⟩=>[B0 true k25 [hv] 37,Bc true hv 34 2 hdC hs,Rt rb m vl vt,Bc true vt 3 1 inC ts,rRL vl L,rPT m z,A4 B ad,Nw v 6 Xj acts]) (fun ⟨i0,z,L,ts,vl,hv,hs,J0⟩=>i0≤acts.length∧hs.length≤i0+1∧PB m b z (L.map RN.a) ts (3*(i0:Int)+1)) (fun ⟨i0,z,L,ts,vl,hv,hs,J0⟩=>acts.length - i0) (fun j=>⟨0,z0,L0,((List.replicate m (0:Int)).set 0 1),vl0,(.slice (some ⟨k24,0,none⟩) 1 1),[((0,0):Hdl)],j⟩) ⟨by omega,by simp,hp0⟩ [0,0,0,0,0,0,0,0] h ?_
 rintro ⟨i0,z,L,ts,vl,hv,hs,J0⟩ w hG h
 obtain ⟨hi0,hhs,hp1⟩:i0≤acts.length∧hs.length≤i0+1∧PB m b z (L.map RN.a) ts (3*(i0:Int)+1):=hG
 refine Qt (ZP (Ii i0) (ZP v (ZG h (Wk 39 (by kernel_rfl) 7 rfl) (ZP (.bool (decide ((i0:Int)<(acts.length:Int)))) (Qn (Zd ((i0:Int)<(acts.length:Int)) (fun hc26=>?_) fun hc26=>?_))))))
 refine Kn (Aa (Au (Qs (ZP (Pp b) (ZP (Pp rb) (ZP (Pp k25) (ZP v (ZP (Ii i0) ?_))))))))
 have hi27:i0<acts.length:=by omega
 obtain ⟨x28,hx29⟩:∃ x,acts[i0]?=some x:=⟨_,List.getElem?_eq_getElem hi27⟩
 obtain ⟨ho1,ho2,ho3⟩:=hacts x28 (List.mem_of_getElem? hx29)
 have hsm:=hsz x28 (List.mem_of_getElem? hx29)
 have hsm:x28.2.2.2.1.size≤100000∧x28.2.2.2.2.1.size≤100000:=⟨by have:=hsm.1;omega,by have:=hsm.2;omega⟩
 refine ZG h (Xg 39 i0 (by kernel_rfl) hi27 7 rfl) (ZG h (Gra (B2 v+i0*6) [.string x28.1,Ii x28.2.1,Ii x28.2.2.1,.string x28.2.2.2.1,.string x28.2.2.2.2.1,Ii x28.2.2.2.2.2.1] 7 rfl (Agn hx29 (by kernel_rfl))) ?_)
 refine ZD [5,5,2,2,2,0,0] (Afd ad m b rb k25 z L ts (3*(i0:Int)+1) hp1 vl vt hv hs (by omega) (by omega) x28.1 x28.2.1 x28.2.2.1 x28.2.2.2.1 x28.2.2.2.2.1 x28.2.2.2.2.2.1 hsm.1 hsm.2 ho3) h ?_;rintro v_ L_ w ⟨zz30,LL31,tt32,vv33,hv34,hh35,ee36,hp37,hl38,he39,hn40,rfl,rfl⟩ h
 refine ZP (.tuple #[Ab ad ee36,Ii ee36]) (ZP (Ab ad ee36) (ZP (Ii ee36) (ZP (Ab ad ee36) (ZP (Ii ee36) (Qm (ZP (Ab ad ee36) (ZP (Ii ee36) (ZC [1] (Ff ad ee36 (ee36:Int) ((by omega)) rfl) h fun w h=>ZP (.bool false) (ZP (.bool false) (ZP (Ii i0) (ZG h (g_rem i0 3 (by kernel_rfl) (by omega) (by omega)) ?_)))))))))))
 obtain ⟨b41,hb41⟩:=nmB (decide (((i0 % 3:Nat):Int)=0))
 refine ZB hb41 (ZP (.bool b41) (ZM1 (v:=Pp b) b41 h (fun hB=>by subst hB;exact Gp (Pp b)) (ZM1 (v:=Pp rb) b41 h (fun hB=>by subst hB;exact Gp (Pp rb)) (ZM1 (v:=Pp k25) b41 h (fun hB=>by subst hB;exact Gp (Pp k25)) ?_))))
 rcases Bool.eq_false_or_eq_true b41 with hc42|hc42
 subst hc42
 have q43:=hb41.symm
 have q43:=dcT q43
 refine ZC [1,0,0,0,0,0,0] (Pd ad m b rb k25 zz30 LL31 tt32 _ hp37 vv33 vt hv34 hh35 (by omega) (by omega)) h fun w h=>ZP (.bool false) (ZP (.bool false) (ZP (.bool false) (Qf (B3 ?_))))
 refine Ch (Ag ?_)
 refine Ai (ZP (Ii i0) (ZG h (A1 (v:=Ii (IntKind.i64.wrap ((i0:Int)+1))) (v':=Ii ((i0+1:Nat):Int)) (Ay fun _=>by kernel_rfl) (wr (by omega))) (ZP (Ii ((i0+1:Nat):Int)) (Dj ?_))))
 have hQ44:((i0+1)≤acts.length∧hh35.length≤(i0+1)+1∧PB m b zz30 (LL31.map RN.a) tt32 (3*((i0+1):Int)+1))∧(acts.length - (i0+1))<(acts.length - i0):=⟨⟨by omega,by omega,hp37.more (by omega) (by omega)⟩,by omega⟩
 refine Bu (fun j=>⟨(i0+1),zz30,LL31,tt32,vv33,hv34,hh35,j⟩) hQ44 (by kernel_rfl) [5,5,2,2,2,0,0,0] (by kernel_rfl) h
 subst hc42
 have q45:=hb41.symm
 have q45:=dcF q45
 refine Zx (Zx (ZP (.bool false) (ZP (.bool false) (Qf (B3 ?_)))))
 refine Ch (Ag ?_)
 refine Ai (ZP (Ii i0) (ZG h (A1 (v:=Ii (IntKind.i64.wrap ((i0:Int)+1))) (v':=Ii ((i0+1:Nat):Int)) (Ay fun _=>by kernel_rfl) (wr (by omega))) (ZP (Ii ((i0+1:Nat):Int)) (Dj ?_))))
 have hQ46:((i0+1)≤acts.length∧hh35.length≤(i0+1)+1∧PB m b zz30 (LL31.map RN.a) tt32 (3*((i0+1):Int)+1))∧(acts.length - (i0+1))<(acts.length - i0):=⟨⟨by omega,by omega,hp37.more (by omega) (by omega)⟩,by omega⟩
 refine Bu (fun j=>⟨(i0+1),zz30,LL31,tt32,vv33,hv34,hh35,j⟩) hQ46 (by kernel_rfl) [5,5,2,2,2,1,0,0] (by kernel_rfl) h
 exact Dk (Ea (Et (Ep (Ag (Qs (ZP (Pp b) (ZP (Pp rb) (ZP (Pp k25) (ZC [5,5,2,2,2,0,0] (Pd ad m b rb k25 z L ts _ hp1 vl vt hv hs (by omega) (by omega)) h fun w h=>ZP (.bool true) (Qr (ZR [.bool true] [7,1] h ⟨rfl,rfl⟩)))))))))))
theorem Sy (ad:Nat→Addr) (mo:Int) (a0:Option Addr) (cap:Nat) (acts:List Y5) (w:World) (he:Lb w.heap.size ad w) (hs:(Sh.slice Aci).At w w.heap.size (a0,cap,acts)) (hz:(Sh.slice Aci).Sz (a0,cap,acts)) :
    Calls Tryz.prog 6 #[Ii mo,.slice a0 acts.length cap] w fun e w'=>e=.returned (.bool true)∧Chg Nil w w':=by
  have hok:∀ x∈acts,Aca x:=fun x hx=>by
    obtain ⟨i,hi,rfl⟩:=List.mem_iff_getElem.1 hx
    obtain ⟨⟨_,_,_,_,_,q6,_⟩,_⟩:=hs.2.2 i acts[i] (List.getElem?_eq_getElem hi)
    obtain ⟨_,_,_,r4,r5,_⟩:=hz.2 i acts[i] (List.getElem?_eq_getElem hi)
    exact ⟨r4,r5,q6⟩
  refine ((Qh (B:=w.heap.size) ad mo (.slice a0 acts.length cap) acts hok).reads (w:=w) rfl ?_).mono ?_
  · intro r hr
    simp only [List.mem_cons,List.mem_nil_iff,or_false] at hr
    rcases hr with rfl|rfl
    · exact Y3 hs
    · exact he
  · rintro e w' ⟨u,L',⟨rfl,_⟩,he,hc'⟩
    exact ⟨he,hc'⟩
section
open Go.RowKit Go.ChangeShapes Go.WideShapes Go.ChangeAt
theorem Ad4:∀ c∈Db,Vg c:=by
  intro c hc
  simp only [Db,List.mem_cons,List.mem_nil_iff,or_false] at hc
  rcases hc with rfl|rfl|rfl|rfl|rfl|rfl|rfl|rfl|rfl|rfl|rfl|rfl|rfl|rfl|rfl<;>exact ⟨by kernel_rfl,by kernel_rfl⟩
def Pa : List (String × DataW Unit) := ("errors.errorType", Rows.laid_errors_errorType) :: Iy Db
theorem Aab : Tryz.prog.globalNamed "errors.errorType" = some 15 := by kernel_rfl
theorem Yy : (Tryz.prog.cutTypes.find? (·.1 == "internal/reflectlite.rtype")).map (·.2) = some 197 := by kernel_rfl
theorem Z6:((List.range 264).filter fun t=>Tryz.prog.rowNamed t [101,114,114,111,114])=[27]:=by kernel_rfl
theorem Wh:Tryz.prog.types.size=264:=by kernel_rfl
theorem Rv:typeHandle Tryz.prog 27=.pointer (some ⟨16,27,none⟩):=by kernel_rfl
theorem Sb {W:World} (h:laidMetH Tryz.prog Pa W):∃ ad,Lb W.heap.size ad W∧∀ c∈Db,∃ s:ByteArray,W.cell? (ad c)=some (.string s)∧s.data.toList=Jv c:=by
  have h' : laidMet Tryz.prog (Iy Db) W ∧ handlesMet Tryz.prog [("errors.errorType", Rows.laid_errors_errorType)] W := h
  obtain ⟨ad,he,ht⟩:=Uy h'.1 Ad4
  obtain ⟨name,u,ty,e1,e2,e3,e4,e5⟩:=h'.2 _ (List.mem_singleton.2 rfl)
  have en:name=[101,114,114,111,114]:=(Option.some.inj e1).symm
  subst en
  obtain rfl:=Option.some.inj (Yy.symm.trans e2)
  have hm:ty∈(List.range 264).filter fun t=>Tryz.prog.rowNamed t [101,114,114,111,114]:=List.mem_filter.2 ⟨List.mem_range.2 (by rw [← Wh];exact e3),e4⟩
  rw [Z6] at hm
  obtain rfl:=List.mem_singleton.1 hm
  rw [Rv] at e5
  have hc:W.cell? ⟨15,0,none⟩=some (.iface 197 (.agg #[.pointer (some ⟨16,27,none⟩)])):=by simpa using World.var?_cell Aab e5 0
  exact ⟨ad,⟨he,hc,World.block_lt_of_cell? _ _ hc⟩,ht⟩
noncomputable def doorWorld (os:Os):World:=
  { World.laidAll Tryz.prog os (Iy Db) with heap:=(World.laidAll Tryz.prog os (Iy Db)).heap.modify 15 fun
      | .cells _ t frozen=>.cells #[.iface 197 (.agg #[.pointer (some ⟨16,27,none⟩)])] t frozen
      | o=>o }
theorem R5 (os:Os):(doorWorld os).os=os:=by
  dsimp only [doorWorld]
  exact World.laidAll_os _ _ _
theorem Qi (os:Os) (args:Array Value):laidMetH Tryz.prog Pa ((doorWorld os).forCall (fun _ _=>0) ⟨#[],args,[]⟩).memory:=
  laidMetH_of_parts (show laidMet Tryz.prog (Iy Db) _ from laidMet_of_run' 8 (by kernel_rfl) (by kernel_rfl)) (by kernel_rfl)
theorem M6 (os:Os) (args:Array Value):((doorWorld os).forCall (fun _ _=>0) ⟨#[],args,[]⟩).Shaped Tryz.prog:=World.shaped_of_ZipB (by kernel_rfl) (by kernel_rfl)
end
end Go.Proofs.YtpojpkhpddnmjaaGreatDoor
namespace Go.Proofs.YtpojpkhpddnmjaaGreatDoor.treeActsDone
open Go.ChangeShapes Go.WideShapes Go.ChangeAt Go.RowKit Go.ChangeMaps
set_option linter.unusedVariables false
set_option linter.unusedSimpArgs false
theorem own:ownKnob Tryz.prog.godebug=none:=by kernel_rfl
theorem U5:laidOutB Tryz.prog=true:=by kernel_rfl
set_option maxRecDepth 100000 in
theorem Ag7 (os:Os) (started:os.Started) (H:Type) (enc:TypeId×Value→H) :
    ReturnsInHanded {} Tryz.checked os 6 .any (fun w args=>(Rows.treeActsSpec.pre enc Tryz.prog Tryz.f6 Rows.treeActsRow.domain false w args∧laidMetH Tryz.prog Rows.treeActsRow.laid w)∧sizedMet enc Tryz.prog Tryz.f6 (OpenSpec.ofChange Rows.treeActsSpec) false w args)
      (Rows.treeActsSpec.post enc Tryz.prog Tryz.f6 false true false false):=by
  refine returnsInHanded_of_change_and (C:=Tryz.checked) (X:=fun w _=>laidMetH Tryz.prog Rows.treeActsRow.laid w) (fun _ _ _ hh h=>h.of_heap hh) own started (by kernel_rfl) Tryz.func6
    (ChangeSpec.witness_shaped (enc:=enc) (C:=Tryz.checked) (os:=os) (X:=fun w _=>laidMetH Tryz.prog Rows.treeActsRow.laid w) false (doorWorld os) #[.int .i64 0,.slice none 0 0] 8 (R5 os)
      (M6 os _) (by kernel_rfl) (by kernel_rfl) (by kernel_rfl) (Qi os _)) ?_
  intro W base args ds gs before hval0 hW _ hsz hL _
  have hval:∀ (j:Nat) t v,Tryz.f6.params[j]?=some t→args[j]?=some v→Value.okWide Tryz.prog W .any base t v:=hval0
  have hW':=hW
  obtain ⟨p,q,hA0,hV,rfl,hfz,hnd⟩:=hW
  have hA:DataW.TrodAll enc Tryz.prog W 0 (fun _=>true) true Tryz.f6.params.toList args.toList ds p:=hA0
  rw [Tryz.params6] at hA hval
  obtain ⟨v0,vs0,e0,ds0,pl0,q0,hargs,rfl,rfl,h0,r0⟩:=trodAll_cons hA
  obtain ⟨v1,vs1,e1,ds1,pl1,q1,rfl,rfl,rfl,h1,r1⟩:=trodAll_cons r0
  obtain ⟨rfl,rfl,rfl⟩:=trodAll_nil r1
  obtain rfl:args=#[v0,v1]:=by cases args;simp_all
  obtain ⟨rfl,rfl⟩:=trodVars_none hV
  have lt0:∀ x∈pl0,x.block<W.heap.size:=by obtain ⟨m,hm⟩:=h0;exact DataW.trod_lt m _ _ _ hm
  obtain ⟨d0,rfl,t0,zz0⟩:=Sh.open_val2 12 3 (Sh.int) (by kernel_rfl) (hval 0 3 v0 rfl rfl) h0
  have z0:=zz0 (Sh.weights_le hsz (j:=0) (by rw [Tryz.params6];rfl) rfl)
  have lt1:∀ x∈pl1,x.block<W.heap.size:=by obtain ⟨m,hm⟩:=h1;exact DataW.trod_lt m _ _ _ hm
  obtain ⟨d1,rfl,t1,zz1⟩:=Sh.open_val2 12 22 (Sh.slice Aci) (by kernel_rfl) (hval 1 22 v1 rfl rfl) h1
  have z1:=zz1 (Sh.weights_le hsz (j:=1) (by rw [Tryz.params6];rfl) rfl)
  obtain ⟨p1,c1,l1⟩:=d1
  clear hA0 hval0
  obtain ⟨ad,he,_⟩:=Sb (show laidMetH Tryz.prog Pa W from hL)
  show Calls Tryz.prog 6 #[.int .i64 d0,.slice p1 l1.length c1] W _
  refine (Sy ad d0 p1 c1 l1 W he t1 z1).mono fun e W' ⟨he,hc⟩=>?_
  subst he
  have bel:Below W.heap.size W W':=hc.below (Nat.le_refl _) (fun _ _ f=>f.elim)
  exact ⟨_,rfl,_,_,_,[],_,[],hW',trodAll_mk1 (shut_bool Tryz.underlying4 _),(trodAll_cons_mk (Below.trod U5 (by kernel_rfl) (of_decide_eq_true (by kernel_rfl)) h0 bel lt0) (trodAll_cons_mk (Below.trod U5 (by kernel_rfl) (of_decide_eq_true (by kernel_rfl)) h1 bel lt1) trodAll_mk0)),rfl,bel.frame _,fun h=>by cases h⟩
theorem band {a b:Bool} (h:a=true) (k:b=true):(a&&b)=true:=by rw [h,k];rfl
set_option maxHeartbeats 0 in
theorem Ae3:joinedFacts Tryz.pinned.checked.prog 6 Tryz.f6 Rows.treeActsSpec Rows.treeActsRow=true:=by
  unfold joinedFacts
  repeat' (with_reducible refine band ?_ ?_)
  all_goals (as_aux_lemma=>kernel_rfl)
theorem said:Rows.TreeActsSaid:=
  OpenClaim.holds_of_wide 6 Tryz.f6 rfl rfl rfl rfl rfl rfl rfl ⟨rfl,rfl,rfl,rfl,rfl⟩ rfl rfl rfl rfl rfl (by as_aux_lemma=>kernel_rfl) Tryz.func6 Ae3
    (of_decide_eq_true (by kernel_rfl)) (by unfold Func.isWrapper;first|(rw [if_pos (by decide +kernel)];kernel_rfl)|(rw [if_neg (by decide +kernel)];exact ⟨rfl,rfl⟩))
    (fun os started H enc _=>Ag7 os started H enc)
theorem plain (f : FuncId) (fn : Func) (hf : Tryz.pinned.checked.prog.funcNamed "pigeonholes/pigeonholeslaw1.TreeActs" = some f) (hfn : Tryz.pinned.checked.prog.funcs[f]? = some fn) :
    true=Tryz.pinned.checked.prog.looks []∧∀ (j:Nat) t,fn.params[j]?=some t→Tryz.pinned.checked.prog.wantsStandIn t=false:=by
  obtain rfl : f = 6 := Option.some.inj ((show Tryz.prog.funcNamed "pigeonholes/pigeonholeslaw1.TreeActs" = some 6 by kernel_rfl).symm.trans hf) |>.symm
  obtain rfl:fn=Tryz.f6:=(Option.some.inj (Tryz.func6.symm.trans hfn)).symm
  refine ⟨by kernel_rfl,fun j t ht=>?_⟩
  rw [Tryz.params6] at ht
  have hm:t=3∨t=22:=by simpa using Array.mem_of_getElem? ht
  rcases hm with rfl|rfl
  · exact (show Tryz.prog.wantsStandIn 3=false by kernel_rfl)
  · exact (show Tryz.prog.wantsStandIn 22=false by kernel_rfl)
set_option maxHeartbeats 0 in
theorem card:Rows.TreeActsCardSaid:=
  Claim7.holds_tied_plain_at .later [] _ _ _ _ said (fun _ h=>by cases h) (by as_aux_lemma=>kernel_rfl) (fun _ h=>by cases h) treeActs_row_tie (by as_aux_lemma=>rfl) (by as_aux_lemma=>exact ⟨rfl,rfl⟩) (by as_aux_lemma=>kernel_rfl) (by as_aux_lemma=>rfl) plain (by as_aux_lemma=>kernel_rfl)
#print axioms card
end Go.Proofs.YtpojpkhpddnmjaaGreatDoor.treeActsDone
