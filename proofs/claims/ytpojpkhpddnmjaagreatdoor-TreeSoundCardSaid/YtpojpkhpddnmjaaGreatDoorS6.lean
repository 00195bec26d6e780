/- The law is kept: whatever the input, it returns true, and what it is handed stays. No condition. -/
import Derived.Test.YtpojpkhpddnmjaaGreatDoorS5
import Derived.Test.YtpojpkhpddnmjaaGreatDoorCards
import Derived.Test.YtpojpkhpddnmjaaGreatDoorTie
import Derived.ProofKit
import Derived.OpenShut
import Derived.Lay
import Derived.SevenTiedAt
import Derived.ChangeOld
import Derived.ChangeMaps5
set_option linter.all false
set_option maxRecDepth 100000
set_option maxHeartbeats 20000000
namespace Go.Proofs.YtpojpkhpddnmjaaGreatDoor
open Go.RowKit
def hdC (x:Hdl):List Value:=[Ii x.1,Ii x.2]
theorem Lw (x:Hdl):(hdC x).length=2:=rfl
theorem Ye (b most:Nat) (vl vt:Value) (ts:List Int) (L:List RN) (c:Int) (hc:c≤900000) (hok:Dt (L.map RN.a) c) (ti:TI most ts (L.map RN.a)) (n g m f:Int) (old nm:ByteArray) (hoz:old.size≤100000) (hnz:nm.size≤100000):Ap Tryz.prog 37 #[Pp b,Hg n g,.string old,Hg m f,.string nm] [Rt b most vl vt,rRL vl L] fun u L'=>∃ (v':Value) (L2:List RN),L2.map RN.a=(tRename (L.map RN.a) (n,g) old (m,f) nm).2∧u=Ii (((tRename (L.map RN.a) (n,g) old (m,f) nm).1:Nat):Int)∧L'=[Rt b most v' vt,rRL v' L2]:=by
  obtain ⟨rk,hrk⟩:=ti.climbEnds
  by_cases h:((n,g):Hdl)=(m,f)
  · obtain ⟨rfl,rfl⟩:=Prod.mk.inj h
    exact V0 b most vl vt L c hc hok n g old nm hoz hnz rk hrk
  · exact Uy b most vl vt L c hc hok n g m f h old nm hoz hnz rk hrk
theorem Ww (hb:Nat) (hv:Value) (hs:List Hdl) (hsl:hs.length≤1000) (np:Int)  : Ap Tryz.prog 16 #[Pp hb,Ii np] [Bx true hb [hv] 37,Bf true hv 34 2 hdC hs] (fun u L=>∃ x:Hdl,u=Hg x.1 x.2∧L=[Bx true hb [hv] 37,Bf true hv 34 2 hdC hs]):=by
 refine Zo 23 Tryz.func16 fun E w0 w h=>?_
 refine Qs (ZN [Ii 0,Ii 0] 34 h fun k1 w h=>Qu (ZP (Ii np) ?_))
 obtain ⟨b2,hb2⟩:=nmB (decide (np≥0))
 refine ZB hb2 (ZP (.bool b2) (ZM1 (v:=Ii np) b2 h (fun hB=>by subst hB;exact Gp (Ii np)) (ZM1 (v:=Pp hb) b2 h (fun hB=>by subst hB;exact Gp (Pp hb)) (ZM1 (v:=Pp hb) b2 h (fun hB=>by subst hB;exact Gp (Pp hb)) (ZM1 (v:=Pp hb) b2 h (fun hB=>by subst hB;exact Gp (Pp hb)) (ZM1 (v:=hv) b2 h (fun hB=>by subst hB;exact Gl 0 (hv) 1) (ZM1 (v:=Ii (hs.length:Int)) b2 h (fun hB=>by subst hB;exact M4 (by kernel_rfl) 2 rfl) ?_)))))))
 obtain ⟨b3,hb3⟩:=nmB (decide (np<(hs.length:Int)))
 refine ZM1 (v:=.bool b3) b2 h (fun hB=>by subst hB;exact by subst hb3;exact Ax (v:=.bool (decide (np<(hs.length:Int)))) fun _=>by kernel_rfl) ?_
 obtain ⟨b4,hb4⟩:=nmB (b2&&b3)
 refine ZBc b2 hb4 (Qn (Zi (b4) (fun hc5=>?_) fun hc5=>?_))
 have q6:=hb4.symm.trans hc5
 have q7:=aL q6
 have q8:=aR q6
 have q9:=hb2.symm.trans q7
 have q9:=dcT q9
 have q10:=hb3.symm.trans q8
 have q10:=dcT q10
 refine Qs (ZP (Pp hb) (ZP (Pp hb) (ZP (Pp hb) (ZG h (Gl 0 (hv) 1) (ZP (Ii np) ?_)))))
 obtain ⟨j11,hj11⟩:∃ n:Nat,np=(n:Int):=⟨(np).toNat,by omega⟩
 have hi12:j11<hs.length:=by omega
 obtain ⟨x13,hx14⟩:∃ x,hs[j11]?=some x:=⟨_,List.getElem?_eq_getElem hi12⟩
 refine ZG h (Af0 j11 hj11 (by kernel_rfl) hi12 2 rfl) (ZG h (Gra (B1 hv+j11*2) [Ii x13.1,Ii x13.2] 2 rfl (Lk Lw hx14 (by kernel_rfl))) (ZSs [Ii x13.1,Ii x13.2] 0 rfl h fun w h=>Qr (Au ?_)))
 refine B0 [Hg x13.1 x13.2] [1,1] h (by kernel_rfl) (Di 0 [Ii x13.1,Ii x13.2] (Hg x13.1 x13.2) 0 rfl (by kernel_rfl) Dh) ?_
 exact ⟨(x13.1,x13.2),rfl,rfl⟩
 have q15:=hb4.symm.trans hc5
 have q16:(¬(np≥0)∨¬(np<(hs.length:Int))):=by subst hb3;subst hb2;revert q15;first|(simp;done)|(simp;omega)
 refine Ks (ZP (Ii np) (ZP (Hg np 1) (ZSs [Ii np,Ii 1] 0 rfl h fun w h=>Qr ?_)))
 refine B0 [Hg np 1] [1,1] h (by kernel_rfl) (Di 0 [Ii np,Ii 1] (Hg np 1) 0 rfl (by kernel_rfl) Dh) ?_
 exact ⟨(np,1),rfl,rfl⟩
theorem Aeu {B:Nat} (ad:Nat→Addr) (most b rb hb:Nat) (z:PZ) (L:List RN) (ts:List Int) (c:Int) (hp:PB most b z (L.map RN.a) ts c) (vl vt hv:Value) (hs:List Hdl) (hsl:hs.length≤1000) (hc:c+3≤900) (ak:ByteArray) (aA aB:Int) (anm atx:ByteArray) (aN:Int) (hanm:anm.size≤100000) (hatx:atx.size≤100000) (haN:-9223372036854775808≤aN∧aN≤9223372036854775807)  : Ap Tryz.prog 11 #[Pp b,Pp rb,Pp hb,.agg #[.string ak,Ii aA,Ii aB,.string anm,.string atx,Ii aN]] [rPT most z,A5 B ad,Rt rb most vl vt,Bf true vt 3 1 inC ts,rRL vl L,Bx true hb [hv] 37,Bf true hv 34 2 hdC hs] (fun u L'=>∃ (z':PZ) (L2:List RN) (ts':List Int) (vl' hv':Value) (hs':List Hdl) (e:Nat),PB most b z' (L2.map RN.a) ts' (c+3)∧hs'.length≤hs.length+1∧e≤15∧(¬ak=(⟨#[112,105,110]⟩:ByteArray)→Ck (L.map RN.a)→Ck (L2.map RN.a))∧u=.tuple #[Ag ad e,Ii e]∧L'=[rPT most z',A5 B ad,Rt rb most vl' vt,Bf true vt 3 1 inC ts',rRL vl' L2,Bx true hb [hv'] 37,Bf true hv' 34 2 hdC hs']):=by
 have hok:=hp.s.ti.rtok hp.s.m3 hp.s.cnt
 have htx0:=hp.s.ti.base.txt
 have hcc0:=hp.s.c0
 have htmr:∀ x∈ts,0≤x∧x≤1000000:=fun x hx=>by have:=hp.s.tmr x hx;omega
 refine Zo 152 Tryz.func11 fun E w0 w h=>?_
 refine Qs (ZN [.string ak,Ii aA,Ii aB,.string anm,.string atx,Ii aN] 39 h fun k1 w h=>ZP .nilIface (ZP (Ii 0) (Qm (ZP (Pp hb) (ZP (Pt k1 1) (ZG h (Gl 1 (Ii aA) 0) ?_))))))
 refine ZD [6,6] (Ww hb hv hs hsl aA) h ?_;rintro v_ L_ w ⟨xh2,rfl,rfl⟩ h
 refine ZN [Ii 0,Ii 0] 34 h fun k3 w h=>ZSs [Ii xh2.1,Ii xh2.2] 0 rfl h fun w h=>Qm (ZP (Pp hb) (ZP (Pt k1 2) (ZG h (Gl 2 (Ii aB) 3) ?_)))
 refine ZD [1,1] (Ww hb hv hs hsl aB) h ?_;rintro v_ L_ w ⟨xh4,rfl,rfl⟩ h
 refine ZN [Ii 0,Ii 0] 34 h fun k5 w h=>ZSs [Ii xh4.1,Ii xh4.2] 0 rfl h fun w h=>Qu (ZP (Pp k1) (ZG h (Gl 0 (.string ak) 4) (Qn (Ar (Qs (ZG h (A1 (v:=.bool (ak.toList==(⟨#[99,114,101,97,116,101]⟩:ByteArray).toList)) (v':=.bool (decide (ak=(⟨#[99,114,101,97,116,101]⟩:ByteArray)))) (Ax fun _=>by kernel_rfl) Pk) (ZP (.bool (decide (ak=(⟨#[99,114,101,97,116,101]⟩:ByteArray)))) (Qn (Zd (ak=(⟨#[99,114,101,97,116,101]⟩:ByteArray)) (fun hc6=>?_) fun hc6=>?_)))))))))
 refine Qs (ZP (Pp b) (ZG h (Gla 0 [Ii xh2.1,Ii xh2.2] 3) (ZP (Pt k1 3) (ZG h (Gl 3 (.string anm) 4) (ZP (Pt k1 5) (ZG h (Gl 5 (Ii aN) 4) ?_))))))
 refine ZD [5,5] (Ub ad hp xh2.1 xh2.2 anm hanm aN (by omega)) h ?_;rintro v_ L_ w (⟨ec7,hTc8,rfl,rfl⟩|⟨z9,kc10,hTc8,hz11,rfl,rfl⟩) h
 refine ZP (.tuple #[Hg 0 0,Ag ad (ec7+1)]) (ZP (Hg 0 0) (ZP (Ag ad (ec7+1)) (ZN [Ii 0,Ii 0] 34 h fun k12 w h=>ZSs [Ii 0,Ii 0] 0 rfl h fun w h=>ZP (Ag ad (ec7+1)) (Qm (ZP (Pp rb) (ZG h (Gla 0 [Ii xh2.1,Ii xh2.2] 6) (ZP (Pt k1 3) (ZG h (Gl 3 (.string anm) 7) (ZP (Pt k1 5) (ZG h (Gl 5 (Ii aN) 7) ?_))))))))))
 refine ZD [8,8,8] (Mi rb most vl vt ts L c (by omega) hok hp.s.hlen htmr hp.s.m3 xh2.1 xh2.2 anm aN hanm) h ?_;rintro v_ L_ w (⟨ed13,hTd14,rfl,rfl⟩|⟨kd15,v16,Lq17,hTd14,hLq18,rfl,rfl⟩) h
 have hcc_:ec7+1=ed13:=(Prod.mk.inj (hTc8.symm.trans hTd14)).2
 subst hcc_
 refine ZP (.tuple #[Hg 0 0,Ii ((ec7+1:Nat):Int)]) (ZP (Hg 0 0) (ZP (Ii ((ec7+1:Nat):Int)) (ZN [Ii 0,Ii 0] 34 h fun k19 w h=>ZSs [Ii 0,Ii 0] 0 rfl h fun w h=>ZP (Ii ((ec7+1:Nat):Int)) (Qu (ZG h (Gla 0 [Ii 0,Ii 0] 4) (ZG h (Gla 0 [Ii 0,Ii 0] 0) (ZG h (A1 (v:=.bool (!((decide ((0:Int)=0))&&(decide ((0:Int)=0))))) (v':=.bool false) (Ew (n1:=0) (g1:=0) (n2:=0) (g2:=0) (by kernel_rfl)) (by rfl)) (Ft (ZP (Ii ((ec7+1:Nat):Int)) (ZP (.bool (decide (((ec7+1:Nat):Int)=0))) (Qn (Zd (((ec7+1:Nat):Int)=0) (fun hc20=>?_) fun hc20=>?_))))))))))))
 exfalso;omega
 exact Ks (ZP (Ag ad (ec7+1)) (ZP (Ii ((ec7+1:Nat):Int)) (ZP (Ag ad (ec7+1)) (ZP (Ii ((ec7+1:Nat):Int)) (Qr (Cj (Au (ZR [Ag ad (ec7+1),Ii ((ec7+1:Nat):Int)] [5,5,1,1,1,3,3] h ⟨z,L,ts,vl,hv,hs,ec7+1,hp.more (by omega) (by omega),by simp,by have:=Y5 (most:=most) (A:=L.map RN.a) (h:=(xh2.1,xh2.2)) (nm:=anm) (kind:=aN);rw [hTc8] at this;exact this,(fun _ q=>q),rfl,rfl⟩))))))))
 rw [hTc8] at hTd14;cases hTd14
 refine ZP (.tuple #[Hg kc10 (Av ts kc10),.nilIface]) (ZP (Hg kc10 (Av ts kc10)) (ZP .nilIface (ZN [Ii 0,Ii 0] 34 h fun k21 w h=>ZSs [Ii kc10,Ii (Av ts kc10)] 0 rfl h fun w h=>ZP .nilIface (Qm (ZP (Pp rb) (ZG h (Gla 0 [Ii xh2.1,Ii xh2.2] 6) (ZP (Pt k1 3) (ZG h (Gl 3 (.string anm) 7) (ZP (Pt k1 5) (ZG h (Gl 5 (Ii aN) 7) ?_))))))))))
 refine ZD [8,8,8] (Mi rb most vl vt ts L c (by omega) hok hp.s.hlen htmr hp.s.m3 xh2.1 xh2.2 anm aN hanm) h ?_;rintro v_ L_ w (⟨ed22,hTd23,rfl,rfl⟩|⟨kd24,v25,Lq26,hTd23,hLq27,rfl,rfl⟩) h
 rw [hTc8] at hTd23;cases hTd23
 have hcc_:kc10=kd24:=Option.some.inj (Prod.mk.inj (hTc8.symm.trans hTd23)).1
 subst hcc_
 refine ZP (.tuple #[Hg kc10 (Av ts kc10),Ii 0]) (ZP (Hg kc10 (Av ts kc10)) (ZP (Ii 0) (ZN [Ii 0,Ii 0] 34 h fun k28 w h=>ZSs [Ii kc10,Ii (Av ts kc10)] 0 rfl h fun w h=>ZP (Ii 0) (Qu (ZG h (Gla 0 [Ii kc10,Ii (Av ts kc10)] 4) (ZG h (Gla 0 [Ii kc10,Ii (Av ts kc10)] 0) (ZG h (Ew (n1:=(kc10:Int)) (g1:=Av ts kc10) (n2:=(kc10:Int)) (g2:=Av ts kc10) (by kernel_rfl)) (Qn (Zi (!((decide ((kc10:Int)=(kc10:Int)))&&(decide (Av ts kc10=Av ts kc10)))) (fun hc29=>?_) fun hc29=>?_)))))))))
 have q30:=nT hc29
 have q31:=ndA q30
 exfalso;revert hc29;simp
 have q32:=nF hc29
 have q33:=aL q32
 have q34:=aR q32
 have q33:=dcT q33
 have q34:=dcT q34
 refine Kw (ZP (Ii 0) (ZP (.bool true) (Qg (Aa (Ds 8 [0,7] h fun w h=>Dp 0 48 (Pp hb) [0,7] h (Dp 1 49 (Pp hb) [0,7] h (Dp 2 51 (Pp hb) [0,7] h (Dq 3 55 [0,7] rfl h (Gl 0 (hv) 1) (Dq 4 15 [0,7] rfl h (Gla 0 [Ii kc10,Ii (Av ts kc10)] 0) ?_)))))))))
 refine Ay [5] (by kernel_rfl) rfl ?_
 refine B8 [1,8] rfl (by kernel_rfl) (fun b=>.slice (some ⟨b,0,none⟩) 1 1) [Ii kc10,Ii (Av ts kc10)] 34 (fun _=>by kernel_rfl) h ?_ ?_
 intro k35 w h;refine ⟨by kernel_rfl,?_⟩
 refine Ay [6] (by kernel_rfl) rfl ?_
 refine Acz (b:=k35) (o:=0) [1,8] rfl (by kernel_rfl) 1 ((kc10:Int),Av ts kc10) (by kernel_rfl) h 10 rfl 0 rfl (Fq 0 (by kernel_rfl)) (by (try simp only [List.length_append,List.length_cons,List.length_nil,List.length_map]);omega) ?_ ?_
 intro v36 w h;refine ⟨by kernel_rfl,?_⟩
 refine Dp 7 127 v36 [1,8] h (Dd (Af (Ah (ZP (Pp hb) (ZP v36 (ZP (Pp hb) (ZP (Pp hb) ?_)))))))
 refine I4 rfl (h.slv 10 rfl) 0 [v36] h 9 rfl (by kernel_rfl) ?_;intro w h
 exact Qm (ZP .nilIface (ZP (Ii 0) (ZP .nilIface (ZP (Ii 0) (Qr (Cj (Au (ZR [.nilIface,Ii 0] [6,6,2,2,2,4,4] h ⟨z9,Lq26,ts.set kc10 (Av ts kc10+1),v25,v36,(hs++[((kc10:Int),Av ts kc10)]),0,by rw [hLq27];exact hz11,(by simp),by omega,(fun _ q=>by rw [hLq27];exact q.create _ _ _ _ _),rfl,rfl⟩))))))))
 exact Bb
 exact Bb
 refine Qs (ZG h (A1 (v:=.bool (ak.toList==(⟨#[108,105,110,107]⟩:ByteArray).toList)) (v':=.bool (decide (ak=(⟨#[108,105,110,107]⟩:ByteArray)))) (Ax fun _=>by kernel_rfl) Pk) (ZP (.bool (decide (ak=(⟨#[108,105,110,107]⟩:ByteArray)))) (Qn (Zd (ak=(⟨#[108,105,110,107]⟩:ByteArray)) (fun hc37=>?_) fun hc37=>?_))))
 refine Aa (Ds 14 [0,2,2] h fun w h=>Dp 0 2014 (Pp b) [0,2,2] h (Dq 1 2013 [0,2,2] rfl h (Gla 0 [Ii xh2.1,Ii xh2.2] 1) (Dq 2 2011 [0,2,2] rfl h (Gla 0 [Ii xh4.1,Ii xh4.2] 0) (Dp 3 1991 (Pt k1 3) [0,2,2] h (Dq 4 1999 [0,2,2] rfl h (Gl 3 (.string anm) 2) (Dp 6 1983 (Pp rb) [0,2,2] h (Dq 7 1919 [0,2,2] rfl h (Gla 0 [Ii xh2.1,Ii xh2.2] 1) (Dq 8 1791 [0,2,2] rfl h (Gla 0 [Ii xh4.1,Ii xh4.2] 0) (Dp 9 511 (Pt k1 3) [0,2,2] h (Dq 10 1023 [0,2,2] rfl h (Gl 3 (.string anm) 2) ?_))))))))))
 refine Ad 5 [5,5] [2,4,4] (Afl ad hp xh2.1 xh2.2 xh4.1 xh4.2 anm hanm (by omega)) h ?_
 rintro v_ L_ w ⟨z38,hz39,rfl,rfl⟩ h
 refine ⟨by kernel_rfl,?_⟩
 refine Ad 11 [7,8] [4,6,6] (Va rb (most:Int) vl vt L c (by omega) hok xh2.1 xh2.2 xh4.1 xh4.2 anm hanm) h ?_
 rintro v_ L_ w ⟨Lq41,hLq42,rfl,rfl⟩ h
 refine ⟨by kernel_rfl,?_⟩
 exact Dp 12 4095 (Ag ad (C0 (L.map RN.a) (xh2.1,xh2.2) (xh4.1,xh4.2) anm)) [4,6,6] h (Dp 13 8191 (Ii ((C0 (L.map RN.a) (xh2.1,xh2.2) (xh4.1,xh4.2) anm:Nat):Int)) [4,6,6] h (Dd (Af (Hs (Cj (Au (ZR [Ag ad (C0 (L.map RN.a) (xh2.1,xh2.2) (xh4.1,xh4.2) anm),Ii ((C0 (L.map RN.a) (xh2.1,xh2.2) (xh4.1,xh4.2) anm:Nat):Int)] [2,2,0,6,0,1,1] h ⟨z38,Lq41,ts,vl,hv,hs,(C0 (L.map RN.a) (xh2.1,xh2.2) (xh4.1,xh4.2) anm),by rw [hLq42];exact hz39,(by simp),Adj _ _ _ _,(fun _ q=>by rw [hLq42];split;exact q.link _ _ _;exact q),rfl,rfl⟩)))))))
 refine Qs (ZG h (A1 (v:=.bool (ak.toList==(⟨#[114,101,109,111,118,101]⟩:ByteArray).toList)) (v':=.bool (decide (ak=(⟨#[114,101,109,111,118,101]⟩:ByteArray)))) (Ax fun _=>by kernel_rfl) Pk) (ZP (.bool (decide (ak=(⟨#[114,101,109,111,118,101]⟩:ByteArray)))) (Qn (Zd (ak=(⟨#[114,101,109,111,118,101]⟩:ByteArray)) (fun hc43=>?_) fun hc43=>?_))))
 refine Aa (Ds 12 [3,3] h fun w h=>Dp 0 494 (Pp b) [3,3] h (Dq 1 493 [3,3] rfl h (Gla 0 [Ii xh2.1,Ii xh2.2] 0) (Dp 2 483 (Pt k1 3) [3,3] h (Dq 3 487 [3,3] rfl h (Gl 3 (.string anm) 1) (Dp 5 479 (Pp rb) [3,3] h (Dq 6 447 [3,3] rfl h (Gla 0 [Ii xh2.1,Ii xh2.2] 0) (Dp 7 127 (Pt k1 3) [3,3] h (Dq 8 255 [3,3] rfl h (Gl 3 (.string anm) 1) ?_))))))))
 refine Ad 4 [5,5] [5,5] (Aa5 ad hp xh2.1 xh2.2 anm hanm (by omega)) h ?_
 rintro v_ L_ w ⟨z44,hz45,rfl,rfl⟩ h
 refine ⟨by kernel_rfl,?_⟩
 refine Ad 9 [7,8] [7,7] (R0 rb (most:Int) vl vt L c (by omega) hok xh2.1 xh2.2 anm hanm) h ?_
 rintro v_ L_ w ⟨v46,Lq47,hLq48,rfl,rfl⟩ h
 refine ⟨by kernel_rfl,?_⟩
 exact Dp 10 1023 (Ag ad (Cf (L.map RN.a) (xh2.1,xh2.2) anm)) [7,7] h (Dp 11 2047 (Ii ((Cf (L.map RN.a) (xh2.1,xh2.2) anm:Nat):Int)) [7,7] h (Dd (Af (Hs (Cj (Au (ZR [Ag ad (Cf (L.map RN.a) (xh2.1,xh2.2) anm),Ii ((Cf (L.map RN.a) (xh2.1,xh2.2) anm:Nat):Int)] [2,2,0,6,0,1,1] h ⟨z44,Lq47,ts,v46,hv,hs,(Cf (L.map RN.a) (xh2.1,xh2.2) anm),by rw [hLq48];exact hz45,(by simp),Yj _ _ _,(fun _ q=>by rw [hLq48];split;exact q.remove _ _;exact q),rfl,rfl⟩)))))))
 refine Qs (ZG h (A1 (v:=.bool (ak.toList==(⟨#[114,101,110,97,109,101]⟩:ByteArray).toList)) (v':=.bool (decide (ak=(⟨#[114,101,110,97,109,101]⟩:ByteArray)))) (Ax fun _=>by kernel_rfl) Pk) (ZP (.bool (decide (ak=(⟨#[114,101,110,97,109,101]⟩:ByteArray)))) (Qn (Zd (ak=(⟨#[114,101,110,97,109,101]⟩:ByteArray)) (fun hc49=>?_) fun hc49=>?_))))
 refine Aa (Ds 18 [0,2,2] h fun w h=>Dp 0 32638 (Pp b) [0,2,2] h (Dq 1 32637 [0,2,2] rfl h (Gla 0 [Ii xh2.1,Ii xh2.2] 1) (Dp 2 32627 (Pt k1 3) [0,2,2] h (Dq 3 32631 [0,2,2] rfl h (Gl 3 (.string anm) 2) (Dq 4 32623 [0,2,2] rfl h (Gla 0 [Ii xh4.1,Ii xh4.2] 0) (Dp 5 32543 (Pt k1 4) [0,2,2] h (Dq 6 32575 [0,2,2] rfl h (Gl 4 (.string atx) 2) (Dp 8 32511 (Pp rb) [0,2,2] h (Dq 9 32255 [0,2,2] rfl h (Gla 0 [Ii xh2.1,Ii xh2.2] 1) (Dp 10 29695 (Pt k1 3) [0,2,2] h (Dq 11 30719 [0,2,2] rfl h (Gl 3 (.string anm) 2) (Dq 12 28671 [0,2,2] rfl h (Gla 0 [Ii xh4.1,Ii xh4.2] 0) (Dp 13 8191 (Pt k1 4) [0,2,2] h (Dq 14 16383 [0,2,2] rfl h (Gl 4 (.string atx) 2) ?_))))))))))))))
 refine Ad 7 [5,5] [2,4,4] (Abq ad hp xh2.1 xh2.2 xh4.1 xh4.2 anm atx hanm hatx (by omega)) h ?_
 rintro v_ L_ w ⟨z50,hz51,rfl,rfl⟩ h
 refine ⟨by kernel_rfl,?_⟩
 refine Ad 15 [7,8] [4,6,6] (Ye rb most vl vt ts L c (by omega) hok hp.s.ti xh2.1 xh2.2 xh4.1 xh4.2 anm atx hanm hatx) h ?_
 rintro v_ L_ w ⟨v52,Lq53,hLq54,rfl,rfl⟩ h
 refine ⟨by kernel_rfl,?_⟩
 exact Dp 16 65535 (Ag ad ((tRename (L.map RN.a) (xh2.1,xh2.2) anm (xh4.1,xh4.2) atx).1)) [4,6,6] h (Dp 17 131071 (Ii (((tRename (L.map RN.a) (xh2.1,xh2.2) anm (xh4.1,xh4.2) atx).1:Nat):Int)) [4,6,6] h (Dd (Af (Hs (Cj (Au (ZR [Ag ad ((tRename (L.map RN.a) (xh2.1,xh2.2) anm (xh4.1,xh4.2) atx).1),Ii (((tRename (L.map RN.a) (xh2.1,xh2.2) anm (xh4.1,xh4.2) atx).1:Nat):Int)] [2,2,0,6,0,1,1] h ⟨z50,Lq53,ts,v52,hv,hs,((tRename (L.map RN.a) (xh2.1,xh2.2) anm (xh4.1,xh4.2) atx).1),by rw [hLq54];exact hz51,(by simp),Ze _ _ _ _ _,(fun _ q=>by rw [hLq54];exact q.rename _ _ _ _),rfl,rfl⟩)))))))
 refine Qs (ZG h (A1 (v:=.bool (ak.toList==(⟨#[119,114,105,116,101]⟩:ByteArray).toList)) (v':=.bool (decide (ak=(⟨#[119,114,105,116,101]⟩:ByteArray)))) (Ax fun _=>by kernel_rfl) Pk) (ZP (.bool (decide (ak=(⟨#[119,114,105,116,101]⟩:ByteArray)))) (Qn (Zd (ak=(⟨#[119,114,105,116,101]⟩:ByteArray)) (fun hc55=>?_) fun hc55=>?_))))
 refine Aa (Ds 16 [3,3] h fun w h=>Dp 0 8126 (Pp b) [3,3] h (Dq 1 8125 [3,3] rfl h (Gla 0 [Ii xh2.1,Ii xh2.2] 0) (Dp 2 8115 (Pt k1 5) [3,3] h (Dq 3 8119 [3,3] rfl h (Gl 5 (Ii aN) 1) (Dp 4 8079 (Pt k1 4) [3,3] h (Dq 5 8095 [3,3] rfl h (Gl 4 (.string atx) 1) (Dp 7 8063 (Pp rb) [3,3] h (Dq 8 7935 [3,3] rfl h (Gla 0 [Ii xh2.1,Ii xh2.2] 0) (Dp 9 6655 (Pt k1 5) [3,3] h (Dq 10 7167 [3,3] rfl h (Gl 5 (Ii aN) 1) (Dp 11 2047 (Pt k1 4) [3,3] h (Dq 12 4095 [3,3] rfl h (Gl 4 (.string atx) 1) ?_))))))))))))
 refine Ad 6 [5,5] [5,5] (Ad8 ad hp xh2.1 xh2.2 aN atx  (by omega)) h ?_
 rintro v_ L_ w ⟨z56,hz57,rfl,rfl⟩ h
 refine ⟨by kernel_rfl,?_⟩
 refine Ad 13 [7,8] [7,7] (Ts rb (most:Int) vl vt L c (by omega) hok htx0 xh2.1 xh2.2 aN atx hatx haN) h ?_
 rintro v_ L_ w ⟨Lq59,hLq60,rfl,rfl⟩ h
 refine ⟨by kernel_rfl,?_⟩
 exact Dp 14 16383 (Ag ad (Ep (L.map RN.a) (xh2.1,xh2.2) aN atx)) [7,7] h (Dp 15 32767 (Ii ((Ep (L.map RN.a) (xh2.1,xh2.2) aN atx:Nat):Int)) [7,7] h (Dd (Af (Hs (Cj (Au (ZR [Ag ad (Ep (L.map RN.a) (xh2.1,xh2.2) aN atx),Ii ((Ep (L.map RN.a) (xh2.1,xh2.2) aN atx:Nat):Int)] [2,2,0,6,0,1,1] h ⟨z56,Lq59,ts,vl,hv,hs,(Ep (L.map RN.a) (xh2.1,xh2.2) aN atx),by rw [hLq60];exact hz57,(by simp),Abj _ _ _ _,(fun _ q=>by rw [hLq60];exact q.wr _ _ _),rfl,rfl⟩)))))))
 refine Qs (ZG h (A1 (v:=.bool (ak.toList==(⟨#[114,101,115,105,122,101]⟩:ByteArray).toList)) (v':=.bool (decide (ak=(⟨#[114,101,115,105,122,101]⟩:ByteArray)))) (Ax fun _=>by kernel_rfl) Pk) (ZP (.bool (decide (ak=(⟨#[114,101,115,105,122,101]⟩:ByteArray)))) (Qn (Zd (ak=(⟨#[114,101,115,105,122,101]⟩:ByteArray)) (fun hc61=>?_) fun hc61=>?_))))
 refine Aa (Ds 12 [3,3] h fun w h=>Dp 0 494 (Pp b) [3,3] h (Dq 1 493 [3,3] rfl h (Gla 0 [Ii xh2.1,Ii xh2.2] 0) (Dp 2 483 (Pt k1 5) [3,3] h (Dq 3 487 [3,3] rfl h (Gl 5 (Ii aN) 1) (Dp 5 479 (Pp rb) [3,3] h (Dq 6 447 [3,3] rfl h (Gla 0 [Ii xh2.1,Ii xh2.2] 0) (Dp 7 127 (Pt k1 5) [3,3] h (Dq 8 255 [3,3] rfl h (Gl 5 (Ii aN) 1) ?_))))))))
 refine Ad 4 [5,5] [5,5] (Zv ad hp xh2.1 xh2.2 aN  (by omega)) h ?_
 rintro v_ L_ w ⟨z62,hz63,rfl,rfl⟩ h
 refine ⟨by kernel_rfl,?_⟩
 refine Ad 9 [7,8] [7,7] (Rg rb (most:Int) vl vt L c (by omega) hok htx0 xh2.1 xh2.2 aN haN) h ?_
 rintro v_ L_ w ⟨Lq65,hLq66,rfl,rfl⟩ h
 refine ⟨by kernel_rfl,?_⟩
 exact Dp 10 1023 (Ag ad (D1 (L.map RN.a) (xh2.1,xh2.2) aN)) [7,7] h (Dp 11 2047 (Ii ((D1 (L.map RN.a) (xh2.1,xh2.2) aN:Nat):Int)) [7,7] h (Dd (Af (Hs (Cj (Au (ZR [Ag ad (D1 (L.map RN.a) (xh2.1,xh2.2) aN),Ii ((D1 (L.map RN.a) (xh2.1,xh2.2) aN:Nat):Int)] [2,2,0,6,0,1,1] h ⟨z62,Lq65,ts,vl,hv,hs,(D1 (L.map RN.a) (xh2.1,xh2.2) aN),by rw [hLq66];exact hz63,(by simp),Ys _ _ _,(fun _ q=>by rw [hLq66];exact q.rz _ _),rfl,rfl⟩)))))))
 refine Qs (ZG h (A1 (v:=.bool (ak.toList==(⟨#[112,105,110]⟩:ByteArray).toList)) (v':=.bool (decide (ak=(⟨#[112,105,110]⟩:ByteArray)))) (Ax fun _=>by kernel_rfl) Pk) (ZP (.bool (decide (ak=(⟨#[112,105,110]⟩:ByteArray)))) (Qn (Zd (ak=(⟨#[112,105,110]⟩:ByteArray)) (fun hc67=>?_) fun hc67=>?_))))
 refine Aa (Ds 8 [3] h fun w h=>Dp 0 26 (Pp b) [3] h (Dq 1 25 [3] rfl h (Gla 0 [Ii xh2.1,Ii xh2.2] 0) (Dp 3 23 (Pp rb) [3] h (Dq 4 15 [3] rfl h (Gla 0 [Ii xh2.1,Ii xh2.2] 0) ?_))))
 refine Ad 2 [5,5] [5] (pin_b ad hp xh2.1 xh2.2  (by omega)) h ?_
 rintro v_ L_ w ⟨z68,hz69,rfl,rfl⟩ h
 refine ⟨by kernel_rfl,?_⟩
 refine Ad 5 [7,8] [7] (Ym rb (most:Int) vl vt L c (by omega) hok xh2.1 xh2.2) h ?_
 rintro v_ L_ w ⟨Lq71,hLq72,rfl,rfl⟩ h
 refine ⟨by kernel_rfl,?_⟩
 exact Dp 6 63 (Ag ad (Ei (L.map RN.a) (xh2.1,xh2.2))) [7] h (Dp 7 127 (Ii ((Ei (L.map RN.a) (xh2.1,xh2.2):Nat):Int)) [7] h (Dd (Af (Hs (Cj (Au (ZR [Ag ad (Ei (L.map RN.a) (xh2.1,xh2.2)),Ii ((Ei (L.map RN.a) (xh2.1,xh2.2):Nat):Int)] [2,2,0,6,0,1,1] h ⟨z68,Lq71,ts,vl,hv,hs,(Ei (L.map RN.a) (xh2.1,xh2.2)),by rw [hLq72];exact hz69,(by simp),Adt _ _,(fun hk=>absurd hc67 hk),rfl,rfl⟩)))))))
 refine Qs (ZG h (A1 (v:=.bool (ak.toList==(⟨#[117,110,112,105,110]⟩:ByteArray).toList)) (v':=.bool (decide (ak=(⟨#[117,110,112,105,110]⟩:ByteArray)))) (Ax fun _=>by kernel_rfl) Pk) (ZP (.bool (decide (ak=(⟨#[117,110,112,105,110]⟩:ByteArray)))) (Qn (Zd (ak=(⟨#[117,110,112,105,110]⟩:ByteArray)) (fun hc73=>?_) fun hc73=>?_))))
 refine Aa (Ds 8 [3] h fun w h=>Dp 0 26 (Pp b) [3] h (Dq 1 25 [3] rfl h (Gla 0 [Ii xh2.1,Ii xh2.2] 0) (Dp 3 23 (Pp rb) [3] h (Dq 4 15 [3] rfl h (Gla 0 [Ii xh2.1,Ii xh2.2] 0) ?_))))
 refine Ad 2 [5,5] [5] (Aev ad hp xh2.1 xh2.2  (by omega)) h ?_
 rintro v_ L_ w ⟨z74,hz75,rfl,rfl⟩ h
 refine ⟨by kernel_rfl,?_⟩
 refine Ad 5 [7,8] [7] (Si rb (most:Int) vl vt L c (by omega) hok xh2.1 xh2.2) h ?_
 rintro v_ L_ w ⟨v76,Lq77,hLq78,rfl,rfl⟩ h
 refine ⟨by kernel_rfl,?_⟩
 exact Dp 6 63 (Ag ad (Ch (L.map RN.a) (xh2.1,xh2.2))) [7] h (Dp 7 127 (Ii ((Ch (L.map RN.a) (xh2.1,xh2.2):Nat):Int)) [7] h (Dd (Af (Hs (Cj (Au (ZR [Ag ad (Ch (L.map RN.a) (xh2.1,xh2.2)),Ii ((Ch (L.map RN.a) (xh2.1,xh2.2):Nat):Int)] [2,2,0,6,0,1,1] h ⟨z74,Lq77,ts,v76,hv,hs,(Ch (L.map RN.a) (xh2.1,xh2.2)),by rw [hLq78];exact hz75,(by simp),Z6 _ _,(fun _ q=>by rw [hLq78];exact q.unpin _),rfl,rfl⟩)))))))
 refine Bz ?_
 refine B9 (Af ?_)
 exact Qs (ZP .nilIface (ZP (Ii 0) (Qr (ZR [.nilIface,Ii 0] [5,5,5,5,5,1,1] h ⟨z,L,ts,vl,hv,hs,0,hp.more (by omega) (by omega),by simp,by omega,(fun _ q=>q),rfl,rfl⟩))))
def Abg:Sh:=.and .str (.and .int (.and .int (.and .str (.and .str (.and .int .unit)))))
abbrev Uu:=ByteArray×Int×Int×ByteArray×ByteArray×Int×Unit
def Nk (x:Uu):List Value:=[.string x.1,Ii x.2.1,Ii x.2.2.1,.string x.2.2.2.1,.string x.2.2.2.2.1,Ii x.2.2.2.2.2.1]
structure Wp (x:Uu):Prop where
  nm:x.2.2.2.1.size≤140737488355327
  tx:x.2.2.2.2.1.size≤140737488355327
  n:-9223372036854775808≤x.2.2.2.2.2.1∧x.2.2.2.2.2.1≤9223372036854775807
def Ae5 (x:Uu):Prop:=x.2.2.2.1.size≤3000∧x.2.2.2.2.1.size≤3000
theorem Aes {α:Type} {l:List α} {k:Nat} {x:α} (h:l[k]?=some x):k<l.length:=(List.getElem?_eq_some_iff.1 h).1
theorem Yw (v:Value) (acts:List Uu) (hacts:∀ x∈acts,Wp x)  : Ap Tryz.prog 8 #[v] [Ke v 6 Nk acts] (fun u L=>∃ bm:Bool,(bm=false→acts.length≤30∧∀ x∈acts,Ae5 x)∧u=.bool bm∧L=[Ke v 6 Nk acts]):=by
 refine Zo 30 Tryz.func8 fun E w0 w h=>?_
 refine Qs (ZP (.bool false) (Qu (ZP v (ZG h (U2 39 (by kernel_rfl) 0 rfl) (ZP (.bool (decide ((acts.length:Int)>30))) (Qn (Zd ((acts.length:Int)>30) (fun hc1=>?_) fun hc1=>?_)))))))
 exact Qs (ZP (.bool true) (Qr (Au (ZR [.bool true] [0] h ⟨true,fun h=>(by cases h),rfl,rfl⟩))))
 refine Ks (ZP (Ii 0) (Qu (ZP (Ii 0) (Qn (Ar ?_)))))
 refine ZL (X:=Nat×Int×(Nat→Value)) [(8,28)] (fun ⟨k0,s0,J0⟩=>[(3,Ii s0),(4,Ii k0)]) (fun ⟨k0,s0,J0⟩=>J0) (fun ⟨k0,s0,J0⟩=>[Ke v 6 Nk acts]) (fun ⟨k0,s0,J0⟩=>k0≤acts.length∧0≤s0∧s0≤(k0:Int)*281474976710656∧∀ i x,i<k0→acts[i]?=some x→(x.2.2.2.1.size:Int)+x.2.2.2.2.1.size≤s0) (fun ⟨k0,s0,J0⟩=>acts.length - k0) (fun j=>⟨0,0,j⟩) ⟨by omega,by omega,by omega,fun i x h=>absurd h (by omega)⟩ [0] h ?_
 rintro ⟨k0,s0,J0⟩ w hG h
 obtain ⟨hk0,hs0,hs1,hno⟩:k0≤acts.length∧0≤s0∧s0≤(k0:Int)*281474976710656∧∀ i x,i<k0→acts[i]?=some x→(x.2.2.2.1.size:Int)+x.2.2.2.2.1.size≤s0:=hG
 refine Qt (ZP (Ii k0) (ZP v (ZG h (U2 39 (by kernel_rfl) 0 rfl) (ZP (.bool (decide ((k0:Int)<(acts.length:Int)))) (Qn (Zd ((k0:Int)<(acts.length:Int)) (fun hc2=>?_) fun hc2=>?_))))))
 refine Kn (Aa (Ar (Ds 16 [0] h fun w h=>Dp 0 16254 (Ii s0) [0] h (Dp 1 16133 v [0] h (Dp 2 16131 (Ii k0) [0] h ?_)))))
 have hi3:k0<acts.length:=by omega
 obtain ⟨x4,hx5⟩:∃ x,acts[k0]?=some x:=⟨_,List.getElem?_eq_getElem hi3⟩
 obtain ⟨ho1,ho2,ho3⟩:=hacts x4 (List.mem_of_getElem? hx5)
 refine Dq (v:=Pt (Df v) (B1 v+k0*6)) 3 16135 [0] rfl h (Ry 39 k0 (by kernel_rfl) hi3 0 rfl) (Dp 4 16143 (Pt (Df v) (B1 v+k0*6+3)) [0] h (Dq 5 16159 [0] rfl h (Gr (B1 v+k0*6+3) (.string x4.2.2.2.1) 0 rfl (Ab9 hx5 3 (by kernel_rfl))) (Dp 6 16191 (Ii (x4.2.2.2.1.size:Int)) [0] h (Dq 7 16255 [0] rfl h (Gw (s0+(x4.2.2.2.1.size:Int))) (Dp 8 767 v [0] h (Dp 9 511 (Ii k0) [0] h (Dq (v:=Pt (Df v) (B1 v+k0*6)) 10 1023 [0] rfl h (Ry 39 k0 (by kernel_rfl) hi3 0 rfl) (Dp 11 2047 (Pt (Df v) (B1 v+k0*6+4)) [0] h (Dq 12 4095 [0] rfl h (Gr (B1 v+k0*6+4) (.string x4.2.2.2.2.1) 0 rfl (Ab9 hx5 4 (by kernel_rfl))) (Dp 13 8191 (Ii (x4.2.2.2.2.1.size:Int)) [0] h (Dq 14 16383 [0] rfl h (Gw ((s0+(x4.2.2.2.1.size:Int))+(x4.2.2.2.2.1.size:Int))) (Dp 15 32767 (Ii ((s0+(x4.2.2.2.1.size:Int))+(x4.2.2.2.2.1.size:Int))) [0] h (Dd ?_)))))))))))))
 refine B9 (Af ?_)
 refine Ah (ZP (Ii k0) (ZG h (A1 (v:=Ii (IntKind.i64.wrap ((k0:Int)+1))) (v':=Ii ((k0+1:Nat):Int)) (Ax fun _=>by kernel_rfl) (wr (by omega))) (ZP (Ii ((k0+1:Nat):Int)) (Ct ?_))))
 have hQ6:((k0+1)≤acts.length∧0≤((s0+(x4.2.2.2.1.size:Int))+(x4.2.2.2.2.1.size:Int))∧((s0+(x4.2.2.2.1.size:Int))+(x4.2.2.2.2.1.size:Int))≤((k0+1):Int)*281474976710656∧∀ i x,i<(k0+1)→acts[i]?=some x→(x.2.2.2.1.size:Int)+x.2.2.2.2.1.size≤((s0+(x4.2.2.2.1.size:Int))+(x4.2.2.2.2.1.size:Int)))∧(acts.length - (k0+1))<(acts.length - k0):=⟨⟨by omega,by omega,by omega,fun i x hi hx=>by
   by_cases e:i=k0
   · subst e;rw [hx5] at hx;cases hx;omega
   · have:=hno i x (by omega) hx;omega⟩,by omega⟩
 refine Bo (fun j=>⟨(k0+1),(s0+(x4.2.2.2.1.size:Int))+(x4.2.2.2.2.1.size:Int),j⟩) hQ6 (by kernel_rfl) [0] (by kernel_rfl) h
 refine Dk (Eh (E8 (Ev (Af (Qs (ZP (Ii s0) (ZP (.bool (decide (s0>3000))) (ZP (.bool (decide (s0>3000))) (Qr (ZR [.bool (decide (s0>3000))] [0] h ?_))))))))))
 refine ⟨_,fun hb=>?_,rfl,rfl⟩
 have hb2:=dcF hb
 exact ⟨by omega,fun x hx=>by
 obtain ⟨i,hi⟩:=List.getElem?_of_mem hx
 have:=hno i x (by have:=Aes hi;omega) hi
 constructor<;>omega⟩
theorem M2:B2 3 [C7 (0,0) 2] (0,0) ⟨#[97]⟩ 1=(some 1,0):=Z8 (D:=C7 (0,0) 2) rfl rfl (by decide) (.inl rfl) rfl (by decide) (by decide)
theorem Th {B:Nat} (ad:Nat→Addr)  : Ap Tryz.prog 7 #[] [A5 B ad] (fun u L=>u=.bool true∧L=[A5 B ad]):=by
 refine Zo 33 Tryz.func7 fun E w0 w h=>?_
 refine Qs (ZP (.bool false) (Qm ?_))
 refine ZD [0] (Abl ad 3 (by decide) (by decide)) h ?_;rintro v_ L_ w ⟨b0,z0,hz0,rfl,rfl⟩ h
 refine ZP (.tuple #[Pp b0,.nilIface]) (ZP (Pp b0) (ZP .nilIface (ZP (Pp b0) (ZP .nilIface (Qu (ZP .nilIface (ZP (.bool false) (ZP (.bool false) (ZP (Pp b0) (ZP (.bool false) (ZP (.bool false) (ZP (.bool false) (ZP (Pp b0) (ZC [0] (Xi hz0) h fun w h=>ZP (.bool false) (ZP (.bool false) (Fs (ZP (Pp b0) (ZP (Pp b0) (ZC [0] (Acp hz0) h fun w h=>?_)))))))))))))))))))
 refine ZD [0,0] (Ub ad hz0 0 0 ⟨#[97]⟩ (by decide) 1 (by decide)) h ?_;rintro v_ L_ w (⟨_,hTr1,rfl,rfl⟩|⟨z1,k1,hTr2,hz1,rfl,rfl⟩) h
 rw [M2] at hTr1;cases hTr1
 have hk1_:1=k1:=Option.some.inj (Prod.mk.inj (M2.symm.trans hTr2)).1
 subst hk1_
 exact ZP (.tuple #[Hg 1 0,.nilIface]) (ZP (Hg 1 0) (ZP .nilIface (ZN [Ii 0,Ii 0] 34 h fun k3 w h=>ZSs [Ii 1,Ii 0] 0 rfl h fun w h=>ZP .nilIface (Qm (ZP .nilIface (ZP (.bool true) (ZP (.bool true) (ZG h (Gla 0 [Ii 1,Ii 0] 0) (ZP (Hg 1 0) (ZG h (A1 (v:=.bool (((decide ((1:Int)=1))&&(decide ((0:Int)=0))))) (v':=.bool true) (Fr (n1:=1) (g1:=0) (n2:=1) (g2:=0) (by kernel_rfl)) (by rfl)) (ZP (.bool true) (ZP (.bool true) (Qr (ZR [.bool true] [2] h ⟨rfl,rfl⟩))))))))))))))
def esB (A:List AN) (bl:Hdl→List Hdl) (es:List Bk):List Hdl:=es.flatMap fun e=>e.2::(if A4 A e.2 then bl e.2 else [])
def It (A:List AN) (h:Hdl):List Bk:=match Bp A h with|some M=>M.es|none=>[]
def blw (A:List AN):Nat→Hdl→List Hdl
  | 0,_=>[]
  | n+1,h=>esB A (blw A n) (It A h)
def vis (A:List AN):Nat→Hdl→List Hdl
  | 0,_=>[]
  | n+1,h=>h::(It A h).flatMap fun e=>if A4 A e.2 then vis A n e.2 else []
theorem Um {A:List AN} {bl:Hdl→List Hdl} {es:List Bk} {i:Nat} {e:Bk} (h:es[i]?=some e):esB A bl (es.take (i+1))=esB A bl (es.take i)++(e.2::(if A4 A e.2 then bl e.2 else [])):=by
  unfold esB
  rw [List.take_add_one,h,List.flatMap_append]
  simp
theorem Aag {A:List AN} {bl:Hdl→List Hdl} {es:List Bk} {i:Nat} {e:Bk} {ol:List Hdl} (ho:ol=esB A bl (es.take i)) (h:es[i]?=some e) (hd:A4 A e.2=false):ol++[e.2]=esB A bl (es.take (i+1)):=by
  rw [Um h,ho,hd];rfl
theorem Adr {A:List AN} {bl:Hdl→List Hdl} {es:List Bk} {i:Nat} {e:Bk} {ol:List Hdl} (ho:ol=esB A bl (es.take i)) (h:es[i]?=some e) (hd:A4 A e.2=true):(ol++[e.2])++bl e.2=esB A bl (es.take (i+1)):=by
  rw [Um h,ho,hd,List.append_assoc];rfl
theorem Xu {α β:Type} (l:List α) (f:α→β) (g:α→List β):(l.flatMap fun x=>f x::g x).Perm (l.map f++l.flatMap g):=by
  induction l with
  | nil=>exact List.Perm.refl _
  | cons a l ih=>
    rw [List.flatMap_cons,List.map_cons,List.flatMap_cons,List.cons_append,List.cons_append]
    refine List.Perm.cons _ ?_
    refine (List.Perm.append_left _ ih).trans ?_
    rw [← List.append_assoc,← List.append_assoc]
    exact List.perm_append_comm.append_right _
theorem Qb {α β:Type} {l:List α} {f g:α→List β} (h:∀ x∈l,(f x).Perm (g x)):(l.flatMap f).Perm (l.flatMap g):=by
  induction l with
  | nil=>exact List.Perm.refl _
  | cons a l ih=>
    rw [List.flatMap_cons,List.flatMap_cons]
    exact (h a (by simp)).append (ih fun x hx=>h x (List.mem_cons_of_mem _ hx))
theorem Z1 {l:List Nat} (h:∀ x∈l,x=0):l.sum=0:=by
  induction l with
  | nil=>rfl
  | cons a l ih=>rw [List.sum_cons,h a (by simp),ih fun x hx=>h x (List.mem_cons_of_mem _ hx)]
theorem Aei {l:List Nat} {x:Nat} (h:x∈l):x≤l.sum:=by
  induction l with
  | nil=>cases h
  | cons a l ih=>
    rw [List.sum_cons]
    rcases List.mem_cons.1 h with rfl|h
    · omega
    · have:=ih h;omega
theorem Wa {A:List AN} {M:AN} (hM:M∈A) (x:Hdl):Ez M.es x≤A7 A x:=by
  unfold A7
  exact Aei (List.mem_map.2 ⟨M,hM,rfl⟩)
theorem Nw (es:List Bk) (x:Hdl):(es.map (·.2)).count x=Ez es x:=by
  unfold Ez
  rw [List.count_eq_countP,List.countP_map]
  rfl
theorem Mf (A:List AN):∀ (n:Nat) (h:Hdl),(blw A n h).Perm ((vis A n h).flatMap fun d=>(It A d).map (·.2))
  | 0,h=>List.Perm.refl _
  | n+1,h=>by
    show (esB A (blw A n) (It A h)).Perm _
    unfold esB vis
    rw [List.flatMap_cons]
    refine (Xu _ _ _).trans (List.Perm.append_left _ ?_)
    rw [List.flatMap_assoc]
    refine Qb fun e he=>?_
    split
    · exact Mf A n e.2
    · exact List.Perm.refl _
section
variable {most:Nat} {ts:List Int} {A:List AN} (t:TI0 most ts (fun _=>0) A) {rk:Hdl→Nat} (hr:Fb A rk) {K:Nat} (hK:∀ h,rk h≤K)
include t hr
omit t in
theorem Rr {h:Hdl} {e:Bk} (he:e∈It A h) (hd:A4 A e.2=true):rk h<rk e.2:=by
  unfold It at he
  cases hg:Bp A h with
  | none=>rw [hg] at he;cases he
  | some M=>rw [hg] at he;obtain ⟨h1,rfl⟩:=Cu hg;exact hr M h1 e he hd
include hK in
omit t in
theorem Mm:∀ (n:Nat) (h:Hdl),K<rk h+n→(vis A n h).Perm (h::(blw A n h).filter (A4 A))
  | 0,h,hf=>by have:=hK h;omega
  | n+1,h,hf=>by
    show (h::_).Perm (h::(esB A (blw A n) (It A h)).filter (A4 A))
    refine List.Perm.cons _ ?_
    unfold esB
    rw [List.filter_flatMap]
    refine Qb fun e he=>?_
    cases hd:A4 A e.2 with
    | false=>simp [hd]
    | true=>
      have:=Rr hr he hd
      simp only [if_pos,List.filter_cons,hd]
      exact Mm n e.2 (by omega)
omit t in
theorem Tc:∀ (n:Nat) (h x:Hdl),x∈blw A n h→A4 A x=true→rk h<rk x
  | 0,h,x,hx,_=>by cases hx
  | n+1,h,x,hx,hd=>by
    have hx:x∈esB A (blw A n) (It A h):=hx
    unfold esB at hx
    obtain ⟨e,he,hx⟩:=List.mem_flatMap.1 hx
    rcases List.mem_cons.1 hx with rfl|hx
    · exact Rr hr he hd
    · split at hx
      · rename_i hde
        exact Nat.lt_trans (Rr hr he hde) (Tc n e.2 x hx hd)
      · cases hx
omit hr in
theorem lnk_dir {x:Hdl} (hd:A4 A x=true):A7 A x=if x=(0,0) then 0 else 1:=by
  obtain ⟨M,hM,rfl,hk⟩:=I1 hd
  exact t.one M hM hk
omit hr in
theorem Acv {d x:Hdl}:((It A d).map (·.2)).count x≤A7 A x:=by
  rw [Nw]
  unfold It
  cases hg:Bp A d with
  | none=>exact Nat.zero_le _
  | some M=>exact Wa (Cu hg).1 x
omit hr in
theorem Vx {M:AN} (hM:M∈A):It A M.h=M.es:=by unfold It;rw [Cm t.nod hM]
omit hr in
theorem Sq (V:List Hdl) (x:Hdl):(V.flatMap fun d=>(It A d).map (·.2)).count x=(V.map fun d=>Ez (It A d) x).sum:=by
  rw [List.count_flatMap]
  refine congrArg List.sum (List.map_congr_left fun d _=>?_)
  exact Nw _ _
omit hr in
theorem Ad5 {V:List Hdl} {p:Hdl} {c:Hdl→Nat} (h:∀ d∈V,c d≤if d=p then 1 else 0):(V.map c).sum≤V.count p:=by
  induction V with
  | nil=>exact Nat.zero_le _
  | cons a V ih=>
    rw [List.map_cons,List.sum_cons,List.count_cons]
    have h1:=h a (by simp)
    have h2:=ih fun d hd=>h d (List.mem_cons_of_mem _ hd)
    by_cases e:a=p
    · rw [if_pos e] at h1;subst e;simp;omega
    · rw [if_neg e] at h1;simp [e];omega
include hK in
theorem Uq (n:Nat) (h:Hdl) (hf:K<rk h+n) (hh:A4 A h=true):∀ (m:Nat) (x:Hdl),rk x<m→A4 A x=true→(vis A n h).count x≤1
  | 0,x,hx,_=>by omega
  | m+1,x,hx,hd=>by
    rw [(Mm hr hK n h hf).count_eq,List.count_cons,List.count_filter hd]
    by_cases e:h=x
    · subst e
      have:(blw A n h).count h=0:=List.count_eq_zero.2 fun hm=>absurd (Tc hr n h h hm hd) (by omega)
      rw [this];simp
    · have h1:(blw A n h).count x≤1:=by
        rw [(Mf A n h).count_eq,Sq t]
        by_cases hl:A7 A x=0
        · refine Nat.le_trans (Nat.le_of_eq (Z1 fun c hc=>?_)) (Nat.zero_le 1)
          obtain ⟨d,_,rfl⟩:=List.mem_map.1 hc
          have:=Acv t (d:=d) (x:=x)
          rw [Nw] at this
          omega
        · obtain ⟨P,hP,e0,he0,h0⟩:=I7 (A:=A) (h:=x) (by omega)
          have hl1:A7 A x≤1:=by rw [lnk_dir t hd];split<;>omega
          have hpk:P.kind=2:=by
            rcases t.kind P hP with k|k
            · rw [t.file P hP k] at he0;cases he0
            · exact k
          refine Nat.le_trans (Ad5 t (p:=P.h) fun d _=>?_) (Uq n h hf hh m P.h ?_ (by rw [Dc t.nod hP,hpk];rfl))
          · by_cases c:d=P.h
            · rw [if_pos c]
              have:=Acv t (d:=d) (x:=x)
              rw [Nw] at this
              omega
            · rw [if_neg c]
              unfold It
              cases hg:Bp A d with
              | none=>exact Nat.le_refl _
              | some D=>
                obtain ⟨hD,rfl⟩:=Cu hg
                refine Nat.le_of_eq (List.countP_eq_zero.2 fun f hf'=>?_)
                intro q
                exact c (by rw [Wo hl1 hD hP hf' he0 (by simpa using q) h0])
          · have:=hr P hP e0 he0 (by rw [h0];exact hd)
            rw [h0] at this
            omega
      simp [e];omega
include hK in
theorem Q3 (n:Nat) (h:Hdl) (hf:K<rk h+n) (hh:A4 A h=true):(vis A n h).Nodup:=by
  rw [List.nodup_iff_count]
  intro x
  by_cases hd:A4 A x=true
  · exact Uq t hr hK n h hf hh (rk x+1) x (by omega) hd
  · rw [List.count_eq_zero.2 fun hm=>?_]
    · omega
    · rw [(Mm hr hK n h hf).mem_iff,List.mem_cons] at hm
      rcases hm with rfl|hm
      · exact hd hh
      · exact hd (List.mem_filter.1 hm).2
omit t hr in
theorem Ad6 {l m:List Hdl} (h:l.Nodup) (hs:∀ x∈l,x∈m):l.length≤m.length:=by
  induction l generalizing m with
  | nil=>exact Nat.zero_le _
  | cons a l ih=>
    obtain ⟨h1,h2⟩:=List.nodup_cons.1 h
    have ha:a∈m:=hs a (by simp)
    have:=ih (m:=m.erase a) h2 fun x hx=>(List.mem_erase_of_ne (by rintro rfl;exact h1 hx)).2 (hs x (List.mem_cons_of_mem _ hx))
    rw [List.length_erase_of_mem ha] at this
    have:0<m.length:=List.length_pos_of_mem ha
    rw [List.length_cons];omega
include hK in
theorem To (n:Nat) (h:Hdl) (hf:K<rk h+n) (hh:A4 A h=true):∀ x∈vis A n h,A4 A x=true:=fun x hx=>by
  rw [(Mm hr hK n h hf).mem_iff,List.mem_cons] at hx
  rcases hx with rfl|hx
  · exact hh
  · exact (List.mem_filter.1 hx).2
include hK in
theorem Wl (n:Nat) (h:Hdl) (hf:K<rk h+n) (hh:A4 A h=true):(blw A n h).length≤60*A.length:=by
  have h1:(vis A n h).length≤A.length:=by
    have:=Ad6 (m:=A.map (·.h)) (Q3 t hr hK n h hf hh) fun x hx=>by
      obtain ⟨M,hM,rfl,_⟩:=I1 (To t hr hK n h hf hh x hx)
      exact List.mem_map.2 ⟨M,hM,rfl⟩
    rwa [List.length_map] at this
  rw [(Mf A n h).length_eq]
  have h2:∀ V:List Hdl,(V.flatMap fun d=>(It A d).map (·.2)).length≤60*V.length:=fun V=>by
    induction V with
    | nil=>exact Nat.zero_le _
    | cons a V ih=>
      rw [List.flatMap_cons,List.length_append,List.length_map,List.length_cons]
      have:(It A a).length≤60:=by
        unfold It
        cases hg:Bp A a with
        | none=>exact Nat.zero_le _
        | some M=>exact t.few M (Cu hg).1
      omega
  exact Nat.le_trans (h2 _) (Nat.mul_le_mul_left 60 h1)
include hK in
theorem Xd (n:Nat) (hf:K<rk (0,0)+n):∀ (m:Nat) (x:Hdl),rk x<m→A4 A x=true→x∈vis A n (0,0)
  | 0,x,hx,_=>by omega
  | m+1,x,hx,hd=>by
    rw [(Mm hr hK n (0,0) hf).mem_iff]
    by_cases e:x=(0,0)
    · rw [e];simp
    · have h1:=lnk_dir t hd
      rw [if_neg e] at h1
      obtain ⟨P,hP,e0,he0,h0⟩:=I7 (A:=A) (h:=x) (by omega)
      have hpk:P.kind=2:=by
        rcases t.kind P hP with k|k
        · rw [t.file P hP k] at he0;cases he0
        · exact k
      have hlt:=hr P hP e0 he0 (by rw [h0];exact hd)
      rw [h0] at hlt
      have hp:=Xd n hf m P.h (by omega) (by rw [Dc t.nod hP,hpk];rfl)
      refine List.mem_cons_of_mem _ (List.mem_filter.2 ⟨?_,hd⟩)
      rw [(Mf A n (0,0)).mem_iff]
      exact List.mem_flatMap.2 ⟨P.h,hp,List.mem_map.2 ⟨e0,by rw [Vx t hP];exact he0,h0⟩⟩
include hK in
theorem Zn (n:Nat) (hf:K<rk (0,0)+n) (x:Hdl):(blw A n (0,0)).count x=A7 A x:=by
  have hroot:A4 A (0,0)=true:=by
    obtain ⟨M,hM,h1,h2⟩:=t.root
    rw [← h1,Dc t.nod hM,h2];rfl
  have hp:(vis A n (0,0)).Perm ((A.filter fun M=>decide (M.kind=2)).map (·.h)):=by
    refine (List.perm_ext_iff_of_nodup (Q3 t hr hK n _ hf hroot) ?_).2 fun y=>?_
    · have:=t.nod
      rw [List.nodup_iff_pairwise_ne,List.pairwise_map] at this ⊢
      exact List.Pairwise.filter _ this
    · constructor
      · intro hy
        obtain ⟨M,hM,rfl,hk⟩:=I1 (To t hr hK n _ hf hroot y hy)
        exact List.mem_map.2 ⟨M,List.mem_filter.2 ⟨hM,by simpa using hk⟩,rfl⟩
      · intro hy
        obtain ⟨M,hM,rfl⟩:=List.mem_map.1 hy
        obtain ⟨hM,hk⟩:=List.mem_filter.1 hM
        exact Xd t hr hK n hf (rk M.h+1) M.h (by omega) (by rw [Dc t.nod hM];exact hk)
  rw [(Mf A n (0,0)).count_eq,Sq t,(hp.map _).sum_nat]
  unfold A7
  rw [List.map_map]
  have:∀ B:List AN,(∀ M∈B,M∈A)→((B.filter fun M=>decide (M.kind=2)).map ((fun d=>Ez (It A d) x)∘fun M:AN=>M.h)).sum=(B.map fun M=>Ez M.es x).sum:=fun B hB=>by
    induction B with
    | nil=>rfl
    | cons M B ih=>
      have hM:=hB M (by simp)
      have ih:=ih fun N hN=>hB N (List.mem_cons_of_mem _ hN)
      rw [List.map_cons,List.sum_cons,List.filter_cons]
      split
      · rw [List.map_cons,List.sum_cons,ih]
        show Ez (It A M.h) x+_=_
        rw [Vx t hM]
      · rename_i hk
        have:M.es=[]:=t.file M hM (by rcases t.kind M hM with k|k;exact k;simp [k] at hk)
        rw [ih,this];simp [Ez]
  exact this A fun M hM=>hM
end
def Dst (B:List Hdl) (i m:Nat):Prop:=i≤B.length∧∃ D:List Hdl,D.Nodup∧(∀ x,x∈D↔x∈B.take i)∧m=1+D.length
theorem Aci (B:List Hdl):Dst B 0 1:=⟨Nat.zero_le _,[],List.nodup_nil,by simp,rfl⟩
section
variable {B:List Hdl} {i m:Nat} {x:Hdl}
theorem Xh (h:Dst B i m) (hx:B[i]?=some x) (hn:¬x∈B.take i):Dst B (i+1) (m+1):=by
  obtain ⟨_,D,h1,h2,h3⟩:=h
  refine ⟨(List.getElem?_eq_some_iff.1 hx).1,x::D,List.nodup_cons.2 ⟨fun q=>hn ((h2 x).1 q),h1⟩,fun y=>?_,by rw [List.length_cons];omega⟩
  rw [List.take_add_one,hx,List.mem_cons,h2 y]
  simp [or_comm]
theorem W3 (h:Dst B i m) (hx:B[i]?=some x) (hn:x∈B.take i):Dst B (i+1) m:=by
  obtain ⟨_,D,h1,h2,h3⟩:=h
  refine ⟨(List.getElem?_eq_some_iff.1 hx).1,D,h1,fun y=>?_,h3⟩
  rw [List.take_add_one,hx,h2 y]
  simp only [Option.toList,List.mem_append,List.mem_singleton]
  constructor
  · exact .inl
  · rintro (q|rfl)
    · exact q
    · exact hn
theorem Adq (h:Dst B i m) (hi:¬i<B.length) {A:List AN} (hn:(A.map (·.h)).Nodup) (hroot:((0,0):Hdl)∈A.map (·.h)) (hB:∀ y,y∈B↔y∈A.map (·.h)∧y≠(0,0)):m=A.length:=by
  obtain ⟨_,D,h1,h2,h3⟩:=h
  have e:B.take i=B:=List.take_of_length_le (by omega)
  have hp:((0,0)::D).Perm (A.map (·.h)):=by
    refine (List.perm_ext_iff_of_nodup (List.nodup_cons.2 ⟨fun q=>?_,h1⟩) hn).2 fun y=>?_
    · rw [h2,e,hB] at q;exact q.2 rfl
    · rw [List.mem_cons,h2 y,e,hB y]
      by_cases c:y=(0,0)
      · subst c;simp only [true_or,true_iff];exact hroot
      · simp [c]
  have:=hp.length_eq
  rw [List.length_cons,List.length_map] at this
  omega
def Fst (B:List Hdl) (x:Hdl) (i k n:Nat) (f:Bool):Prop:=k≤B.length∧n=(B.take k).count x∧(f=true↔¬x∈B.take (min k i))
theorem Aa8 (B:List Hdl) (x:Hdl) (i:Nat):Fst B x i 0 0 true:=⟨Nat.zero_le _,by simp,by simp⟩
theorem Afj {k n:Nat} {f:Bool} {y:Hdl} (h:Fst B x i k n f) (hy:B[k]?=some y) (hne:¬y=x):Fst B x i (k+1) n f:=by
  obtain ⟨h0,h1,h2⟩:=h
  have hk:=(List.getElem?_eq_some_iff.1 hy).1
  refine ⟨hk,?_,?_⟩
  · rw [List.take_add_one,hy,List.count_append,← h1];simp [hne]
  · rw [h2]
    by_cases c:k<i
    · rw [Nat.min_eq_left (by omega),Nat.min_eq_left (by omega),List.take_add_one,hy];simp [Ne.symm hne]
    · rw [Nat.min_eq_right (by omega),Nat.min_eq_right (by omega)]
theorem Wn {k n:Nat} {f:Bool} {y:Hdl} (h:Fst B x i k n f) (hy:B[k]?=some y) (he:y=x):Fst B x i (k+1) (n+1) (if k<i then false else f):=by
  obtain ⟨h0,h1,h2⟩:=h
  subst he
  have hk:=(List.getElem?_eq_some_iff.1 hy).1
  refine ⟨hk,?_,?_⟩
  · rw [List.take_add_one,hy,List.count_append,← h1];simp
  · by_cases c:k<i
    · rw [if_pos c,Nat.min_eq_left (by omega),List.take_add_one,hy];simp
    · rw [if_neg c,h2,Nat.min_eq_right (by omega),Nat.min_eq_right (by omega)]
theorem Adz {k n:Nat} {f:Bool} (h:Fst B x i k n f) (hk:¬k<B.length) (hi:i<B.length):n=B.count x∧(f=true↔¬x∈B.take i):=by
  obtain ⟨h0,h1,h2⟩:=h
  rw [List.take_of_length_le (by omega)] at h1
  rw [Nat.min_eq_right (by omega)] at h2
  exact ⟨h1,h2⟩
end
theorem TI.rankLe {most:Nat} {ts:List Int} {A:List AN} (h:TI most ts A):∃ rk,Fb A rk∧∀ x,rk x≤A.length:=by
  obtain ⟨rk,hr⟩:=h.rank
  refine ⟨fun x=>(A.filter fun M=>decide (rk M.h<rk x)).length,fun M hM e he hd=>?_,fun x=>List.length_filter_le _ _⟩
  have hlt:=hr M hM e he hd
  have h1:(A.filter fun N=>decide (rk N.h<rk M.h))=((A.filter fun N=>decide (rk N.h<rk e.2)).filter fun N=>decide (rk N.h<rk M.h)):=by
    rw [List.filter_filter]
    refine List.filter_congr fun N _=>?_
    by_cases c:rk N.h<rk M.h
    · simp [c];omega
    · simp [c]
  show (A.filter fun N=>decide (rk N.h<rk M.h)).length<_
  rw [h1]
  refine List.length_filter_lt_length_iff_exists.2 ⟨M,List.mem_filter.2 ⟨hM,by simpa using hlt⟩,by simp⟩
theorem Yk {most:Nat} {ts:List Int} {A:List AN} (h:TI most ts A) (hp:∀ M∈A,M.pins=0) {B:List Hdl} (hB:∀ x,B.count x=A7 A x):∀ y,y∈B↔y∈A.map (·.h)∧y≠(0,0):=fun y=>by
  have t:=h.base
  rw [← List.count_pos_iff,hB y]
  constructor
  · intro q
    obtain ⟨M,hM,e,he,rfl⟩:=I7 q
    obtain ⟨K,hK,h1⟩:=t.ent M hM e he
    refine ⟨List.mem_map.2 ⟨K,hK,h1⟩,fun c=>?_⟩
    obtain ⟨R,hR,h2,h3⟩:=t.root
    have:=t.one R hR h3
    rw [h2,if_pos rfl] at this
    rw [c] at q
    omega
  · rintro ⟨q,hne⟩
    obtain ⟨M,hM,rfl⟩:=List.mem_map.1 q
    rcases t.kind M hM with k|k
    · rcases h.held M hM k with c|c
      · rw [hp M hM] at c;omega
      · exact c
    · have:=t.one M hM k
      rw [if_neg hne] at this
      omega
theorem Wc (v:Value) (acts:List Uu) (hacts:∀ x∈acts,Wp x):Ap Tryz.prog 8 #[v] [Ke v 6 Nk acts] fun u L=>(u=.bool true∧L=[Ke v 6 Nk acts])∨((acts.length≤30∧∀ x∈acts,Ae5 x)∧u=.bool false∧L=[Ke v 6 Nk acts]):=
  (Yw v acts hacts).mono fun u L ⟨bm,h1,h2,h3⟩=>by
    cases bm with
    | true=>exact .inl ⟨h2,h3⟩
    | false=>exact .inr ⟨h1 rfl,h2,h3⟩
theorem Own.cellRowI {α:Type} {w0 w:World} {E:Ent} {L:List Res} {b:Nat} {d:TypeId} {x:α} {k:Nat} {enc:α→List Value} {i:Nat} (hi:L[i]?=some (Bx true b (enc x) d)) (he:(enc x).length=k) (h:Own w0 E L w):Own w0 E (L.set i (Bf true (.slice (some ⟨b,0,none⟩) 1 1) d k enc [x])) w:=
  h.upd (i:=i) (r:=Bx true b (enc x) d) hi rfl (Chg.refl _ _) ⟨by simp [he],.inr ⟨b,0,1,(enc x).toArray,rfl,h.fact i hi,Nat.le_refl _,by unfold maxLen;omega,by simp [he],fun j u hj=>by simpa using hj,rfl⟩⟩ fun y hy=>.inl hy
section
variable {B:Nat} (ad:Nat→Addr) {most b:Nat} {z:PZ} {A:List AN} {ts:List Int} {c:Int} (hp:PB most b z A ts c)
include hp
theorem Ael {M:AN} (hM:M∈A) (hk:M.kind=2):Ap Tryz.prog 19 #[Pp b,Hg M.h.1 M.h.2,Ii 0,Ii 60] [rPT most z,A5 B ad] fun u L=>∃ (v':Value) (n':Int),u=.tuple #[v',Ii n',.nilIface]∧L=[rPT most z,A5 B ad,Bf true v' 107 3 e3C M.es]:=by
  have e:Gm A (M.h.1,M.h.2) 0 60=((lsE M.es 0 60).1,(lsE M.es 0 60).2,0):=Ae7 (Cm hp.s.ti.base.nod hM) hk (by decide)
  have e2:(lsE M.es 0 60).1=M.es:=by
    show (M.es.drop 0).take 60=M.es
    rw [List.drop_zero,List.take_of_length_le (hp.s.ti.base.few M hM)]
  refine (Afk ad hp M.h.1 M.h.2 0 60 (by decide) (by decide)).mono fun u L ⟨v',h1,h2⟩=>⟨v',(((lsE M.es 0 60).2:Nat):Int),?_,?_⟩
  · rw [h1,e];rfl
  · rw [h2,e,e2]
theorem Aec {M:AN} (hM:M∈A) {e:Bk} (he:e∈M.es):Ap Tryz.prog 14 #[Pp b,Hg e.2.1 e.2.2] [rPT most z,A5 B ad] fun u L=>(∃ a1 a2 a3 a4 a5:Int,A4 A e.2=false∧u=.tuple #[.agg #[Ii 1,Ii a1,Ii a2,Ii a3,Ii a4,Ii a5],.nilIface]∧L=[rPT most z,A5 B ad])∨
    (∃ a1 a2 a3:Int,A4 A e.2=true∧u=.tuple #[.agg #[Ii 2,Ii a1,Ii a2,Ii a3,Ii M.h.1,Ii M.h.2],.nilIface]∧L=[rPT most z,A5 B ad]):=by
  have t:=hp.s.ti.base
  obtain ⟨K,hK,h0⟩:=t.ent M hM e he
  have hg:Bp A (e.2.1,e.2.2)=some K:=by rw [show ((e.2.1,e.2.2):Hdl)=K.h from h0.symm];exact Cm t.nod hK
  have hd:A4 A e.2=decide (K.kind=2):=by rw [← h0];exact Dc t.nod hK
  refine (Aa9 ad hp e.2.1 e.2.2).mono fun u L q=>?_
  rcases q with ⟨h1,_⟩|⟨K',h1,h2,h3⟩
  · rw [hg] at h1;cases h1
  · rw [hg] at h1;cases h1
    rcases t.kind K hK with k|k
    · refine .inl ⟨L6 K,C4 A K,K.change,(upH A K).1,(upH A K).2,by rw [hd,k];rfl,?_,h3⟩
      rw [h2];unfold atV;rw [k]
    · refine .inr ⟨L6 K,C4 A K,K.change,by rw [hd,k];rfl,?_,h3⟩
      have hl:A7 A K.h≤1:=by
        have q:A7 A K.h=if K.h=(0,0) then 0 else 1:=t.one K hK k
        split at q<;>omega
      have hu:upH A K=M.h:=by
        unfold upH;rw [if_pos k]
        exact Ln hl hM he h0.symm
      rw [h2];unfold atV;rw [k,hu]
theorem Aem {x:Hdl} (hx:0<A7 A x):Ap Tryz.prog 14 #[Pp b,Hg x.1 x.2] [rPT most z,A5 B ad] fun u L=>(∃ a1 a3 a4 a5:Int,u=.tuple #[.agg #[Ii 1,Ii a1,Ii ((A7 A x:Nat):Int),Ii a3,Ii a4,Ii a5],.nilIface]∧L=[rPT most z,A5 B ad])∨
    (∃ a1 a2 a3 a4 a5:Int,A7 A x=1∧u=.tuple #[.agg #[Ii 2,Ii a1,Ii a2,Ii a3,Ii a4,Ii a5],.nilIface]∧L=[rPT most z,A5 B ad]):=by
  have t:=hp.s.ti.base
  obtain ⟨M,hM,e,he,h9⟩:=I7 hx
  obtain ⟨K,hK,h0⟩:=t.ent M hM e he
  rw [h9] at h0
  have hg:Bp A (x.1,x.2)=some K:=by rw [show ((x.1,x.2):Hdl)=K.h from h0.symm];exact Cm t.nod hK
  refine (Aa9 ad hp x.1 x.2).mono fun u L q=>?_
  rcases q with ⟨h1,_⟩|⟨K',h1,h2,h3⟩
  · rw [hg] at h1;cases h1
  · rw [hg] at h1;cases h1
    rcases t.kind K hK with k|k
    · refine .inl ⟨L6 K,K.change,(upH A K).1,(upH A K).2,?_,h3⟩
      have hl:C4 A K=(A7 A x:Int):=by unfold C4;rw [if_neg (by omega),h0]
      rw [h2];unfold atV;rw [k,hl]
    · refine .inr ⟨L6 K,C4 A K,K.change,(upH A K).1,(upH A K).2,?_,?_,h3⟩
      · have q:=t.one K hK k
        rw [h0] at q
        have q:A7 A x=if x=(0,0) then 0 else 1:=q
        split at q<;>omega
      · rw [h2];unfold atV;rw [k]
end
theorem Vt {B:Nat} (ad:Nat→Addr) {most b:Nat} {z:PZ} {A:List AN} {ts:List Int} {c:Int} (hp:PB most b z A ts c) (M:AN) (hM:M∈A) (hk:M.kind=2) (deep:Int) (hdp:0≤deep∧deep≤300) (bl:Hdl→List Hdl) (hbl:∀ e∈M.es,A4 A e.2=true→(bl e.2).length≤18000∧Ap Tryz.prog 12 #[Pp b,Hg e.2.1 e.2.2,Ii (deep+1)] [rPT most z,A5 B ad] fun u L=>∃ v,u=.tuple #[v,.bool true]∧L=[rPT most z,A5 B ad,Bf true v 34 2 hdC (bl e.2)])  : Ap Tryz.prog 12 #[Pp b,Hg M.h.1 M.h.2,Ii deep] [rPT most z,A5 B ad] (fun u L=>∃ v,u=.tuple #[v,.bool true]∧L=[rPT most z,A5 B ad,Bf true v 34 2 hdC (esB A bl M.es)]):=by
 have hfw:=hp.s.ti.base.few M hM
 refine Zo 78 Tryz.func12 fun E w0 w h=>?_
 refine Qs (ZN [Ii M.h.1,Ii M.h.2] 34 h fun k1 w h=>ZP (.slice none 0 0) (ZP (.bool false) (Qm (ZP (Pp b) (ZG h (Gla 0 [Ii M.h.1,Ii M.h.2] 0) ?_)))))
 refine ZD [1,1] (Ael ad hp hM hk) h ?_;rintro v_ L_ w ⟨vl2,nl3,rfl,rfl⟩ h
 refine ZP (.tuple #[vl2,Ii nl3,.nilIface]) (ZP vl2 (ZP (Ii nl3) (ZP .nilIface (ZP vl2 (ZP (Ii nl3) (ZP .nilIface (Qu (ZP .nilIface (ZP (.bool false) (ZP (.bool false) (ZP (Ii deep) ?_)))))))))))
 obtain ⟨b4,hb4⟩:=nmB (decide (deep>300))
 refine ZB hb4 (ZP (.bool b4) (Qn (Zi (b4) (fun hc5=>?_) fun hc5=>?_)))
 have q6:=hb4.symm.trans hc5
 have q6:=dcT q6
 exfalso;omega
 have q7:=hb4.symm.trans hc5
 have q7:=dcF q7
 refine Ks (ZP (.slice none 0 0) (Qu (ZP (Ii 0) (Qn (Ar ?_)))))
 have h:=h.nilRows 34 2 hdC
 refine ZL (X:=Nat×Value×List Hdl×(Nat→Value)) [(6,7),(13,16),(30,79)] (fun ⟨i0,ov,ol,J0⟩=>[(11,ov),(12,Ii i0)]) (fun ⟨i0,ov,ol,J0⟩=>J0) (fun ⟨i0,ov,ol,J0⟩=>[Bf true ov 34 2 hdC ol,rPT most z,A5 B ad,Bf true vl2 107 3 e3C M.es,Rh k1 M.h.1 M.h.2]) (fun ⟨i0,ov,ol,J0⟩=>i0≤M.es.length∧ol=esB A bl (M.es.take i0)∧ol.length≤i0*18001) (fun ⟨i0,ov,ol,J0⟩=>M.es.length - i0) (fun j=>⟨0,(.slice none 0 0),[],j⟩) ⟨Nat.zero_le _,rfl,by simp⟩ [0,0,0,0,0] h ?_
 rintro ⟨i0,ov,ol,J0⟩ w hG h
 obtain ⟨hi0,hol,holl⟩:i0≤M.es.length∧ol=esB A bl (M.es.take i0)∧ol.length≤i0*18001:=hG
 refine Qt (ZP (Ii i0) (ZP vl2 (ZG h (M4 (by kernel_rfl) 3 rfl) (ZP (.bool (decide ((i0:Int)<(M.es.length:Int)))) (Qn (Zd ((i0:Int)<(M.es.length:Int)) (fun hc8=>?_) fun hc8=>?_))))))
 refine Kn (Aa (Ar (Qs (ZP ov (ZP vl2 (ZP (Ii i0) ?_))))))
 have hi9:i0<M.es.length:=by omega
 obtain ⟨x10,hx11⟩:∃ x,M.es[i0]?=some x:=⟨_,List.getElem?_eq_getElem hi9⟩
 refine ZG h (I3 i0 (by kernel_rfl) hi9 3 rfl) (ZP (Pt (Df vl2) (B1 vl2+i0*3+1)) (ZG h (Gra (B1 vl2+i0*3+1) [Ii x10.2.1,Ii x10.2.2] 3 rfl (W2 D4 hx11 1 (by kernel_rfl))) ?_))
 refine G0 rfl (fun b=>.slice (some ⟨b,0,none⟩) 1 1) [Ii x10.2.1,Ii x10.2.2] 34 (fun _=>by kernel_rfl) h ?_;intro k12 w h
 refine Hp (b:=k12) (o:=0) rfl 1 (x10.2.1,x10.2.2) (by kernel_rfl) h 1 rfl 0 rfl (Fq 0 (by kernel_rfl)) (by (try simp only [List.length_append,List.length_cons,List.length_nil,List.length_map]);omega) ?_;intro v13 w h
 refine ZP v13 (Qm (ZP (Pp b) (ZP vl2 (ZP (Ii i0) (ZG h (I3 i0 (by kernel_rfl) hi9 4 rfl) (ZP (Pt (Df vl2) (B1 vl2+i0*3+1)) (ZG h (Gra (B1 vl2+i0*3+1) [Ii x10.2.1,Ii x10.2.2] 4 rfl (W2 D4 hx11 1 (by kernel_rfl))) ?_)))))))
 refine ZD [2,2] (Aec ad hp hM (List.mem_of_getElem? hx11)) h ?_;rintro v_ L_ w (⟨aa14,ab14,ac14,ae14,af14,hdd15,rfl,rfl⟩|⟨aa14,ab14,ac14,hdd15,rfl,rfl⟩) h
 refine ZP (.tuple #[.agg #[Ii 1,Ii aa14,Ii ab14,Ii ac14,Ii ae14,Ii af14],.nilIface]) (ZP (.agg #[Ii 1,Ii aa14,Ii ab14,Ii ac14,Ii ae14,Ii af14]) (ZP .nilIface (ZN [Ii 0,Ii 0,Ii 0,Ii 0,Ii 0,Ii 0] 46 h fun k16 w h=>ZSs [Ii 1,Ii aa14,Ii ab14,Ii ac14,Ii ae14,Ii af14] 0 rfl h fun w h=>ZP .nilIface (Qu (ZP .nilIface (ZP (.bool false) (Ft (ZP (Pp k16) (ZG h (Gl 0 (Ii 1) 0) (ZP (.bool true) (Qg (Dk (Eh (Ev (Af (Ah (ZP (Ii i0) (ZG h (A1 (v:=Ii (IntKind.i64.wrap ((i0:Int)+1))) (v':=Ii ((i0+1:Nat):Int)) (Ax fun _=>by kernel_rfl) (wr (by omega))) (ZP (Ii ((i0+1:Nat):Int)) (Ct ?_))))))))))))))))))))
 have hQ17:((i0+1)≤M.es.length∧(ol++[(x10.2.1,x10.2.2)])=esB A bl (M.es.take (i0+1))∧(ol++[(x10.2.1,x10.2.2)]).length≤(i0+1)*18001)∧(M.es.length - (i0+1))<(M.es.length - i0):=⟨⟨by omega,Aag hol hx11 hdd15,by (try simp only [List.length_append,List.length_cons,List.length_nil]);omega⟩,by omega⟩
 refine Bo (fun j=>⟨(i0+1),v13,(ol++[(x10.2.1,x10.2.2)]),j⟩) hQ17 (by kernel_rfl) [4,1,1,2,2] (by kernel_rfl) h
 refine ZP (.tuple #[.agg #[Ii 2,Ii aa14,Ii ab14,Ii ac14,Ii M.h.1,Ii M.h.2],.nilIface]) (ZP (.agg #[Ii 2,Ii aa14,Ii ab14,Ii ac14,Ii M.h.1,Ii M.h.2]) (ZP .nilIface (ZN [Ii 0,Ii 0,Ii 0,Ii 0,Ii 0,Ii 0] 46 h fun k18 w h=>ZSs [Ii 2,Ii aa14,Ii ab14,Ii ac14,Ii M.h.1,Ii M.h.2] 0 rfl h fun w h=>ZP .nilIface (Qu (ZP .nilIface (ZP (.bool false) (Ft (ZP (Pp k18) (ZG h (Gl 0 (Ii 2) 0) (ZP (.bool false) (Ft (ZP (Pt k18 4) (ZG h (Gla 4 [Ii M.h.1,Ii M.h.2] 0) (ZG h (Gla 0 [Ii M.h.1,Ii M.h.2] 6) (ZG h (A1 (v:=.bool (!((decide (M.h.1=M.h.1))&&(decide (M.h.2=M.h.2))))) (v':=.bool false) (Ew (n1:=M.h.1) (g1:=M.h.2) (n2:=M.h.1) (g2:=M.h.2) (by kernel_rfl)) (by simp)) (Fs (ZP (Pp b) (ZP vl2 (ZP (Ii i0) (ZG h (I3 i0 (by kernel_rfl) hi9 5 rfl) (ZP (Pt (Df vl2) (B1 vl2+i0*3+1)) (ZG h (Gra (B1 vl2+i0*3+1) [Ii x10.2.1,Ii x10.2.2] 5 rfl (W2 D4 hx11 1 (by kernel_rfl))) (ZP (Ii deep) (ZG h (Gw (deep+1)) ?_))))))))))))))))))))))))
 have hlb20:=(hbl x10 (List.mem_of_getElem? hx11) hdd15).1
 refine ZD [1,1] ((hbl x10 (List.mem_of_getElem? hx11) hdd15).2) h ?_;rintro v_ L_ w ⟨vb19,rfl,rfl⟩ h
 refine ZP (.tuple #[vb19,.bool true]) (ZP vb19 (ZP (.bool true) (ZP vb19 (ZP (.bool true) (Qu (ZP (.bool true) (ZP (.bool false) (Qf (Kn (Ah (ZP v13 (ZP vb19 ?_))))))))))))
 refine Ad4 rfl (by kernel_rfl) Lw (fun _=>rfl) h 5 rfl 2 rfl G7 (by (try simp only [List.length_append,List.length_cons,List.length_nil,List.length_map]);omega) ?_;intro v21 w h
 refine ZP v21 (Ct ?_)
 refine B9 (Af ?_)
 refine Ah (ZP (Ii i0) (ZG h (A1 (v:=Ii (IntKind.i64.wrap ((i0:Int)+1))) (v':=Ii ((i0+1:Nat):Int)) (Ax fun _=>by kernel_rfl) (wr (by omega))) (ZP (Ii ((i0+1:Nat):Int)) (Ct ?_))))
 have hQ22:((i0+1)≤M.es.length∧((ol++[(x10.2.1,x10.2.2)])++(bl x10.2))=esB A bl (M.es.take (i0+1))∧((ol++[(x10.2.1,x10.2.2)])++(bl x10.2)).length≤(i0+1)*18001)∧(M.es.length - (i0+1))<(M.es.length - i0):=⟨⟨by omega,Adr hol hx11 hdd15,by (try simp only [List.length_append,List.length_cons,List.length_nil]);omega⟩,by omega⟩
 refine Bo (fun j=>⟨(i0+1),v21,((ol++[(x10.2.1,x10.2.2)])++(bl x10.2)),j⟩) hQ22 (by kernel_rfl) [5,0,0,3,3] (by kernel_rfl) h
 refine Dk (Eh (E8 (Ev (Af (Qs (ZP ov (ZP ov (ZP (.bool true) (Qr (ZR [ov,.bool true] [1,1,0] h ?_))))))))))
 rw [List.take_of_length_le (by omega)] at hol
 subst hol
 exact ⟨_,rfl,rfl⟩
theorem P5 {B:Nat} (ad:Nat→Addr) {most b:Nat} {z:PZ} {A:List AN} {ts:List Int} {c:Int} (hp:PB most b z A ts c) {rk:Hdl→Nat} (hr:Fb A rk) (hK:∀ x,rk x≤A.length):∀ (n:Nat) (M:AN) (hM:M∈A) (hk:M.kind=2) (deep:Int),0≤deep→deep≤(rk M.h:Int)→A.length<rk M.h+n→Ap Tryz.prog 12 #[Pp b,Hg M.h.1 M.h.2,Ii deep] [rPT most z,A5 B ad] fun u L=>∃ v,u=.tuple #[v,.bool true]∧L=[rPT most z,A5 B ad,Bf true v 34 2 hdC (blw A n M.h)]
  | 0,M,hM,hk,deep,h1,h2,h3=>by have:=hK M.h;omega
  | n+1,M,hM,hk,deep,h1,h2,h3=>by
    have t:=hp.s.ti.base
    have hlen:=(hp.s.ti.rtok hp.s.m3 hp.s.cnt).len
    have hkM:=hK M.h
    have e:blw A (n+1) M.h=esB A (blw A n) M.es:=by
      show esB A (blw A n) (It A M.h)=_
      rw [Vx t hM]
    rw [e]
    refine Vt ad hp M hM hk deep ⟨h1,by omega⟩ (blw A n) fun e he hd=>?_
    have hlt:=hr M hM e he hd
    refine ⟨Nat.le_trans (Wl t hr hK n e.2 (by omega) hd) (by omega),?_⟩
    obtain ⟨K,hK1,h4,h5⟩:=I1 hd
    have:=P5 (B:=B) ad hp hr hK n K hK1 h5 (deep+1) (by omega) (by rw [h4];omega) (by rw [h4];omega)
    rw [h4] at this
    exact this
theorem U0 {B:Nat} (ad:Nat→Addr) {most b:Nat} {z:PZ} {A:List AN} {ts:List Int} {c:Int} (hp:PB most b z A ts c):Ap Tryz.prog 12 #[Pp b,Hg 0 0,Ii 0] [rPT most z,A5 B ad] fun u L=>∃ (v:Value) (Bl:List Hdl),(∀ x,Bl.count x=A7 A x)∧Bl.length≤18000∧u=.tuple #[v,.bool true]∧L=[rPT most z,A5 B ad,Bf true v 34 2 hdC Bl]:=by
  have t:=hp.s.ti.base
  have hlen:=(hp.s.ti.rtok hp.s.m3 hp.s.cnt).len
  obtain ⟨rk,hr,hK⟩:=hp.s.ti.rankLe
  obtain ⟨R,hR,h1,h2⟩:=t.root
  have hd:A4 A (0,0)=true:=by rw [← h1,Dc t.nod hR,h2];rfl
  have:=P5 (B:=B) ad hp hr hK (A.length+1) R hR h2 0 (by omega) (by omega) (by omega)
  rw [h1] at this
  exact this.mono fun u L ⟨v,h3,h4⟩=>⟨v,_,Zn t hr hK (A.length+1) (by omega),Nat.le_trans (Wl t hr hK (A.length+1) (0,0) (by omega) hd) (by omega),h3,h4⟩
theorem Oj {B:Nat} (ad:Nat→Addr) (v:Value) (acts:List Uu) (hacts:∀ x∈acts,Wp x)  : Ap Tryz.prog 3 #[v] [Ke v 6 Nk acts,A5 B ad] (fun u L=>u=.bool true∧L=[Ke v 6 Nk acts,A5 B ad]):=by
 refine Zo 132 Tryz.func3 fun E w0 w h=>?_
 refine Qs (ZP (.bool false) (Qm (ZC [1] (Th ad) h fun w h=>ZP (.bool true) (Qu (ZP (.bool true) (ZP (.bool false) (ZP (.bool false) (ZP v ?_))))))))
 refine ZD [1] (Wc v acts hacts) h ?_;rintro v_ L_ w (⟨rfl,rfl⟩|⟨⟨hfew,hsz⟩,rfl,rfl⟩) h
 exact ZP (.bool true) (Qg (Qs (ZP (.bool true) (ZP (.bool true) (Qr (Au (ZR [.bool true] [0,0] h ⟨rfl,rfl⟩)))))))
 refine ZP (.bool false) (Fs ?_)
 refine ZD [1] (Abl ad 20 (by decide) (by decide)) h ?_;rintro v_ L_ w ⟨b,z0,hz0,rfl,rfl⟩ h
 refine ZP (.tuple #[Pp b,.nilIface]) (ZP (Pp b) (ZP .nilIface (ZP (Pp b) (ZP .nilIface (Qu (ZP .nilIface (ZP (.bool false) (ZP (.bool false) (ZP (Pp b) (ZP (.bool false) (ZP (.bool false) (Fs ?_))))))))))))
 refine ZD [] (Zj 20 (by omega)) h ?_;rintro v_ L_ w ⟨rb,vl0,vt,L0,hL0,rfl,rfl⟩ h
 have hp0:PB 20 b z0 (L0.map RN.a) ((List.replicate 20 (0:Int)).set 0 1) 1:=by rw [hL0];exact hz0
 refine ZP (Pp rb) (Qm (ZP (Hg 0 0) ?_))
 refine G0 rfl (fun b=>.slice (some ⟨b,0,none⟩) 1 1) [Ii 0,Ii 0] 34 (fun _=>by kernel_rfl) h ?_;intro k1 w h
 refine ZP (.agg #[.slice (some ⟨k1,0,none⟩) 1 1]) (ZN [.slice (some ⟨k1,0,none⟩) 1 1] 37 h fun k2 w h=>ZP (Pp k2) (Qn (Aa (Aa ?_))))
 have h:Own w0 E [Bx true k2 [.slice (some ⟨k1,0,none⟩) 1 1] 37,Bf true (.slice (some ⟨k1,0,none⟩) 1 1) 34 2 hdC [((0,0):Hdl)],Rt rb 20 vl0 vt,Bf true vt 3 1 inC ((List.replicate 20 (0:Int)).set 0 1),rRL vl0 L0,rPT 20 z0,A5 B ad,Ke v 6 Nk acts] w:=Own.cellRowI (x:=((0,0):Hdl)) (k:=2) (enc:=hdC) (i:=1) rfl rfl h
 refine Ah (ZP (Ii 0) (Qn (Ar ?_)))
 refine ZL (X:=Nat×PZ×List RN×List Int×Value×Value×List Hdl×(Nat→Value)) [(40,59)] (fun ⟨i0,z,L,ts,vl,hv,hs,J0⟩=>[(8,Ii i0)]) (fun ⟨i0,z,L,ts,vl,hv,hs,J0⟩=>J0) (fun ⟨i0,z,L,ts,vl,hv,hs,J0⟩=>[Bx true k2 [hv] 37,Bf true hv 34 2 hdC hs,Rt rb 20 vl vt,Bf true vt 3 1 inC ts,rRL vl L,rPT 20 z,A5 B ad,Ke v 6 Nk acts]) (fun ⟨i0,z,L,ts,vl,hv,hs,J0⟩=>i0≤acts.length∧hs.length≤i0+1∧PB 20 b z (L.map RN.a) ts (3*(i0:Int)+1)∧Ck (L.map RN.a)) (fun ⟨i0,z,L,ts,vl,hv,hs,J0⟩=>acts.length - i0) (fun j=>⟨0,z0,L0,((List.replicate 20 (0:Int)).set 0 1),vl0,(.slice (some ⟨k1,0,none⟩) 1 1),[((0,0):Hdl)],j⟩) ⟨by omega,by simp,hp0,by rw [hL0];exact fun M hM=>by rw [List.mem_singleton.1 hM];rfl⟩ [0,0,0,0,0,0,0,0] h ?_
 rintro ⟨i0,z,L,ts,vl,hv,hs,J0⟩ w hG h
 obtain ⟨hi0,hhs,hp1,hex⟩:i0≤acts.length∧hs.length≤i0+1∧PB 20 b z (L.map RN.a) ts (3*(i0:Int)+1)∧Ck (L.map RN.a):=hG
 refine Qt (ZP (Ii i0) (ZP v (ZG h (U2 39 (by kernel_rfl) 7 rfl) (ZP (.bool (decide ((i0:Int)<(acts.length:Int)))) (Qn (Zd ((i0:Int)<(acts.length:Int)) (fun hc3=>?_) fun hc3=>?_))))))
 refine Kn (Aa (Ar (Qs (ZP v (ZP (Ii i0) ?_)))))
 have hi4:i0<acts.length:=by omega
 obtain ⟨x5,hx6⟩:∃ x,acts[i0]?=some x:=⟨_,List.getElem?_eq_getElem hi4⟩
 obtain ⟨ho1,ho2,ho3⟩:=hacts x5 (List.mem_of_getElem? hx6)
 have hsm:=hsz x5 (List.mem_of_getElem? hx6)
 have hsm:x5.2.2.2.1.size≤100000∧x5.2.2.2.2.1.size≤100000:=⟨by have:=hsm.1;omega,by have:=hsm.2;omega⟩
 refine ZG h (Ry 39 i0 (by kernel_rfl) hi4 7 rfl) (ZP (Pt (Df v) (B1 v+i0*6)) (ZG h (Gr (B1 v+i0*6) (.string x5.1) 7 rfl (Abi hx6 (by kernel_rfl))) (ZG h (A1 (v:=.bool !(x5.1.toList==(⟨#[112,105,110]⟩:ByteArray).toList)) (v':=.bool (!(decide (x5.1=(⟨#[112,105,110]⟩:ByteArray))))) (Ax fun _=>by kernel_rfl) Adx) (Qn (Zi (!(decide (x5.1=(⟨#[112,105,110]⟩:ByteArray)))) (fun hc7=>?_) fun hc7=>?_)))))
 have q8:(decide (x5.1=(⟨#[112,105,110]⟩:ByteArray)))=false:=by simpa using hc7
 have q8:=dcF q8
 have hnp:¬x5.1=(⟨#[112,105,110]⟩:ByteArray):=by assumption
 refine Ah (ZP (Pp b) (ZP (Pp rb) (ZP (Pp k2) (ZP v (ZP (Ii i0) (ZG h (Ry 39 i0 (by kernel_rfl) hi4 7 rfl) (ZG h (Gra (B1 v+i0*6) [.string x5.1,Ii x5.2.1,Ii x5.2.2.1,.string x5.2.2.2.1,.string x5.2.2.2.2.1,Ii x5.2.2.2.2.2.1] 7 rfl (Abi hx6 (by kernel_rfl))) ?_)))))))
 refine ZD [5,5,2,2,2,0,0] (Aeu ad 20 b rb k2 z L ts (3*(i0:Int)+1) hp1 vl vt hv hs (by omega) (by omega) x5.1 x5.2.1 x5.2.2.1 x5.2.2.2.1 x5.2.2.2.2.1 x5.2.2.2.2.2.1 hsm.1 hsm.2 ho3) h ?_;rintro v_ L_ w ⟨zz9,LL10,tt11,vv12,hv13,hh14,ee15,hp16,hl17,he18,hn19,rfl,rfl⟩ h
 refine Ct ?_
 refine B9 (Af ?_)
 refine Ah (ZP (Ii i0) (ZG h (A1 (v:=Ii (IntKind.i64.wrap ((i0:Int)+1))) (v':=Ii ((i0+1:Nat):Int)) (Ax fun _=>by kernel_rfl) (wr (by omega))) (ZP (Ii ((i0+1:Nat):Int)) (Ct ?_))))
 have hQ20:((i0+1)≤acts.length∧hh14.length≤(i0+1)+1∧PB 20 b zz9 (LL10.map RN.a) tt11 (3*((i0+1):Int)+1)∧Ck (LL10.map RN.a))∧(acts.length - (i0+1))<(acts.length - i0):=⟨⟨by omega,by omega,hp16.more (by omega) (by omega),(hn19 hnp hex)⟩,by omega⟩
 refine Bo (fun j=>⟨(i0+1),zz9,LL10,tt11,vv12,hv13,hh14,j⟩) hQ20 (by kernel_rfl) [5,5,2,2,2,0,0,0] (by kernel_rfl) h
 have q21:(decide (x5.1=(⟨#[112,105,110]⟩:ByteArray)))=true:=by simpa using hc7
 have q21:=dcT q21
 refine Bz ?_
 refine B9 (Af ?_)
 refine Ah (ZP (Ii i0) (ZG h (A1 (v:=Ii (IntKind.i64.wrap ((i0:Int)+1))) (v':=Ii ((i0+1:Nat):Int)) (Ax fun _=>by kernel_rfl) (wr (by omega))) (ZP (Ii ((i0+1:Nat):Int)) (Ct ?_))))
 have hQ22:((i0+1)≤acts.length∧hs.length≤(i0+1)+1∧PB 20 b z (L.map RN.a) ts (3*((i0+1):Int)+1)∧Ck (L.map RN.a))∧(acts.length - (i0+1))<(acts.length - i0):=⟨⟨by omega,by omega,hp1.more (by omega) (by omega),hex⟩,by omega⟩
 refine Bo (fun j=>⟨(i0+1),z,L,ts,vl,hv,hs,j⟩) hQ22 (by kernel_rfl) [0,0,0,0,0,0,0,0] (by kernel_rfl) h
 refine Dk (Eh (E8 (Ev (Af (Qs (ZP (Pp b) (ZP (Pp b) (ZC [5] (Acp hp1) h fun w h=>?_))))))))
 refine ZD [0,5] (U0 ad hp1) h ?_;rintro v_ L_ w ⟨va,ba,hbc,hbl,rfl,rfl⟩ h
 refine ZP (.tuple #[va,.bool true]) (ZP va (ZP (.bool true) (ZP va (ZP (.bool true) (Qu (ZP (.bool true) (ZP (.bool false) (Fs (ZP (Ii 1) (Qu (ZP (Ii 0) (Qn (Ar ?_)))))))))))))
 refine ZL (X:=Nat×Nat×(Nat→Value)) [(2,2),(12,16),(69,128)] (fun ⟨k0,m0,J1⟩=>[(10,Ii ((m0:Nat):Int)),(11,Ii k0)]) (fun ⟨k0,m0,J1⟩=>J1) (fun ⟨k0,m0,J1⟩=>[rPT 20 z,A5 B ad,Bf true va 34 2 hdC ba,Bx true k2 [hv] 37,Bf true hv 34 2 hdC hs,Rt rb 20 vl vt,Bf true vt 3 1 inC ts,rRL vl L,Ke v 6 Nk acts]) (fun ⟨k0,m0,J1⟩=>Dst ba k0 m0∧m0≤k0+1) (fun ⟨k0,m0,J1⟩=>ba.length - k0) (fun j=>⟨0,1,j⟩) ⟨Aci ba,by omega⟩ [0,0,0,0,0,0,0,0,0] h ?_
 rintro ⟨k0,m0,J1⟩ w hG h
 obtain ⟨hD,hm0⟩:Dst ba k0 m0∧m0≤k0+1:=hG
 have hk0:k0≤ba.length:=hD.1
 refine Qt (ZP (Ii k0) (ZP va (ZG h (M4 (by kernel_rfl) 2 rfl) (ZP (.bool (decide ((k0:Int)<(ba.length:Int)))) (Qn (Zd ((k0:Int)<(ba.length:Int)) (fun hc23=>?_) fun hc23=>?_))))))
 refine Kn (Aa (Ar (Qs (ZP (Ii 0) (Qm (ZP (.bool true) (Qu (ZP (Ii 0) (Qn (Ar ?_))))))))))
 have hko:k0<ba.length:=by omega
 obtain ⟨xo,hxo⟩:∃ x,ba[k0]?=some x:=⟨_,List.getElem?_eq_getElem hko⟩
 refine ZL (X:=Nat×Nat×Bool×(Nat→Value)) [(75,94)] (fun ⟨j0,n0,f0,J2⟩=>[(12,Ii ((n0:Nat):Int)),(13,.bool f0),(14,Ii j0)]) (fun ⟨j0,n0,f0,J2⟩=>J2) (fun ⟨j0,n0,f0,J2⟩=>[rPT 20 z,A5 B ad,Bf true va 34 2 hdC ba,Bx true k2 [hv] 37,Bf true hv 34 2 hdC hs,Rt rb 20 vl vt,Bf true vt 3 1 inC ts,rRL vl L,Ke v 6 Nk acts]) (fun ⟨j0,n0,f0,J2⟩=>Fst ba xo k0 j0 n0 f0∧n0≤j0) (fun ⟨j0,n0,f0,J2⟩=>ba.length - j0) (fun j=>⟨0,0,true,j⟩) ⟨Aa8 ba xo k0,by omega⟩ [0,0,0,0,0,0,0,0,0] h ?_
 rintro ⟨j0,n0,f0,J2⟩ w hG h
 obtain ⟨hF,hn0⟩:Fst ba xo k0 j0 n0 f0∧n0≤j0:=hG
 have hj0:j0≤ba.length:=hF.1
 refine Qt (ZP (Ii j0) (ZP va (ZG h (M4 (by kernel_rfl) 2 rfl) (ZP (.bool (decide ((j0:Int)<(ba.length:Int)))) (Qn (Zd ((j0:Int)<(ba.length:Int)) (fun hc24=>?_) fun hc24=>?_))))))
 refine Kn (Aa (Ar (Aa (Ds 9 [2] h fun w h=>Dp 0 242 va [2] h (Dp 1 241 (Ii j0) [2] h ?_)))))
 have hi25:j0<ba.length:=by omega
 obtain ⟨x26,hx27⟩:∃ x,ba[j0]?=some x:=⟨_,List.getElem?_eq_getElem hi25⟩
 refine Dq (v:=Pt (Df va) (B1 va+j0*2)) 2 243 [2] rfl h (I3 j0 (by kernel_rfl) hi25 0 rfl) (Dq 3 247 [2] rfl h (Gra (B1 va+j0*2) [Ii x26.1,Ii x26.2] 0 rfl (Lk Lw hx27 (by kernel_rfl))) (Dp 4 47 va [2] h (Dp 5 31 (Ii k0) [2] h (Dq (v:=Pt (Df va) (B1 va+k0*2)) 6 63 [2] rfl h (I3 k0 (by kernel_rfl) hko 0 rfl) (Dq 7 127 [2] rfl h (Gra (B1 va+k0*2) [Ii xo.1,Ii xo.2] 0 rfl (Lk Lw hxo (by kernel_rfl))) (Dq (v:=.bool ((decide (x26.1=xo.1))&&(decide (x26.2=xo.2)))) 8 255 [2] rfl h (Fr (n1:=x26.1) (g1:=x26.2) (n2:=xo.1) (g2:=xo.2) (by kernel_rfl)) (Dd (Af (Zh (x26.1=xo.1) (x26.2=xo.2) (fun hc28 q29 q30=>?_) fun hc28 q34=>?_)))))))))
 refine Qs (ZP (Ii ((n0:Nat):Int)) (ZG h (A1 (v:=Ii (IntKind.i64.wrap (((n0:Nat):Int)+1))) (v':=Ii ((n0+1:Nat):Int)) (Ax fun _=>by kernel_rfl) (wr (by omega))) (ZP (Ii ((n0+1:Nat):Int)) (Qm (ZP (Ii j0) (ZP (Ii k0) (ZP (.bool (decide ((j0:Int)<(k0:Int)))) (Qn (Zd ((j0:Int)<(k0:Int)) (fun hc31=>?_) fun hc31=>?_)))))))))
 refine Ah (ZP (.bool false) (Ct ?_))
 refine B9 (Af ?_)
 refine Ah (ZP (Ii j0) (ZG h (A1 (v:=Ii (IntKind.i64.wrap ((j0:Int)+1))) (v':=Ii ((j0+1:Nat):Int)) (Ax fun _=>by kernel_rfl) (wr (by omega))) (ZP (Ii ((j0+1:Nat):Int)) (Ct ?_))))
 have hQi:=Wn hF hx27 (Prod.ext (by assumption) (by assumption))
 rw [if_pos (by omega)] at hQi
 have hQ32:(Fst ba xo k0 (j0+1) (n0+1) false∧(n0+1)≤(j0+1))∧(ba.length - (j0+1))<(ba.length - j0):=⟨⟨hQi,by omega⟩,by omega⟩
 refine Bo (fun j=>⟨(j0+1),(n0+1),false,j⟩) hQ32 (by kernel_rfl) [0,0,0,0,0,0,0,0,0] (by kernel_rfl) h
 refine Bz ?_
 refine B9 (Af ?_)
 refine Ah (ZP (Ii j0) (ZG h (A1 (v:=Ii (IntKind.i64.wrap ((j0:Int)+1))) (v':=Ii ((j0+1:Nat):Int)) (Ax fun _=>by kernel_rfl) (wr (by omega))) (ZP (Ii ((j0+1:Nat):Int)) (Ct ?_))))
 have hQi:=Wn hF hx27 (Prod.ext (by assumption) (by assumption))
 rw [if_neg (by omega)] at hQi
 have hQ33:(Fst ba xo k0 (j0+1) (n0+1) f0∧(n0+1)≤(j0+1))∧(ba.length - (j0+1))<(ba.length - j0):=⟨⟨hQi,by omega⟩,by omega⟩
 refine Bo (fun j=>⟨(j0+1),(n0+1),f0,j⟩) hQ33 (by kernel_rfl) [0,0,0,0,0,0,0,0,0] (by kernel_rfl) h
 refine Bz ?_
 refine B9 (Af ?_)
 refine Ah (ZP (Ii j0) (ZG h (A1 (v:=Ii (IntKind.i64.wrap ((j0:Int)+1))) (v':=Ii ((j0+1:Nat):Int)) (Ax fun _=>by kernel_rfl) (wr (by omega))) (ZP (Ii ((j0+1:Nat):Int)) (Ct ?_))))
 have hQi:=Afj hF hx27 (fun e=>(by assumption:¬(x26.1=xo.1∧x26.2=xo.2)) ⟨congrArg Prod.fst e,congrArg Prod.snd e⟩)
 have hQ35:(Fst ba xo k0 (j0+1) n0 f0∧n0≤(j0+1))∧(ba.length - (j0+1))<(ba.length - j0):=⟨⟨hQi,by omega⟩,by omega⟩
 refine Bo (fun j=>⟨(j0+1),n0,f0,j⟩) hQ35 (by kernel_rfl) [0,0,0,0,0,0,0,0,0] (by kernel_rfl) h
 refine Dk (Eh (E8 (Ev (Af (Qs (ZP (Pp b) (ZP va (ZP (Ii k0) (ZG h (I3 k0 (by kernel_rfl) hko 2 rfl) (ZG h (Gra (B1 va+k0*2) [Ii xo.1,Ii xo.2] 2 rfl (Lk Lw hxo (by kernel_rfl))) ?_))))))))))
 obtain ⟨hn9,hf9⟩:=Adz hF (by omega) (by omega)
 rw [hbc] at hn9
 refine ZD [0,0] (Aem ad hp1 (by rw [← hbc];exact List.count_pos_iff.2 (List.mem_of_getElem? hxo))) h ?_;rintro v_ L_ w (⟨ga,gb,gc,gd,rfl,rfl⟩|⟨ga,gb,gc,gd,ge,hl136,rfl,rfl⟩) h
 refine ZP (.tuple #[.agg #[Ii 1,Ii ga,Ii ((A7 (L.map RN.a) xo:Nat):Int),Ii gb,Ii gc,Ii gd],.nilIface]) (ZP (.agg #[Ii 1,Ii ga,Ii ((A7 (L.map RN.a) xo:Nat):Int),Ii gb,Ii gc,Ii gd]) (ZP .nilIface (ZN [Ii 0,Ii 0,Ii 0,Ii 0,Ii 0,Ii 0] 46 h fun k37 w h=>ZSs [Ii 1,Ii ga,Ii ((A7 (L.map RN.a) xo:Nat):Int),Ii gb,Ii gc,Ii gd] 0 rfl h fun w h=>ZP .nilIface (Qu (ZP .nilIface (ZP (.bool false) (ZP (.bool false) (ZP (Pp k37) (ZG h (Gl 0 (Ii 1) 0) (ZP (.bool true) (ZP (.bool true) (ZP (Pt k37 2) (ZG h (Gl 2 (Ii ((A7 (L.map RN.a) xo:Nat):Int)) 0) (ZP (Ii ((n0:Nat):Int)) ?_))))))))))))))
 obtain ⟨b38,hb38⟩:=nmB (!(decide (((A7 (L.map RN.a) xo:Nat):Int)=((n0:Nat):Int))))
 refine ZB hb38 ?_
 rcases Bool.eq_false_or_eq_true b38 with hc39|hc39
 subst hc39
 have q40:=hb38.symm
 have q41:(decide (((A7 (L.map RN.a) xo:Nat):Int)=((n0:Nat):Int)))=false:=by simpa using q40
 have q41:=dcF q41
 exfalso;omega
 subst hc39
 have q42:=hb38.symm
 have q43:(decide (((A7 (L.map RN.a) xo:Nat):Int)=((n0:Nat):Int)))=true:=by simpa using q42
 have q43:=dcT q43
 refine ZP (.bool false) (ZP (.bool false) (ZP (.bool false) (ZP (Pp k37) (ZG h (Gl 0 (Ii 1) 0) (ZP (.bool false) (ZP (.bool false) (Zx (Zx (ZP (.bool false) (ZP (.bool false) (Fs (ZP (.bool f0) (Qn (Zi (f0) (fun hc44=>?_) fun hc44=>?_))))))))))))))
 refine Ah (ZP (Ii ((m0:Nat):Int)) (ZG h (A1 (v:=Ii (IntKind.i64.wrap (((m0:Nat):Int)+1))) (v':=Ii ((m0+1:Nat):Int)) (Ax fun _=>by kernel_rfl) (wr (by omega))) (ZP (Ii ((m0+1:Nat):Int)) (Ct ?_))))
 refine B9 (Af ?_)
 refine Ah (ZP (Ii k0) (ZG h (A1 (v:=Ii (IntKind.i64.wrap ((k0:Int)+1))) (v':=Ii ((k0+1:Nat):Int)) (Ax fun _=>by kernel_rfl) (wr (by omega))) (ZP (Ii ((k0+1:Nat):Int)) (Ct ?_))))
 have hQd:=Xh hD hxo (hf9.1 hc44)
 have hQ45:(Dst ba (k0+1) (m0+1)∧(m0+1)≤(k0+1)+1)∧(ba.length - (k0+1))<(ba.length - k0):=⟨⟨hQd,by omega⟩,by omega⟩
 refine Bo (fun j=>⟨(k0+1),(m0+1),j⟩) hQ45 (by kernel_rfl) [1,1,1,1,1,1,1,1,1] (by kernel_rfl) h
 refine Bz ?_
 refine B9 (Af ?_)
 refine Ah (ZP (Ii k0) (ZG h (A1 (v:=Ii (IntKind.i64.wrap ((k0:Int)+1))) (v':=Ii ((k0+1:Nat):Int)) (Ax fun _=>by kernel_rfl) (wr (by omega))) (ZP (Ii ((k0+1:Nat):Int)) (Ct ?_))))
 have hQd:=W3 hD hxo (Classical.byContradiction fun q=>by have:=hf9.2 q;rw [hc44] at this;cases this)
 have hQ46:(Dst ba (k0+1) m0∧m0≤(k0+1)+1)∧(ba.length - (k0+1))<(ba.length - k0):=⟨⟨hQd,by omega⟩,by omega⟩
 refine Bo (fun j=>⟨(k0+1),m0,j⟩) hQ46 (by kernel_rfl) [1,1,1,1,1,1,1,1,1] (by kernel_rfl) h
 refine ZP (.tuple #[.agg #[Ii 2,Ii ga,Ii gb,Ii gc,Ii gd,Ii ge],.nilIface]) (ZP (.agg #[Ii 2,Ii ga,Ii gb,Ii gc,Ii gd,Ii ge]) (ZP .nilIface (ZN [Ii 0,Ii 0,Ii 0,Ii 0,Ii 0,Ii 0] 46 h fun k47 w h=>ZSs [Ii 2,Ii ga,Ii gb,Ii gc,Ii gd,Ii ge] 0 rfl h fun w h=>ZP .nilIface (Qu (ZP .nilIface (ZP (.bool false) (ZP (.bool false) (ZP (Pp k47) (ZG h (Gl 0 (Ii 2) 0) (ZP (.bool false) (ZP (.bool false) (Zx (Zx (Zx (Zx (ZP (.bool false) (ZP (.bool false) (ZP (.bool false) (ZP (Pp k47) (ZG h (Gl 0 (Ii 2) 0) (ZP (.bool true) (ZP (.bool true) (ZP (Ii ((n0:Nat):Int)) ?_)))))))))))))))))))))))
 obtain ⟨b48,hb48⟩:=nmB (!(decide (((n0:Nat):Int)=1)))
 refine ZB hb48 ?_
 rcases Bool.eq_false_or_eq_true b48 with hc49|hc49
 subst hc49
 have q50:=hb48.symm
 have q51:(decide (((n0:Nat):Int)=1))=false:=by simpa using q50
 have q51:=dcF q51
 exfalso;omega
 subst hc49
 have q52:=hb48.symm
 have q53:(decide (((n0:Nat):Int)=1))=true:=by simpa using q52
 have q53:=dcT q53
 refine ZP (.bool false) (ZP (.bool false) (Fs (ZP (.bool f0) (Qn (Zi (f0) (fun hc54=>?_) fun hc54=>?_)))))
 refine Ah (ZP (Ii ((m0:Nat):Int)) (ZG h (A1 (v:=Ii (IntKind.i64.wrap (((m0:Nat):Int)+1))) (v':=Ii ((m0+1:Nat):Int)) (Ax fun _=>by kernel_rfl) (wr (by omega))) (ZP (Ii ((m0+1:Nat):Int)) (Ct ?_))))
 refine B9 (Af ?_)
 refine Ah (ZP (Ii k0) (ZG h (A1 (v:=Ii (IntKind.i64.wrap ((k0:Int)+1))) (v':=Ii ((k0+1:Nat):Int)) (Ax fun _=>by kernel_rfl) (wr (by omega))) (ZP (Ii ((k0+1:Nat):Int)) (Ct ?_))))
 have hQd:=Xh hD hxo (hf9.1 hc54)
 have hQ55:(Dst ba (k0+1) (m0+1)∧(m0+1)≤(k0+1)+1)∧(ba.length - (k0+1))<(ba.length - k0):=⟨⟨hQd,by omega⟩,by omega⟩
 refine Bo (fun j=>⟨(k0+1),(m0+1),j⟩) hQ55 (by kernel_rfl) [1,1,1,1,1,1,1,1,1] (by kernel_rfl) h
 refine Bz ?_
 refine B9 (Af ?_)
 refine Ah (ZP (Ii k0) (ZG h (A1 (v:=Ii (IntKind.i64.wrap ((k0:Int)+1))) (v':=Ii ((k0+1:Nat):Int)) (Ax fun _=>by kernel_rfl) (wr (by omega))) (ZP (Ii ((k0+1:Nat):Int)) (Ct ?_))))
 have hQd:=W3 hD hxo (Classical.byContradiction fun q=>by have:=hf9.2 q;rw [hc54] at this;cases this)
 have hQ56:(Dst ba (k0+1) m0∧m0≤(k0+1)+1)∧(ba.length - (k0+1))<(ba.length - k0):=⟨⟨hQd,by omega⟩,by omega⟩
 refine Bo (fun j=>⟨(k0+1),m0,j⟩) hQ56 (by kernel_rfl) [1,1,1,1,1,1,1,1,1] (by kernel_rfl) h
 refine Dk (Eh (E8 (Ev (Af (Qs (ZP (Ii ((m0:Nat):Int)) (ZP (Pp b) (ZC [0] (Xi hp1) h fun w h=>ZP (.bool (decide (((m0:Nat):Int)=((L.map RN.a).length:Int)))) (ZP (.bool (decide (((m0:Nat):Int)=((L.map RN.a).length:Int)))) (Qr (ZR [.bool (decide (((m0:Nat):Int)=((L.map RN.a).length:Int)))] [8,1] h ?_)))))))))))
 have hm9:=Adq hD (by omega) hp1.s.ti.base.nod (by obtain ⟨M,hM,h1,_⟩:=hp1.s.ti.base.root;exact List.mem_map.2 ⟨M,hM,h1⟩) (Yk hp1.s.ti hex hbc)
 refine ⟨?_,rfl⟩
 show Value.bool _=_
 rw [hm9];simp
theorem Pi (ad:Nat→Addr) (a0:Option Addr) (cap:Nat) (acts:List Uu) (w:World) (he:EnvA w.heap.size ad w) (hs:(Sh.slice Abg).At w w.heap.size (a0,cap,acts)) (hz:(Sh.slice Abg).Sz (a0,cap,acts)) :
    Calls Tryz.prog 3 #[.slice a0 acts.length cap] w fun e w'=>e=.returned (.bool true)∧Chg Nil w w':=by
  have hok:∀ x∈acts,Wp x:=fun x hx=>by
    obtain ⟨i,hi,rfl⟩:=List.mem_iff_getElem.1 hx
    obtain ⟨⟨_,_,_,_,_,q6,_⟩,_⟩:=hs.2.2 i acts[i] (List.getElem?_eq_getElem hi)
    obtain ⟨_,_,_,r4,r5,_⟩:=hz.2 i acts[i] (List.getElem?_eq_getElem hi)
    exact ⟨r4,r5,q6⟩
  refine ((Oj (B:=w.heap.size) ad (.slice a0 acts.length cap) acts hok).reads (w:=w) rfl ?_).mono ?_
  · intro r hr
    simp only [List.mem_cons,List.mem_nil_iff,or_false] at hr
    rcases hr with rfl|rfl
    · exact X4 hs
    · exact he
  · rintro e w' ⟨u,L',⟨rfl,_⟩,he,hc'⟩
    exact ⟨he,hc'⟩
end Go.Proofs.YtpojpkhpddnmjaaGreatDoor
namespace Go.Proofs.YtpojpkhpddnmjaaGreatDoor.treeSoundDone
open Go.ChangeShapes Go.WideShapes Go.ChangeAt Go.RowKit Go.ChangeMaps
set_option linter.unusedVariables false
set_option linter.unusedSimpArgs false
theorem own:ownKnob Tryz.prog.godebug=none:=by kernel_rfl
theorem Aav:laidOutB Tryz.prog=true:=by kernel_rfl
theorem known:∀ c∈[2,3,4,5,6,7,8,9,10,11],Sb c:=by
  intro c hc
  simp only [List.mem_cons,List.mem_nil_iff,or_false] at hc
  rcases hc with rfl|rfl|rfl|rfl|rfl|rfl|rfl|rfl|rfl|rfl<;>exact ⟨by kernel_rfl,by kernel_rfl⟩
theorem env {W:World} (h:laidMetH Tryz.prog Rows.treeSoundRow.laid W):∃ ad,Env W.heap.size ad [2,3,4,5,6,7,8,9,10,11] W:=by
  have h':laidMet Tryz.prog (Nz [2,3,4,5,6,7,8,9,10,11]) W:=h
  obtain ⟨ad,he,_⟩:=Uo h' known
  exact ⟨ad,he⟩
set_option maxRecDepth 100000 in
theorem Afc (os:Os) (started:os.Started) (H:Type) (enc:TypeId×Value→H) :
    ReturnsInHanded {} Tryz.checked os 3 .any (fun w args=>(Rows.treeSoundSpec.pre enc Tryz.prog Tryz.f3 Rows.treeSoundRow.domain false w args∧laidMetH Tryz.prog Rows.treeSoundRow.laid w)∧sizedMet enc Tryz.prog Tryz.f3 (OpenSpec.ofChange Rows.treeSoundSpec) false w args)
      (Rows.treeSoundSpec.post enc Tryz.prog Tryz.f3 false true false false):=by
  refine returnsInHanded_of_change_and (C:=Tryz.checked) (X:=fun w _=>laidMetH Tryz.prog Rows.treeSoundRow.laid w) (fun _ _ _ hh h=>h.of_heap hh) own started (by kernel_rfl) Tryz.func3
    (ChangeSpec.witness_shaped (enc:=enc) (C:=Tryz.checked) (os:=os) (X:=fun w _=>laidMetH Tryz.prog Rows.treeSoundRow.laid w) false (World.laidAll Tryz.prog os Rows.treeSoundRow.laid) #[.slice none 0 0] 8 (World.laidAll_os _ _ _)
      (World.shaped_of_ZipB (by kernel_rfl) (by kernel_rfl)) (by kernel_rfl) (by kernel_rfl) (by kernel_rfl) (show laidMet Tryz.prog Rows.treeSoundRow.laid _ from laidMet_laidAll _ (by kernel_rfl) (by kernel_rfl))) ?_
  intro W base args ds gs before hval0 hW _ hsz hL _
  have hval:∀ (j:Nat) t v,Tryz.f3.params[j]?=some t→args[j]?=some v→Value.okWide Tryz.prog W .any base t v:=hval0
  have hW':=hW
  obtain ⟨p,q,hA0,hV,rfl,hfz,hnd⟩:=hW
  have hA:DataW.TrodAll enc Tryz.prog W 0 (fun _=>true) true Tryz.f3.params.toList args.toList ds p:=hA0
  rw [Tryz.params3] at hA hval
  obtain ⟨v0,vs0,e0,ds0,pl0,q0,hargs,rfl,rfl,h0,r0⟩:=trodAll_cons hA
  obtain ⟨rfl,rfl,rfl⟩:=trodAll_nil r0
  obtain rfl:args=#[v0]:=by cases args;simp_all
  obtain ⟨rfl,rfl⟩:=trodVars_none hV
  have lt0:∀ x∈pl0,x.block<W.heap.size:=by obtain ⟨m,hm⟩:=h0;exact DataW.trod_lt m _ _ _ hm
  obtain ⟨d0,rfl,t0,zz0⟩:=Sh.open_val2 12 22 (Sh.slice Abg) (by kernel_rfl) (hval 0 22 v0 rfl rfl) h0
  have z0:=zz0 (Sh.weights_le hsz (j:=0) (by rw [Tryz.params3];rfl) rfl)
  obtain ⟨p0,c0,l0⟩:=d0
  clear hA0 hval0
  obtain ⟨ad,he⟩:=env hL
  show Calls Tryz.prog 3 #[.slice p0 l0.length c0] W _
  refine (Pi ad p0 c0 l0 W he t0 z0).mono fun e W' ⟨he,hc⟩=>?_
  subst he
  have bel:Below W.heap.size W W':=hc.below (Nat.le_refl _) (fun _ _ f=>f.elim)
  exact ⟨_,rfl,_,_,_,[],_,[],hW',trodAll_mk1 (shut_bool Tryz.underlying4 _),(trodAll_cons_mk (Below.trod Aav (by kernel_rfl) (of_decide_eq_true (by kernel_rfl)) h0 bel lt0) trodAll_mk0),rfl,bel.frame _,fun h=>by cases h⟩
theorem band {a b:Bool} (h:a=true) (k:b=true):(a&&b)=true:=by rw [h,k];rfl
set_option maxHeartbeats 0 in
theorem Aeg:joinedFacts Tryz.pinned.checked.prog 3 Tryz.f3 Rows.treeSoundSpec Rows.treeSoundRow=true:=by
  unfold joinedFacts
  repeat' (with_reducible refine band ?_ ?_)
  all_goals (as_aux_lemma=>kernel_rfl)
theorem said:Rows.TreeSoundSaid:=
  OpenClaim.holds_of_wide 3 Tryz.f3 rfl rfl rfl rfl rfl rfl rfl ⟨rfl,rfl,rfl,rfl,rfl⟩ rfl rfl rfl rfl rfl (by as_aux_lemma=>kernel_rfl) Tryz.func3 Aeg
    (of_decide_eq_true (by kernel_rfl)) (by unfold Func.isWrapper;first|(rw [if_pos (by decide +kernel)];kernel_rfl)|(rw [if_neg (by decide +kernel)];exact ⟨rfl,rfl⟩))
    (fun os started H enc _=>Afc os started H enc)
theorem plain (f : FuncId) (fn : Func) (hf : Tryz.pinned.checked.prog.funcNamed "pigeonholes/pigeonholeslaw1.TreeSound" = some f) (hfn : Tryz.pinned.checked.prog.funcs[f]? = some fn) :
    true=Tryz.pinned.checked.prog.looks []∧∀ (j:Nat) t,fn.params[j]?=some t→Tryz.pinned.checked.prog.wantsStandIn t=false:=by
  obtain rfl : f = 3 := Option.some.inj ((show Tryz.prog.funcNamed "pigeonholes/pigeonholeslaw1.TreeSound" = some 3 by kernel_rfl).symm.trans hf) |>.symm
  obtain rfl:fn=Tryz.f3:=(Option.some.inj (Tryz.func3.symm.trans hfn)).symm
  refine ⟨by kernel_rfl,fun j t ht=>?_⟩
  rw [Tryz.params3] at ht
  have hm:t=22:=by simpa using Array.mem_of_getElem? ht
  subst hm
  exact (show Tryz.prog.wantsStandIn 22=false by kernel_rfl)
set_option maxHeartbeats 0 in
theorem card:Rows.TreeSoundCardSaid:=
  Claim7.holds_tied_plain_at .later [] _ _ _ _ said (fun _ h=>by cases h) (by as_aux_lemma=>kernel_rfl) (fun _ h=>by cases h) treeSound_row_tie (by as_aux_lemma=>rfl) (by as_aux_lemma=>exact ⟨rfl,rfl⟩) (by as_aux_lemma=>kernel_rfl) (by as_aux_lemma=>rfl) plain (by as_aux_lemma=>kernel_rfl)
#print axioms card
end Go.Proofs.YtpojpkhpddnmjaaGreatDoor.treeSoundDone
