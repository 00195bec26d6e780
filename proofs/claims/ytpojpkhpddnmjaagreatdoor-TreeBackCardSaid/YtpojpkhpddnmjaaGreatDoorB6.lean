/- The law is kept: whatever the input, it returns true, and what it is handed stays. No condition. -/
import Derived.Test.YtpojpkhpddnmjaaGreatDoorB5
import Derived.Test.YtpojpkhpddnmjaaGreatDoorRows
import Derived.ProofKit
import Derived.Lay
import Derived.SevenTiedAt
import Derived.ChangeOld
import Derived.Test.YtpojpkhpddnmjaaGreatDoorCards
import Derived.Test.YtpojpkhpddnmjaaGreatDoorTie
import Derived.OpenShut
import Derived.ChangeMaps5
set_option linter.all false
set_option maxRecDepth 100000
set_option maxHeartbeats 20000000
namespace Go.Proofs.YtpojpkhpddnmjaaGreatDoor
open Go.RowKit
theorem Z2 {B:Nat} (ad:Nat→Addr) (c:Nat) (code:Int) (w:World) (he:J3 B ad w) (hc:c≤15) (hcode:¬(c:Int)=code) :
    Calls Tryz.prog 18 #[Af ad c,.int .i64 code] w fun e w'=>e=.returned (.bool false)∧Chg Nil w w':=by
  by_cases h0:c=0
  · subst h0
    have hb:((0:Int)==code)=false:=by simp;omega
    rw [Kv]
    clear hcode
    go_enter Tryz.func18,Tryz.ntmps18
    go_wp2_with fail
    refine (Un _).mono ?_
    rintro e w1 ⟨rfl,rfl⟩
    go_wp2_with fail
    go_ret
    exact ⟨rfl,Chg.refl _ _⟩
  · have hb:((c:Int)==code)=false:=by simp;omega
    have HE:=Lib.hid he
    rw [Pv h0]
    clear hcode he
    go_enter Tryz.func18,Tryz.ntmps18
    go_wp2_with fail
    refine (Vj ad c w HE.out (by omega) hc).mono ?_
    rintro e w1 ⟨rfl,hc1⟩
    go_wp2_with fail
    go_ret
    exact ⟨rfl,hc1⟩
theorem M9 {B:Nat} (ad:Nat→Addr) (c:Nat) (code:Int) (hc:c≤15):Ap Tryz.prog 18 #[Af ad c,.int .i64 code] [A5 B ad] fun u L=>((c:Int)=code∧u=.bool true∧L=[A5 B ad])∨(¬(c:Int)=code∧u=.bool false∧L=[A5 B ad]):=fun E w0 w ho=>by
  by_cases h:(c:Int)=code
  · exact (Zn ad c code w (ho.fact 0 rfl) hc h).mono fun e w' ⟨he,hc'⟩=>⟨_,_,.inl ⟨h,rfl,rfl⟩,he,ho.quiet hc'⟩
  · exact (Z2 ad c code w (ho.fact 0 rfl) hc h).mono fun e w' ⟨he,hc'⟩=>⟨_,_,.inr ⟨h,rfl,rfl⟩,he,ho.quiet hc'⟩
def hdC (x:Hdl):List Value:=[Ii x.1,Ii x.2]
theorem Aem (x:Hdl):(hdC x).length=2:=rfl
theorem Ys (b most:Nat) (vl vt:Value) (ts:List Int) (L:List RN) (c:Int) (hc:c≤900000) (hok:Dl (L.map RN.a) c) (ti:TI most ts (L.map RN.a)) (n g m f:Int) (old nm:ByteArray) (hoz:old.size≤100000) (hnz:nm.size≤100000):Ap Tryz.prog 37 #[Pp b,Hg n g,.string old,Hg m f,.string nm] [Rt b most vl vt,rRL vl L] fun u L'=>∃ (v':Value) (L2:List RN),L2.map RN.a=(tRename (L.map RN.a) (n,g) old (m,f) nm).2∧u=Ii (((tRename (L.map RN.a) (n,g) old (m,f) nm).1:Nat):Int)∧L'=[Rt b most v' vt,rRL v' L2]:=by
  obtain ⟨rk,hrk⟩:=ti.climbEnds
  by_cases h:((n,g):Hdl)=(m,f)
  · obtain ⟨rfl,rfl⟩:=Prod.mk.inj h
    exact Wn b most vl vt L c hc hok n g old nm hoz hnz rk hrk
  · exact V8 b most vl vt L c hc hok n g m f h old nm hoz hnz rk hrk
theorem N8 (hb:Nat) (hv:Value) (hs:List Hdl) (hsl:hs.length≤1000) (np:Int)  : Ap Tryz.prog 16 #[Pp hb,Ii np] [Bw true hb [hv] 37,Bg true hv 34 2 hdC hs] (fun u L=>∃ x:Hdl,u=Hg x.1 x.2∧L=[Bw true hb [hv] 37,Bg true hv 34 2 hdC hs]):=by
 refine Zo 23 Tryz.func16 fun E w0 w h=>?_
 refine Qs (ZN [Ii 0,Ii 0] 34 h fun k1 w h=>Qu (ZP (Ii np) ?_))
 obtain ⟨b2,hb2⟩:=nmB (decide (np≥0))
 refine ZB hb2 (ZP (.bool b2) (ZM1 (v:=Ii np) b2 h (fun hB=>by subst hB;exact Gp (Ii np)) (ZM1 (v:=Pp hb) b2 h (fun hB=>by subst hB;exact Gp (Pp hb)) (ZM1 (v:=Pp hb) b2 h (fun hB=>by subst hB;exact Gp (Pp hb)) (ZM1 (v:=Pp hb) b2 h (fun hB=>by subst hB;exact Gp (Pp hb)) (ZM1 (v:=hv) b2 h (fun hB=>by subst hB;exact Gl 0 (hv) 1) (ZM1 (v:=Ii (hs.length:Int)) b2 h (fun hB=>by subst hB;exact No (by kernel_rfl) 2 rfl) ?_)))))))
 obtain ⟨b3,hb3⟩:=nmB (decide (np<(hs.length:Int)))
 refine ZM1 (v:=.bool b3) b2 h (fun hB=>by subst hB;exact by subst hb3;exact A3 (v:=.bool (decide (np<(hs.length:Int)))) fun _=>by kernel_rfl) ?_
 obtain ⟨b4,hb4⟩:=nmB (b2&&b3)
 refine ZBc b2 hb4 (Qn (Zi (b4) (fun hc5=>?_) fun hc5=>?_))
 have q6:=hb4.symm.trans hc5
 have q7:=aL q6
 have q8:=aR q6
 have q9:=hb2.symm.trans q7
 have q9:=dcT q9
 have q10:=hb3.symm.trans q8
 have q10:=dcT q10
 refine Qs (ZP (Pp hb) (ZP (Pp hb) (ZP (Pp hb) (ZG h (Gl 0 (hv) 1) (ZP (Ii np) ?_)))))
 obtain ⟨j11,hj11⟩:∃ n:Nat,np=(n:Int):=⟨(np).toNat,by omega⟩
 have hi12:j11<hs.length:=by omega
 obtain ⟨x13,hx14⟩:∃ x,hs[j11]?=some x:=⟨_,List.getElem?_eq_getElem hi12⟩
 refine ZG h (Agi j11 hj11 (by kernel_rfl) hi12 2 rfl) (ZG h (Gra (B6 hv+j11*2) [Ii x13.1,Ii x13.2] 2 rfl (M4 Aem hx14 (by kernel_rfl))) (ZSs [Ii x13.1,Ii x13.2] 0 rfl h fun w h=>Qr (Ar ?_)))
 refine Ca [Hg x13.1 x13.2] [1,1] h (by kernel_rfl) (D4 0 [Ii x13.1,Ii x13.2] (Hg x13.1 x13.2) 0 rfl (by kernel_rfl) D0) ?_
 exact ⟨(x13.1,x13.2),rfl,rfl⟩
 have q15:=hb4.symm.trans hc5
 have q16:(¬(np≥0)∨¬(np<(hs.length:Int))):=by subst hb3;subst hb2;revert q15;first|(simp;done)|(simp;omega)
 refine Ks (ZP (Ii np) (ZP (Hg np 1) (ZSs [Ii np,Ii 1] 0 rfl h fun w h=>Qr ?_)))
 refine Ca [Hg np 1] [1,1] h (by kernel_rfl) (D4 0 [Ii np,Ii 1] (Hg np 1) 0 rfl (by kernel_rfl) D0) ?_
 exact ⟨(np,1),rfl,rfl⟩
theorem Ae2 {B:Nat} (ad:Nat→Addr) (most b rb hb:Nat) (z:PZ) (L:List RN) (ts:List Int) (c:Int) (hp:PB most b z (L.map RN.a) ts c) (vl vt hv:Value) (hs:List Hdl) (hsl:hs.length≤1000) (hc:c+3≤900) (ak:ByteArray) (aA aB:Int) (anm atx:ByteArray) (aN:Int) (hanm:anm.size≤100000) (hatx:atx.size≤100000) (haN:-9223372036854775808≤aN∧aN≤9223372036854775807)  : Ap Tryz.prog 11 #[Pp b,Pp rb,Pp hb,.agg #[.string ak,Ii aA,Ii aB,.string anm,.string atx,Ii aN]] [rPT most z,A5 B ad,Rt rb most vl vt,Bg true vt 3 1 inC ts,rRL vl L,Bw true hb [hv] 37,Bg true hv 34 2 hdC hs] (fun u L'=>∃ (z':PZ) (L2:List RN) (ts':List Int) (vl' hv':Value) (hs':List Hdl) (e:Nat),PB most b z' (L2.map RN.a) ts' (c+3)∧hs'.length≤hs.length+1∧e≤15∧(¬ak=(⟨#[112,105,110]⟩:ByteArray)→Cy (L.map RN.a)→Cy (L2.map RN.a))∧u=.tuple #[Af ad e,Ii e]∧L'=[rPT most z',A5 B ad,Rt rb most vl' vt,Bg true vt 3 1 inC ts',rRL vl' L2,Bw true hb [hv'] 37,Bg true hv' 34 2 hdC hs']):=by
 have hok:=hp.s.ti.rtok hp.s.m3 hp.s.cnt
 have htx0:=hp.s.ti.base.txt
 have hcc0:=hp.s.c0
 have htmr:∀ x∈ts,0≤x∧x≤1000000:=fun x hx=>by have:=hp.s.tmr x hx;omega
 refine Zo 152 Tryz.func11 fun E w0 w h=>?_
 refine Qs (ZN [.string ak,Ii aA,Ii aB,.string anm,.string atx,Ii aN] 39 h fun k1 w h=>ZP .nilIface (ZP (Ii 0) (Qm (ZP (Pp hb) (ZP (Pt k1 1) (ZG h (Gl 1 (Ii aA) 0) ?_))))))
 refine ZD [6,6] (N8 hb hv hs hsl aA) h ?_;rintro v_ L_ w ⟨xh2,rfl,rfl⟩ h
 refine ZN [Ii 0,Ii 0] 34 h fun k3 w h=>ZSs [Ii xh2.1,Ii xh2.2] 0 rfl h fun w h=>Qm (ZP (Pp hb) (ZP (Pt k1 2) (ZG h (Gl 2 (Ii aB) 3) ?_)))
 refine ZD [1,1] (N8 hb hv hs hsl aB) h ?_;rintro v_ L_ w ⟨xh4,rfl,rfl⟩ h
 refine ZN [Ii 0,Ii 0] 34 h fun k5 w h=>ZSs [Ii xh4.1,Ii xh4.2] 0 rfl h fun w h=>Qu (ZP (Pp k1) (ZG h (Gl 0 (.string ak) 4) (Qn (Au (Qs (ZG h (A6 (v:=.bool (ak.toList==(⟨#[99,114,101,97,116,101]⟩:ByteArray).toList)) (v':=.bool (decide (ak=(⟨#[99,114,101,97,116,101]⟩:ByteArray)))) (A3 fun _=>by kernel_rfl) Qa) (ZP (.bool (decide (ak=(⟨#[99,114,101,97,116,101]⟩:ByteArray)))) (Qn (Zd (ak=(⟨#[99,114,101,97,116,101]⟩:ByteArray)) (fun hc6=>?_) fun hc6=>?_)))))))))
 refine Qs (ZP (Pp b) (ZG h (Gla 0 [Ii xh2.1,Ii xh2.2] 3) (ZP (Pt k1 3) (ZG h (Gl 3 (.string anm) 4) (ZP (Pt k1 5) (ZG h (Gl 5 (Ii aN) 4) ?_))))))
 refine ZD [5,5] (Va ad hp xh2.1 xh2.2 anm hanm aN (by omega)) h ?_;rintro v_ L_ w (⟨ec7,hTc8,rfl,rfl⟩|⟨z9,kc10,hTc8,hz11,rfl,rfl⟩) h
 refine ZP (.tuple #[Hg 0 0,Af ad (ec7+1)]) (ZP (Hg 0 0) (ZP (Af ad (ec7+1)) (ZN [Ii 0,Ii 0] 34 h fun k12 w h=>ZSs [Ii 0,Ii 0] 0 rfl h fun w h=>ZP (Af ad (ec7+1)) (Qm (ZP (Pp rb) (ZG h (Gla 0 [Ii xh2.1,Ii xh2.2] 6) (ZP (Pt k1 3) (ZG h (Gl 3 (.string anm) 7) (ZP (Pt k1 5) (ZG h (Gl 5 (Ii aN) 7) ?_))))))))))
 refine ZD [8,8,8] (Mr rb most vl vt ts L c (by omega) hok hp.s.hlen htmr hp.s.m3 xh2.1 xh2.2 anm aN hanm) h ?_;rintro v_ L_ w (⟨ed13,hTd14,rfl,rfl⟩|⟨kd15,v16,Lq17,hTd14,hLq18,rfl,rfl⟩) h
 have hcc_:ec7+1=ed13:=(Prod.mk.inj (hTc8.symm.trans hTd14)).2
 subst hcc_
 refine ZP (.tuple #[Hg 0 0,Ii ((ec7+1:Nat):Int)]) (ZP (Hg 0 0) (ZP (Ii ((ec7+1:Nat):Int)) (ZN [Ii 0,Ii 0] 34 h fun k19 w h=>ZSs [Ii 0,Ii 0] 0 rfl h fun w h=>ZP (Ii ((ec7+1:Nat):Int)) (Qu (ZG h (Gla 0 [Ii 0,Ii 0] 4) (ZG h (Gla 0 [Ii 0,Ii 0] 0) (ZG h (A6 (v:=.bool (!((decide ((0:Int)=0))&&(decide ((0:Int)=0))))) (v':=.bool false) (Eu (n1:=0) (g1:=0) (n2:=0) (g2:=0) (by kernel_rfl)) (by rfl)) (Ft (ZP (Ii ((ec7+1:Nat):Int)) (ZP (.bool (decide (((ec7+1:Nat):Int)=0))) (Qn (Zd (((ec7+1:Nat):Int)=0) (fun hc20=>?_) fun hc20=>?_))))))))))))
 exfalso;omega
 exact Ks (ZP (Af ad (ec7+1)) (ZP (Ii ((ec7+1:Nat):Int)) (ZP (Af ad (ec7+1)) (ZP (Ii ((ec7+1:Nat):Int)) (Qr (Cd (Ar (ZR [Af ad (ec7+1),Ii ((ec7+1:Nat):Int)] [5,5,1,1,1,3,3] h ⟨z,L,ts,vl,hv,hs,ec7+1,hp.more (by omega) (by omega),by simp,by have:=Zv (most:=most) (A:=L.map RN.a) (h:=(xh2.1,xh2.2)) (nm:=anm) (kind:=aN);rw [hTc8] at this;exact this,(fun _ q=>q),rfl,rfl⟩))))))))
 rw [hTc8] at hTd14;cases hTd14
 refine ZP (.tuple #[Hg kc10 (Ax ts kc10),.nilIface]) (ZP (Hg kc10 (Ax ts kc10)) (ZP .nilIface (ZN [Ii 0,Ii 0] 34 h fun k21 w h=>ZSs [Ii kc10,Ii (Ax ts kc10)] 0 rfl h fun w h=>ZP .nilIface (Qm (ZP (Pp rb) (ZG h (Gla 0 [Ii xh2.1,Ii xh2.2] 6) (ZP (Pt k1 3) (ZG h (Gl 3 (.string anm) 7) (ZP (Pt k1 5) (ZG h (Gl 5 (Ii aN) 7) ?_))))))))))
 refine ZD [8,8,8] (Mr rb most vl vt ts L c (by omega) hok hp.s.hlen htmr hp.s.m3 xh2.1 xh2.2 anm aN hanm) h ?_;rintro v_ L_ w (⟨ed22,hTd23,rfl,rfl⟩|⟨kd24,v25,Lq26,hTd23,hLq27,rfl,rfl⟩) h
 rw [hTc8] at hTd23;cases hTd23
 have hcc_:kc10=kd24:=Option.some.inj (Prod.mk.inj (hTc8.symm.trans hTd23)).1
 subst hcc_
 refine ZP (.tuple #[Hg kc10 (Ax ts kc10),Ii 0]) (ZP (Hg kc10 (Ax ts kc10)) (ZP (Ii 0) (ZN [Ii 0,Ii 0] 34 h fun k28 w h=>ZSs [Ii kc10,Ii (Ax ts kc10)] 0 rfl h fun w h=>ZP (Ii 0) (Qu (ZG h (Gla 0 [Ii kc10,Ii (Ax ts kc10)] 4) (ZG h (Gla 0 [Ii kc10,Ii (Ax ts kc10)] 0) (ZG h (Eu (n1:=(kc10:Int)) (g1:=Ax ts kc10) (n2:=(kc10:Int)) (g2:=Ax ts kc10) (by kernel_rfl)) (Qn (Zi (!((decide ((kc10:Int)=(kc10:Int)))&&(decide (Ax ts kc10=Ax ts kc10)))) (fun hc29=>?_) fun hc29=>?_)))))))))
 have q30:=nT hc29
 have q31:=ndA q30
 exfalso;revert hc29;simp
 have q32:=nF hc29
 have q33:=aL q32
 have q34:=aR q32
 have q33:=dcT q33
 have q34:=dcT q34
 refine Kw (ZP (Ii 0) (ZP (.bool true) (Qg (Aa (Ds 8 [0,7] h fun w h=>Dp 0 48 (Pp hb) [0,7] h (Dp 1 49 (Pp hb) [0,7] h (Dp 2 51 (Pp hb) [0,7] h (Dq 3 55 [0,7] rfl h (Gl 0 (hv) 1) (Dq 4 15 [0,7] rfl h (Gla 0 [Ii kc10,Ii (Ax ts kc10)] 0) ?_)))))))))
 refine A0 [5] (by kernel_rfl) rfl ?_
 refine Ck [1,8] rfl (by kernel_rfl) (fun b=>.slice (some ⟨b,0,none⟩) 1 1) [Ii kc10,Ii (Ax ts kc10)] 34 (fun _=>by kernel_rfl) h ?_ ?_
 intro k35 w h;refine ⟨by kernel_rfl,?_⟩
 refine A0 [6] (by kernel_rfl) rfl ?_
 refine Ac2 (b:=k35) (o:=0) [1,8] rfl (by kernel_rfl) 1 ((kc10:Int),Ax ts kc10) (by kernel_rfl) h 10 rfl 0 rfl (F4 0 (by kernel_rfl)) (by (try simp only [List.length_append,List.length_cons,List.length_nil,List.length_map]);omega) ?_ ?_
 intro v36 w h;refine ⟨by kernel_rfl,?_⟩
 refine Dp 7 127 v36 [1,8] h (Dd (Ag (Ah (ZP (Pp hb) (ZP v36 (ZP (Pp hb) (ZP (Pp hb) ?_)))))))
 refine Jn rfl (h.slv 10 rfl) 0 [v36] h 9 rfl (by kernel_rfl) ?_;intro w h
 exact Qm (ZP .nilIface (ZP (Ii 0) (ZP .nilIface (ZP (Ii 0) (Qr (Cd (Ar (ZR [.nilIface,Ii 0] [6,6,2,2,2,4,4] h ⟨z9,Lq26,ts.set kc10 (Ax ts kc10+1),v25,v36,(hs++[((kc10:Int),Ax ts kc10)]),0,by rw [hLq27];exact hz11,(by simp),by omega,(fun _ q=>by rw [hLq27];exact q.create _ _ _ _ _),rfl,rfl⟩))))))))
 exact Bb
 exact Bb
 refine Qs (ZG h (A6 (v:=.bool (ak.toList==(⟨#[108,105,110,107]⟩:ByteArray).toList)) (v':=.bool (decide (ak=(⟨#[108,105,110,107]⟩:ByteArray)))) (A3 fun _=>by kernel_rfl) Qa) (ZP (.bool (decide (ak=(⟨#[108,105,110,107]⟩:ByteArray)))) (Qn (Zd (ak=(⟨#[108,105,110,107]⟩:ByteArray)) (fun hc37=>?_) fun hc37=>?_))))
 refine Aa (Ds 14 [0,2,2] h fun w h=>Dp 0 2014 (Pp b) [0,2,2] h (Dq 1 2013 [0,2,2] rfl h (Gla 0 [Ii xh2.1,Ii xh2.2] 1) (Dq 2 2011 [0,2,2] rfl h (Gla 0 [Ii xh4.1,Ii xh4.2] 0) (Dp 3 1991 (Pt k1 3) [0,2,2] h (Dq 4 1999 [0,2,2] rfl h (Gl 3 (.string anm) 2) (Dp 6 1983 (Pp rb) [0,2,2] h (Dq 7 1919 [0,2,2] rfl h (Gla 0 [Ii xh2.1,Ii xh2.2] 1) (Dq 8 1791 [0,2,2] rfl h (Gla 0 [Ii xh4.1,Ii xh4.2] 0) (Dp 9 511 (Pt k1 3) [0,2,2] h (Dq 10 1023 [0,2,2] rfl h (Gl 3 (.string anm) 2) ?_))))))))))
 refine Ad 5 [5,5] [2,4,4] (Af7 ad hp xh2.1 xh2.2 xh4.1 xh4.2 anm hanm (by omega)) h ?_
 rintro v_ L_ w ⟨z38,hz39,rfl,rfl⟩ h
 refine ⟨by kernel_rfl,?_⟩
 refine Ad 11 [7,8] [4,6,6] (Wi rb (most:Int) vl vt L c (by omega) hok xh2.1 xh2.2 xh4.1 xh4.2 anm hanm) h ?_
 rintro v_ L_ w ⟨Lq41,hLq42,rfl,rfl⟩ h
 refine ⟨by kernel_rfl,?_⟩
 exact Dp 12 4095 (Af ad (Cz (L.map RN.a) (xh2.1,xh2.2) (xh4.1,xh4.2) anm)) [4,6,6] h (Dp 13 8191 (Ii ((Cz (L.map RN.a) (xh2.1,xh2.2) (xh4.1,xh4.2) anm:Nat):Int)) [4,6,6] h (Dd (Ag (Hu (Cd (Ar (ZR [Af ad (Cz (L.map RN.a) (xh2.1,xh2.2) (xh4.1,xh4.2) anm),Ii ((Cz (L.map RN.a) (xh2.1,xh2.2) (xh4.1,xh4.2) anm:Nat):Int)] [2,2,0,6,0,1,1] h ⟨z38,Lq41,ts,vl,hv,hs,(Cz (L.map RN.a) (xh2.1,xh2.2) (xh4.1,xh4.2) anm),by rw [hLq42];exact hz39,(by simp),Aet _ _ _ _,(fun _ q=>by rw [hLq42];split;exact q.link _ _ _;exact q),rfl,rfl⟩)))))))
 refine Qs (ZG h (A6 (v:=.bool (ak.toList==(⟨#[114,101,109,111,118,101]⟩:ByteArray).toList)) (v':=.bool (decide (ak=(⟨#[114,101,109,111,118,101]⟩:ByteArray)))) (A3 fun _=>by kernel_rfl) Qa) (ZP (.bool (decide (ak=(⟨#[114,101,109,111,118,101]⟩:ByteArray)))) (Qn (Zd (ak=(⟨#[114,101,109,111,118,101]⟩:ByteArray)) (fun hc43=>?_) fun hc43=>?_))))
 refine Aa (Ds 12 [3,3] h fun w h=>Dp 0 494 (Pp b) [3,3] h (Dq 1 493 [3,3] rfl h (Gla 0 [Ii xh2.1,Ii xh2.2] 0) (Dp 2 483 (Pt k1 3) [3,3] h (Dq 3 487 [3,3] rfl h (Gl 3 (.string anm) 1) (Dp 5 479 (Pp rb) [3,3] h (Dq 6 447 [3,3] rfl h (Gla 0 [Ii xh2.1,Ii xh2.2] 0) (Dp 7 127 (Pt k1 3) [3,3] h (Dq 8 255 [3,3] rfl h (Gl 3 (.string anm) 1) ?_))))))))
 refine Ad 4 [5,5] [5,5] (Abf ad hp xh2.1 xh2.2 anm hanm (by omega)) h ?_
 rintro v_ L_ w ⟨z44,hz45,rfl,rfl⟩ h
 refine ⟨by kernel_rfl,?_⟩
 refine Ad 9 [7,8] [7,7] (Su rb (most:Int) vl vt L c (by omega) hok xh2.1 xh2.2 anm hanm) h ?_
 rintro v_ L_ w ⟨v46,Lq47,hLq48,rfl,rfl⟩ h
 refine ⟨by kernel_rfl,?_⟩
 exact Dp 10 1023 (Af ad (Cb (L.map RN.a) (xh2.1,xh2.2) anm)) [7,7] h (Dp 11 2047 (Ii ((Cb (L.map RN.a) (xh2.1,xh2.2) anm:Nat):Int)) [7,7] h (Dd (Ag (Hu (Cd (Ar (ZR [Af ad (Cb (L.map RN.a) (xh2.1,xh2.2) anm),Ii ((Cb (L.map RN.a) (xh2.1,xh2.2) anm:Nat):Int)] [2,2,0,6,0,1,1] h ⟨z44,Lq47,ts,v46,hv,hs,(Cb (L.map RN.a) (xh2.1,xh2.2) anm),by rw [hLq48];exact hz45,(by simp),Aaf _ _ _,(fun _ q=>by rw [hLq48];split;exact q.remove _ _;exact q),rfl,rfl⟩)))))))
 refine Qs (ZG h (A6 (v:=.bool (ak.toList==(⟨#[114,101,110,97,109,101]⟩:ByteArray).toList)) (v':=.bool (decide (ak=(⟨#[114,101,110,97,109,101]⟩:ByteArray)))) (A3 fun _=>by kernel_rfl) Qa) (ZP (.bool (decide (ak=(⟨#[114,101,110,97,109,101]⟩:ByteArray)))) (Qn (Zd (ak=(⟨#[114,101,110,97,109,101]⟩:ByteArray)) (fun hc49=>?_) fun hc49=>?_))))
 refine Aa (Ds 18 [0,2,2] h fun w h=>Dp 0 32638 (Pp b) [0,2,2] h (Dq 1 32637 [0,2,2] rfl h (Gla 0 [Ii xh2.1,Ii xh2.2] 1) (Dp 2 32627 (Pt k1 3) [0,2,2] h (Dq 3 32631 [0,2,2] rfl h (Gl 3 (.string anm) 2) (Dq 4 32623 [0,2,2] rfl h (Gla 0 [Ii xh4.1,Ii xh4.2] 0) (Dp 5 32543 (Pt k1 4) [0,2,2] h (Dq 6 32575 [0,2,2] rfl h (Gl 4 (.string atx) 2) (Dp 8 32511 (Pp rb) [0,2,2] h (Dq 9 32255 [0,2,2] rfl h (Gla 0 [Ii xh2.1,Ii xh2.2] 1) (Dp 10 29695 (Pt k1 3) [0,2,2] h (Dq 11 30719 [0,2,2] rfl h (Gl 3 (.string anm) 2) (Dq 12 28671 [0,2,2] rfl h (Gla 0 [Ii xh4.1,Ii xh4.2] 0) (Dp 13 8191 (Pt k1 4) [0,2,2] h (Dq 14 16383 [0,2,2] rfl h (Gl 4 (.string atx) 2) ?_))))))))))))))
 refine Ad 7 [5,5] [2,4,4] (Ox ad hp xh2.1 xh2.2 xh4.1 xh4.2 anm atx hanm hatx (by omega)) h ?_
 rintro v_ L_ w ⟨z50,hz51,rfl,rfl⟩ h
 refine ⟨by kernel_rfl,?_⟩
 refine Ad 15 [7,8] [4,6,6] (Ys rb most vl vt ts L c (by omega) hok hp.s.ti xh2.1 xh2.2 xh4.1 xh4.2 anm atx hanm hatx) h ?_
 rintro v_ L_ w ⟨v52,Lq53,hLq54,rfl,rfl⟩ h
 refine ⟨by kernel_rfl,?_⟩
 exact Dp 16 65535 (Af ad ((tRename (L.map RN.a) (xh2.1,xh2.2) anm (xh4.1,xh4.2) atx).1)) [4,6,6] h (Dp 17 131071 (Ii (((tRename (L.map RN.a) (xh2.1,xh2.2) anm (xh4.1,xh4.2) atx).1:Nat):Int)) [4,6,6] h (Dd (Ag (Hu (Cd (Ar (ZR [Af ad ((tRename (L.map RN.a) (xh2.1,xh2.2) anm (xh4.1,xh4.2) atx).1),Ii (((tRename (L.map RN.a) (xh2.1,xh2.2) anm (xh4.1,xh4.2) atx).1:Nat):Int)] [2,2,0,6,0,1,1] h ⟨z50,Lq53,ts,v52,hv,hs,((tRename (L.map RN.a) (xh2.1,xh2.2) anm (xh4.1,xh4.2) atx).1),by rw [hLq54];exact hz51,(by simp),Z9 _ _ _ _ _,(fun _ q=>by rw [hLq54];exact q.rename _ _ _ _),rfl,rfl⟩)))))))
 refine Qs (ZG h (A6 (v:=.bool (ak.toList==(⟨#[119,114,105,116,101]⟩:ByteArray).toList)) (v':=.bool (decide (ak=(⟨#[119,114,105,116,101]⟩:ByteArray)))) (A3 fun _=>by kernel_rfl) Qa) (ZP (.bool (decide (ak=(⟨#[119,114,105,116,101]⟩:ByteArray)))) (Qn (Zd (ak=(⟨#[119,114,105,116,101]⟩:ByteArray)) (fun hc55=>?_) fun hc55=>?_))))
 refine Aa (Ds 16 [3,3] h fun w h=>Dp 0 8126 (Pp b) [3,3] h (Dq 1 8125 [3,3] rfl h (Gla 0 [Ii xh2.1,Ii xh2.2] 0) (Dp 2 8115 (Pt k1 5) [3,3] h (Dq 3 8119 [3,3] rfl h (Gl 5 (Ii aN) 1) (Dp 4 8079 (Pt k1 4) [3,3] h (Dq 5 8095 [3,3] rfl h (Gl 4 (.string atx) 1) (Dp 7 8063 (Pp rb) [3,3] h (Dq 8 7935 [3,3] rfl h (Gla 0 [Ii xh2.1,Ii xh2.2] 0) (Dp 9 6655 (Pt k1 5) [3,3] h (Dq 10 7167 [3,3] rfl h (Gl 5 (Ii aN) 1) (Dp 11 2047 (Pt k1 4) [3,3] h (Dq 12 4095 [3,3] rfl h (Gl 4 (.string atx) 1) ?_))))))))))))
 refine Ad 6 [5,5] [5,5] (Ae5 ad hp xh2.1 xh2.2 aN atx  (by omega)) h ?_
 rintro v_ L_ w ⟨z56,hz57,rfl,rfl⟩ h
 refine ⟨by kernel_rfl,?_⟩
 refine Ad 13 [7,8] [7,7] (Um rb (most:Int) vl vt L c (by omega) hok htx0 xh2.1 xh2.2 aN atx hatx haN) h ?_
 rintro v_ L_ w ⟨Lq59,hLq60,rfl,rfl⟩ h
 refine ⟨by kernel_rfl,?_⟩
 exact Dp 14 16383 (Af ad (El (L.map RN.a) (xh2.1,xh2.2) aN atx)) [7,7] h (Dp 15 32767 (Ii ((El (L.map RN.a) (xh2.1,xh2.2) aN atx:Nat):Int)) [7,7] h (Dd (Ag (Hu (Cd (Ar (ZR [Af ad (El (L.map RN.a) (xh2.1,xh2.2) aN atx),Ii ((El (L.map RN.a) (xh2.1,xh2.2) aN atx:Nat):Int)] [2,2,0,6,0,1,1] h ⟨z56,Lq59,ts,vl,hv,hs,(El (L.map RN.a) (xh2.1,xh2.2) aN atx),by rw [hLq60];exact hz57,(by simp),Adw _ _ _ _,(fun _ q=>by rw [hLq60];exact q.wr _ _ _),rfl,rfl⟩)))))))
 refine Qs (ZG h (A6 (v:=.bool (ak.toList==(⟨#[114,101,115,105,122,101]⟩:ByteArray).toList)) (v':=.bool (decide (ak=(⟨#[114,101,115,105,122,101]⟩:ByteArray)))) (A3 fun _=>by kernel_rfl) Qa) (ZP (.bool (decide (ak=(⟨#[114,101,115,105,122,101]⟩:ByteArray)))) (Qn (Zd (ak=(⟨#[114,101,115,105,122,101]⟩:ByteArray)) (fun hc61=>?_) fun hc61=>?_))))
 refine Aa (Ds 12 [3,3] h fun w h=>Dp 0 494 (Pp b) [3,3] h (Dq 1 493 [3,3] rfl h (Gla 0 [Ii xh2.1,Ii xh2.2] 0) (Dp 2 483 (Pt k1 5) [3,3] h (Dq 3 487 [3,3] rfl h (Gl 5 (Ii aN) 1) (Dp 5 479 (Pp rb) [3,3] h (Dq 6 447 [3,3] rfl h (Gla 0 [Ii xh2.1,Ii xh2.2] 0) (Dp 7 127 (Pt k1 5) [3,3] h (Dq 8 255 [3,3] rfl h (Gl 5 (Ii aN) 1) ?_))))))))
 refine Ad 4 [5,5] [5,5] (Acy ad hp xh2.1 xh2.2 aN  (by omega)) h ?_
 rintro v_ L_ w ⟨z62,hz63,rfl,rfl⟩ h
 refine ⟨by kernel_rfl,?_⟩
 refine Ad 9 [7,8] [7,7] (Si rb (most:Int) vl vt L c (by omega) hok htx0 xh2.1 xh2.2 aN haN) h ?_
 rintro v_ L_ w ⟨Lq65,hLq66,rfl,rfl⟩ h
 refine ⟨by kernel_rfl,?_⟩
 exact Dp 10 1023 (Af ad (Dy (L.map RN.a) (xh2.1,xh2.2) aN)) [7,7] h (Dp 11 2047 (Ii ((Dy (L.map RN.a) (xh2.1,xh2.2) aN:Nat):Int)) [7,7] h (Dd (Ag (Hu (Cd (Ar (ZR [Af ad (Dy (L.map RN.a) (xh2.1,xh2.2) aN),Ii ((Dy (L.map RN.a) (xh2.1,xh2.2) aN:Nat):Int)] [2,2,0,6,0,1,1] h ⟨z62,Lq65,ts,vl,hv,hs,(Dy (L.map RN.a) (xh2.1,xh2.2) aN),by rw [hLq66];exact hz63,(by simp),Yq _ _ _,(fun _ q=>by rw [hLq66];exact q.rz _ _),rfl,rfl⟩)))))))
 refine Qs (ZG h (A6 (v:=.bool (ak.toList==(⟨#[112,105,110]⟩:ByteArray).toList)) (v':=.bool (decide (ak=(⟨#[112,105,110]⟩:ByteArray)))) (A3 fun _=>by kernel_rfl) Qa) (ZP (.bool (decide (ak=(⟨#[112,105,110]⟩:ByteArray)))) (Qn (Zd (ak=(⟨#[112,105,110]⟩:ByteArray)) (fun hc67=>?_) fun hc67=>?_))))
 refine Aa (Ds 8 [3] h fun w h=>Dp 0 26 (Pp b) [3] h (Dq 1 25 [3] rfl h (Gla 0 [Ii xh2.1,Ii xh2.2] 0) (Dp 3 23 (Pp rb) [3] h (Dq 4 15 [3] rfl h (Gla 0 [Ii xh2.1,Ii xh2.2] 0) ?_))))
 refine Ad 2 [5,5] [5] (pin_b ad hp xh2.1 xh2.2  (by omega)) h ?_
 rintro v_ L_ w ⟨z68,hz69,rfl,rfl⟩ h
 refine ⟨by kernel_rfl,?_⟩
 refine Ad 5 [7,8] [7] (Aaa rb (most:Int) vl vt L c (by omega) hok xh2.1 xh2.2) h ?_
 rintro v_ L_ w ⟨Lq71,hLq72,rfl,rfl⟩ h
 refine ⟨by kernel_rfl,?_⟩
 exact Dp 6 63 (Af ad (Ei (L.map RN.a) (xh2.1,xh2.2))) [7] h (Dp 7 127 (Ii ((Ei (L.map RN.a) (xh2.1,xh2.2):Nat):Int)) [7] h (Dd (Ag (Hu (Cd (Ar (ZR [Af ad (Ei (L.map RN.a) (xh2.1,xh2.2)),Ii ((Ei (L.map RN.a) (xh2.1,xh2.2):Nat):Int)] [2,2,0,6,0,1,1] h ⟨z68,Lq71,ts,vl,hv,hs,(Ei (L.map RN.a) (xh2.1,xh2.2)),by rw [hLq72];exact hz69,(by simp),Ae9 _ _,(fun hk=>absurd hc67 hk),rfl,rfl⟩)))))))
 refine Qs (ZG h (A6 (v:=.bool (ak.toList==(⟨#[117,110,112,105,110]⟩:ByteArray).toList)) (v':=.bool (decide (ak=(⟨#[117,110,112,105,110]⟩:ByteArray)))) (A3 fun _=>by kernel_rfl) Qa) (ZP (.bool (decide (ak=(⟨#[117,110,112,105,110]⟩:ByteArray)))) (Qn (Zd (ak=(⟨#[117,110,112,105,110]⟩:ByteArray)) (fun hc73=>?_) fun hc73=>?_))))
 refine Aa (Ds 8 [3] h fun w h=>Dp 0 26 (Pp b) [3] h (Dq 1 25 [3] rfl h (Gla 0 [Ii xh2.1,Ii xh2.2] 0) (Dp 3 23 (Pp rb) [3] h (Dq 4 15 [3] rfl h (Gla 0 [Ii xh2.1,Ii xh2.2] 0) ?_))))
 refine Ad 2 [5,5] [5] (Ae4 ad hp xh2.1 xh2.2  (by omega)) h ?_
 rintro v_ L_ w ⟨z74,hz75,rfl,rfl⟩ h
 refine ⟨by kernel_rfl,?_⟩
 refine Ad 5 [7,8] [7] (Tx rb (most:Int) vl vt L c (by omega) hok xh2.1 xh2.2) h ?_
 rintro v_ L_ w ⟨v76,Lq77,hLq78,rfl,rfl⟩ h
 refine ⟨by kernel_rfl,?_⟩
 exact Dp 6 63 (Af ad (Cg (L.map RN.a) (xh2.1,xh2.2))) [7] h (Dp 7 127 (Ii ((Cg (L.map RN.a) (xh2.1,xh2.2):Nat):Int)) [7] h (Dd (Ag (Hu (Cd (Ar (ZR [Af ad (Cg (L.map RN.a) (xh2.1,xh2.2)),Ii ((Cg (L.map RN.a) (xh2.1,xh2.2):Nat):Int)] [2,2,0,6,0,1,1] h ⟨z74,Lq77,ts,v76,hv,hs,(Cg (L.map RN.a) (xh2.1,xh2.2)),by rw [hLq78];exact hz75,(by simp),Ab8 _ _,(fun _ q=>by rw [hLq78];exact q.unpin _),rfl,rfl⟩)))))))
 refine B4 ?_
 refine Cm (Ag ?_)
 exact Qs (ZP .nilIface (ZP (Ii 0) (Qr (ZR [.nilIface,Ii 0] [5,5,5,5,5,1,1] h ⟨z,L,ts,vl,hv,hs,0,hp.more (by omega) (by omega),by simp,by omega,(fun _ q=>q),rfl,rfl⟩))))
theorem Aan {A:List AN} (hf:∀ M∈A,M.es.length≤60) (h:Hdl) (p m:Int):(D9 A h p m).1.length≤1000:=by
  unfold D9
  split
  · simp
  · rename_i N hN
    have:=hf N (Ch hN).1
    split
    · split
      · simp
      · show ((N.es.drop p.toNat).take m.toNat).length≤1000
        rw [List.length_take,List.length_drop];omega
    · simp
theorem Wz (va vb:Value) (la:List Bh) (hla:la.length≤1000):Ap Tryz.prog 21 #[va,vb] [Bg true va 107 3 e3C la,Bg true vb 107 3 e3C la] fun u L'=>u=.bool true∧L'=[Bg true va 107 3 e3C la,Bg true vb 107 3 e3C la]:=
  (Y7 va vb la la hla).mono fun u L' h=>⟨by rw [h.1];simp,h.2⟩
def Adv:Sh:=.and .str (.and .int (.and .int (.and .str (.and .str (.and .int .unit)))))
abbrev Vv:=ByteArray×Int×Int×ByteArray×ByteArray×Int×Unit
def Qi (x:Vv):List Value:=[.string x.1,Ii x.2.1,Ii x.2.2.1,.string x.2.2.2.1,.string x.2.2.2.2.1,Ii x.2.2.2.2.2.1]
structure Xt (x:Vv):Prop where
  nm:x.2.2.2.1.size≤140737488355327
  tx:x.2.2.2.2.1.size≤140737488355327
  n:-9223372036854775808≤x.2.2.2.2.2.1∧x.2.2.2.2.2.1≤9223372036854775807
def Afk (x:Vv):Prop:=x.2.2.2.1.size≤3000∧x.2.2.2.2.1.size≤3000
theorem Aer {α:Type} {l:List α} {k:Nat} {x:α} (h:l[k]?=some x):k<l.length:=(List.getElem?_eq_some_iff.1 h).1
theorem Yn (v:Value) (acts:List Vv) (hacts:∀ x∈acts,Xt x)  : Ap Tryz.prog 8 #[v] [Lr v 6 Qi acts] (fun u L=>∃ bm:Bool,(bm=false→acts.length≤30∧∀ x∈acts,Afk x)∧u=.bool bm∧L=[Lr v 6 Qi acts]):=by
 refine Zo 30 Tryz.func8 fun E w0 w h=>?_
 refine Qs (ZP (.bool false) (Qu (ZP v (ZG h (Vp 39 (by kernel_rfl) 0 rfl) (ZP (.bool (decide ((acts.length:Int)>30))) (Qn (Zd ((acts.length:Int)>30) (fun hc1=>?_) fun hc1=>?_)))))))
 exact Qs (ZP (.bool true) (Qr (Ar (ZR [.bool true] [0] h ⟨true,fun h=>(by cases h),rfl,rfl⟩))))
 refine Ks (ZP (Ii 0) (Qu (ZP (Ii 0) (Qn (Au ?_)))))
 refine ZL (X:=Nat×Int×(Nat→Value)) [(8,28)] (fun ⟨k0,s0,J0⟩=>[(3,Ii s0),(4,Ii k0)]) (fun ⟨k0,s0,J0⟩=>J0) (fun ⟨k0,s0,J0⟩=>[Lr v 6 Qi acts]) (fun ⟨k0,s0,J0⟩=>k0≤acts.length∧0≤s0∧s0≤(k0:Int)*281474976710656∧∀ i x,i<k0→acts[i]?=some x→(x.2.2.2.1.size:Int)+x.2.2.2.2.1.size≤s0) (fun ⟨k0,s0,J0⟩=>acts.length - k0) (fun j=>⟨0,0,j⟩) ⟨by omega,by omega,by omega,fun i x h=>absurd h (by omega)⟩ [0] h ?_
 rintro ⟨k0,s0,J0⟩ w hG h
 obtain ⟨hk0,hs0,hs1,hno⟩:k0≤acts.length∧0≤s0∧s0≤(k0:Int)*281474976710656∧∀ i x,i<k0→acts[i]?=some x→(x.2.2.2.1.size:Int)+x.2.2.2.2.1.size≤s0:=hG
 refine Qt (ZP (Ii k0) (ZP v (ZG h (Vp 39 (by kernel_rfl) 0 rfl) (ZP (.bool (decide ((k0:Int)<(acts.length:Int)))) (Qn (Zd ((k0:Int)<(acts.length:Int)) (fun hc2=>?_) fun hc2=>?_))))))
 refine Kn (Aa (Au (Ds 16 [0] h fun w h=>Dp 0 16254 (Ii s0) [0] h (Dp 1 16133 v [0] h (Dp 2 16131 (Ii k0) [0] h ?_)))))
 have hi3:k0<acts.length:=by omega
 obtain ⟨x4,hx5⟩:∃ x,acts[k0]?=some x:=⟨_,List.getElem?_eq_getElem hi3⟩
 obtain ⟨ho1,ho2,ho3⟩:=hacts x4 (List.mem_of_getElem? hx5)
 refine Dq (v:=Pt (Dh v) (B6 v+k0*6)) 3 16135 [0] rfl h (Wl 39 k0 (by kernel_rfl) hi3 0 rfl) (Dp 4 16143 (Pt (Dh v) (B6 v+k0*6+3)) [0] h (Dq 5 16159 [0] rfl h (Gr (B6 v+k0*6+3) (.string x4.2.2.2.1) 0 rfl (Ab5 hx5 3 (by kernel_rfl))) (Dp 6 16191 (Ii (x4.2.2.2.1.size:Int)) [0] h (Dq 7 16255 [0] rfl h (Gw (s0+(x4.2.2.2.1.size:Int))) (Dp 8 767 v [0] h (Dp 9 511 (Ii k0) [0] h (Dq (v:=Pt (Dh v) (B6 v+k0*6)) 10 1023 [0] rfl h (Wl 39 k0 (by kernel_rfl) hi3 0 rfl) (Dp 11 2047 (Pt (Dh v) (B6 v+k0*6+4)) [0] h (Dq 12 4095 [0] rfl h (Gr (B6 v+k0*6+4) (.string x4.2.2.2.2.1) 0 rfl (Ab5 hx5 4 (by kernel_rfl))) (Dp 13 8191 (Ii (x4.2.2.2.2.1.size:Int)) [0] h (Dq 14 16383 [0] rfl h (Gw ((s0+(x4.2.2.2.1.size:Int))+(x4.2.2.2.2.1.size:Int))) (Dp 15 32767 (Ii ((s0+(x4.2.2.2.1.size:Int))+(x4.2.2.2.2.1.size:Int))) [0] h (Dd ?_)))))))))))))
 refine Cm (Ag ?_)
 refine Ah (ZP (Ii k0) (ZG h (A6 (v:=Ii (IntKind.i64.wrap ((k0:Int)+1))) (v':=Ii ((k0+1:Nat):Int)) (A3 fun _=>by kernel_rfl) (wr (by omega))) (ZP (Ii ((k0+1:Nat):Int)) (Dc ?_))))
 have hQ6:((k0+1)≤acts.length∧0≤((s0+(x4.2.2.2.1.size:Int))+(x4.2.2.2.2.1.size:Int))∧((s0+(x4.2.2.2.1.size:Int))+(x4.2.2.2.2.1.size:Int))≤((k0+1):Int)*281474976710656∧∀ i x,i<(k0+1)→acts[i]?=some x→(x.2.2.2.1.size:Int)+x.2.2.2.2.1.size≤((s0+(x4.2.2.2.1.size:Int))+(x4.2.2.2.2.1.size:Int)))∧(acts.length - (k0+1))<(acts.length - k0):=⟨⟨by omega,by omega,by omega,fun i x hi hx=>by
   by_cases e:i=k0
   · subst e;rw [hx5] at hx;cases hx;omega
   · have:=hno i x (by omega) hx;omega⟩,by omega⟩
 refine Bx (fun j=>⟨(k0+1),(s0+(x4.2.2.2.1.size:Int))+(x4.2.2.2.2.1.size:Int),j⟩) hQ6 (by kernel_rfl) [0] (by kernel_rfl) h
 refine Du (E0 (Fh (Fc (Ag (Qs (ZP (Ii s0) (ZP (.bool (decide (s0>3000))) (ZP (.bool (decide (s0>3000))) (Qr (ZR [.bool (decide (s0>3000))] [0] h ?_))))))))))
 refine ⟨_,fun hb=>?_,rfl,rfl⟩
 have hb2:=dcF hb
 exact ⟨by omega,fun x hx=>by
 obtain ⟨i,hi⟩:=List.getElem?_of_mem hx
 have:=hno i x (by have:=Aer hi;omega) hi
 constructor<;>omega⟩
theorem Nt:By 3 [C6 (0,0) 2] (0,0) ⟨#[97]⟩ 1=(some 1,0):=Ac6 (D:=C6 (0,0) 2) rfl rfl (by decide) (.inl rfl) rfl (by decide) (by decide)
theorem Tw {B:Nat} (ad:Nat→Addr)  : Ap Tryz.prog 7 #[] [A5 B ad] (fun u L=>u=.bool true∧L=[A5 B ad]):=by
 refine Zo 33 Tryz.func7 fun E w0 w h=>?_
 refine Qs (ZP (.bool false) (Qm ?_))
 refine ZD [0] (Abp ad 3 (by decide) (by decide)) h ?_;rintro v_ L_ w ⟨b0,z0,hz0,rfl,rfl⟩ h
 refine ZP (.tuple #[Pp b0,.nilIface]) (ZP (Pp b0) (ZP .nilIface (ZP (Pp b0) (ZP .nilIface (Qu (ZP .nilIface (ZP (.bool false) (ZP (.bool false) (ZP (Pp b0) (ZP (.bool false) (ZP (.bool false) (ZP (.bool false) (ZP (Pp b0) (ZC [0] (X5 hz0) h fun w h=>ZP (.bool false) (ZP (.bool false) (Fs (ZP (Pp b0) (ZP (Pp b0) (ZC [0] (Afx hz0) h fun w h=>?_)))))))))))))))))))
 refine ZD [0,0] (Va ad hz0 0 0 ⟨#[97]⟩ (by decide) 1 (by decide)) h ?_;rintro v_ L_ w (⟨_,hTr1,rfl,rfl⟩|⟨z1,k1,hTr2,hz1,rfl,rfl⟩) h
 rw [Nt] at hTr1;cases hTr1
 have hk1_:1=k1:=Option.some.inj (Prod.mk.inj (Nt.symm.trans hTr2)).1
 subst hk1_
 exact ZP (.tuple #[Hg 1 0,.nilIface]) (ZP (Hg 1 0) (ZP .nilIface (ZN [Ii 0,Ii 0] 34 h fun k3 w h=>ZSs [Ii 1,Ii 0] 0 rfl h fun w h=>ZP .nilIface (Qm (ZP .nilIface (ZP (.bool true) (ZP (.bool true) (ZG h (Gla 0 [Ii 1,Ii 0] 0) (ZP (Hg 1 0) (ZG h (A6 (v:=.bool (((decide ((1:Int)=1))&&(decide ((0:Int)=0))))) (v':=.bool true) (Fx (n1:=1) (g1:=0) (n2:=1) (g2:=0) (by kernel_rfl)) (by rfl)) (ZP (.bool true) (ZP (.bool true) (Qr (ZR [.bool true] [2] h ⟨rfl,rfl⟩))))))))))))))
theorem Afd {l r:List Bh} (hl:N5 l) (hr:N5 r) (h:∀ e,e∈l↔e∈r):l=r:=by
  have nd:∀ {l:List Bh},N5 l→l.Nodup:=fun {l} hl=>hl.imp fun {a b} q e=>by
    subst e;rw [Ki] at q;cases q
  refine List.Perm.eq_of_pairwise (fun a b _ _ h1 h2=>?_) hl hr ((List.perm_ext_iff_of_nodup (nd hl) (nd hr)).2 h)
  have:=O2 h1 h2
  rw [Ki] at this;cases this
def Mn (a:Hdl) (old:ByteArray) (b:Hdl) (nm:ByteArray) (x k:Hdl) (es:List Bh):List Bh:=
  let e1:=if k=a then es.filter fun y=>!decide (y.1=old) else es
  if k=b then Bi nm x e1 else e1
theorem St (A:List AN) (a:Hdl) (old:ByteArray) (b:Hdl) (nm:ByteArray) (x k:Hdl) {M:AN} (h:Bn A k=some M):∃ M',Bn (Ct A a old b nm x none) k=some M'∧M'.kind=M.kind∧M'.es=Mn a old b nm x k M.es:=by
  have h2:∃ M',Bn (Aw (Aj A a old) b nm x) k=some M'∧M'.kind=M.kind∧M'.es=Mn a old b nm x k M.es:=by
    unfold Aw Aj
    rw [Mg _ _ _ _ (by intro M;rfl),Mg _ _ _ _ (by intro M;rfl),h]
    refine ⟨_,rfl,?_,?_⟩
    · dsimp only;split<;>split<;>rfl
    · unfold Mn;dsimp only;split<;>split<;>rfl
  have ht:∀ {C:List AN} (d:Hdl),(∃ M',Bn C k=some M'∧M'.kind=M.kind∧M'.es=Mn a old b nm x k M.es)→∃ M',Bn (Ao C d) k=some M'∧M'.kind=M.kind∧M'.es=Mn a old b nm x k M.es:=fun {C} d ⟨M',q1,q2,q3⟩=>by
    unfold Ao
    rw [Mg _ _ _ _ (by intro M;rfl),q1]
    refine ⟨_,rfl,?_,?_⟩
    · dsimp only;split<;>exact q2
    · dsimp only;split<;>exact q3
  unfold Ct
  dsimp only
  split
  · exact ht _ h2
  · exact ht _ (ht _ h2)
theorem Afw (A:List AN) (a:Hdl) (old:ByteArray) (b:Hdl) (nm:ByteArray) (x:Hdl):(Ct A a old b nm x none).length=A.length:=by
  unfold Ct Ao Aw Aj Cv
  dsimp only
  split<;>simp
theorem Abx (A:List AN) (a:Hdl) (old:ByteArray) (b:Hdl) (nm:ByteArray) (x:Hdl):shp (Ct A a old b nm x none)=(shp A).map fun t=>(t.1,t.2.1,Mn a old b nm x t.1 t.2.2):=by
  have e:shp (Ct A a old b nm x none)=shp (Aw (Aj A a old) b nm x):=by
    unfold Ct;dsimp only
    split
    · rw [Bj]
    · rw [Bj,Bj]
  rw [e]
  unfold shp Aw Aj Cv Mn
  rw [List.map_map,List.map_map,List.map_map]
  refine List.map_congr_left fun M _=>?_
  simp only [Function.comp]
  by_cases h1:M.h=a<;>by_cases h2:M.h=b<;>simp [h1,h2,beq_iff_eq]<;>(try (subst h1;simp [h2]))<;>(try (subst h2;simp [h1]))
theorem Kr {nm:ByteArray} {x:Hdl} {es:List Bh} {e:Bh}:e∈Bi nm x es↔e=(nm,x)∨e∈es:=by
  rw [(Ej nm x es).mem_iff,List.mem_cons]
theorem O4 {α:Type} {p q:α→Bool}:∀ {l:List α},(∀ x∈l,p x=q x)→l.find? p=l.find? q
  | [],_=>rfl
  | y::l,h=>by rw [List.find?_cons,List.find?_cons,h y (by simp),O4 fun x hx=>h x (by simp [hx])]
theorem mv_up {A:List AN} {a:Hdl} {old:ByteArray} {b:Hdl} {nm:ByteArray} {x:Hdl} {F:AN} (hF:∀ M∈A,M.h=a→∀ e∈M.es,e.1=old→e.2=x) {d:Hdl} (hd:d≠x):upA (Ct A a old b nm x none) d=upA A d:=by
  rw [R6,R6,Abx,List.find?_map]
  have e:((shp A).find? ((fun t:Hdl×Int×List Bh=>t.2.2.any fun e=>e.2==d)∘fun t=>(t.1,t.2.1,Mn a old b nm x t.1 t.2.2)))=(shp A).find? fun t:Hdl×Int×List Bh=>t.2.2.any fun e=>e.2==d:=by
    refine O4 fun t ht=>?_
    obtain ⟨M,hM,rfl⟩:=List.mem_map.1 ht
    simp only [Function.comp]
    rw [Bool.eq_iff_iff,List.any_eq_true,List.any_eq_true]
    constructor
    · rintro ⟨e,he,q⟩
      rw [beq_iff_eq] at q
      refine ⟨e,?_,by simpa using q⟩
      unfold Mn at he;dsimp only at he
      have h1:e∈(if M.h=a then M.es.filter (fun y=>!decide (y.1=old)) else M.es):=by
        split at he
        · rcases Kr.1 he with rfl|he
          · exact absurd q.symm hd
          · exact he
        · exact he
      split at h1
      · exact (List.mem_filter.1 h1).1
      · exact h1
    · rintro ⟨e,he,q⟩
      rw [beq_iff_eq] at q
      refine ⟨e,?_,by simpa using q⟩
      unfold Mn;dsimp only
      have h1:e∈(if M.h=a then M.es.filter (fun y=>!decide (y.1=old)) else M.es):=by
        split
        · rename_i c
          refine List.mem_filter.2 ⟨he,?_⟩
          have:¬e.1=old:=fun q2=>hd (q.symm.trans (hF M hM c e he q2))
          simpa using this
        · exact he
      split
      · exact Kr.2 (.inr h1)
      · exact h1
  rw [e]
  cases (shp A).find? fun t:Hdl×Int×List Bh=>t.2.2.any fun e=>e.2==d<;>rfl
theorem X8 {es:List Bh} (hn:(es.map (·.1)).Nodup) {e:Bh} (he:e∈es):Dv es e.1=some e.2:=by
  obtain ⟨i,hi⟩:=List.getElem?_of_mem he
  exact Bp hn hi rfl
theorem Aef {es:List Bh} (h:N5 es):(es.map (·.1)).Nodup:=by
  refine List.pairwise_map.2 (h.imp fun {a b} q e=>?_)
  rw [e,Ki] at q;cases q
theorem Rr {A:List AN} {h:Hdl} {nm:ByteArray} {x:Hdl} (q:Av A h nm=(x,0)):∃ N,Bn A h=some N∧N.kind=2∧Ay nm∧Dv N.es nm=some x:=by
  unfold Av at q
  split at q
  · cases q
  · rename_i N hN
    split at q
    · rename_i hk
      by_cases hn:Ay nm
      · rw [Ba hn] at q
        simp only [if_true] at q
        split at q
        · rename_i y hy;cases q;exact ⟨N,hN,hk,hn,hy⟩
        · cases q
      · rw [Cr hn] at q;cases q
    · cases q
theorem Ze {A:List AN} {h:Hdl} {nm:ByteArray} (q:(Av A h nm).2=5):∃ N,Bn A h=some N∧N.kind=2∧Ay nm∧Dv N.es nm=none:=by
  unfold Av at q
  split at q
  · cases q
  · rename_i N hN
    split at q
    · rename_i hk
      by_cases hn:Ay nm
      · rw [Ba hn] at q
        simp only [if_true] at q
        split at q
        · cases q
        · rename_i hy;exact ⟨N,hN,hk,hn,hy⟩
      · rw [Cr hn] at q;cases q
    · cases q
section
variable {most:Nat} {ts:List Int} {A:List AN} (ti:TI most ts A) (hs:Srt A) {a b x:Hdl} {old nm:ByteArray} (h1:Av A a old=(x,0)) (h2:(Av A b nm).2=5) (h3:(tRename A a old b nm).1=0)
include ti hs h1 h2 h3
theorem Aay:Av (tRename A a old b nm).2 b nm=(x,0)∧(tRename A a old b nm).2.length=A.length∧(tRename (tRename A a old b nm).2 b nm a old).1=0∧D9 (tRename (tRename A a old b nm).2 b nm a old).2 a 0 60=D9 A a 0 60:=by
  obtain ⟨F,f1,f2,f3,f4⟩:=Rr h1
  obtain ⟨T,t1,t2,t3,t4⟩:=Ze h2
  obtain ⟨hFA,rfl⟩:=Ch f1
  obtain ⟨hTA,rfl⟩:=Ch t1
  obtain ⟨e,he,rfl,rfl⟩:=Gj f4
  have hb:=ti.base
  have hnod:=Ow hb.num
  obtain ⟨X,hXA,hX⟩:=hb.ent F hFA e he
  have x1:Bn A e.2=some X:=by rw [← hX];exact Cp hnod hXA
  by_cases hc:X.kind=2∧B5 A e.2 T.h
  · rw [Mf f1 f2 t1 t2 f3 t3 f4 x1 hc.1 hc.2] at h3;cases h3
  by_cases hfull:60≤T.es.length∧F.h≠T.h
  · rw [L5 f1 f2 t1 t2 f3 t3 f4 x1 hc t4 hfull] at h3;cases h3
  have eA:=Jb f1 f2 t1 t2 f3 t3 f4 x1 hc t4 hfull
  have hsA:=hs.rename hnod F.h e.1 T.h nm
  rw [eA] at hsA ⊢
  dsimp only at hsA ⊢
  clear h3 eA
  have hne:∀ {N:AN},Bn A T.h=some N→Bn A F.h=some N→nm≠e.1:=fun {N} q1 q2 q=>by
    rw [t1] at q1;rw [f1] at q2;cases q1;cases q2
    rw [q,f4] at t4;cases t4
  have hold:∀ M∈A,M.h=F.h→∀ y∈M.es,y.1=e.1→y=e:=fun M hM q y hy q2=>by
    have:M=F:=by
      have:=Cp hnod hM;rw [q,f1] at this;exact (Option.some.inj this).symm
    subst this
    have h4:=X8 (hb.nms M hM) hy
    rw [q2,f4] at h4
    exact Prod.ext q2 (Option.some.inj h4).symm
  obtain ⟨F1,g1,g2,g3⟩:=St A F.h e.1 T.h nm e.2 F.h f1
  obtain ⟨T1,u1,u2,u3⟩:=St A F.h e.1 T.h nm e.2 T.h t1
  obtain ⟨X1,w1,w2,w3⟩:=St A F.h e.1 T.h nm e.2 e.2 x1
  have hT1:(nm,e.2)∈T1.es:=by rw [u3];unfold Mn;dsimp only;rw [if_pos rfl];exact Kr.2 (.inl rfl)
  have sT1:N5 T1.es:=hsA T1 (Ch u1).1
  have sF1:N5 F1.es:=hsA F1 (Ch g1).1
  have y1:Dv T1.es nm=some e.2:=X8 (e:=(nm,e.2)) (Aef sT1) hT1
  have y2:Av (Ct A F.h e.1 T.h nm e.2 none) T.h nm=(e.2,0):=by
    unfold Av;rw [u1];dsimp only;rw [if_pos (u2.trans t2),Ba t3];rw [if_pos rfl,y1]
  have y3:∀ y∈F1.es,y.1≠e.1:=fun y hy q=>by
    rw [g3] at hy;unfold Mn at hy;dsimp only at hy
    rw [if_pos rfl] at hy
    have hf:∀ y∈F.es.filter (fun y=>!decide (y.1=e.1)),y.1≠e.1:=fun y hy=>by simpa using (List.mem_filter.1 hy).2
    split at hy
    · rename_i c
      rcases Kr.1 hy with rfl|hy
      · exact hne t1 (by rw [c];exact t1) q
      · exact hf y hy q
    · exact hf y hy q
  have y4:Dv F1.es e.1=none:=Fr y3
  have y5:¬(60≤F1.es.length∧T.h≠F.h):=fun ⟨q1,q2⟩=>by
    rw [g3] at q1;unfold Mn at q1;dsimp only at q1
    rw [if_neg (fun c=>q2 c.symm),if_pos rfl] at q1
    have hl:(F.es.filter (fun y=>!decide (y.1=e.1))).length<F.es.length:=by
      refine List.length_filter_lt_length_iff_exists.2 ⟨e,he,by simp⟩
    have:=hb.few F hFA
    omega
  obtain ⟨rk,hr⟩:=ti.rank
  have hcl:¬(X1.kind=2∧B5 (Ct A F.h e.1 T.h nm e.2 none) e.2 F.h):=fun ⟨q1,k,q2⟩=>by
    have xk:A9 A e.2=true:=by unfold A9;rw [x1];simpa using (w2▸q1:X.kind=2)
    have hrx:=hr F hFA e he xk
    have st:∀ k,itU (Ct A F.h e.1 T.h nm e.2 none) k F.h=itU A k F.h∧rk (itU A k F.h)≤rk F.h∧A9 A (itU A k F.h)=true:=fun k=>by
      induction k with
      | zero=>exact ⟨rfl,Nat.le_refl _,by show A9 A F.h=true;unfold A9;rw [f1];simpa using f2⟩
      | succ k ih=>
        obtain ⟨i1,i2,i3⟩:=ih
        have hd:itU A k F.h≠e.2:=fun q=>by rw [q] at i2;omega
        refine ⟨?_,?_,?_⟩
        · show upA _ (itU _ k F.h)=upA A (itU A k F.h)
          rw [i1]
          exact mv_up (F:=F) (fun M hM q y hy q2=>by rw [hold M hM q y hy q2]) hd
        · show rk (upA A (itU A k F.h))≤_
          rcases Ib A (itU A k F.h) with ⟨q,_⟩|⟨M,hM,y,hy,q,q3⟩
          · rw [q];exact i2
          · have:=hr M hM y hy (by rw [q];exact i3)
            rw [q3];rw [q] at this;omega
        · show A9 A (upA A (itU A k F.h))=true
          rcases Ib A (itU A k F.h) with ⟨q,_⟩|⟨M,hM,y,hy,q,q3⟩
          · rw [q];exact i3
          · rw [q3];unfold A9;rw [Cp hnod hM]
            rcases hb.kind M hM with c|c
            · rw [hb.file M hM c] at hy;cases hy
            · simpa using c
    obtain ⟨s1,s2,_⟩:=st k
    rw [s1] at q2;rw [q2] at s2;omega
  have eB:=Jb (a:=T.h) (b:=F.h) (old:=nm) (nm:=e.1) u1 (u2.trans t2) g1 (g2.trans f2) t3 f3 y1 w1 hcl y4 y5
  have hnB:((Ct A F.h e.1 T.h nm e.2 none).map (·.h)).Nodup:=by
    have:=congrArg (List.map fun t:Hdl×Int×List Bh=>t.1) (Abx A F.h e.1 T.h nm e.2)
    unfold shp at this
    rw [List.map_map,List.map_map,List.map_map] at this
    have e2:(Ct A F.h e.1 T.h nm e.2 none).map (·.h)=A.map (·.h):=this
    rw [e2];exact hnod
  have hsB:=hsA.rename hnB T.h nm F.h e.1
  rw [eB] at hsB ⊢
  dsimp only at hsB ⊢
  refine ⟨y2,Afw _ _ _ _ _ _,rfl,?_⟩
  obtain ⟨F2,z1,z2,z3⟩:=St (Ct A F.h e.1 T.h nm e.2 none) T.h nm F.h e.1 e.2 F.h g1
  have hes:F2.es=F.es:=by
    refine Afd (hsB F2 (Ch z1).1) (hs F hFA) fun y=>?_
    rw [z3,g3];unfold Mn;dsimp only
    rw [if_pos rfl,if_pos rfl,Kr]
    have hq:y∈F.es↔y=e∨y∈F.es.filter (fun y=>!decide (y.1=e.1)):=by
      rw [List.mem_filter]
      constructor
      · intro hy
        by_cases c:y.1=e.1
        · exact .inl (hold F hFA rfl y hy c)
        · exact .inr ⟨hy,by simpa using c⟩
      · rintro (rfl|hy)
        · exact he
        · exact hy.1
    rw [hq]
    show y=(e.1,e.2)∨_↔_
    refine or_congr Iff.rfl ?_
    by_cases c:F.h=T.h
    · rw [if_pos c,if_pos c,List.mem_filter,Kr]
      constructor
      · rintro ⟨rfl|q,q2⟩
        · simp at q2
        · exact q
      · intro q
        refine ⟨.inr q,?_⟩
        have:¬y.1=nm:=fun q2=>by
          have hy:=(List.mem_filter.1 q).1
          have hTF:T=F:=by rw [← c,f1] at t1;exact (Option.some.inj t1).symm
          exact Ez t4 y (hTF▸hy) q2
        simpa using this
    · rw [if_neg c,if_neg c]
  rw [X9 z1 (z2.trans (g2.trans f2)) (by decide),X9 f1 f2 (by decide),hes]
end
theorem Wp (v:Value) (acts:List Vv) (hacts:∀ x∈acts,Xt x):Ap Tryz.prog 8 #[v] [Lr v 6 Qi acts] fun u L=>(u=.bool true∧L=[Lr v 6 Qi acts])∨((acts.length≤30∧∀ x∈acts,Afk x)∧u=.bool false∧L=[Lr v 6 Qi acts]):=
  (Yn v acts hacts).mono fun u L ⟨bm,h1,h2,h3⟩=>by
    cases bm with
    | true=>exact .inl ⟨h2,h3⟩
    | false=>exact .inr ⟨h1 rfl,h2,h3⟩
section
variable {B:Nat} (ad:Nat→Addr) {most b:Nat} {z:PZ} {A:List AN} {ts:List Int} {c:Int} (h:PB most b z A ts c)
include h
theorem S5 (n g:Int) (nm:ByteArray) (hnz:nm.size≤100000):Ap Tryz.prog 17 #[Pp b,Hg n g,.string nm] [rPT most z,A5 B ad] fun u L=>(∃ x:Hdl,Av A (n,g) nm=(x,0)∧u=.tuple #[Hg x.1 x.2,.nilIface]∧L=[rPT most z,A5 B ad])∨(∃ e:Nat,(Av A (n,g) nm).2=e+1∧u=.tuple #[Hg 0 0,Af ad (e+1)]∧L=[rPT most z,A5 B ad]):=
  (U0 ad h n g nm hnz).mono fun u L ⟨h1,h2⟩=>by
    cases hq:(Av A (n,g) nm).2 with
    | zero=>rw [hq] at h1;exact .inl ⟨_,Prod.ext rfl hq,h1,h2⟩
    | succ e=>
      rw [hq] at h1
      refine .inr ⟨e,rfl,?_,h2⟩
      have:(Av A (n,g) nm).1=(0,0):=by
        revert hq;unfold Av;(repeat' split)<;>first|(intro hq;rfl)|(intro hq;cases hq)
      rw [this] at h1;exact h1
theorem Ad4 {n g:Int} {nm:ByteArray} (hnz:nm.size≤100000) {x:Hdl} (hq:Av A (n,g) nm=(x,0)):Ap Tryz.prog 17 #[Pp b,Hg n g,.string nm] [rPT most z,A5 B ad] fun u L=>u=.tuple #[Hg x.1 x.2,.nilIface]∧L=[rPT most z,A5 B ad]:=
  (U0 ad h n g nm hnz).mono fun u L ⟨h1,h2⟩=>by rw [hq] at h1;exact ⟨h1,h2⟩
omit h in
theorem Qz {n g:Int} {nm:ByteArray} {x:Hdl} (hq:Av A (n,g) nm=(x,0)):(D9 A (n,g) 0 60).2.2=0:=by
  obtain ⟨N,h1,h2,_⟩:=Rr hq
  rw [X9 h1 h2 (by decide)]
theorem Xd {n g:Int} {T:List Bh×Nat×Nat} (hq:D9 A (n,g) 0 60=T) (h0:T.2.2=0):Ap Tryz.prog 19 #[Pp b,Hg n g,Ii 0,Ii 60] [rPT most z,A5 B ad] fun u L=>∃ v',u=.tuple #[v',Ii ((T.2.1:Nat):Int),.nilIface]∧L=[rPT most z,A5 B ad,Bg true v' 107 3 e3C T.1]:=
  (Af5 ad h n g 0 60 (by decide) (by decide)).mono fun u L ⟨v',h1,h2⟩=>by rw [hq] at h1 h2;rw [h0] at h1;exact ⟨v',h1,h2⟩
theorem U7 {k:Nat} (hk:A.length=k):Ap Tryz.prog 15 #[Pp b] [rPT most z] fun u L=>u=Ii k∧L=[rPT most z]:=hk▸X5 h
theorem Afr (n g m f:Int) (old nm:ByteArray) (hoz:old.size≤100000) (hnz:nm.size≤100000) (hc:c+3≤1000):Ap Tryz.prog 20 #[Pp b,Hg n g,.string old,Hg m f,.string nm] [rPT most z,A5 B ad] fun u L=>(∃ z',(tRename A (n,g) old (m,f) nm).1=0∧PB most b z' (tRename A (n,g) old (m,f) nm).2 ts (c+3)∧u=.nilIface∧L=[rPT most z',A5 B ad])∨(∃ z' e,u=Af ad (e+1)∧L=[rPT most z',A5 B ad]):=
  (Ox ad h n g m f old nm hoz hnz hc).mono fun u L ⟨z',h1,h2,h3⟩=>by
    cases hq:(tRename A (n,g) old (m,f) nm).1 with
    | zero=>rw [hq] at h2;exact .inl ⟨z',rfl,h1,h2,h3⟩
    | succ e=>rw [hq] at h2;exact .inr ⟨z',e,h2,h3⟩
theorem Agh {n g m f:Int} {old nm:ByteArray} (hoz:old.size≤100000) (hnz:nm.size≤100000) (hc:c+3≤1000) (hq:(tRename A (n,g) old (m,f) nm).1=0):Ap Tryz.prog 20 #[Pp b,Hg n g,.string old,Hg m f,.string nm] [rPT most z,A5 B ad] fun u L=>∃ z',PB most b z' (tRename A (n,g) old (m,f) nm).2 ts (c+3)∧u=.nilIface∧L=[rPT most z',A5 B ad]:=
  (Ox ad h n g m f old nm hoz hnz hc).mono fun u L ⟨z',h1,h2,h3⟩=>by rw [hq] at h2;exact ⟨z',h1,h2,h3⟩
end
theorem Own.cellRowI {α:Type} {w0 w:World} {E:Ent} {L:List Res} {b:Nat} {d:TypeId} {x:α} {k:Nat} {enc:α→List Value} {i:Nat} (hi:L[i]?=some (Bw true b (enc x) d)) (he:(enc x).length=k) (h:Own w0 E L w):Own w0 E (L.set i (Bg true (.slice (some ⟨b,0,none⟩) 1 1) d k enc [x])) w:=
  h.upd (i:=i) (r:=Bw true b (enc x) d) hi rfl (Chg.refl _ _) ⟨by simp [he],.inr ⟨b,0,1,(enc x).toArray,rfl,h.fact i hi,Nat.le_refl _,by unfold maxLen;omega,by simp [he],fun j u hj=>by simpa using hj,rfl⟩⟩ fun y hy=>.inl hy
theorem Qd {B:Nat} (ad:Nat→Addr) (v:Value) (acts:List Vv) (hacts:∀ x∈acts,Xt x) (fa:Int) (old:ByteArray) (fb:Int) (nm:ByteArray) (hoz:old.size≤140737488355327) (hnz:nm.size≤140737488355327)  : Ap Tryz.prog 4 #[v,Ii fa,.string old,Ii fb,.string nm] [Lr v 6 Qi acts,A5 B ad] (fun u L=>u=.bool true∧L=[Lr v 6 Qi acts,A5 B ad]):=by
 refine Zo 159 Tryz.func4 fun E w0 w h=>?_
 refine Qs (ZP (.bool false) (Qm (ZC [1] (Tw ad) h fun w h=>ZP (.bool true) (Qu (ZP (.bool true) (ZP (.bool false) (ZP (.bool false) (ZP v ?_))))))))
 refine ZD [1] (Wp v acts hacts) h ?_;rintro v_ L_ w (⟨rfl,rfl⟩|⟨⟨hfew,hsz⟩,rfl,rfl⟩) h
 exact ZP (.bool true) (ZP (.bool true) (Zx (Zx (Zx (Zx (Zx (Zx (ZP (.bool true) (Qg (Qs (ZP (.bool true) (ZP (.bool true) (Qr (Ar (ZR [.bool true] [0,0] h ⟨rfl,rfl⟩)))))))))))))))
 refine ZP (.bool false) (ZP (.bool false) (ZP (.string old) (ZP (Ii (old.size:Int)) (ZP (.string nm) (ZP (Ii (nm.size:Int)) (ZG h (A6 (v:=Ii (IntKind.i64.wrap ((old.size:Int)+(nm.size:Int)))) (v':=Ii ((old.size+nm.size:Nat):Int)) (A3 fun _=>by kernel_rfl) (wr (by omega))) ?_))))))
 obtain ⟨b1,hb1⟩:=nmB (decide (((old.size+nm.size:Nat):Int)>100))
 refine ZB hb1 (ZP (.bool b1) (Qn (Zi (b1) (fun hc2=>?_) fun hc2=>?_)))
 have q3:=hb1.symm.trans hc2
 have q3:=dcT q3
 exact Qs (ZP (.bool true) (ZP (.bool true) (Qr (Ar (ZR [.bool true] [0,0] h ⟨rfl,rfl⟩)))))
 have q4:=hb1.symm.trans hc2
 have q4:=dcF q4
 refine Ks ?_
 refine ZD [1] (Abp ad 20 (by decide) (by decide)) h ?_;rintro v_ L_ w ⟨b,z0,hz0,rfl,rfl⟩ h
 refine ZP (.tuple #[Pp b,.nilIface]) (ZP (Pp b) (ZP .nilIface (ZP (Pp b) (ZP .nilIface (Qu (ZP .nilIface (ZP (.bool false) (ZP (.bool false) (ZP (Pp b) (ZP (.bool false) (ZP (.bool false) (Fs ?_))))))))))))
 refine ZD [] (Y9 20 (by omega)) h ?_;rintro v_ L_ w ⟨rb,vl0,vt,L0,hL0,rfl,rfl⟩ h
 have hp0:PB 20 b z0 (L0.map RN.a) ((List.replicate 20 (0:Int)).set 0 1) 1:=by rw [hL0];exact hz0
 refine ZP (Pp rb) (Qm (ZP (Hg 0 0) ?_))
 refine G7 rfl (fun b=>.slice (some ⟨b,0,none⟩) 1 1) [Ii 0,Ii 0] 34 (fun _=>by kernel_rfl) h ?_;intro k5 w h
 refine ZP (.agg #[.slice (some ⟨k5,0,none⟩) 1 1]) (ZN [.slice (some ⟨k5,0,none⟩) 1 1] 37 h fun k6 w h=>ZP (Pp k6) (Qn (Aa (Aa ?_))))
 have h:Own w0 E [Bw true k6 [.slice (some ⟨k5,0,none⟩) 1 1] 37,Bg true (.slice (some ⟨k5,0,none⟩) 1 1) 34 2 hdC [((0,0):Hdl)],Rt rb 20 vl0 vt,Bg true vt 3 1 inC ((List.replicate 20 (0:Int)).set 0 1),rRL vl0 L0,rPT 20 z0,A5 B ad,Lr v 6 Qi acts] w:=Own.cellRowI (x:=((0,0):Hdl)) (k:=2) (enc:=hdC) (i:=1) rfl rfl h
 refine Ah (ZP (Ii 0) (Qn (Au ?_)))
 refine ZL (X:=Nat×PZ×List RN×List Int×Value×Value×List Hdl×(Nat→Value)) [(61,74)] (fun ⟨i0,z,L,ts,vl,hv,hs,J0⟩=>[(16,Ii i0)]) (fun ⟨i0,z,L,ts,vl,hv,hs,J0⟩=>J0) (fun ⟨i0,z,L,ts,vl,hv,hs,J0⟩=>[Bw true k6 [hv] 37,Bg true hv 34 2 hdC hs,Rt rb 20 vl vt,Bg true vt 3 1 inC ts,rRL vl L,rPT 20 z,A5 B ad,Lr v 6 Qi acts]) (fun ⟨i0,z,L,ts,vl,hv,hs,J0⟩=>i0≤acts.length∧hs.length≤i0+1∧PB 20 b z (L.map RN.a) ts (3*(i0:Int)+1)) (fun ⟨i0,z,L,ts,vl,hv,hs,J0⟩=>acts.length - i0) (fun j=>⟨0,z0,L0,((List.replicate 20 (0:Int)).set 0 1),vl0,(.slice (some ⟨k5,0,none⟩) 1 1),[((0,0):Hdl)],j⟩) ⟨by omega,by simp,hp0⟩ [0,0,0,0,0,0,0,0] h ?_
 rintro ⟨i0,z,L,ts,vl,hv,hs,J0⟩ w hG h
 obtain ⟨hi0,hhs,hp1⟩:i0≤acts.length∧hs.length≤i0+1∧PB 20 b z (L.map RN.a) ts (3*(i0:Int)+1):=hG
 refine Qt (ZP (Ii i0) (ZP v (ZG h (Vp 39 (by kernel_rfl) 7 rfl) (ZP (.bool (decide ((i0:Int)<(acts.length:Int)))) (Qn (Zd ((i0:Int)<(acts.length:Int)) (fun hc7=>?_) fun hc7=>?_))))))
 refine Kn (Aa (Au (Ah (ZP (Pp b) (ZP (Pp rb) (ZP (Pp k6) (ZP v (ZP (Ii i0) ?_))))))))
 have hi8:i0<acts.length:=by omega
 obtain ⟨x9,hx10⟩:∃ x,acts[i0]?=some x:=⟨_,List.getElem?_eq_getElem hi8⟩
 obtain ⟨ho1,ho2,ho3⟩:=hacts x9 (List.mem_of_getElem? hx10)
 have hsm:=hsz x9 (List.mem_of_getElem? hx10)
 have hsm:x9.2.2.2.1.size≤100000∧x9.2.2.2.2.1.size≤100000:=⟨by have:=hsm.1;omega,by have:=hsm.2;omega⟩
 refine ZG h (Wl 39 i0 (by kernel_rfl) hi8 7 rfl) (ZG h (Gra (B6 v+i0*6) [.string x9.1,Ii x9.2.1,Ii x9.2.2.1,.string x9.2.2.2.1,.string x9.2.2.2.2.1,Ii x9.2.2.2.2.2.1] 7 rfl (Afz hx10 (by kernel_rfl))) ?_)
 refine ZD [5,5,2,2,2,0,0] (Ae2 ad 20 b rb k6 z L ts (3*(i0:Int)+1) hp1 vl vt hv hs (by omega) (by omega) x9.1 x9.2.1 x9.2.2.1 x9.2.2.2.1 x9.2.2.2.2.1 x9.2.2.2.2.2.1 hsm.1 hsm.2 ho3) h ?_;rintro v_ L_ w ⟨zz11,LL12,tt13,vv14,hv15,hh16,ee17,hp18,hl19,he20,hn21,rfl,rfl⟩ h
 refine Dc ?_
 refine Cm (Ag ?_)
 refine Ah (ZP (Ii i0) (ZG h (A6 (v:=Ii (IntKind.i64.wrap ((i0:Int)+1))) (v':=Ii ((i0+1:Nat):Int)) (A3 fun _=>by kernel_rfl) (wr (by omega))) (ZP (Ii ((i0+1:Nat):Int)) (Dc ?_))))
 have hQ22:((i0+1)≤acts.length∧hh16.length≤(i0+1)+1∧PB 20 b zz11 (LL12.map RN.a) tt13 (3*((i0+1):Int)+1))∧(acts.length - (i0+1))<(acts.length - i0):=⟨⟨by omega,by omega,hp18.more (by omega) (by omega)⟩,by omega⟩
 refine Bx (fun j=>⟨(i0+1),zz11,LL12,tt13,vv14,hv15,hh16,j⟩) hQ22 (by kernel_rfl) [5,5,2,2,2,0,0,0] (by kernel_rfl) h
 refine Du (E0 (Fh (Fc (Ag (Qs (ZP (Pp k6) (ZP (Ii fa) ?_)))))))
 refine ZD [0,0] (N8 k6 hv hs (by omega) fa) h ?_;rintro v_ L_ w ⟨xh23,rfl,rfl⟩ h
 refine ZN [Ii 0,Ii 0] 34 h fun k24 w h=>ZSs [Ii xh23.1,Ii xh23.2] 0 rfl h fun w h=>Qm (ZP (Pp k6) (ZP (Ii fb) ?_))
 refine ZD [1,1] (N8 k6 hv hs (by omega) fb) h ?_;rintro v_ L_ w ⟨xh25,rfl,rfl⟩ h
 refine ZN [Ii 0,Ii 0] 34 h fun k26 w h=>ZSs [Ii xh25.1,Ii xh25.2] 0 rfl h fun w h=>Qm (ZP (Pp b) (ZG h (Gla 0 [Ii xh23.1,Ii xh23.2] 3) (ZP (.string old) ?_)))
 refine ZD [7,7] (S5 ad hp1 xh23.1 xh23.2 old (by omega)) h ?_;rintro v_ L_ w (⟨x9,hlk9,rfl,rfl⟩|⟨e9,hlk9,rfl,rfl⟩) h
 refine ZP (.tuple #[Hg x9.1 x9.2,.nilIface]) (ZP (Hg x9.1 x9.2) (ZP .nilIface (ZN [Ii 0,Ii 0] 34 h fun k27 w h=>ZSs [Ii x9.1,Ii x9.2] 0 rfl h fun w h=>ZP .nilIface (Qm (ZP (Pp b) (ZG h (Gla 0 [Ii xh25.1,Ii xh25.2] 3) (ZP (.string nm) ?_)))))))
 refine ZD [1,1] (S5 ad hp1 xh25.1 xh25.2 nm (by omega)) h ?_;rintro v_ L_ w (⟨x8,hlk8,rfl,rfl⟩|⟨e8,hlk8,rfl,rfl⟩) h
 refine ZP (.tuple #[Hg x8.1 x8.2,.nilIface]) (ZP (Hg x8.1 x8.2) (ZP .nilIface (ZN [Ii 0,Ii 0] 34 h fun k28 w h=>ZSs [Ii x8.1,Ii x8.2] 0 rfl h fun w h=>ZP .nilIface (Qu (ZP .nilIface (ZP (.bool false) (ZP (.bool false) (ZP .nilIface ?_))))))))
 refine ZD [2] (M9 ad 0 5 (by decide)) h ?_;rintro v_ L_ w (⟨hcd,rfl,rfl⟩|⟨hcd,rfl,rfl⟩) h
 exfalso;revert hcd;decide
 exact ZP (.bool true) (ZP (.bool true) (Qg (Qs (ZP (.bool true) (Qr (Ar (ZR [.bool true] [11,0] h ⟨rfl,rfl⟩)))))))
 refine ZP (.tuple #[Hg 0 0,Af ad (e8+1)]) (ZP (Hg 0 0) (ZP (Af ad (e8+1)) (ZN [Ii 0,Ii 0] 34 h fun k29 w h=>ZSs [Ii 0,Ii 0] 0 rfl h fun w h=>ZP (Af ad (e8+1)) (Qu (ZP .nilIface (ZP (.bool false) (ZP (.bool false) (ZP (Af ad (e8+1)) ?_))))))))
 refine ZD [2] (M9 ad (e8+1) 5 (by have:=Rg (L.map RN.a) (xh25.1,xh25.2) nm;omega)) h ?_;rintro v_ L_ w (⟨hcd,rfl,rfl⟩|⟨hcd,rfl,rfl⟩) h
 refine ZP (.bool false) (ZP (.bool false) (Fs (ZP (Pp b) (ZG h (Gla 0 [Ii xh23.1,Ii xh23.2] 7) ?_))))
 refine ZD [2,0] (Xd ad hp1 rfl (Qz hlk9)) h ?_;rintro v_ L_ w ⟨vl30,rfl,rfl⟩ h
 refine ZP (.tuple #[vl30,Ii (((D9 (L.map RN.a) (xh23.1,xh23.2) 0 60).2.1:Nat):Int),.nilIface]) (ZP vl30 (ZP (Ii (((D9 (L.map RN.a) (xh23.1,xh23.2) 0 60).2.1:Nat):Int)) (ZP .nilIface (ZP vl30 (ZP (Ii (((D9 (L.map RN.a) (xh23.1,xh23.2) 0 60).2.1:Nat):Int)) (ZP .nilIface (Qm (ZP (Pp b) (ZC [0] (U7 hp1 rfl) h fun w h=>ZP (Ii ((L.map RN.a).length:Int)) (Qm (ZP (Pp b) (ZG h (Gla 0 [Ii xh23.1,Ii xh23.2] 8) (ZP (.string old) (ZG h (Gla 0 [Ii xh25.1,Ii xh25.2] 5) (ZP (.string nm) ?_)))))))))))))))
 refine ZD [0,0] (Afr ad hp1 xh23.1 xh23.2 xh25.1 xh25.2 old nm (by omega) (by omega) (by omega)) h ?_;rintro v_ L_ w (⟨z9,hrn,hp9,rfl,rfl⟩|⟨z9,e9,rfl,rfl⟩) h
 obtain ⟨hbk1,hbk2,hbk3,hbk4⟩:=Aay hp1.s.ti hp1.s.srt hlk9 (hlk8.trans (by omega)) hrn
 refine ZP .nilIface (Qu (ZP .nilIface (ZP (.bool false) (Fs (ZP (Pp b) (ZG h (Gla 0 [Ii xh25.1,Ii xh25.2] 5) (ZP (.string nm) (ZC [0,0] (Ad4 ad hp9 (by omega) hbk1) h fun w h=>ZP (.tuple #[Hg x9.1 x9.2,.nilIface]) (ZP (Hg x9.1 x9.2) (ZP .nilIface (ZN [Ii 0,Ii 0] 34 h fun k31 w h=>ZSs [Ii x9.1,Ii x9.2] 0 rfl h fun w h=>ZP .nilIface (Qu (ZP .nilIface (ZP (.bool false) (ZP (.bool false) (ZG h (Gla 0 [Ii x9.1,Ii x9.2] 0) (ZG h (Gla 0 [Ii x9.1,Ii x9.2] 5) (ZG h (A6 (v:=.bool (!((decide (x9.1=x9.1))&&(decide (x9.2=x9.2))))) (v':=.bool false) (Eu (n1:=x9.1) (g1:=x9.2) (n2:=x9.1) (g2:=x9.2) (by kernel_rfl)) (by simp)) (ZP (.bool false) (ZP (.bool false) (ZP (Pp b) (ZC [1] (U7 hp9 hbk2) h fun w h=>ZP (Ii ((L.map RN.a).length:Int)) (ZG h (A6 (v:=.bool (!decide (((L.map RN.a).length:Int)=((L.map RN.a).length:Int)))) (v':=.bool false) (A3 fun _=>by kernel_rfl) (by simp)) (ZP (.bool false) (Ft (ZP (Pp b) (ZG h (Gla 0 [Ii xh25.1,Ii xh25.2] 6) (ZP (.string nm) (ZG h (Gla 0 [Ii xh23.1,Ii xh23.2] 9) (ZP (.string old) ?_))))))))))))))))))))))))))))))
 refine ZD [0,1] (Agh ad hp9 (by omega) (by omega) (by omega) hbk3) h ?_;rintro v_ L_ w ⟨z8,hp8,rfl,rfl⟩ h
 refine ZP (.bool false) (Fs (ZP (Pp b) (ZG h (Gla 0 [Ii xh23.1,Ii xh23.2] 9) ?_)))
 refine ZD [0,0] (Xd ad hp8 hbk4 (Qz hlk9)) h ?_;rintro v_ L_ w ⟨vl32,rfl,rfl⟩ h
 exact ZP (.tuple #[vl32,Ii (((D9 (L.map RN.a) (xh23.1,xh23.2) 0 60).2.1:Nat):Int),.nilIface]) (ZP vl32 (ZP (Ii (((D9 (L.map RN.a) (xh23.1,xh23.2) 0 60).2.1:Nat):Int)) (ZP .nilIface (ZP vl32 (ZP (Ii (((D9 (L.map RN.a) (xh23.1,xh23.2) 0 60).2.1:Nat):Int)) (ZP .nilIface (Qm (ZP .nilIface (ZP (.bool true) (ZP (.bool true) (ZP .nilIface (ZP (.bool true) (ZP (.bool true) (ZP (.bool true) (ZP vl30 (ZP vl32 (ZC [4,2] (Wz vl30 vl32 ((D9 (L.map RN.a) (xh23.1,xh23.2) 0 60).1) (by exact Aan (hp1.s.ti.rtok hp1.s.m3 hp1.s.cnt).few _ _ _)) h fun w h=>ZP (.bool true) (ZP (.bool true) (Qr (ZR [.bool true] [14,3] h ⟨rfl,rfl⟩))))))))))))))))))))
 exact ZP (Af ad (e9+1)) (Qu (ZP (Af ad (e9+1)) (ZP (.bool true) (Qg (Qs (ZP (.bool true) (Qr (Ar (ZR [.bool true] [12,1] h ⟨rfl,rfl⟩)))))))))
 exact ZP (.bool true) (ZP (.bool true) (Qg (Qs (ZP (.bool true) (Qr (Ar (ZR [.bool true] [11,0] h ⟨rfl,rfl⟩)))))))
 refine ZP (.tuple #[Hg 0 0,Af ad (e9+1)]) (ZP (Hg 0 0) (ZP (Af ad (e9+1)) (ZN [Ii 0,Ii 0] 34 h fun k33 w h=>ZSs [Ii 0,Ii 0] 0 rfl h fun w h=>ZP (Af ad (e9+1)) (Qm (ZP (Pp b) (ZG h (Gla 0 [Ii xh25.1,Ii xh25.2] 3) (ZP (.string nm) ?_)))))))
 refine ZD [1,1] (S5 ad hp1 xh25.1 xh25.2 nm (by omega)) h ?_;rintro v_ L_ w (⟨x8,hlk8,rfl,rfl⟩|⟨e8,hlk8,rfl,rfl⟩) h
 exact ZP (.tuple #[Hg x8.1 x8.2,.nilIface]) (ZP (Hg x8.1 x8.2) (ZP .nilIface (ZN [Ii 0,Ii 0] 34 h fun k34 w h=>ZSs [Ii x8.1,Ii x8.2] 0 rfl h fun w h=>ZP .nilIface (Qu (ZP (Af ad (e9+1)) (ZP (.bool true) (ZP (.bool true) (Zx (Zx (Zx (ZP (.bool true) (Qg (Qs (ZP (.bool true) (Qr (Ar (ZR [.bool true] [11,2] h ⟨rfl,rfl⟩)))))))))))))))))
 exact ZP (.tuple #[Hg 0 0,Af ad (e8+1)]) (ZP (Hg 0 0) (ZP (Af ad (e8+1)) (ZN [Ii 0,Ii 0] 34 h fun k35 w h=>ZSs [Ii 0,Ii 0] 0 rfl h fun w h=>ZP (Af ad (e8+1)) (Qu (ZP (Af ad (e9+1)) (ZP (.bool true) (ZP (.bool true) (Zx (Zx (Zx (ZP (.bool true) (Qg (Qs (ZP (.bool true) (Qr (Ar (ZR [.bool true] [11,2] h ⟨rfl,rfl⟩)))))))))))))))))
theorem R7 (ad:Nat→Addr) (fa:Int) (old:ByteArray) (fb:Int) (nm:ByteArray) (hoz:old.size≤140737488355327) (hnz:nm.size≤140737488355327) (a0:Option Addr) (cap:Nat) (acts:List Vv) (w:World) (he:J3 w.heap.size ad w) (hs:(Sh.slice Adv).At w w.heap.size (a0,cap,acts)) (hz:(Sh.slice Adv).Sz (a0,cap,acts)) :
    Calls Tryz.prog 4 #[.slice a0 acts.length cap,Ii fa,.string old,Ii fb,.string nm] w fun e w'=>e=.returned (.bool true)∧Chg Nil w w':=by
  have hok:∀ x∈acts,Xt x:=fun x hx=>by
    obtain ⟨i,hi,rfl⟩:=List.mem_iff_getElem.1 hx
    obtain ⟨⟨_,_,_,_,_,q6,_⟩,_⟩:=hs.2.2 i acts[i] (List.getElem?_eq_getElem hi)
    obtain ⟨_,_,_,r4,r5,_⟩:=hz.2 i acts[i] (List.getElem?_eq_getElem hi)
    exact ⟨r4,r5,q6⟩
  refine ((Qd (B:=w.heap.size) ad (.slice a0 acts.length cap) acts hok fa old fb nm hoz hnz).reads (w:=w) rfl ?_).mono ?_
  · intro r hr
    simp only [List.mem_cons,List.mem_nil_iff,or_false] at hr
    rcases hr with rfl|rfl
    · exact Yw hs
    · exact he
  · rintro e w' ⟨u,L',⟨rfl,_⟩,he,hc'⟩
    exact ⟨he,hc'⟩
section
open Go.RowKit Go.ChangeShapes Go.WideShapes Go.ChangeAt
theorem Aaz:∀ c∈C7,T9 c:=by
  intro c hc
  simp only [C7,List.mem_cons,List.mem_nil_iff,or_false] at hc
  rcases hc with rfl|rfl|rfl|rfl|rfl|rfl|rfl|rfl|rfl|rfl|rfl|rfl|rfl|rfl|rfl<;>exact ⟨by kernel_rfl,by kernel_rfl⟩
def P2 : List (String × DataW Unit) := ("errors.errorType", Rows.laid_errors_errorType) :: In C7
theorem Z8 : Tryz.prog.globalNamed "errors.errorType" = some 15 := by kernel_rfl
theorem Yu : (Tryz.prog.cutTypes.find? (·.1 == "internal/reflectlite.rtype")).map (·.2) = some 197 := by kernel_rfl
theorem Yz:((List.range 264).filter fun t=>Tryz.prog.rowNamed t [101,114,114,111,114])=[27]:=by kernel_rfl
theorem W4:Tryz.prog.types.size=264:=by kernel_rfl
theorem Se:typeHandle Tryz.prog 27=.pointer (some ⟨16,27,none⟩):=by kernel_rfl
theorem Ss {W:World} (h:laidMetH Tryz.prog P2 W):∃ ad,J3 W.heap.size ad W∧∀ c∈C7,∃ s:ByteArray,W.cell? (ad c)=some (.string s)∧s.data.toList=I8 c:=by
  have h' : laidMet Tryz.prog (In C7) W ∧ handlesMet Tryz.prog [("errors.errorType", Rows.laid_errors_errorType)] W := h
  obtain ⟨ad,he,ht⟩:=Tr h'.1 Aaz
  obtain ⟨name,u,ty,e1,e2,e3,e4,e5⟩:=h'.2 _ (List.mem_singleton.2 rfl)
  have en:name=[101,114,114,111,114]:=(Option.some.inj e1).symm
  subst en
  obtain rfl:=Option.some.inj (Yu.symm.trans e2)
  have hm:ty∈(List.range 264).filter fun t=>Tryz.prog.rowNamed t [101,114,114,111,114]:=List.mem_filter.2 ⟨List.mem_range.2 (by rw [← W4];exact e3),e4⟩
  rw [Yz] at hm
  obtain rfl:=List.mem_singleton.1 hm
  rw [Se] at e5
  have hc:W.cell? ⟨15,0,none⟩=some (.iface 197 (.agg #[.pointer (some ⟨16,27,none⟩)])):=by simpa using World.var?_cell Z8 e5 0
  exact ⟨ad,⟨he,hc,World.block_lt_of_cell? _ _ hc⟩,ht⟩
noncomputable def doorWorld (os:Os):World:=
  { World.laidAll Tryz.prog os (In C7) with heap:=(World.laidAll Tryz.prog os (In C7)).heap.modify 15 fun
      | .cells _ t frozen=>.cells #[.iface 197 (.agg #[.pointer (some ⟨16,27,none⟩)])] t frozen
      | o=>o }
theorem Sp (os:Os):(doorWorld os).os=os:=by
  dsimp only [doorWorld]
  exact World.laidAll_os _ _ _
theorem Ql (os:Os) (args:Array Value):laidMetH Tryz.prog P2 ((doorWorld os).forCall (fun _ _=>0) ⟨#[],args,[]⟩).memory:=
  laidMetH_of_parts (show laidMet Tryz.prog (In C7) _ from laidMet_of_run' 8 (by kernel_rfl) (by kernel_rfl)) (by kernel_rfl)
theorem M3 (os:Os) (args:Array Value):((doorWorld os).forCall (fun _ _=>0) ⟨#[],args,[]⟩).Shaped Tryz.prog:=World.shaped_of_ZipB (by kernel_rfl) (by kernel_rfl)
end
end Go.Proofs.YtpojpkhpddnmjaaGreatDoor
namespace Go.Proofs.YtpojpkhpddnmjaaGreatDoor.treeBackDone
open Go.ChangeShapes Go.WideShapes Go.ChangeAt Go.RowKit Go.ChangeMaps
set_option linter.unusedVariables false
set_option linter.unusedSimpArgs false
theorem own:ownKnob Tryz.prog.godebug=none:=by kernel_rfl
theorem Jx:laidOutB Tryz.prog=true:=by kernel_rfl
set_option maxRecDepth 100000 in
theorem Agq (os:Os) (started:os.Started) (H:Type) (enc:TypeId×Value→H) :
    ReturnsInHanded {} Tryz.checked os 4 .any (fun w args=>(Rows.treeBackSpec.pre enc Tryz.prog Tryz.f4 Rows.treeBackRow.domain false w args∧laidMetH Tryz.prog Rows.treeBackRow.laid w)∧sizedMet enc Tryz.prog Tryz.f4 (OpenSpec.ofChange Rows.treeBackSpec) false w args)
      (Rows.treeBackSpec.post enc Tryz.prog Tryz.f4 false true false false):=by
  refine returnsInHanded_of_change_and (C:=Tryz.checked) (X:=fun w _=>laidMetH Tryz.prog Rows.treeBackRow.laid w) (fun _ _ _ hh h=>h.of_heap hh) own started (by kernel_rfl) Tryz.func4
    (ChangeSpec.witness_shaped (enc:=enc) (C:=Tryz.checked) (os:=os) (X:=fun w _=>laidMetH Tryz.prog Rows.treeBackRow.laid w) false (doorWorld os) #[.slice none 0 0,.int .i64 0,.string ⟨#[]⟩,.int .i64 0,.string ⟨#[]⟩] 8 (Sp os)
      (M3 os _) (by kernel_rfl) (by kernel_rfl) (by kernel_rfl) (Ql os _)) ?_
  intro W base args ds gs before hval0 hW _ hsz hL _
  have hval:∀ (j:Nat) t v,Tryz.f4.params[j]?=some t→args[j]?=some v→Value.okWide Tryz.prog W .any base t v:=hval0
  have hW':=hW
  obtain ⟨p,q,hA0,hV,rfl,hfz,hnd⟩:=hW
  have hA:DataW.TrodAll enc Tryz.prog W 0 (fun _=>true) true Tryz.f4.params.toList args.toList ds p:=hA0
  rw [Tryz.params4] at hA hval
  obtain ⟨v0,vs0,e0,ds0,pl0,q0,hargs,rfl,rfl,h0,r0⟩:=trodAll_cons hA
  obtain ⟨v1,vs1,e1,ds1,pl1,q1,rfl,rfl,rfl,h1,r1⟩:=trodAll_cons r0
  obtain ⟨v2,vs2,e2,ds2,pl2,q2,rfl,rfl,rfl,h2,r2⟩:=trodAll_cons r1
  obtain ⟨v3,vs3,e3,ds3,pl3,q3,rfl,rfl,rfl,h3,r3⟩:=trodAll_cons r2
  obtain ⟨v4,vs4,e4,ds4,pl4,q4,rfl,rfl,rfl,h4,r4⟩:=trodAll_cons r3
  obtain ⟨rfl,rfl,rfl⟩:=trodAll_nil r4
  obtain rfl:args=#[v0,v1,v2,v3,v4]:=by cases args;simp_all
  obtain ⟨rfl,rfl⟩:=trodVars_none hV
  have lt0:∀ x∈pl0,x.block<W.heap.size:=by obtain ⟨m,hm⟩:=h0;exact DataW.trod_lt m _ _ _ hm
  obtain ⟨d0,rfl,t0,zz0⟩:=Sh.open_val2 12 22 (Sh.slice Adv) (by kernel_rfl) (hval 0 22 v0 rfl rfl) h0
  have z0:=zz0 (Sh.weights_le hsz (j:=0) (by rw [Tryz.params4];rfl) rfl)
  obtain ⟨p0,c0,l0⟩:=d0
  have lt1:∀ x∈pl1,x.block<W.heap.size:=by obtain ⟨m,hm⟩:=h1;exact DataW.trod_lt m _ _ _ hm
  obtain ⟨d1,rfl,t1,zz1⟩:=Sh.open_val2 12 3 (Sh.int) (by kernel_rfl) (hval 1 3 v1 rfl rfl) h1
  have z1:=zz1 (Sh.weights_le hsz (j:=1) (by rw [Tryz.params4];rfl) rfl)
  have lt2:∀ x∈pl2,x.block<W.heap.size:=by obtain ⟨m,hm⟩:=h2;exact DataW.trod_lt m _ _ _ hm
  obtain ⟨d2,rfl,t2,zz2⟩:=Sh.open_val2 12 9 (Sh.str) (by kernel_rfl) (hval 2 9 v2 rfl rfl) h2
  have z2:=zz2 (Sh.weights_le hsz (j:=2) (by rw [Tryz.params4];rfl) rfl)
  have lt3:∀ x∈pl3,x.block<W.heap.size:=by obtain ⟨m,hm⟩:=h3;exact DataW.trod_lt m _ _ _ hm
  obtain ⟨d3,rfl,t3,zz3⟩:=Sh.open_val2 12 3 (Sh.int) (by kernel_rfl) (hval 3 3 v3 rfl rfl) h3
  have z3:=zz3 (Sh.weights_le hsz (j:=3) (by rw [Tryz.params4];rfl) rfl)
  have lt4:∀ x∈pl4,x.block<W.heap.size:=by obtain ⟨m,hm⟩:=h4;exact DataW.trod_lt m _ _ _ hm
  obtain ⟨d4,rfl,t4,zz4⟩:=Sh.open_val2 12 9 (Sh.str) (by kernel_rfl) (hval 4 9 v4 rfl rfl) h4
  have z4:=zz4 (Sh.weights_le hsz (j:=4) (by rw [Tryz.params4];rfl) rfl)
  clear hA0 hval0
  obtain ⟨ad,he,_⟩:=Ss (show laidMetH Tryz.prog P2 W from hL)
  show Calls Tryz.prog 4 #[.slice p0 l0.length c0,.int .i64 d1,.string d2,.int .i64 d3,.string d4] W _
  refine (R7 ad d1 d2 d3 d4 z2 z4 p0 c0 l0 W he t0 z0).mono fun e W' ⟨he,hc⟩=>?_
  subst he
  have bel:Below W.heap.size W W':=hc.below (Nat.le_refl _) (fun _ _ f=>f.elim)
  exact ⟨_,rfl,_,_,_,[],_,[],hW',trodAll_mk1 (shut_bool Tryz.underlying4 _),(trodAll_cons_mk (Below.trod Jx (by kernel_rfl) (of_decide_eq_true (by kernel_rfl)) h0 bel lt0) (trodAll_cons_mk (Below.trod Jx (by kernel_rfl) (of_decide_eq_true (by kernel_rfl)) h1 bel lt1) (trodAll_cons_mk (Below.trod Jx (by kernel_rfl) (of_decide_eq_true (by kernel_rfl)) h2 bel lt2) (trodAll_cons_mk (Below.trod Jx (by kernel_rfl) (of_decide_eq_true (by kernel_rfl)) h3 bel lt3) (trodAll_cons_mk (Below.trod Jx (by kernel_rfl) (of_decide_eq_true (by kernel_rfl)) h4 bel lt4) trodAll_mk0))))),rfl,bel.frame _,fun h=>by cases h⟩
theorem band {a b:Bool} (h:a=true) (k:b=true):(a&&b)=true:=by rw [h,k];rfl
set_option maxHeartbeats 0 in
theorem Aek:joinedFacts Tryz.pinned.checked.prog 4 Tryz.f4 Rows.treeBackSpec Rows.treeBackRow=true:=by
  unfold joinedFacts
  repeat' (with_reducible refine band ?_ ?_)
  all_goals (as_aux_lemma=>kernel_rfl)
theorem said:Rows.TreeBackSaid:=
  OpenClaim.holds_of_wide 4 Tryz.f4 rfl rfl rfl rfl rfl rfl rfl ⟨rfl,rfl,rfl,rfl,rfl⟩ rfl rfl rfl rfl rfl (by as_aux_lemma=>kernel_rfl) Tryz.func4 Aek
    (of_decide_eq_true (by kernel_rfl)) (by unfold Func.isWrapper;first|(rw [if_pos (by decide +kernel)];kernel_rfl)|(rw [if_neg (by decide +kernel)];exact ⟨rfl,rfl⟩))
    (fun os started H enc _=>Agq os started H enc)
theorem plain (f : FuncId) (fn : Func) (hf : Tryz.pinned.checked.prog.funcNamed "pigeonholes/pigeonholeslaw1.TreeBack" = some f) (hfn : Tryz.pinned.checked.prog.funcs[f]? = some fn) :
    true=Tryz.pinned.checked.prog.looks []∧∀ (j:Nat) t,fn.params[j]?=some t→Tryz.pinned.checked.prog.wantsStandIn t=false:=by
  obtain rfl : f = 4 := Option.some.inj ((show Tryz.prog.funcNamed "pigeonholes/pigeonholeslaw1.TreeBack" = some 4 by kernel_rfl).symm.trans hf) |>.symm
  obtain rfl:fn=Tryz.f4:=(Option.some.inj (Tryz.func4.symm.trans hfn)).symm
  refine ⟨by kernel_rfl,fun j t ht=>?_⟩
  rw [Tryz.params4] at ht
  have hm:t=22∨t=3∨t=9∨t=3∨t=9:=by simpa using Array.mem_of_getElem? ht
  rcases hm with rfl|rfl|rfl|rfl|rfl
  · exact (show Tryz.prog.wantsStandIn 22=false by kernel_rfl)
  · exact (show Tryz.prog.wantsStandIn 3=false by kernel_rfl)
  · exact (show Tryz.prog.wantsStandIn 9=false by kernel_rfl)
  · exact (show Tryz.prog.wantsStandIn 3=false by kernel_rfl)
  · exact (show Tryz.prog.wantsStandIn 9=false by kernel_rfl)
set_option maxHeartbeats 0 in
theorem card:Rows.TreeBackCardSaid:=
  Claim7.holds_tied_plain_at .later [] _ _ _ _ said (fun _ h=>by cases h) (by as_aux_lemma=>kernel_rfl) (fun _ h=>by cases h) treeBack_row_tie (by as_aux_lemma=>rfl) (by as_aux_lemma=>exact ⟨rfl,rfl⟩) (by as_aux_lemma=>kernel_rfl) (by as_aux_lemma=>rfl) plain (by as_aux_lemma=>kernel_rfl)
#print axioms card
end Go.Proofs.YtpojpkhpddnmjaaGreatDoor.treeBackDone
