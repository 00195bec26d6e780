/- The law is kept: whatever the input, it returns true, and what it is handed stays. No condition. -/
import Derived.Test.YtpojpkhpddnmjaaGreatDoorL5
import Derived.Test.YtpojpkhpddnmjaaGreatDoorRows
import Derived.ProofKit
import Derived.Lay
import Derived.SevenTiedAt
import Derived.ChangeOld
import Derived.Test.YtpojpkhpddnmjaaGreatDoorCards
import Derived.Test.YtpojpkhpddnmjaaGreatDoorTie
import Derived.OpenShut
import Derived.ChangeMaps5
set_option linter.all false
set_option maxRecDepth 100000
set_option maxHeartbeats 20000000
namespace Go.Proofs.YtpojpkhpddnmjaaGreatDoor
open Go.RowKit
section
variable (b:Nat) (mst:Int) (vl vt:Value) (L:List RN) (c:Int) (hc:c≤900000) (hok:Dm (L.map RN.a) c)
include b mst vl vt L c hc hok
theorem Vs (htx:Abv (L.map RN.a)) (n g p:Int) (t:ByteArray) (htz:t.size≤100000) (hp:-9223372036854775808≤p∧p≤9223372036854775807):Au Tryz.prog 39 #[Pp b,Hg n g,Ii p,.string t] [Rt b mst vl vt,rRL vl L] (fun u L'=>∃ L2:List RN,L2.map RN.a=Fd (L.map RN.a) (n,g) p t∧u=Ii ((Ep (L.map RN.a) (n,g) p t:Nat):Int)∧L'=[Rt b mst vl vt,rRL vl L2]):=by
 have hl:=hok.hl
 have hnod:=hok.hnod
 have hent:=hok.hent
 have hfew:=hok.hfew
 refine Zo 36 Tryz.func39 fun E w0 w h=>?_
 refine Qs (ZN [Ii n,Ii g] 34 h fun k1 w h=>ZP (Ii 0) (Qm (ZP (Pp b) (ZG h (Gla 0 [Ii n,Ii g] 0) ?_))))
 refine ZD [1,1] (Jg b mst vl vt L n g (by omega)) h ?_;rintro v_ L_ w (⟨hno7,rfl,rfl⟩|⟨j2,N3,hx4,hh5,hkd6,rfl,rfl⟩|⟨j2,N3,hx4,hh5,hkd6,rfl,rfl⟩) h
 refine ZP (Ii 10) (Qu (ZP (Ii 10) (ZP (.bool true) (Qg (Qs (ZP (Ii 10) (ZP (Ii 10) (Qr (Ar (ZR [Ii 10] [0,0] h ?_))))))))))
 have hE:Ep (L.map RN.a) (n,g) p t=_:=Ht (A:=L.map RN.a) (h:=(n,g)) (e:=id) (f:=fun N=>(Bh N.s N.holes p t).2.2) (Fa hno7)
 have hL:Fd (L.map RN.a) (n,g) p t=_:=Ht (A:=L.map RN.a) (h:=(n,g)) (e:=fun _=>L.map RN.a) (f:=fun _=>Cx (L.map RN.a) (n,g) (wrA p t)) (Fa hno7)
 exact ⟨L,by rw [hL],by rw [hE];rfl,rfl⟩
 refine ZP (Ii 8) (Qu (ZP (Ii 8) (ZP (.bool true) (Qg (Qs (ZP (Ii 8) (ZP (Ii 8) (Qr (Ar (ZR [Ii 8] [0,0] h ?_))))))))))
 have hE:Ep (L.map RN.a) (n,g) p t=_:=Io (A:=L.map RN.a) (h:=(n,g)) (e:=id) (f:=fun N=>(Bh N.s N.holes p t).2.2) (Aj hnod hx4 hh5) hkd6
 have hL:Fd (L.map RN.a) (n,g) p t=_:=Io (A:=L.map RN.a) (h:=(n,g)) (e:=fun _=>L.map RN.a) (f:=fun _=>Cx (L.map RN.a) (n,g) (wrA p t)) (Aj hnod hx4 hh5) hkd6
 exact ⟨L,by rw [hL],by rw [hE];rfl,rfl⟩
 refine ZP (Ii 0) (Qu (ZP (Ii 0) (ZP (.bool false) (Fs ?_))))
 have hrD:=hok.at_rng hx4
 refine ZP (Pp b) (ZG h (Gla 0 [Ii n,Ii g] 2) (ZC [0,0] (Cr b mst vl vt L (by omega) hnod j2 N3 hx4 n g hh5) h fun w h=>ZP (Pp N3.nb) (Qm (ZP (Pp N3.nb) (ZP (Pp N3.nb) (ZP (Pt N3.nb 4) (ZP (Ii p) (ZP (.string t) ?_))))))))
 refine ZD [1] (Sx vl L j2 N3 hx4 (htx.at_ hx4).1 (htx.at_ hx4).2 p t htz hp) h ?_;rintro v_ L_ w ⟨v8,rfl,rfl⟩ h
 have hx9:=Ce (⟨N3.nb,v8,N3.ve,⟨N3.a.h,N3.a.kind,N3.a.change,(Bh N3.a.s N3.a.holes p t).1,(Bh N3.a.s N3.a.holes p t).2.1,N3.a.es,N3.a.pins⟩⟩:RN) hx4
 refine ZP (Ii (((Bh N3.a.s N3.a.holes p t).2.2:Nat):Int)) (Qu (ZP (Ii (((Bh N3.a.s N3.a.holes p t).2.2:Nat):Int)) ?_))
 obtain ⟨b10,hb10⟩:=nmB (decide ((((Bh N3.a.s N3.a.holes p t).2.2:Nat):Int)=0))
 refine ZB hb10 (ZP (.bool b10) ?_)
 rcases Bool.eq_false_or_eq_true b10 with hc11|hc11
 subst hc11
 have q12:=hb10.symm
 have q12:=dcT q12
 refine ZP (.string t) ?_
 obtain ⟨b13,hb13⟩:=nmB (!(decide (t=(⟨#[]⟩:ByteArray))))
 refine Kc (v:=.bool b13) (by kernel_rfl) h (by subst hb13;exact A4 (v:=.bool !(t.toList==(⟨#[]⟩:ByteArray).toList)) (v':=.bool (!(decide (t=(⟨#[]⟩:ByteArray))))) (Az fun _=>by kernel_rfl) Ag4) ?_
 refine ZP (.bool b13) (Qn (Zi (b13) (fun hc14=>?_) fun hc14=>?_))
 have q15:=hb13.symm.trans hc14
 have q16:(decide (t=(⟨#[]⟩:ByteArray)))=false:=by simpa using q15
 have q16:=dcF q16
 refine Ah (ZP (Pp N3.nb) (ZP (Pp N3.nb) (ZP (Pt N3.nb 3) (ZG h (Gr 3 (Ii N3.a.change) 0 rfl (Cc hx9 3 (by kernel_rfl))) (ZG h (Gw (N3.a.change+1)) (ZP (Pp N3.nb) (ZP (Pt N3.nb 3) ?_)))))))
 refine Fc rfl (b:=N3.nb) 3 [Ii (N3.a.change+1)] h 0 rfl (by kernel_rfl) (L3 hx9 3 [Ii (N3.a.change+1)] (⟨N3.nb,v8,N3.ve,⟨N3.a.h,N3.a.kind,N3.a.change+1,(Bh N3.a.s N3.a.holes p t).1,(Bh N3.a.s N3.a.holes p t).2.1,N3.a.es,N3.a.pins⟩⟩:RN) (Nat.le_of_ble_eq_true (by kernel_rfl)) (by kernel_rfl) rfl rfl rfl rfl rfl) ?_;intro w h
 have hx17:=Ce (⟨N3.nb,v8,N3.ve,⟨N3.a.h,N3.a.kind,N3.a.change+1,(Bh N3.a.s N3.a.holes p t).1,(Bh N3.a.s N3.a.holes p t).2.1,N3.a.es,N3.a.pins⟩⟩:RN) hx9
 refine Qm (ZP (Ii (((Bh N3.a.s N3.a.holes p t).2.2:Nat):Int)) (ZP (Ii (((Bh N3.a.s N3.a.holes p t).2.2:Nat):Int)) (Qr (ZR [Ii (((Bh N3.a.s N3.a.holes p t).2.2:Nat):Int)] [1,0] h ?_))))
 have hE:Ep (L.map RN.a) (n,g) p t=_:=G3 (A:=L.map RN.a) (h:=(n,g)) (e:=id) (f:=fun N=>(Bh N.s N.holes p t).2.2) (Aj hnod hx4 hh5) hkd6
 have hL:Fd (L.map RN.a) (n,g) p t=_:=G3 (A:=L.map RN.a) (h:=(n,g)) (e:=fun _=>L.map RN.a) (f:=fun _=>Cx (L.map RN.a) (n,g) (wrA p t)) (Aj hnod hx4 hh5) hkd6
 have hch:(if (Bh N3.a.s N3.a.holes p t).2.2=0∧¬t.size=0 then (1:Int) else 0)=1:=if_pos ⟨by omega,(fun e=>absurd (Hh.1 e) (by assumption))⟩
 refine ⟨(L.set j2 (⟨N3.nb,v8,N3.ve,⟨N3.a.h,N3.a.kind,N3.a.change,(Bh N3.a.s N3.a.holes p t).1,(Bh N3.a.s N3.a.holes p t).2.1,N3.a.es,N3.a.pins⟩⟩:RN)).set j2 (⟨N3.nb,v8,N3.ve,⟨N3.a.h,N3.a.kind,N3.a.change+1,(Bh N3.a.s N3.a.holes p t).1,(Bh N3.a.s N3.a.holes p t).2.1,N3.a.es,N3.a.pins⟩⟩:RN),?_,by rw [hE];rfl,rfl⟩
 rw [hL]
 rw [List.set_set]
 refine C7 hnod hx4 hh5 ?_
 unfold wrA
 rw [hch]
 have q18:=hb13.symm.trans hc14
 have q19:(decide (t=(⟨#[]⟩:ByteArray)))=true:=by simpa using q18
 have q19:=dcT q19
 refine Ks (ZP (Ii (((Bh N3.a.s N3.a.holes p t).2.2:Nat):Int)) (ZP (Ii (((Bh N3.a.s N3.a.holes p t).2.2:Nat):Int)) (Qr (ZR [Ii (((Bh N3.a.s N3.a.holes p t).2.2:Nat):Int)] [1,0] h ?_))))
 have hE:Ep (L.map RN.a) (n,g) p t=_:=G3 (A:=L.map RN.a) (h:=(n,g)) (e:=id) (f:=fun N=>(Bh N.s N.holes p t).2.2) (Aj hnod hx4 hh5) hkd6
 have hL:Fd (L.map RN.a) (n,g) p t=_:=G3 (A:=L.map RN.a) (h:=(n,g)) (e:=fun _=>L.map RN.a) (f:=fun _=>Cx (L.map RN.a) (n,g) (wrA p t)) (Aj hnod hx4 hh5) hkd6
 have hch:(if (Bh N3.a.s N3.a.holes p t).2.2=0∧¬t.size=0 then (1:Int) else 0)=0:=if_neg (fun e=>absurd (Hh.2 (by assumption)) e.2)
 refine ⟨L.set j2 (⟨N3.nb,v8,N3.ve,⟨N3.a.h,N3.a.kind,N3.a.change,(Bh N3.a.s N3.a.holes p t).1,(Bh N3.a.s N3.a.holes p t).2.1,N3.a.es,N3.a.pins⟩⟩:RN),?_,by rw [hE];rfl,rfl⟩
 rw [hL]
 refine C7 hnod hx4 hh5 ?_
 unfold wrA
 rw [hch,Int.add_zero]
 subst hc11
 have q20:=hb10.symm
 have q20:=dcF q20
 refine Zx (Zx (ZP (.bool false) (Fs (ZP (Ii (((Bh N3.a.s N3.a.holes p t).2.2:Nat):Int)) (ZP (Ii (((Bh N3.a.s N3.a.holes p t).2.2:Nat):Int)) (Qr (ZR [Ii (((Bh N3.a.s N3.a.holes p t).2.2:Nat):Int)] [1,0] h ?_)))))))
 have hE:Ep (L.map RN.a) (n,g) p t=_:=G3 (A:=L.map RN.a) (h:=(n,g)) (e:=id) (f:=fun N=>(Bh N.s N.holes p t).2.2) (Aj hnod hx4 hh5) hkd6
 have hL:Fd (L.map RN.a) (n,g) p t=_:=G3 (A:=L.map RN.a) (h:=(n,g)) (e:=fun _=>L.map RN.a) (f:=fun _=>Cx (L.map RN.a) (n,g) (wrA p t)) (Aj hnod hx4 hh5) hkd6
 have hch:(if (Bh N3.a.s N3.a.holes p t).2.2=0∧¬t.size=0 then (1:Int) else 0)=0:=if_neg (fun e=>by omega)
 refine ⟨L.set j2 (⟨N3.nb,v8,N3.ve,⟨N3.a.h,N3.a.kind,N3.a.change,(Bh N3.a.s N3.a.holes p t).1,(Bh N3.a.s N3.a.holes p t).2.1,N3.a.es,N3.a.pins⟩⟩:RN),?_,by rw [hE];rfl,rfl⟩
 rw [hL]
 refine C7 hnod hx4 hh5 ?_
 unfold wrA
 rw [hch,Int.add_zero]
theorem Sv (htx:Abv (L.map RN.a)) (n g p:Int) (hp:-9223372036854775808≤p∧p≤9223372036854775807):Au Tryz.prog 41 #[Pp b,Hg n g,Ii p] [Rt b mst vl vt,rRL vl L] (fun u L'=>∃ L2:List RN,L2.map RN.a=Ec (L.map RN.a) (n,g) p∧u=Ii ((D4 (L.map RN.a) (n,g) p:Nat):Int)∧L'=[Rt b mst vl vt,rRL vl L2]):=by
 have hl:=hok.hl
 have hnod:=hok.hnod
 have hent:=hok.hent
 have hfew:=hok.hfew
 refine Zo 30 Tryz.func41 fun E w0 w h=>?_
 refine Qs (ZN [Ii n,Ii g] 34 h fun k1 w h=>ZP (Ii 0) (Qm (ZP (Pp b) (ZG h (Gla 0 [Ii n,Ii g] 0) ?_))))
 refine ZD [1,1] (Jg b mst vl vt L n g (by omega)) h ?_;rintro v_ L_ w (⟨hno7,rfl,rfl⟩|⟨j2,N3,hx4,hh5,hkd6,rfl,rfl⟩|⟨j2,N3,hx4,hh5,hkd6,rfl,rfl⟩) h
 refine ZP (Ii 10) (Qu (ZP (Ii 10) (ZP (.bool true) (Qg (Qs (ZP (Ii 10) (ZP (Ii 10) (Qr (Ar (ZR [Ii 10] [0,0] h ?_))))))))))
 have hE:D4 (L.map RN.a) (n,g) p=_:=Ht (A:=L.map RN.a) (h:=(n,g)) (e:=id) (f:=fun N=>(Bc N.s N.holes p).2.2) (Fa hno7)
 have hL:Ec (L.map RN.a) (n,g) p=_:=Ht (A:=L.map RN.a) (h:=(n,g)) (e:=fun _=>L.map RN.a) (f:=fun _=>Cx (L.map RN.a) (n,g) (rzA p)) (Fa hno7)
 exact ⟨L,by rw [hL],by rw [hE];rfl,rfl⟩
 refine ZP (Ii 8) (Qu (ZP (Ii 8) (ZP (.bool true) (Qg (Qs (ZP (Ii 8) (ZP (Ii 8) (Qr (Ar (ZR [Ii 8] [0,0] h ?_))))))))))
 have hE:D4 (L.map RN.a) (n,g) p=_:=Io (A:=L.map RN.a) (h:=(n,g)) (e:=id) (f:=fun N=>(Bc N.s N.holes p).2.2) (Aj hnod hx4 hh5) hkd6
 have hL:Ec (L.map RN.a) (n,g) p=_:=Io (A:=L.map RN.a) (h:=(n,g)) (e:=fun _=>L.map RN.a) (f:=fun _=>Cx (L.map RN.a) (n,g) (rzA p)) (Aj hnod hx4 hh5) hkd6
 exact ⟨L,by rw [hL],by rw [hE];rfl,rfl⟩
 refine ZP (Ii 0) (Qu (ZP (Ii 0) (ZP (.bool false) (Fs (ZP (Pp b) (ZG h (Gla 0 [Ii n,Ii g] 2) (ZC [0,0] (Cr b mst vl vt L (by omega) hnod j2 N3 hx4 n g hh5) h fun w h=>ZP (Pp N3.nb) (Qm ?_))))))))
 have hrD:=hok.at_rng hx4
 refine ZP (Pp N3.nb) (ZP (Pp N3.nb) (ZP (Pt N3.nb 4) (ZP (Ii p) ?_)))
 refine ZD [1] (Qz vl L j2 N3 hx4 (htx.at_ hx4).1 (htx.at_ hx4).2 p hp) h ?_;rintro v_ L_ w ⟨v8,rfl,rfl⟩ h
 have hx9:=Ce (⟨N3.nb,v8,N3.ve,⟨N3.a.h,N3.a.kind,N3.a.change,(Bc N3.a.s N3.a.holes p).1,(Bc N3.a.s N3.a.holes p).2.1,N3.a.es,N3.a.pins⟩⟩:RN) hx4
 refine ZP (Ii (((Bc N3.a.s N3.a.holes p).2.2:Nat):Int)) (Qu (ZP (Ii (((Bc N3.a.s N3.a.holes p).2.2:Nat):Int)) (ZP (.bool (decide ((((Bc N3.a.s N3.a.holes p).2.2:Nat):Int)=0))) (Qn (Zd ((((Bc N3.a.s N3.a.holes p).2.2:Nat):Int)=0) (fun hc10=>?_) fun hc10=>?_)))))
 refine Ah (ZP (Pp N3.nb) (ZP (Pp N3.nb) (ZP (Pt N3.nb 3) (ZG h (Gr 3 (Ii N3.a.change) 0 rfl (Cc hx9 3 (by kernel_rfl))) (ZG h (Gw (N3.a.change+1)) (ZP (Pp N3.nb) (ZP (Pt N3.nb 3) ?_)))))))
 refine Fc rfl (b:=N3.nb) 3 [Ii (N3.a.change+1)] h 0 rfl (by kernel_rfl) (L3 hx9 3 [Ii (N3.a.change+1)] (⟨N3.nb,v8,N3.ve,⟨N3.a.h,N3.a.kind,N3.a.change+1,(Bc N3.a.s N3.a.holes p).1,(Bc N3.a.s N3.a.holes p).2.1,N3.a.es,N3.a.pins⟩⟩:RN) (Nat.le_of_ble_eq_true (by kernel_rfl)) (by kernel_rfl) rfl rfl rfl rfl rfl) ?_;intro w h
 have hx11:=Ce (⟨N3.nb,v8,N3.ve,⟨N3.a.h,N3.a.kind,N3.a.change+1,(Bc N3.a.s N3.a.holes p).1,(Bc N3.a.s N3.a.holes p).2.1,N3.a.es,N3.a.pins⟩⟩:RN) hx9
 refine Qm (ZP (Ii (((Bc N3.a.s N3.a.holes p).2.2:Nat):Int)) (ZP (Ii (((Bc N3.a.s N3.a.holes p).2.2:Nat):Int)) (Qr (ZR [Ii (((Bc N3.a.s N3.a.holes p).2.2:Nat):Int)] [1,0] h ?_))))
 have hE:D4 (L.map RN.a) (n,g) p=_:=G3 (A:=L.map RN.a) (h:=(n,g)) (e:=id) (f:=fun N=>(Bc N.s N.holes p).2.2) (Aj hnod hx4 hh5) hkd6
 have hL:Ec (L.map RN.a) (n,g) p=_:=G3 (A:=L.map RN.a) (h:=(n,g)) (e:=fun _=>L.map RN.a) (f:=fun _=>Cx (L.map RN.a) (n,g) (rzA p)) (Aj hnod hx4 hh5) hkd6
 have hch:(if (Bc N3.a.s N3.a.holes p).2.2=0 then (1:Int) else 0)=1:=if_pos (by omega)
 refine ⟨(L.set j2 (⟨N3.nb,v8,N3.ve,⟨N3.a.h,N3.a.kind,N3.a.change,(Bc N3.a.s N3.a.holes p).1,(Bc N3.a.s N3.a.holes p).2.1,N3.a.es,N3.a.pins⟩⟩:RN)).set j2 (⟨N3.nb,v8,N3.ve,⟨N3.a.h,N3.a.kind,N3.a.change+1,(Bc N3.a.s N3.a.holes p).1,(Bc N3.a.s N3.a.holes p).2.1,N3.a.es,N3.a.pins⟩⟩:RN),?_,by rw [hE];rfl,rfl⟩
 rw [hL]
 rw [List.set_set]
 refine C7 hnod hx4 hh5 ?_
 unfold rzA
 rw [hch]
 refine Ks (ZP (Ii (((Bc N3.a.s N3.a.holes p).2.2:Nat):Int)) (ZP (Ii (((Bc N3.a.s N3.a.holes p).2.2:Nat):Int)) (Qr (ZR [Ii (((Bc N3.a.s N3.a.holes p).2.2:Nat):Int)] [1,0] h ?_))))
 have hE:D4 (L.map RN.a) (n,g) p=_:=G3 (A:=L.map RN.a) (h:=(n,g)) (e:=id) (f:=fun N=>(Bc N.s N.holes p).2.2) (Aj hnod hx4 hh5) hkd6
 have hL:Ec (L.map RN.a) (n,g) p=_:=G3 (A:=L.map RN.a) (h:=(n,g)) (e:=fun _=>L.map RN.a) (f:=fun _=>Cx (L.map RN.a) (n,g) (rzA p)) (Aj hnod hx4 hh5) hkd6
 have hch:(if (Bc N3.a.s N3.a.holes p).2.2=0 then (1:Int) else 0)=0:=if_neg (fun e=>by omega)
 refine ⟨L.set j2 (⟨N3.nb,v8,N3.ve,⟨N3.a.h,N3.a.kind,N3.a.change,(Bc N3.a.s N3.a.holes p).1,(Bc N3.a.s N3.a.holes p).2.1,N3.a.es,N3.a.pins⟩⟩:RN),?_,by rw [hE];rfl,rfl⟩
 rw [hL]
 refine C7 hnod hx4 hh5 ?_
 unfold rzA
 rw [hch,Int.add_zero]
theorem Vg (n g:Int) (cn:Nat) (hcn:cn≤9223372036854775807) (m:Int) (hm:-9223372036854775808≤m∧m≤9223372036854775807):Au Tryz.prog 23 #[Pp b,Hg n g,Ii cn,Ii m] [Rt b mst vl vt,rRL vl L] (fun u L'=>∃ v',u=.tuple #[v',Ii (((Cg (L.map RN.a) (n,g) (cn:Int) m).2.1:Nat):Int),Ii (((Cg (L.map RN.a) (n,g) (cn:Int) m).2.2:Nat):Int)]∧L'=[Rt b mst vl vt,rRL vl L,A8 true v' 107 3 e3C ((Cg (L.map RN.a) (n,g) (cn:Int) m).1)]):=by
 have hl:=hok.hl
 have hnod:=hok.hnod
 have hent:=hok.hent
 have hfew:=hok.hfew
 refine Zo 66 Tryz.func23 fun E w0 w h=>?_
 refine Qs (ZN [Ii n,Ii g] 34 h fun k1 w h=>ZP (.slice none 0 0) (ZP (Ii 0) (ZP (Ii 0) (Qm (ZP (Pp b) (ZG h (Gla 0 [Ii n,Ii g] 0) ?_))))))
 refine ZD [1,1] (Fz b mst vl vt L n g (by omega)) h ?_;rintro v_ L_ w (⟨hno7,rfl,rfl⟩|⟨j2,N3,hx4,hh5,hkd6,rfl,rfl⟩|⟨j2,N3,hx4,hh5,hkd6,rfl,rfl⟩) h
 refine ZP (Ii 10) (Qu (ZP (Ii 10) (ZP (.bool true) (Qg (Qs (ZP (Ii 10) (ZP (.slice none 0 0) (ZP (Ii 0) (ZP (Ii 10) (Qr (Ar ?_)))))))))))
 have h:=h.nilRows 107 3 e3C
 refine ZR [.slice none 0 0,Ii 0,Ii 10] [1,1,0] h ?_
 have hT:=Sf (A:=L.map RN.a) (h:=(n,g)) (c:=(cn:Int)) (m:=m) (Fa hno7)
 exact ⟨(.slice none 0 0),by rw [hT];rfl,by rw [hT];rfl⟩
 refine ZP (Ii 7) (Qu (ZP (Ii 7) (ZP (.bool true) (Qg (Qs (ZP (Ii 7) (ZP (.slice none 0 0) (ZP (Ii 0) (ZP (Ii 7) (Qr (Ar ?_)))))))))))
 have h:=h.nilRows 107 3 e3C
 refine ZR [.slice none 0 0,Ii 0,Ii 7] [1,1,0] h ?_
 have hT:=S7 (A:=L.map RN.a) (h:=(n,g)) (c:=(cn:Int)) (m:=m) (Aj hnod hx4 hh5) hkd6
 exact ⟨(.slice none 0 0),by rw [hT];rfl,by rw [hT];rfl⟩
 refine ZP (Ii 0) (Qu (ZP (Ii 0) (ZP (.bool false) (Ft (ZP (Ii cn) ?_)))))
 obtain ⟨b8,hb8⟩:=nmB (decide ((cn:Int)<0))
 refine ZB hb8 (ZP (.bool b8) ?_)
 rcases Bool.eq_false_or_eq_true b8 with hc9|hc9
 subst hc9
 have q10:=hb8.symm
 have q10:=dcT q10
 refine Zx (Zx (ZP (.bool true) (Qg (Qs (ZP (.slice none 0 0) (ZP (Ii 0) (ZP (Ii 2) (Qr (Ar ?_)))))))))
 have h:=h.nilRows 107 3 e3C
 refine ZR [.slice none 0 0,Ii 0,Ii 2] [1,1,0] h ?_
 have hT:=P2 (A:=L.map RN.a) (h:=(n,g)) (c:=(cn:Int)) (m:=m) (Aj hnod hx4 hh5) hkd6 (by omega)
 exact ⟨(.slice none 0 0),by rw [hT];rfl,by rw [hT];rfl⟩
 subst hc9
 have q11:=hb8.symm
 have q11:=dcF q11
 refine ZP (Ii m) ?_
 obtain ⟨b12,hb12⟩:=nmB (decide (m<0))
 refine ZB hb12 (ZP (.bool b12) (Qn (Zi (b12) (fun hc13=>?_) fun hc13=>?_)))
 have q14:=hb12.symm.trans hc13
 have q14:=dcT q14
 refine Qs (ZP (.slice none 0 0) (ZP (Ii 0) (ZP (Ii 2) (Qr (Ar ?_)))))
 have h:=h.nilRows 107 3 e3C
 refine ZR [.slice none 0 0,Ii 0,Ii 2] [1,1,0] h ?_
 have hT:=P2 (A:=L.map RN.a) (h:=(n,g)) (c:=(cn:Int)) (m:=m) (Aj hnod hx4 hh5) hkd6 (by omega)
 exact ⟨(.slice none 0 0),by rw [hT];rfl,by rw [hT];rfl⟩
 have q15:=hb12.symm.trans hc13
 have q15:=dcF q15
 refine Ks (ZP (Pp b) (ZG h (Gla 0 [Ii n,Ii g] 2) (ZC [0,0] (Cr b mst vl vt L (by omega) hnod j2 N3 hx4 n g hh5) h fun w h=>ZP (Pp N3.nb) (Qm (ZP (Ii cn) (ZP (Ii cn) (Qu (ZP (Ii cn) (ZP (Pp N3.nb) (ZP (Pp N3.nb) (ZP (Pt N3.nb 6) (ZG h (Gr 6 N3.ve 1 rfl (Cc hx4 6 (by kernel_rfl))) (ZG h (Dh 107 (by kernel_rfl) 1 rfl (Bo hx4)) (ZP (.bool (decide ((cn:Int)>(N3.a.es.length:Int)))) (Qn (Zd ((cn:Int)>(N3.a.es.length:Int)) (fun hc16=>?_) fun hc16=>?_))))))))))))))))
 have hfw:=hok.at_few hx4
 refine Ah (ZP (Pp N3.nb) (ZP (Pp N3.nb) (ZP (Pt N3.nb 6) (ZG h (Gr 6 N3.ve 1 rfl (Cc hx4 6 (by kernel_rfl))) (ZG h (Dh 107 (by kernel_rfl) 1 rfl (Bo hx4)) (ZP (Ii (N3.a.es.length:Int)) (Qm (ZP (.slice none 0 0) (Qn (Aa (Av ?_)))))))))))
 have h:=h.nilRows 107 3 e3C
 refine ZL (X:=Nat×List Bj×Value×(Nat→Value)) [(43,67)] (fun ⟨k,ls,vo,J0⟩=>[(13,Ii k),(14,vo)]) (fun ⟨k,ls,vo,J0⟩=>J0) (fun ⟨k,ls,vo,J0⟩=>[A8 true vo 107 3 e3C ls,Rt b mst vl vt,rRL vl L,Rh k1 n g]) (fun ⟨k,ls,vo,J0⟩=>k≤N3.a.es.length∧N3.a.es.length≤k∧k - N3.a.es.length≤m.toNat∧ls=(N3.a.es.drop N3.a.es.length).take (k - N3.a.es.length)) (fun ⟨k,ls,vo,J0⟩=>N3.a.es.length - k) (fun j=>⟨N3.a.es.length,[],(.slice none 0 0),j⟩) ⟨by omega,by omega,by omega,by rw [Nat.sub_self];rfl⟩ [0,0,0,0] h ?_
 rintro ⟨k,ls,vo,J0⟩ w hG h
 obtain ⟨hk1,hk2,hk3,hls⟩:k≤N3.a.es.length∧N3.a.es.length≤k∧k - N3.a.es.length≤m.toNat∧ls=(N3.a.es.drop N3.a.es.length).take (k - N3.a.es.length):=hG
 have hll:ls.length=k - N3.a.es.length:=by rw [hls,List.length_take,List.length_drop];omega
 refine Qt (ZP (Ii k) (ZP (Pp N3.nb) (ZP (Pp N3.nb) (ZP (Pt N3.nb 6) (ZG h (Gr 6 N3.ve 2 rfl (Cc hx4 6 (by kernel_rfl))) (ZG h (Dh 107 (by kernel_rfl) 2 rfl (Bo hx4)) ?_))))))
 obtain ⟨b17,hb17⟩:=nmB (decide ((k:Int)<(N3.a.es.length:Int)))
 refine ZB hb17 (ZP (.bool b17) ?_)
 rcases Bool.eq_false_or_eq_true b17 with hc18|hc18
 subst hc18
 have q19:=hb17.symm
 have q19:=dcT q19
 refine ZP vo (ZG h (Ki (by kernel_rfl) 0 rfl) (ZP (Ii m) ?_))
 obtain ⟨b20,hb20⟩:=nmB (decide ((ls.length:Int)<m))
 refine ZB hb20 (ZP (.bool b20) (Qn (Zi (b20) (fun hc21=>?_) fun hc21=>?_)))
 have q22:=hb20.symm.trans hc21
 have q22:=dcT q22
 refine Kn (Av (Qs (ZP vo (ZP (Pp N3.nb) (ZP (Pp N3.nb) (ZP (Pt N3.nb 6) (ZG h (Gr 6 N3.ve 2 rfl (Cc hx4 6 (by kernel_rfl))) (ZP (Ii k) ?_))))))))
 have hi23:k<N3.a.es.length:=by omega
 obtain ⟨x24,hx25⟩:∃ x,N3.a.es[k]?=some x:=⟨_,List.getElem?_eq_getElem hi23⟩
 refine ZG h (Dn (k:=3) 107 k rfl (by kernel_rfl) hi23 2 rfl (Bo hx4)) (ZG h (Gra (B0 N3.ve+k*3) [.string x24.1,Ii x24.2.1,Ii x24.2.2] 2 rfl (K3 (Bo hx4) D0 hx25 (by kernel_rfl))) ?_)
 refine Gm rfl (fun b=>.slice (some ⟨b,0,none⟩) 1 1) [.string x24.1,Ii x24.2.1,Ii x24.2.2] 107 (fun _=>by kernel_rfl) h ?_;intro k26 w h
 refine Hc (b:=k26) (o:=0) rfl 1 x24 (by kernel_rfl) h 1 rfl 0 rfl (Fb 0 (by kernel_rfl)) (by (try simp only [List.length_append,List.length_cons,List.length_nil,List.length_map]);omega) ?_;intro v27 w h
 refine ZP v27 (Qn (Ah (ZP (Ii k) (ZG h (A4 (v:=Ii (IntKind.i64.wrap ((k:Int)+1))) (v':=Ii ((k+1:Nat):Int)) (Az fun _=>by kernel_rfl) (wr (by omega))) (ZP (Ii ((k+1:Nat):Int)) (Cu ?_))))))
 refine Cb ?_
 have hQ28:((k+1)≤N3.a.es.length∧N3.a.es.length≤(k+1)∧(k+1) - N3.a.es.length≤m.toNat∧(ls++[x24])=(N3.a.es.drop N3.a.es.length).take ((k+1) - N3.a.es.length))∧(N3.a.es.length - (k+1))<(N3.a.es.length - k):=⟨⟨by omega,by omega,by omega,by rw [Rr hk2 hx25,← hls]⟩,by omega⟩
 refine Bn (fun j=>⟨(k+1),ls++[x24],v27,j⟩) hQ28 (by kernel_rfl) [1,1,1,1] (by kernel_rfl) h
 have q29:=hb20.symm.trans hc21
 have q29:=dcF q29
 refine C9 (D3 (Ek (Ea (Ai (Qs (ZP vo (ZP (Ii k) (ZP vo (ZP (Ii k) (ZP (Ii 0) (Qr (ZR [vo,Ii k,Ii 0] [1,1,0] h ?_))))))))))))
 have hS:lsE N3.a.es (cn:Int) m=(ls,k):=P6 (k0:=N3.a.es.length) (by omega) hk2 hk1 hk3 hls (by omega)
 have hT:=Vn (A:=L.map RN.a) (h:=(n,g)) (c:=(cn:Int)) (m:=m) (Aj hnod hx4 hh5) hkd6 (by omega)
 rw [hS] at hT
 exact ⟨vo,by rw [hT];rfl,by rw [hT];rfl⟩
 subst hc18
 have q30:=hb17.symm
 have q30:=dcF q30
 refine Zx (Zx (Zx (Zx (ZP (.bool false) (Qf (C9 (D3 (Ek (Ea (Ai (Qs (ZP vo (ZP (Ii k) (ZP vo (ZP (Ii k) (ZP (Ii 0) (Qr (ZR [vo,Ii k,Ii 0] [1,1,0] h ?_))))))))))))))))))
 have hS:lsE N3.a.es (cn:Int) m=(ls,k):=P6 (k0:=N3.a.es.length) (by omega) hk2 hk1 hk3 hls (by omega)
 have hT:=Vn (A:=L.map RN.a) (h:=(n,g)) (c:=(cn:Int)) (m:=m) (Aj hnod hx4 hh5) hkd6 (by omega)
 rw [hS] at hT
 exact ⟨vo,by rw [hT];rfl,by rw [hT];rfl⟩
 have hfw:=hok.at_few hx4
 refine Ks (ZP (.slice none 0 0) (Qn (Aa (Av ?_))))
 have h:=h.nilRows 107 3 e3C
 refine ZL (X:=Nat×List Bj×Value×(Nat→Value)) [(43,67)] (fun ⟨k,ls,vo,J1⟩=>[(13,Ii k),(14,vo)]) (fun ⟨k,ls,vo,J1⟩=>J1) (fun ⟨k,ls,vo,J1⟩=>[A8 true vo 107 3 e3C ls,Rt b mst vl vt,rRL vl L,Rh k1 n g]) (fun ⟨k,ls,vo,J1⟩=>k≤N3.a.es.length∧cn≤k∧k - cn≤m.toNat∧ls=(N3.a.es.drop cn).take (k - cn)) (fun ⟨k,ls,vo,J1⟩=>N3.a.es.length - k) (fun j=>⟨cn,[],(.slice none 0 0),j⟩) ⟨by omega,by omega,by omega,by rw [Nat.sub_self];rfl⟩ [0,0,0,0] h ?_
 rintro ⟨k,ls,vo,J1⟩ w hG h
 obtain ⟨hk1,hk2,hk3,hls⟩:k≤N3.a.es.length∧cn≤k∧k - cn≤m.toNat∧ls=(N3.a.es.drop cn).take (k - cn):=hG
 have hll:ls.length=k - cn:=by rw [hls,List.length_take,List.length_drop];omega
 refine Qt (ZP (Ii k) (ZP (Pp N3.nb) (ZP (Pp N3.nb) (ZP (Pt N3.nb 6) (ZG h (Gr 6 N3.ve 2 rfl (Cc hx4 6 (by kernel_rfl))) (ZG h (Dh 107 (by kernel_rfl) 2 rfl (Bo hx4)) ?_))))))
 obtain ⟨b31,hb31⟩:=nmB (decide ((k:Int)<(N3.a.es.length:Int)))
 refine ZB hb31 (ZP (.bool b31) ?_)
 rcases Bool.eq_false_or_eq_true b31 with hc32|hc32
 subst hc32
 have q33:=hb31.symm
 have q33:=dcT q33
 refine ZP vo (ZG h (Ki (by kernel_rfl) 0 rfl) (ZP (Ii m) ?_))
 obtain ⟨b34,hb34⟩:=nmB (decide ((ls.length:Int)<m))
 refine ZB hb34 (ZP (.bool b34) (Qn (Zi (b34) (fun hc35=>?_) fun hc35=>?_)))
 have q36:=hb34.symm.trans hc35
 have q36:=dcT q36
 refine Kn (Av (Qs (ZP vo (ZP (Pp N3.nb) (ZP (Pp N3.nb) (ZP (Pt N3.nb 6) (ZG h (Gr 6 N3.ve 2 rfl (Cc hx4 6 (by kernel_rfl))) (ZP (Ii k) ?_))))))))
 have hi37:k<N3.a.es.length:=by omega
 obtain ⟨x38,hx39⟩:∃ x,N3.a.es[k]?=some x:=⟨_,List.getElem?_eq_getElem hi37⟩
 refine ZG h (Dn (k:=3) 107 k rfl (by kernel_rfl) hi37 2 rfl (Bo hx4)) (ZG h (Gra (B0 N3.ve+k*3) [.string x38.1,Ii x38.2.1,Ii x38.2.2] 2 rfl (K3 (Bo hx4) D0 hx39 (by kernel_rfl))) ?_)
 refine Gm rfl (fun b=>.slice (some ⟨b,0,none⟩) 1 1) [.string x38.1,Ii x38.2.1,Ii x38.2.2] 107 (fun _=>by kernel_rfl) h ?_;intro k40 w h
 refine Hc (b:=k40) (o:=0) rfl 1 x38 (by kernel_rfl) h 1 rfl 0 rfl (Fb 0 (by kernel_rfl)) (by (try simp only [List.length_append,List.length_cons,List.length_nil,List.length_map]);omega) ?_;intro v41 w h
 refine ZP v41 (Qn (Ah (ZP (Ii k) (ZG h (A4 (v:=Ii (IntKind.i64.wrap ((k:Int)+1))) (v':=Ii ((k+1:Nat):Int)) (Az fun _=>by kernel_rfl) (wr (by omega))) (ZP (Ii ((k+1:Nat):Int)) (Cu ?_))))))
 refine Cb ?_
 have hQ42:((k+1)≤N3.a.es.length∧cn≤(k+1)∧(k+1) - cn≤m.toNat∧(ls++[x38])=(N3.a.es.drop cn).take ((k+1) - cn))∧(N3.a.es.length - (k+1))<(N3.a.es.length - k):=⟨⟨by omega,by omega,by omega,by rw [Rr hk2 hx39,← hls]⟩,by omega⟩
 refine Bn (fun j=>⟨(k+1),ls++[x38],v41,j⟩) hQ42 (by kernel_rfl) [1,1,1,1] (by kernel_rfl) h
 have q43:=hb34.symm.trans hc35
 have q43:=dcF q43
 refine C9 (D3 (Ek (Ea (Ai (Qs (ZP vo (ZP (Ii k) (ZP vo (ZP (Ii k) (ZP (Ii 0) (Qr (ZR [vo,Ii k,Ii 0] [1,1,0] h ?_))))))))))))
 have hS:lsE N3.a.es (cn:Int) m=(ls,k):=P6 (k0:=cn) (by omega) hk2 hk1 hk3 hls (by omega)
 have hT:=Vn (A:=L.map RN.a) (h:=(n,g)) (c:=(cn:Int)) (m:=m) (Aj hnod hx4 hh5) hkd6 (by omega)
 rw [hS] at hT
 exact ⟨vo,by rw [hT];rfl,by rw [hT];rfl⟩
 subst hc32
 have q44:=hb31.symm
 have q44:=dcF q44
 refine Zx (Zx (Zx (Zx (ZP (.bool false) (Qf (C9 (D3 (Ek (Ea (Ai (Qs (ZP vo (ZP (Ii k) (ZP vo (ZP (Ii k) (ZP (Ii 0) (Qr (ZR [vo,Ii k,Ii 0] [1,1,0] h ?_))))))))))))))))))
 have hS:lsE N3.a.es (cn:Int) m=(ls,k):=P6 (k0:=cn) (by omega) hk2 hk1 hk3 hls (by omega)
 have hT:=Vn (A:=L.map RN.a) (h:=(n,g)) (c:=(cn:Int)) (m:=m) (Aj hnod hx4 hh5) hkd6 (by omega)
 rw [hS] at hT
 exact ⟨vo,by rw [hT];rfl,by rw [hT];rfl⟩
theorem U4 (n g:Int) (cq:Int) (hcn:cq<0) (m:Int) (hm:-9223372036854775808≤m∧m≤9223372036854775807):Au Tryz.prog 23 #[Pp b,Hg n g,Ii cq,Ii m] [Rt b mst vl vt,rRL vl L] (fun u L'=>∃ v',u=.tuple #[v',Ii (((Cg (L.map RN.a) (n,g) cq m).2.1:Nat):Int),Ii (((Cg (L.map RN.a) (n,g) cq m).2.2:Nat):Int)]∧L'=[Rt b mst vl vt,rRL vl L,A8 true v' 107 3 e3C ((Cg (L.map RN.a) (n,g) cq m).1)]):=by
 have hl:=hok.hl
 have hnod:=hok.hnod
 have hent:=hok.hent
 have hfew:=hok.hfew
 refine Zo 66 Tryz.func23 fun E w0 w h=>?_
 refine Qs (ZN [Ii n,Ii g] 34 h fun k1 w h=>ZP (.slice none 0 0) (ZP (Ii 0) (ZP (Ii 0) (Qm (ZP (Pp b) (ZG h (Gla 0 [Ii n,Ii g] 0) ?_))))))
 refine ZD [1,1] (Fz b mst vl vt L n g (by omega)) h ?_;rintro v_ L_ w (⟨hno7,rfl,rfl⟩|⟨j2,N3,hx4,hh5,hkd6,rfl,rfl⟩|⟨j2,N3,hx4,hh5,hkd6,rfl,rfl⟩) h
 refine ZP (Ii 10) (Qu (ZP (Ii 10) (ZP (.bool true) (Qg (Qs (ZP (Ii 10) (ZP (.slice none 0 0) (ZP (Ii 0) (ZP (Ii 10) (Qr (Ar ?_)))))))))))
 have h:=h.nilRows 107 3 e3C
 refine ZR [.slice none 0 0,Ii 0,Ii 10] [1,1,0] h ?_
 have hT:=Sf (A:=L.map RN.a) (h:=(n,g)) (c:=cq) (m:=m) (Fa hno7)
 exact ⟨(.slice none 0 0),by rw [hT];rfl,by rw [hT];rfl⟩
 refine ZP (Ii 7) (Qu (ZP (Ii 7) (ZP (.bool true) (Qg (Qs (ZP (Ii 7) (ZP (.slice none 0 0) (ZP (Ii 0) (ZP (Ii 7) (Qr (Ar ?_)))))))))))
 have h:=h.nilRows 107 3 e3C
 refine ZR [.slice none 0 0,Ii 0,Ii 7] [1,1,0] h ?_
 have hT:=S7 (A:=L.map RN.a) (h:=(n,g)) (c:=cq) (m:=m) (Aj hnod hx4 hh5) hkd6
 exact ⟨(.slice none 0 0),by rw [hT];rfl,by rw [hT];rfl⟩
 refine ZP (Ii 0) (Qu (ZP (Ii 0) (ZP (.bool false) (Ft (ZP (Ii cq) ?_)))))
 obtain ⟨b8,hb8⟩:=nmB (decide (cq<0))
 refine ZB hb8 (ZP (.bool b8) ?_)
 rcases Bool.eq_false_or_eq_true b8 with hc9|hc9
 subst hc9
 have q10:=hb8.symm
 have q10:=dcT q10
 refine Zx (Zx (ZP (.bool true) (Qg (Qs (ZP (.slice none 0 0) (ZP (Ii 0) (ZP (Ii 2) (Qr (Ar ?_)))))))))
 have h:=h.nilRows 107 3 e3C
 refine ZR [.slice none 0 0,Ii 0,Ii 2] [1,1,0] h ?_
 have hT:=P2 (A:=L.map RN.a) (h:=(n,g)) (c:=cq) (m:=m) (Aj hnod hx4 hh5) hkd6 (by omega)
 exact ⟨(.slice none 0 0),by rw [hT];rfl,by rw [hT];rfl⟩
 subst hc9
 have q11:=hb8.symm
 have q11:=dcF q11
 refine ZP (Ii m) ?_
 obtain ⟨b12,hb12⟩:=nmB (decide (m<0))
 refine ZB hb12 (ZP (.bool b12) (Qn (Zi (b12) (fun hc13=>?_) fun hc13=>?_)))
 have q14:=hb12.symm.trans hc13
 have q14:=dcT q14
 refine Qs (ZP (.slice none 0 0) (ZP (Ii 0) (ZP (Ii 2) (Qr (Ar ?_)))))
 have h:=h.nilRows 107 3 e3C
 refine ZR [.slice none 0 0,Ii 0,Ii 2] [1,1,0] h ?_
 have hT:=P2 (A:=L.map RN.a) (h:=(n,g)) (c:=cq) (m:=m) (Aj hnod hx4 hh5) hkd6 (by omega)
 exact ⟨(.slice none 0 0),by rw [hT];rfl,by rw [hT];rfl⟩
 have q15:=hb12.symm.trans hc13
 have q15:=dcF q15
 exfalso;omega
end
theorem Zn (va vb:Value) (la lb:List Bj) (hla:la.length≤1000)  : Au Tryz.prog 21 #[va,vb] [A8 true va 107 3 e3C la,A8 true vb 107 3 e3C lb] (fun u L'=>u=.bool (decide (la=lb))∧L'=[A8 true va 107 3 e3C la,A8 true vb 107 3 e3C lb]):=by
 refine Zo 24 Tryz.func21 fun E w0 w h=>?_
 refine Qs (ZP (.bool false) (Qu (ZP va (ZG h (Ki (by kernel_rfl) 0 rfl) (ZP vb (ZG h (Ki (by kernel_rfl) 1 rfl) (ZP (.bool (!(decide ((la.length:Int)=(lb.length:Int))))) (Qn (Zi (!(decide ((la.length:Int)=(lb.length:Int)))) (fun hc1=>?_) fun hc1=>?_)))))))))
 have q2:(decide ((la.length:Int)=(lb.length:Int)))=false:=by simpa using hc1
 have q2:=dcF q2
 refine Qs (ZP (.bool false) (Qr (Ar (ZR [.bool false] [0,0] h ?_))))
 have hE:la≠lb:=fun e=>by have:=congrArg List.length e;omega
 exact ⟨by rw [decide_eq_false hE];rfl,rfl⟩
 have q3:(decide ((la.length:Int)=(lb.length:Int)))=true:=by simpa using hc1
 have q3:=dcT q3
 refine Kw (ZP (Ii 0) (Qn (Av ?_)))
 refine ZL (X:=Nat×(Nat→Value)) [(4,4),(11,25)] (fun ⟨i,J0⟩=>[(5,Ii i)]) (fun ⟨i,J0⟩=>J0) (fun ⟨i,J0⟩=>[A8 true va 107 3 e3C la,A8 true vb 107 3 e3C lb]) (fun ⟨i,J0⟩=>i≤la.length∧la.take i=lb.take i) (fun ⟨i,J0⟩=>la.length - i) (fun j=>⟨0,j⟩) ⟨by omega,rfl⟩ [0,0] h ?_
 rintro ⟨i,J0⟩ w hG h
 obtain ⟨hi0,hsame⟩:i≤la.length∧la.take i=lb.take i:=hG
 refine Qt (ZP (Ii i) (ZP va (ZG h (Ki (by kernel_rfl) 0 rfl) (ZP (.bool (decide ((i:Int)<(la.length:Int)))) (Qn (Zd ((i:Int)<(la.length:Int)) (fun hc4=>?_) fun hc4=>?_))))))
 refine Kn (Aa (Av (Aa (Ds 9 [0,0] h fun w h=>Dp 0 242 va [0,0] h (Dp 1 241 (Ii i) [0,0] h ?_)))))
 have hi5:i<la.length:=by omega
 obtain ⟨x6,hx7⟩:∃ x,la[i]?=some x:=⟨_,List.getElem?_eq_getElem hi5⟩
 refine Dq (v:=Pt (Dg va) (B0 va+i*3)) 2 243 [0,0] rfl h (Lk i (by kernel_rfl) hi5 0 rfl) (Dq 3 247 [0,0] rfl h (Gra (B0 va+i*3) [.string x6.1,Ii x6.2.1,Ii x6.2.2] 0 rfl (L6 D0 hx7 (by kernel_rfl))) (Dp 4 47 vb [0,0] h (Dp 5 31 (Ii i) [0,0] h ?_)))
 have hi8:i<lb.length:=by omega
 obtain ⟨x9,hx10⟩:∃ x,lb[i]?=some x:=⟨_,List.getElem?_eq_getElem hi8⟩
 refine Dq (v:=Pt (Dg vb) (B0 vb+i*3)) 6 63 [0,0] rfl h (Lk i (by kernel_rfl) hi8 1 rfl) (Dq 7 127 [0,0] rfl h (Gra (B0 vb+i*3) [.string x9.1,Ii x9.2.1,Ii x9.2.2] 1 rfl (L6 D0 hx10 (by kernel_rfl))) (Dq (v:=.bool (!((decide (x6.1=x9.1))&&((decide (x6.2.1=x9.2.1))&&(decide (x6.2.2=x9.2.2)))))) 8 255 [0,0] rfl h (Ag3 (by kernel_rfl)) (Dd (Ai (Zi (!((decide (x6.1=x9.1))&&((decide (x6.2.1=x9.2.1))&&(decide (x6.2.2=x9.2.2))))) (fun hc11=>?_) fun hc11=>?_)))))
 have q12:=nT hc11
 refine Qs (ZP (.bool false) (Qr (B7 (Ar (Li (B7 (Ar (ZR [.bool false] [0,0] h ?_))))))))
 have hE:la≠lb:=fun e=>by subst e;have e2:=Option.some.inj (hx7.symm.trans hx10);subst e2;simp_all
 exact ⟨by rw [decide_eq_false hE];rfl,rfl⟩
 have q13:=nF hc11
 have q14:=aL q13
 have q15:=aR q13
 have q14:=dcT q14
 have q16:=aL q15
 have q17:=aR q15
 have q16:=dcT q16
 have q17:=dcT q17
 refine B6 ?_
 refine Cb (Ai ?_)
 refine Ah (ZP (Ii i) (ZG h (A4 (v:=Ii (IntKind.i64.wrap ((i:Int)+1))) (v':=Ii ((i+1:Nat):Int)) (Az fun _=>by kernel_rfl) (wr (by omega))) (ZP (Ii ((i+1:Nat):Int)) (Cu ?_))))
 have hxy:x6=x9:=Prod.ext (by assumption) (Prod.ext (by assumption) (by assumption))
 have hQ18:((i+1)≤la.length∧la.take (i+1)=lb.take (i+1))∧(la.length - (i+1))<(la.length - i):=⟨⟨by omega,by rw [List.take_add_one,List.take_add_one,hx7,hx10,hsame,hxy]⟩,by omega⟩
 refine Bn (fun j=>⟨(i+1),j⟩) hQ18 (by kernel_rfl) [0,0] (by kernel_rfl) h
 refine C9 (D3 (Ek (Ea (Ai (Qs (ZP (.bool true) (Qr (ZR [.bool true] [0,0] h ?_))))))))
 have hE:la=lb:=by rw [List.take_of_length_le (by omega),List.take_of_length_le (by omega)] at hsame;exact hsame
 exact ⟨by rw [decide_eq_true hE];rfl,rfl⟩
section
variable {P:Program} {a:Act} {w w0:World} {E:Ent} {L:List Res}
end

def hdC (x:Hdl):List Value:=[Ii x.1,Ii x.2]
theorem Ae0 (x:Hdl):(hdC x).length=2:=rfl
theorem Nv {B:Nat} (ad:Nat→Addr) (c:Nat) (code:Int) (hc:c≤15) (hcode:(c:Int)=code):Au Tryz.prog 18 #[Ag ad c,Ii code] [A6 B ad] fun u L=>u=.bool true∧L=[A6 B ad]:=fun E w0 w ho=>
  (Y5 ad c code w (ho.fact 0 rfl) hc hcode).mono fun e w' ⟨he,hc'⟩=>⟨_,_,⟨rfl,rfl⟩,he,ho.quiet hc'⟩
theorem Zg (b most:Nat) (vl vt:Value) (ts:List Int) (L:List RN) (c:Int) (hc:c≤900000) (hok:Dm (L.map RN.a) c) (ti:TI most ts (L.map RN.a)) (n g m f:Int) (old nm:ByteArray) (hoz:old.size≤100000) (hnz:nm.size≤100000):Au Tryz.prog 37 #[Pp b,Hg n g,.string old,Hg m f,.string nm] [Rt b most vl vt,rRL vl L] fun u L'=>∃ (v':Value) (L2:List RN),L2.map RN.a=(tRename (L.map RN.a) (n,g) old (m,f) nm).2∧u=Ii (((tRename (L.map RN.a) (n,g) old (m,f) nm).1:Nat):Int)∧L'=[Rt b most v' vt,rRL v' L2]:=by
  obtain ⟨rk,hrk⟩:=ti.climbEnds
  by_cases h:((n,g):Hdl)=(m,f)
  · obtain ⟨rfl,rfl⟩:=Prod.mk.inj h
    exact Xb b most vl vt L c hc hok n g old nm hoz hnz rk hrk
  · exact Wu b most vl vt L c hc hok n g m f h old nm hoz hnz rk hrk
theorem S8 (hb:Nat) (hv:Value) (hs:List Hdl) (hsl:hs.length≤1000) (np:Int)  : Au Tryz.prog 16 #[Pp hb,Ii np] [Bw true hb [hv] 37,A8 true hv 34 2 hdC hs] (fun u L=>∃ x:Hdl,u=Hg x.1 x.2∧L=[Bw true hb [hv] 37,A8 true hv 34 2 hdC hs]):=by
 refine Zo 23 Tryz.func16 fun E w0 w h=>?_
 refine Qs (ZN [Ii 0,Ii 0] 34 h fun k1 w h=>Qu (ZP (Ii np) ?_))
 obtain ⟨b2,hb2⟩:=nmB (decide (np≥0))
 refine ZB hb2 (ZP (.bool b2) (ZM1 (v:=Ii np) b2 h (fun hB=>by subst hB;exact Gp (Ii np)) (ZM1 (v:=Pp hb) b2 h (fun hB=>by subst hB;exact Gp (Pp hb)) (ZM1 (v:=Pp hb) b2 h (fun hB=>by subst hB;exact Gp (Pp hb)) (ZM1 (v:=Pp hb) b2 h (fun hB=>by subst hB;exact Gp (Pp hb)) (ZM1 (v:=hv) b2 h (fun hB=>by subst hB;exact Gl 0 (hv) 1) (ZM1 (v:=Ii (hs.length:Int)) b2 h (fun hB=>by subst hB;exact Ki (by kernel_rfl) 2 rfl) ?_)))))))
 obtain ⟨b3,hb3⟩:=nmB (decide (np<(hs.length:Int)))
 refine ZM1 (v:=.bool b3) b2 h (fun hB=>by subst hB;exact by subst hb3;exact Az (v:=.bool (decide (np<(hs.length:Int)))) fun _=>by kernel_rfl) ?_
 obtain ⟨b4,hb4⟩:=nmB (b2&&b3)
 refine ZBc b2 hb4 (Qn (Zi (b4) (fun hc5=>?_) fun hc5=>?_))
 have q6:=hb4.symm.trans hc5
 have q7:=aL q6
 have q8:=aR q6
 have q9:=hb2.symm.trans q7
 have q9:=dcT q9
 have q10:=hb3.symm.trans q8
 have q10:=dcT q10
 refine Qs (ZP (Pp hb) (ZP (Pp hb) (ZP (Pp hb) (ZG h (Gl 0 (hv) 1) (ZP (Ii np) ?_)))))
 obtain ⟨j11,hj11⟩:∃ n:Nat,np=(n:Int):=⟨(np).toNat,by omega⟩
 have hi12:j11<hs.length:=by omega
 obtain ⟨x13,hx14⟩:∃ x,hs[j11]?=some x:=⟨_,List.getElem?_eq_getElem hi12⟩
 refine ZG h (Agl j11 hj11 (by kernel_rfl) hi12 2 rfl) (ZG h (Gra (B0 hv+j11*2) [Ii x13.1,Ii x13.2] 2 rfl (L6 Ae0 hx14 (by kernel_rfl))) (ZSs [Ii x13.1,Ii x13.2] 0 rfl h fun w h=>Qr (Ar ?_)))
 refine B5 [Hg x13.1 x13.2] [1,1] h (by kernel_rfl) (Du 0 [Ii x13.1,Ii x13.2] (Hg x13.1 x13.2) 0 rfl (by kernel_rfl) Dr) ?_
 exact ⟨(x13.1,x13.2),rfl,rfl⟩
 have q15:=hb4.symm.trans hc5
 have q16:(¬(np≥0)∨¬(np<(hs.length:Int))):=by subst hb3;subst hb2;revert q15;first|(simp;done)|(simp;omega)
 refine Ks (ZP (Ii np) (ZP (Hg np 1) (ZSs [Ii np,Ii 1] 0 rfl h fun w h=>Qr ?_)))
 refine B5 [Hg np 1] [1,1] h (by kernel_rfl) (Du 0 [Ii np,Ii 1] (Hg np 1) 0 rfl (by kernel_rfl) Dr) ?_
 exact ⟨(np,1),rfl,rfl⟩
theorem Afa {B:Nat} (ad:Nat→Addr) (most b rb hb:Nat) (z:PZ) (L:List RN) (ts:List Int) (c:Int) (hp:PB most b z (L.map RN.a) ts c) (vl vt hv:Value) (hs:List Hdl) (hsl:hs.length≤1000) (hc:c+3≤900) (ak:ByteArray) (aA aB:Int) (anm atx:ByteArray) (aN:Int) (hanm:anm.size≤100000) (hatx:atx.size≤100000) (haN:-9223372036854775808≤aN∧aN≤9223372036854775807)  : Au Tryz.prog 11 #[Pp b,Pp rb,Pp hb,.agg #[.string ak,Ii aA,Ii aB,.string anm,.string atx,Ii aN]] [rPT most z,A6 B ad,Rt rb most vl vt,A8 true vt 3 1 inC ts,rRL vl L,Bw true hb [hv] 37,A8 true hv 34 2 hdC hs] (fun u L'=>∃ (z':PZ) (L2:List RN) (ts':List Int) (vl' hv':Value) (hs':List Hdl) (e:Nat),PB most b z' (L2.map RN.a) ts' (c+3)∧hs'.length≤hs.length+1∧e≤15∧(¬ak=(⟨#[112,105,110]⟩:ByteArray)→Cv (L.map RN.a)→Cv (L2.map RN.a))∧u=.tuple #[Ag ad e,Ii e]∧L'=[rPT most z',A6 B ad,Rt rb most vl' vt,A8 true vt 3 1 inC ts',rRL vl' L2,Bw true hb [hv'] 37,A8 true hv' 34 2 hdC hs']):=by
 have hok:=hp.s.ti.rtok hp.s.m3 hp.s.cnt
 have htx0:=hp.s.ti.base.txt
 have hcc0:=hp.s.c0
 have htmr:∀ x∈ts,0≤x∧x≤1000000:=fun x hx=>by have:=hp.s.tmr x hx;omega
 refine Zo 152 Tryz.func11 fun E w0 w h=>?_
 refine Qs (ZN [.string ak,Ii aA,Ii aB,.string anm,.string atx,Ii aN] 39 h fun k1 w h=>ZP .nilIface (ZP (Ii 0) (Qm (ZP (Pp hb) (ZP (Pt k1 1) (ZG h (Gl 1 (Ii aA) 0) ?_))))))
 refine ZD [6,6] (S8 hb hv hs hsl aA) h ?_;rintro v_ L_ w ⟨xh2,rfl,rfl⟩ h
 refine ZN [Ii 0,Ii 0] 34 h fun k3 w h=>ZSs [Ii xh2.1,Ii xh2.2] 0 rfl h fun w h=>Qm (ZP (Pp hb) (ZP (Pt k1 2) (ZG h (Gl 2 (Ii aB) 3) ?_)))
 refine ZD [1,1] (S8 hb hv hs hsl aB) h ?_;rintro v_ L_ w ⟨xh4,rfl,rfl⟩ h
 refine ZN [Ii 0,Ii 0] 34 h fun k5 w h=>ZSs [Ii xh4.1,Ii xh4.2] 0 rfl h fun w h=>Qu (ZP (Pp k1) (ZG h (Gl 0 (.string ak) 4) (Qn (Av (Qs (ZG h (A4 (v:=.bool (ak.toList==(⟨#[99,114,101,97,116,101]⟩:ByteArray).toList)) (v':=.bool (decide (ak=(⟨#[99,114,101,97,116,101]⟩:ByteArray)))) (Az fun _=>by kernel_rfl) Qv) (ZP (.bool (decide (ak=(⟨#[99,114,101,97,116,101]⟩:ByteArray)))) (Qn (Zd (ak=(⟨#[99,114,101,97,116,101]⟩:ByteArray)) (fun hc6=>?_) fun hc6=>?_)))))))))
 refine Qs (ZP (Pp b) (ZG h (Gla 0 [Ii xh2.1,Ii xh2.2] 3) (ZP (Pt k1 3) (ZG h (Gl 3 (.string anm) 4) (ZP (Pt k1 5) (ZG h (Gl 5 (Ii aN) 4) ?_))))))
 refine ZD [5,5] (Uf ad hp xh2.1 xh2.2 anm hanm aN (by omega)) h ?_;rintro v_ L_ w (⟨ec7,hTc8,rfl,rfl⟩|⟨z9,kc10,hTc8,hz11,rfl,rfl⟩) h
 refine ZP (.tuple #[Hg 0 0,Ag ad (ec7+1)]) (ZP (Hg 0 0) (ZP (Ag ad (ec7+1)) (ZN [Ii 0,Ii 0] 34 h fun k12 w h=>ZSs [Ii 0,Ii 0] 0 rfl h fun w h=>ZP (Ag ad (ec7+1)) (Qm (ZP (Pp rb) (ZG h (Gla 0 [Ii xh2.1,Ii xh2.2] 6) (ZP (Pt k1 3) (ZG h (Gl 3 (.string anm) 7) (ZP (Pt k1 5) (ZG h (Gl 5 (Ii aN) 7) ?_))))))))))
 refine ZD [8,8,8] (Ml rb most vl vt ts L c (by omega) hok hp.s.hlen htmr hp.s.m3 xh2.1 xh2.2 anm aN hanm) h ?_;rintro v_ L_ w (⟨ed13,hTd14,rfl,rfl⟩|⟨kd15,v16,Lq17,hTd14,hLq18,rfl,rfl⟩) h
 have hcc_:ec7+1=ed13:=(Prod.mk.inj (hTc8.symm.trans hTd14)).2
 subst hcc_
 refine ZP (.tuple #[Hg 0 0,Ii ((ec7+1:Nat):Int)]) (ZP (Hg 0 0) (ZP (Ii ((ec7+1:Nat):Int)) (ZN [Ii 0,Ii 0] 34 h fun k19 w h=>ZSs [Ii 0,Ii 0] 0 rfl h fun w h=>ZP (Ii ((ec7+1:Nat):Int)) (Qu (ZG h (Gla 0 [Ii 0,Ii 0] 4) (ZG h (Gla 0 [Ii 0,Ii 0] 0) (ZG h (A4 (v:=.bool (!((decide ((0:Int)=0))&&(decide ((0:Int)=0))))) (v':=.bool false) (Ez (n1:=0) (g1:=0) (n2:=0) (g2:=0) (by kernel_rfl)) (by rfl)) (Ft (ZP (Ii ((ec7+1:Nat):Int)) (ZP (.bool (decide (((ec7+1:Nat):Int)=0))) (Qn (Zd (((ec7+1:Nat):Int)=0) (fun hc20=>?_) fun hc20=>?_))))))))))))
 exfalso;omega
 exact Ks (ZP (Ag ad (ec7+1)) (ZP (Ii ((ec7+1:Nat):Int)) (ZP (Ag ad (ec7+1)) (ZP (Ii ((ec7+1:Nat):Int)) (Qr (B7 (Ar (ZR [Ag ad (ec7+1),Ii ((ec7+1:Nat):Int)] [5,5,1,1,1,3,3] h ⟨z,L,ts,vl,hv,hs,ec7+1,hp.more (by omega) (by omega),by simp,by have:=Zk (most:=most) (A:=L.map RN.a) (h:=(xh2.1,xh2.2)) (nm:=anm) (kind:=aN);rw [hTc8] at this;exact this,(fun _ q=>q),rfl,rfl⟩))))))))
 rw [hTc8] at hTd14;cases hTd14
 refine ZP (.tuple #[Hg kc10 (Aw ts kc10),.nilIface]) (ZP (Hg kc10 (Aw ts kc10)) (ZP .nilIface (ZN [Ii 0,Ii 0] 34 h fun k21 w h=>ZSs [Ii kc10,Ii (Aw ts kc10)] 0 rfl h fun w h=>ZP .nilIface (Qm (ZP (Pp rb) (ZG h (Gla 0 [Ii xh2.1,Ii xh2.2] 6) (ZP (Pt k1 3) (ZG h (Gl 3 (.string anm) 7) (ZP (Pt k1 5) (ZG h (Gl 5 (Ii aN) 7) ?_))))))))))
 refine ZD [8,8,8] (Ml rb most vl vt ts L c (by omega) hok hp.s.hlen htmr hp.s.m3 xh2.1 xh2.2 anm aN hanm) h ?_;rintro v_ L_ w (⟨ed22,hTd23,rfl,rfl⟩|⟨kd24,v25,Lq26,hTd23,hLq27,rfl,rfl⟩) h
 rw [hTc8] at hTd23;cases hTd23
 have hcc_:kc10=kd24:=Option.some.inj (Prod.mk.inj (hTc8.symm.trans hTd23)).1
 subst hcc_
 refine ZP (.tuple #[Hg kc10 (Aw ts kc10),Ii 0]) (ZP (Hg kc10 (Aw ts kc10)) (ZP (Ii 0) (ZN [Ii 0,Ii 0] 34 h fun k28 w h=>ZSs [Ii kc10,Ii (Aw ts kc10)] 0 rfl h fun w h=>ZP (Ii 0) (Qu (ZG h (Gla 0 [Ii kc10,Ii (Aw ts kc10)] 4) (ZG h (Gla 0 [Ii kc10,Ii (Aw ts kc10)] 0) (ZG h (Ez (n1:=(kc10:Int)) (g1:=Aw ts kc10) (n2:=(kc10:Int)) (g2:=Aw ts kc10) (by kernel_rfl)) (Qn (Zi (!((decide ((kc10:Int)=(kc10:Int)))&&(decide (Aw ts kc10=Aw ts kc10)))) (fun hc29=>?_) fun hc29=>?_)))))))))
 have q30:=nT hc29
 have q31:=ndA q30
 exfalso;revert hc29;simp
 have q32:=nF hc29
 have q33:=aL q32
 have q34:=aR q32
 have q33:=dcT q33
 have q34:=dcT q34
 refine Kw (ZP (Ii 0) (ZP (.bool true) (Qg (Aa (Ds 8 [0,7] h fun w h=>Dp 0 48 (Pp hb) [0,7] h (Dp 1 49 (Pp hb) [0,7] h (Dp 2 51 (Pp hb) [0,7] h (Dq 3 55 [0,7] rfl h (Gl 0 (hv) 1) (Dq 4 15 [0,7] rfl h (Gla 0 [Ii kc10,Ii (Aw ts kc10)] 0) ?_)))))))))
 refine A1 [5] (by kernel_rfl) rfl ?_
 refine Ch [1,8] rfl (by kernel_rfl) (fun b=>.slice (some ⟨b,0,none⟩) 1 1) [Ii kc10,Ii (Aw ts kc10)] 34 (fun _=>by kernel_rfl) h ?_ ?_
 intro k35 w h;refine ⟨by kernel_rfl,?_⟩
 refine A1 [6] (by kernel_rfl) rfl ?_
 refine Adg (b:=k35) (o:=0) [1,8] rfl (by kernel_rfl) 1 ((kc10:Int),Aw ts kc10) (by kernel_rfl) h 10 rfl 0 rfl (Fb 0 (by kernel_rfl)) (by (try simp only [List.length_append,List.length_cons,List.length_nil,List.length_map]);omega) ?_ ?_
 intro v36 w h;refine ⟨by kernel_rfl,?_⟩
 refine Dp 7 127 v36 [1,8] h (Dd (Ai (Ah (ZP (Pp hb) (ZP v36 (ZP (Pp hb) (ZP (Pp hb) ?_)))))))
 refine Jh rfl (h.slv 10 rfl) 0 [v36] h 9 rfl (by kernel_rfl) ?_;intro w h
 exact Qm (ZP .nilIface (ZP (Ii 0) (ZP .nilIface (ZP (Ii 0) (Qr (B7 (Ar (ZR [.nilIface,Ii 0] [6,6,2,2,2,4,4] h ⟨z9,Lq26,ts.set kc10 (Aw ts kc10+1),v25,v36,(hs++[((kc10:Int),Aw ts kc10)]),0,by rw [hLq27];exact hz11,(by simp),by omega,(fun _ q=>by rw [hLq27];exact q.create _ _ _ _ _),rfl,rfl⟩))))))))
 exact Ba
 exact Ba
 refine Qs (ZG h (A4 (v:=.bool (ak.toList==(⟨#[108,105,110,107]⟩:ByteArray).toList)) (v':=.bool (decide (ak=(⟨#[108,105,110,107]⟩:ByteArray)))) (Az fun _=>by kernel_rfl) Qv) (ZP (.bool (decide (ak=(⟨#[108,105,110,107]⟩:ByteArray)))) (Qn (Zd (ak=(⟨#[108,105,110,107]⟩:ByteArray)) (fun hc37=>?_) fun hc37=>?_))))
 refine Aa (Ds 14 [0,2,2] h fun w h=>Dp 0 2014 (Pp b) [0,2,2] h (Dq 1 2013 [0,2,2] rfl h (Gla 0 [Ii xh2.1,Ii xh2.2] 1) (Dq 2 2011 [0,2,2] rfl h (Gla 0 [Ii xh4.1,Ii xh4.2] 0) (Dp 3 1991 (Pt k1 3) [0,2,2] h (Dq 4 1999 [0,2,2] rfl h (Gl 3 (.string anm) 2) (Dp 6 1983 (Pp rb) [0,2,2] h (Dq 7 1919 [0,2,2] rfl h (Gla 0 [Ii xh2.1,Ii xh2.2] 1) (Dq 8 1791 [0,2,2] rfl h (Gla 0 [Ii xh4.1,Ii xh4.2] 0) (Dp 9 511 (Pt k1 3) [0,2,2] h (Dq 10 1023 [0,2,2] rfl h (Gl 3 (.string anm) 2) ?_))))))))))
 refine Ad 5 [5,5] [2,4,4] (Agg ad hp xh2.1 xh2.2 xh4.1 xh4.2 anm hanm (by omega)) h ?_
 rintro v_ L_ w ⟨z38,hz39,rfl,rfl⟩ h
 refine ⟨by kernel_rfl,?_⟩
 refine Ad 11 [7,8] [4,6,6] (W6 rb (most:Int) vl vt L c (by omega) hok xh2.1 xh2.2 xh4.1 xh4.2 anm hanm) h ?_
 rintro v_ L_ w ⟨Lq41,hLq42,rfl,rfl⟩ h
 refine ⟨by kernel_rfl,?_⟩
 exact Dp 12 4095 (Ag ad (Cy (L.map RN.a) (xh2.1,xh2.2) (xh4.1,xh4.2) anm)) [4,6,6] h (Dp 13 8191 (Ii ((Cy (L.map RN.a) (xh2.1,xh2.2) (xh4.1,xh4.2) anm:Nat):Int)) [4,6,6] h (Dd (Ai (Hv (B7 (Ar (ZR [Ag ad (Cy (L.map RN.a) (xh2.1,xh2.2) (xh4.1,xh4.2) anm),Ii ((Cy (L.map RN.a) (xh2.1,xh2.2) (xh4.1,xh4.2) anm:Nat):Int)] [2,2,0,6,0,1,1] h ⟨z38,Lq41,ts,vl,hv,hs,(Cy (L.map RN.a) (xh2.1,xh2.2) (xh4.1,xh4.2) anm),by rw [hLq42];exact hz39,(by simp),Afw _ _ _ _,(fun _ q=>by rw [hLq42];split;exact q.link _ _ _;exact q),rfl,rfl⟩)))))))
 refine Qs (ZG h (A4 (v:=.bool (ak.toList==(⟨#[114,101,109,111,118,101]⟩:ByteArray).toList)) (v':=.bool (decide (ak=(⟨#[114,101,109,111,118,101]⟩:ByteArray)))) (Az fun _=>by kernel_rfl) Qv) (ZP (.bool (decide (ak=(⟨#[114,101,109,111,118,101]⟩:ByteArray)))) (Qn (Zd (ak=(⟨#[114,101,109,111,118,101]⟩:ByteArray)) (fun hc43=>?_) fun hc43=>?_))))
 refine Aa (Ds 12 [3,3] h fun w h=>Dp 0 494 (Pp b) [3,3] h (Dq 1 493 [3,3] rfl h (Gla 0 [Ii xh2.1,Ii xh2.2] 0) (Dp 2 483 (Pt k1 3) [3,3] h (Dq 3 487 [3,3] rfl h (Gl 3 (.string anm) 1) (Dp 5 479 (Pp rb) [3,3] h (Dq 6 447 [3,3] rfl h (Gla 0 [Ii xh2.1,Ii xh2.2] 0) (Dp 7 127 (Pt k1 3) [3,3] h (Dq 8 255 [3,3] rfl h (Gl 3 (.string anm) 1) ?_))))))))
 refine Ad 4 [5,5] [5,5] (Adr ad hp xh2.1 xh2.2 anm hanm (by omega)) h ?_
 rintro v_ L_ w ⟨z44,hz45,rfl,rfl⟩ h
 refine ⟨by kernel_rfl,?_⟩
 refine Ad 9 [7,8] [7,7] (Sk rb (most:Int) vl vt L c (by omega) hok xh2.1 xh2.2 anm hanm) h ?_
 rintro v_ L_ w ⟨v46,Lq47,hLq48,rfl,rfl⟩ h
 refine ⟨by kernel_rfl,?_⟩
 exact Dp 10 1023 (Ag ad (Cf (L.map RN.a) (xh2.1,xh2.2) anm)) [7,7] h (Dp 11 2047 (Ii ((Cf (L.map RN.a) (xh2.1,xh2.2) anm:Nat):Int)) [7,7] h (Dd (Ai (Hv (B7 (Ar (ZR [Ag ad (Cf (L.map RN.a) (xh2.1,xh2.2) anm),Ii ((Cf (L.map RN.a) (xh2.1,xh2.2) anm:Nat):Int)] [2,2,0,6,0,1,1] h ⟨z44,Lq47,ts,v46,hv,hs,(Cf (L.map RN.a) (xh2.1,xh2.2) anm),by rw [hLq48];exact hz45,(by simp),Aad _ _ _,(fun _ q=>by rw [hLq48];split;exact q.remove _ _;exact q),rfl,rfl⟩)))))))
 refine Qs (ZG h (A4 (v:=.bool (ak.toList==(⟨#[114,101,110,97,109,101]⟩:ByteArray).toList)) (v':=.bool (decide (ak=(⟨#[114,101,110,97,109,101]⟩:ByteArray)))) (Az fun _=>by kernel_rfl) Qv) (ZP (.bool (decide (ak=(⟨#[114,101,110,97,109,101]⟩:ByteArray)))) (Qn (Zd (ak=(⟨#[114,101,110,97,109,101]⟩:ByteArray)) (fun hc49=>?_) fun hc49=>?_))))
 refine Aa (Ds 18 [0,2,2] h fun w h=>Dp 0 32638 (Pp b) [0,2,2] h (Dq 1 32637 [0,2,2] rfl h (Gla 0 [Ii xh2.1,Ii xh2.2] 1) (Dp 2 32627 (Pt k1 3) [0,2,2] h (Dq 3 32631 [0,2,2] rfl h (Gl 3 (.string anm) 2) (Dq 4 32623 [0,2,2] rfl h (Gla 0 [Ii xh4.1,Ii xh4.2] 0) (Dp 5 32543 (Pt k1 4) [0,2,2] h (Dq 6 32575 [0,2,2] rfl h (Gl 4 (.string atx) 2) (Dp 8 32511 (Pp rb) [0,2,2] h (Dq 9 32255 [0,2,2] rfl h (Gla 0 [Ii xh2.1,Ii xh2.2] 1) (Dp 10 29695 (Pt k1 3) [0,2,2] h (Dq 11 30719 [0,2,2] rfl h (Gl 3 (.string anm) 2) (Dq 12 28671 [0,2,2] rfl h (Gla 0 [Ii xh4.1,Ii xh4.2] 0) (Dp 13 8191 (Pt k1 4) [0,2,2] h (Dq 14 16383 [0,2,2] rfl h (Gl 4 (.string atx) 2) ?_))))))))))))))
 refine Ad 7 [5,5] [2,4,4] (Aea ad hp xh2.1 xh2.2 xh4.1 xh4.2 anm atx hanm hatx (by omega)) h ?_
 rintro v_ L_ w ⟨z50,hz51,rfl,rfl⟩ h
 refine ⟨by kernel_rfl,?_⟩
 refine Ad 15 [7,8] [4,6,6] (Zg rb most vl vt ts L c (by omega) hok hp.s.ti xh2.1 xh2.2 xh4.1 xh4.2 anm atx hanm hatx) h ?_
 rintro v_ L_ w ⟨v52,Lq53,hLq54,rfl,rfl⟩ h
 refine ⟨by kernel_rfl,?_⟩
 exact Dp 16 65535 (Ag ad ((tRename (L.map RN.a) (xh2.1,xh2.2) anm (xh4.1,xh4.2) atx).1)) [4,6,6] h (Dp 17 131071 (Ii (((tRename (L.map RN.a) (xh2.1,xh2.2) anm (xh4.1,xh4.2) atx).1:Nat):Int)) [4,6,6] h (Dd (Ai (Hv (B7 (Ar (ZR [Ag ad ((tRename (L.map RN.a) (xh2.1,xh2.2) anm (xh4.1,xh4.2) atx).1),Ii (((tRename (L.map RN.a) (xh2.1,xh2.2) anm (xh4.1,xh4.2) atx).1:Nat):Int)] [2,2,0,6,0,1,1] h ⟨z50,Lq53,ts,v52,hv,hs,((tRename (L.map RN.a) (xh2.1,xh2.2) anm (xh4.1,xh4.2) atx).1),by rw [hLq54];exact hz51,(by simp),Aab _ _ _ _ _,(fun _ q=>by rw [hLq54];exact q.rename _ _ _ _),rfl,rfl⟩)))))))
 refine Qs (ZG h (A4 (v:=.bool (ak.toList==(⟨#[119,114,105,116,101]⟩:ByteArray).toList)) (v':=.bool (decide (ak=(⟨#[119,114,105,116,101]⟩:ByteArray)))) (Az fun _=>by kernel_rfl) Qv) (ZP (.bool (decide (ak=(⟨#[119,114,105,116,101]⟩:ByteArray)))) (Qn (Zd (ak=(⟨#[119,114,105,116,101]⟩:ByteArray)) (fun hc55=>?_) fun hc55=>?_))))
 refine Aa (Ds 16 [3,3] h fun w h=>Dp 0 8126 (Pp b) [3,3] h (Dq 1 8125 [3,3] rfl h (Gla 0 [Ii xh2.1,Ii xh2.2] 0) (Dp 2 8115 (Pt k1 5) [3,3] h (Dq 3 8119 [3,3] rfl h (Gl 5 (Ii aN) 1) (Dp 4 8079 (Pt k1 4) [3,3] h (Dq 5 8095 [3,3] rfl h (Gl 4 (.string atx) 1) (Dp 7 8063 (Pp rb) [3,3] h (Dq 8 7935 [3,3] rfl h (Gla 0 [Ii xh2.1,Ii xh2.2] 0) (Dp 9 6655 (Pt k1 5) [3,3] h (Dq 10 7167 [3,3] rfl h (Gl 5 (Ii aN) 1) (Dp 11 2047 (Pt k1 4) [3,3] h (Dq 12 4095 [3,3] rfl h (Gl 4 (.string atx) 1) ?_))))))))))))
 refine Ad 6 [5,5] [5,5] (Aem ad hp xh2.1 xh2.2 aN atx  (by omega)) h ?_
 rintro v_ L_ w ⟨z56,hz57,rfl,rfl⟩ h
 refine ⟨by kernel_rfl,?_⟩
 refine Ad 13 [7,8] [7,7] (Vs rb (most:Int) vl vt L c (by omega) hok htx0 xh2.1 xh2.2 aN atx hatx haN) h ?_
 rintro v_ L_ w ⟨Lq59,hLq60,rfl,rfl⟩ h
 refine ⟨by kernel_rfl,?_⟩
 exact Dp 14 16383 (Ag ad (Ep (L.map RN.a) (xh2.1,xh2.2) aN atx)) [7,7] h (Dp 15 32767 (Ii ((Ep (L.map RN.a) (xh2.1,xh2.2) aN atx:Nat):Int)) [7,7] h (Dd (Ai (Hv (B7 (Ar (ZR [Ag ad (Ep (L.map RN.a) (xh2.1,xh2.2) aN atx),Ii ((Ep (L.map RN.a) (xh2.1,xh2.2) aN atx:Nat):Int)] [2,2,0,6,0,1,1] h ⟨z56,Lq59,ts,vl,hv,hs,(Ep (L.map RN.a) (xh2.1,xh2.2) aN atx),by rw [hLq60];exact hz57,(by simp),Adu _ _ _ _,(fun _ q=>by rw [hLq60];exact q.wr _ _ _),rfl,rfl⟩)))))))
 refine Qs (ZG h (A4 (v:=.bool (ak.toList==(⟨#[114,101,115,105,122,101]⟩:ByteArray).toList)) (v':=.bool (decide (ak=(⟨#[114,101,115,105,122,101]⟩:ByteArray)))) (Az fun _=>by kernel_rfl) Qv) (ZP (.bool (decide (ak=(⟨#[114,101,115,105,122,101]⟩:ByteArray)))) (Qn (Zd (ak=(⟨#[114,101,115,105,122,101]⟩:ByteArray)) (fun hc61=>?_) fun hc61=>?_))))
 refine Aa (Ds 12 [3,3] h fun w h=>Dp 0 494 (Pp b) [3,3] h (Dq 1 493 [3,3] rfl h (Gla 0 [Ii xh2.1,Ii xh2.2] 0) (Dp 2 483 (Pt k1 5) [3,3] h (Dq 3 487 [3,3] rfl h (Gl 5 (Ii aN) 1) (Dp 5 479 (Pp rb) [3,3] h (Dq 6 447 [3,3] rfl h (Gla 0 [Ii xh2.1,Ii xh2.2] 0) (Dp 7 127 (Pt k1 5) [3,3] h (Dq 8 255 [3,3] rfl h (Gl 5 (Ii aN) 1) ?_))))))))
 refine Ad 4 [5,5] [5,5] (Abo ad hp xh2.1 xh2.2 aN  (by omega)) h ?_
 rintro v_ L_ w ⟨z62,hz63,rfl,rfl⟩ h
 refine ⟨by kernel_rfl,?_⟩
 refine Ad 9 [7,8] [7,7] (Sv rb (most:Int) vl vt L c (by omega) hok htx0 xh2.1 xh2.2 aN haN) h ?_
 rintro v_ L_ w ⟨Lq65,hLq66,rfl,rfl⟩ h
 refine ⟨by kernel_rfl,?_⟩
 exact Dp 10 1023 (Ag ad (D4 (L.map RN.a) (xh2.1,xh2.2) aN)) [7,7] h (Dp 11 2047 (Ii ((D4 (L.map RN.a) (xh2.1,xh2.2) aN:Nat):Int)) [7,7] h (Dd (Ai (Hv (B7 (Ar (ZR [Ag ad (D4 (L.map RN.a) (xh2.1,xh2.2) aN),Ii ((D4 (L.map RN.a) (xh2.1,xh2.2) aN:Nat):Int)] [2,2,0,6,0,1,1] h ⟨z62,Lq65,ts,vl,hv,hs,(D4 (L.map RN.a) (xh2.1,xh2.2) aN),by rw [hLq66];exact hz63,(by simp),Z1 _ _ _,(fun _ q=>by rw [hLq66];exact q.rz _ _),rfl,rfl⟩)))))))
 refine Qs (ZG h (A4 (v:=.bool (ak.toList==(⟨#[112,105,110]⟩:ByteArray).toList)) (v':=.bool (decide (ak=(⟨#[112,105,110]⟩:ByteArray)))) (Az fun _=>by kernel_rfl) Qv) (ZP (.bool (decide (ak=(⟨#[112,105,110]⟩:ByteArray)))) (Qn (Zd (ak=(⟨#[112,105,110]⟩:ByteArray)) (fun hc67=>?_) fun hc67=>?_))))
 refine Aa (Ds 8 [3] h fun w h=>Dp 0 26 (Pp b) [3] h (Dq 1 25 [3] rfl h (Gla 0 [Ii xh2.1,Ii xh2.2] 0) (Dp 3 23 (Pp rb) [3] h (Dq 4 15 [3] rfl h (Gla 0 [Ii xh2.1,Ii xh2.2] 0) ?_))))
 refine Ad 2 [5,5] [5] (pin_b ad hp xh2.1 xh2.2  (by omega)) h ?_
 rintro v_ L_ w ⟨z68,hz69,rfl,rfl⟩ h
 refine ⟨by kernel_rfl,?_⟩
 refine Ad 5 [7,8] [7] (Aaf rb (most:Int) vl vt L c (by omega) hok xh2.1 xh2.2) h ?_
 rintro v_ L_ w ⟨Lq71,hLq72,rfl,rfl⟩ h
 refine ⟨by kernel_rfl,?_⟩
 exact Dp 6 63 (Ag ad (El (L.map RN.a) (xh2.1,xh2.2))) [7] h (Dp 7 127 (Ii ((El (L.map RN.a) (xh2.1,xh2.2):Nat):Int)) [7] h (Dd (Ai (Hv (B7 (Ar (ZR [Ag ad (El (L.map RN.a) (xh2.1,xh2.2)),Ii ((El (L.map RN.a) (xh2.1,xh2.2):Nat):Int)] [2,2,0,6,0,1,1] h ⟨z68,Lq71,ts,vl,hv,hs,(El (L.map RN.a) (xh2.1,xh2.2)),by rw [hLq72];exact hz69,(by simp),Afh _ _,(fun hk=>absurd hc67 hk),rfl,rfl⟩)))))))
 refine Qs (ZG h (A4 (v:=.bool (ak.toList==(⟨#[117,110,112,105,110]⟩:ByteArray).toList)) (v':=.bool (decide (ak=(⟨#[117,110,112,105,110]⟩:ByteArray)))) (Az fun _=>by kernel_rfl) Qv) (ZP (.bool (decide (ak=(⟨#[117,110,112,105,110]⟩:ByteArray)))) (Qn (Zd (ak=(⟨#[117,110,112,105,110]⟩:ByteArray)) (fun hc73=>?_) fun hc73=>?_))))
 refine Aa (Ds 8 [3] h fun w h=>Dp 0 26 (Pp b) [3] h (Dq 1 25 [3] rfl h (Gla 0 [Ii xh2.1,Ii xh2.2] 0) (Dp 3 23 (Pp rb) [3] h (Dq 4 15 [3] rfl h (Gla 0 [Ii xh2.1,Ii xh2.2] 0) ?_))))
 refine Ad 2 [5,5] [5] (Ae9 ad hp xh2.1 xh2.2  (by omega)) h ?_
 rintro v_ L_ w ⟨z74,hz75,rfl,rfl⟩ h
 refine ⟨by kernel_rfl,?_⟩
 refine Ad 5 [7,8] [7] (Ue rb (most:Int) vl vt L c (by omega) hok xh2.1 xh2.2) h ?_
 rintro v_ L_ w ⟨v76,Lq77,hLq78,rfl,rfl⟩ h
 refine ⟨by kernel_rfl,?_⟩
 exact Dp 6 63 (Ag ad (Cj (L.map RN.a) (xh2.1,xh2.2))) [7] h (Dp 7 127 (Ii ((Cj (L.map RN.a) (xh2.1,xh2.2):Nat):Int)) [7] h (Dd (Ai (Hv (B7 (Ar (ZR [Ag ad (Cj (L.map RN.a) (xh2.1,xh2.2)),Ii ((Cj (L.map RN.a) (xh2.1,xh2.2):Nat):Int)] [2,2,0,6,0,1,1] h ⟨z74,Lq77,ts,v76,hv,hs,(Cj (L.map RN.a) (xh2.1,xh2.2)),by rw [hLq78];exact hz75,(by simp),Abc _ _,(fun _ q=>by rw [hLq78];exact q.unpin _),rfl,rfl⟩)))))))
 refine B6 ?_
 refine Cb (Ai ?_)
 exact Qs (ZP .nilIface (ZP (Ii 0) (Qr (ZR [.nilIface,Ii 0] [5,5,5,5,5,1,1] h ⟨z,L,ts,vl,hv,hs,0,hp.more (by omega) (by omega),by simp,by omega,(fun _ q=>q),rfl,rfl⟩))))
theorem Xl (b:Nat) (mst:Int) (vl vt:Value) (L:List RN) (c:Int) (hc:c≤900000) (hok:Dm (L.map RN.a) c) (n g cq m:Int) (hcq:-9223372036854775808≤cq∧cq≤9223372036854775807) (hm:-9223372036854775808≤m∧m≤9223372036854775807):Au Tryz.prog 23 #[Pp b,Hg n g,Ii cq,Ii m] [Rt b mst vl vt,rRL vl L] fun u L'=>∃ v',u=.tuple #[v',Ii (((Cg (L.map RN.a) (n,g) cq m).2.1:Nat):Int),Ii (((Cg (L.map RN.a) (n,g) cq m).2.2:Nat):Int)]∧L'=[Rt b mst vl vt,rRL vl L,A8 true v' 107 3 e3C ((Cg (L.map RN.a) (n,g) cq m).1)]:=by
  by_cases h:cq<0
  · exact U4 b mst vl vt L c hc hok n g cq h m hm
  · obtain ⟨cn,rfl⟩:∃ cn:Nat,cq=(cn:Int):=⟨cq.toNat,by omega⟩
    exact Vg b mst vl vt L c hc hok n g cn (by omega) m hm
theorem Z3 {A:List AN} (hf:∀ M∈A,M.es.length≤60) (h:Hdl) (p m:Int):(Cg A h p m).1.length≤1000:=by
  unfold Cg
  split
  · simp
  · rename_i N hN
    have:=hf N (Db hN).1
    split
    · split
      · simp
      · show ((N.es.drop p.toNat).take m.toNat).length≤1000
        rw [List.length_take,List.length_drop];omega
    · simp
theorem W3 (va vb:Value) (la:List Bj) (hla:la.length≤1000):Au Tryz.prog 21 #[va,vb] [A8 true va 107 3 e3C la,A8 true vb 107 3 e3C la] fun u L'=>u=.bool true∧L'=[A8 true va 107 3 e3C la,A8 true vb 107 3 e3C la]:=
  (Zn va vb la la hla).mono fun u L' h=>⟨by rw [h.1];simp,h.2⟩
def Abb:Sh:=.and .str (.and .int (.and .int (.and .str (.and .str (.and .int .unit)))))
abbrev Wa:=ByteArray×Int×Int×ByteArray×ByteArray×Int×Unit
def O9 (x:Wa):List Value:=[.string x.1,Ii x.2.1,Ii x.2.2.1,.string x.2.2.2.1,.string x.2.2.2.2.1,Ii x.2.2.2.2.2.1]
structure Yv (x:Wa):Prop where
  nm:x.2.2.2.1.size≤140737488355327
  tx:x.2.2.2.2.1.size≤140737488355327
  n:-9223372036854775808≤x.2.2.2.2.2.1∧x.2.2.2.2.2.1≤9223372036854775807
def Af1 (x:Wa):Prop:=x.2.2.2.1.size≤3000∧x.2.2.2.2.1.size≤3000
theorem Aez {α:Type} {l:List α} {k:Nat} {x:α} (h:l[k]?=some x):k<l.length:=(List.getElem?_eq_some_iff.1 h).1
theorem Y7 (v:Value) (acts:List Wa) (hacts:∀ x∈acts,Yv x)  : Au Tryz.prog 8 #[v] [Im v 6 O9 acts] (fun u L=>∃ bm:Bool,(bm=false→acts.length≤30∧∀ x∈acts,Af1 x)∧u=.bool bm∧L=[Im v 6 O9 acts]):=by
 refine Zo 30 Tryz.func8 fun E w0 w h=>?_
 refine Qs (ZP (.bool false) (Qu (ZP v (ZG h (Pe 39 (by kernel_rfl) 0 rfl) (ZP (.bool (decide ((acts.length:Int)>30))) (Qn (Zd ((acts.length:Int)>30) (fun hc1=>?_) fun hc1=>?_)))))))
 exact Qs (ZP (.bool true) (Qr (Ar (ZR [.bool true] [0] h ⟨true,fun h=>(by cases h),rfl,rfl⟩))))
 refine Ks (ZP (Ii 0) (Qu (ZP (Ii 0) (Qn (Av ?_)))))
 refine ZL (X:=Nat×Int×(Nat→Value)) [(8,28)] (fun ⟨k0,s0,J0⟩=>[(3,Ii s0),(4,Ii k0)]) (fun ⟨k0,s0,J0⟩=>J0) (fun ⟨k0,s0,J0⟩=>[Im v 6 O9 acts]) (fun ⟨k0,s0,J0⟩=>k0≤acts.length∧0≤s0∧s0≤(k0:Int)*281474976710656∧∀ i x,i<k0→acts[i]?=some x→(x.2.2.2.1.size:Int)+x.2.2.2.2.1.size≤s0) (fun ⟨k0,s0,J0⟩=>acts.length - k0) (fun j=>⟨0,0,j⟩) ⟨by omega,by omega,by omega,fun i x h=>absurd h (by omega)⟩ [0] h ?_
 rintro ⟨k0,s0,J0⟩ w hG h
 obtain ⟨hk0,hs0,hs1,hno⟩:k0≤acts.length∧0≤s0∧s0≤(k0:Int)*281474976710656∧∀ i x,i<k0→acts[i]?=some x→(x.2.2.2.1.size:Int)+x.2.2.2.2.1.size≤s0:=hG
 refine Qt (ZP (Ii k0) (ZP v (ZG h (Pe 39 (by kernel_rfl) 0 rfl) (ZP (.bool (decide ((k0:Int)<(acts.length:Int)))) (Qn (Zd ((k0:Int)<(acts.length:Int)) (fun hc2=>?_) fun hc2=>?_))))))
 refine Kn (Aa (Av (Ds 16 [0] h fun w h=>Dp 0 16254 (Ii s0) [0] h (Dp 1 16133 v [0] h (Dp 2 16131 (Ii k0) [0] h ?_)))))
 have hi3:k0<acts.length:=by omega
 obtain ⟨x4,hx5⟩:∃ x,acts[k0]?=some x:=⟨_,List.getElem?_eq_getElem hi3⟩
 obtain ⟨ho1,ho2,ho3⟩:=hacts x4 (List.mem_of_getElem? hx5)
 refine Dq (v:=Pt (Dg v) (B0 v+k0*6)) 3 16135 [0] rfl h (Ou 39 k0 (by kernel_rfl) hi3 0 rfl) (Dp 4 16143 (Pt (Dg v) (B0 v+k0*6+3)) [0] h (Dq 5 16159 [0] rfl h (Gr (B0 v+k0*6+3) (.string x4.2.2.2.1) 0 rfl (Ab8 hx5 3 (by kernel_rfl))) (Dp 6 16191 (Ii (x4.2.2.2.1.size:Int)) [0] h (Dq 7 16255 [0] rfl h (Gw (s0+(x4.2.2.2.1.size:Int))) (Dp 8 767 v [0] h (Dp 9 511 (Ii k0) [0] h (Dq (v:=Pt (Dg v) (B0 v+k0*6)) 10 1023 [0] rfl h (Ou 39 k0 (by kernel_rfl) hi3 0 rfl) (Dp 11 2047 (Pt (Dg v) (B0 v+k0*6+4)) [0] h (Dq 12 4095 [0] rfl h (Gr (B0 v+k0*6+4) (.string x4.2.2.2.2.1) 0 rfl (Ab8 hx5 4 (by kernel_rfl))) (Dp 13 8191 (Ii (x4.2.2.2.2.1.size:Int)) [0] h (Dq 14 16383 [0] rfl h (Gw ((s0+(x4.2.2.2.1.size:Int))+(x4.2.2.2.2.1.size:Int))) (Dp 15 32767 (Ii ((s0+(x4.2.2.2.1.size:Int))+(x4.2.2.2.2.1.size:Int))) [0] h (Dd ?_)))))))))))))
 refine Cb (Ai ?_)
 refine Ah (ZP (Ii k0) (ZG h (A4 (v:=Ii (IntKind.i64.wrap ((k0:Int)+1))) (v':=Ii ((k0+1:Nat):Int)) (Az fun _=>by kernel_rfl) (wr (by omega))) (ZP (Ii ((k0+1:Nat):Int)) (Cu ?_))))
 have hQ6:((k0+1)≤acts.length∧0≤((s0+(x4.2.2.2.1.size:Int))+(x4.2.2.2.2.1.size:Int))∧((s0+(x4.2.2.2.1.size:Int))+(x4.2.2.2.2.1.size:Int))≤((k0+1):Int)*281474976710656∧∀ i x,i<(k0+1)→acts[i]?=some x→(x.2.2.2.1.size:Int)+x.2.2.2.2.1.size≤((s0+(x4.2.2.2.1.size:Int))+(x4.2.2.2.2.1.size:Int)))∧(acts.length - (k0+1))<(acts.length - k0):=⟨⟨by omega,by omega,by omega,fun i x hi hx=>by
   by_cases e:i=k0
   · subst e;rw [hx5] at hx;cases hx;omega
   · have:=hno i x (by omega) hx;omega⟩,by omega⟩
 refine Bn (fun j=>⟨(k0+1),(s0+(x4.2.2.2.1.size:Int))+(x4.2.2.2.2.1.size:Int),j⟩) hQ6 (by kernel_rfl) [0] (by kernel_rfl) h
 refine C9 (D3 (Ek (Ea (Ai (Qs (ZP (Ii s0) (ZP (.bool (decide (s0>3000))) (ZP (.bool (decide (s0>3000))) (Qr (ZR [.bool (decide (s0>3000))] [0] h ?_))))))))))
 refine ⟨_,fun hb=>?_,rfl,rfl⟩
 have hb2:=dcF hb
 exact ⟨by omega,fun x hx=>by
 obtain ⟨i,hi⟩:=List.getElem?_of_mem hx
 have:=hno i x (by have:=Aez hi;omega) hi
 constructor<;>omega⟩
theorem Nn:By 3 [C8 (0,0) 2] (0,0) ⟨#[97]⟩ 1=(some 1,0):=Adv (D:=C8 (0,0) 2) rfl rfl (by decide) (.inl rfl) rfl (by decide) (by decide)
theorem Vt {B:Nat} (ad:Nat→Addr)  : Au Tryz.prog 7 #[] [A6 B ad] (fun u L=>u=.bool true∧L=[A6 B ad]):=by
 refine Zo 33 Tryz.func7 fun E w0 w h=>?_
 refine Qs (ZP (.bool false) (Qm ?_))
 refine ZD [0] (Aeg ad 3 (by decide) (by decide)) h ?_;rintro v_ L_ w ⟨b0,z0,hz0,rfl,rfl⟩ h
 refine ZP (.tuple #[Pp b0,.nilIface]) (ZP (Pp b0) (ZP .nilIface (ZP (Pp b0) (ZP .nilIface (Qu (ZP .nilIface (ZP (.bool false) (ZP (.bool false) (ZP (Pp b0) (ZP (.bool false) (ZP (.bool false) (ZP (.bool false) (ZP (Pp b0) (ZC [0] (Aev hz0) h fun w h=>ZP (.bool false) (ZP (.bool false) (Fs (ZP (Pp b0) (ZP (Pp b0) (ZC [0] (Agi hz0) h fun w h=>?_)))))))))))))))))))
 refine ZD [0,0] (Uf ad hz0 0 0 ⟨#[97]⟩ (by decide) 1 (by decide)) h ?_;rintro v_ L_ w (⟨_,hTr1,rfl,rfl⟩|⟨z1,k1,hTr2,hz1,rfl,rfl⟩) h
 rw [Nn] at hTr1;cases hTr1
 have hk1_:1=k1:=Option.some.inj (Prod.mk.inj (Nn.symm.trans hTr2)).1
 subst hk1_
 exact ZP (.tuple #[Hg 1 0,.nilIface]) (ZP (Hg 1 0) (ZP .nilIface (ZN [Ii 0,Ii 0] 34 h fun k3 w h=>ZSs [Ii 1,Ii 0] 0 rfl h fun w h=>ZP .nilIface (Qm (ZP .nilIface (ZP (.bool true) (ZP (.bool true) (ZG h (Gla 0 [Ii 1,Ii 0] 0) (ZP (Hg 1 0) (ZG h (A4 (v:=.bool (((decide ((1:Int)=1))&&(decide ((0:Int)=0))))) (v':=.bool true) (Fm (n1:=1) (g1:=0) (n2:=1) (g2:=0) (by kernel_rfl)) (by rfl)) (ZP (.bool true) (ZP (.bool true) (Qr (ZR [.bool true] [2] h ⟨rfl,rfl⟩))))))))))))))
def stC (x:ByteArray):List Value:=[.string x]
theorem St (x:ByteArray):(stC x).length=1:=rfl
def wkA (A:List AN):Hdl→List ByteArray→Nat→Hdl×Nat×Nat
  | h,[],i=>(h,0,i)
  | h,s::r,i=>if (Ab A h s).2=0 then wkA A (Ab A h s).1 r (i+1) else ((0,0),(Ab A h s).2,i)
section
variable {A:List AN} {path:List ByteArray}
theorem Af3:∀ (l:List ByteArray) (h:Hdl) (i:Nat),i≤(wkA A h l i).2.2
  | [],h,i=>Nat.le_refl _
  | s::r,h,i=>by
    unfold wkA
    split
    · exact Nat.le_trans (by omega) (Af3 r _ (i+1))
    · exact Nat.le_refl _
theorem X3:∀ (l:List ByteArray) (h:Hdl) (i:Nat),(wkA A h l i).2.1≤15
  | [],h,i=>Nat.zero_le _
  | s::r,h,i=>by
    unfold wkA
    split
    · exact X3 r _ (i+1)
    · exact M7 A h s
theorem Y0 {l:List ByteArray} {i:Nat} {s:ByteArray} (h:l[i]?=some s):l.drop i=s::l.drop (i+1):=by
  obtain ⟨hl,rfl⟩:=List.getElem?_eq_some_iff.1 h
  exact (List.drop_eq_getElem_cons hl)
theorem Age {h:Hdl} {i:Nat} {s:ByteArray} (hx:path[i]?=some s) (h0:(Ab A h s).2=0):wkA A h (path.drop i) i=wkA A (Ab A h s).1 (path.drop (i+1)) (i+1):=by
  rw [Y0 hx,wkA,if_pos h0]
theorem Acv {h:Hdl} {i:Nat} {s:ByteArray} (hx:path[i]?=some s) (h0:¬(Ab A h s).2=0):wkA A h (path.drop i) i=((0,0),(Ab A h s).2,i):=by
  rw [Y0 hx,wkA,if_neg h0]
theorem Acu {h:Hdl} {i:Nat} (hi:¬i<path.length):wkA A h (path.drop i) i=(h,0,i):=by
  rw [List.drop_of_length_le (by omega)];rfl
def LkG (A:List AN) (path:List ByteArray) (j:Nat) (x:Hdl) (c:Nat) (p:Int):Prop:=
  j≤path.length∧((c=0∧wkA A (0,0) path 0=wkA A x (path.drop j) j∧∀ i s,i<j→path[i]?=some s→s.size≤100)∨
    (0<c∧∃ q:Nat,p=(q:Int)∧wkA A (0,0) path 0=((0,0),c,q)∧∀ i s,i≤q→path[i]?=some s→s.size≤100))
theorem Ae8:LkG A path 0 (0,0) 0 (-1):=⟨Nat.zero_le _,.inl ⟨rfl,rfl,fun i s h=>absurd h (by omega)⟩⟩
theorem Af7 {j:Nat} {x:Hdl} {c:Nat} {p:Int} {s:ByteArray} (h:LkG A path j x c p) (hc:c=0) (hx:path[j]?=some s) (hs:s.size≤100) (h0:(Ab A x s).2=0):LkG A path (j+1) (Ab A x s).1 c p:=by
  subst hc
  obtain ⟨h1,⟨_,h2,h3⟩|⟨h2,_⟩⟩:=h
  · refine ⟨(List.getElem?_eq_some_iff.1 hx).1,.inl ⟨rfl,h2.trans (Age hx h0),fun i t hi ht=>?_⟩⟩
    by_cases e:i=j
    · subst e;rw [hx] at ht;cases ht;exact hs
    · exact h3 i t (by omega) ht
  · omega
theorem Ada {j:Nat} {x:Hdl} {c:Nat} {p:Int} {s:ByteArray} (h:LkG A path j x c p) (hc:c=0) (hx:path[j]?=some s) (hs:s.size≤100) (h0:0<(Ab A x s).2) (y:Hdl):LkG A path (j+1) y (Ab A x s).2 (j:Int):=by
  subst hc
  obtain ⟨h1,⟨_,h2,h3⟩|⟨h2,_⟩⟩:=h
  · refine ⟨(List.getElem?_eq_some_iff.1 hx).1,.inr ⟨h0,j,rfl,h2.trans (Acv hx (by omega)),fun i t hi ht=>?_⟩⟩
    by_cases e:i=j
    · subst e;rw [hx] at ht;cases ht;exact hs
    · exact h3 i t (by omega) ht
  · omega
theorem Agt {j:Nat} {x:Hdl} {c:Nat} {p:Int} (h:LkG A path j x c p) (he:¬j<path.length∨¬c=0):∃ (q:Nat) (x':Hdl),wkA A (0,0) path 0=(x',c,q)∧(c=0→x'=x)∧(0<c→p=(q:Int))∧(∀ i s,i≤q→path[i]?=some s→s.size≤100000)∧c≤15:=by
  obtain ⟨h1,⟨rfl,h2,h3⟩|⟨h2,q,h3,h4,h5⟩⟩:=h
  · have hj:¬j<path.length:=by rcases he with he|he;exact he;exact absurd rfl he
    refine ⟨j,x,by rw [h2,Acu hj],fun _=>rfl,fun h=>absurd h (by omega),fun i s hi hs=>?_,by omega⟩
    have:=h3 i s (by have:=(List.getElem?_eq_some_iff.1 hs).1;omega) hs
    omega
  · refine ⟨q,(0,0),h4,fun h=>absurd h (by omega),fun _=>h3,fun i s hi hs=>by have:=h5 i s hi hs;omega,?_⟩
    have:=X3 (A:=A) path (0,0) 0
    rw [h4] at this;exact this
end
section
variable {B:Nat} (ad:Nat→Addr) {most b:Nat} {z:PZ} {A:List AN} {ts:List Int} {c:Int} (h:PB most b z A ts c)
include h
theorem Aey (n g:Int) (nm:ByteArray) (hnz:nm.size≤100000):Au Tryz.prog 17 #[.pointer (some ⟨b,0,none⟩),.agg #[.int .i64 n,.int .i64 g],.string nm] [rPT most z,A6 B ad] fun u L=>(∃ x:Hdl,Ab A (n,g) nm=(x,0)∧u=.tuple #[.agg #[.int .i64 x.1,.int .i64 x.2],.nilIface]∧L=[rPT most z,A6 B ad])∨(∃ e:Nat,(Ab A (n,g) nm).2=e+1∧u=.tuple #[.agg #[.int .i64 0,.int .i64 0],Ag ad (e+1)]∧L=[rPT most z,A6 B ad]):=
  (Vp ad h n g nm hnz).mono fun u L ⟨h1,h2⟩=>by
    cases hq:(Ab A (n,g) nm).2 with
    | zero=>rw [hq] at h1;exact .inl ⟨_,Prod.ext rfl hq,h1,h2⟩
    | succ e=>
      rw [hq] at h1
      refine .inr ⟨e,rfl,?_,h2⟩
      have:(Ab A (n,g) nm).1=(0,0):=by
        revert hq;unfold Ab;(repeat' split)<;>first|(intro hq;rfl)|(intro hq;cases hq)
      rw [this] at h1;exact h1
theorem Aha:J6 (rPT most z) b 2 [.int .i64 0,.int .i64 0]:=by
  obtain ⟨s,rfl⟩:=h
  intro w hf
  exact Fb 2 rfl w (hf.1 _ (List.mem_cons_self ..)).2
end
theorem Sm {B:Nat} (ad:Nat→Addr) (c:Nat) (p:Int) (fb:Nat) (h0:0<c) (h15:c≤15):Au Tryz.prog 26 #[.iface 127 (.pointer (some ⟨fb,0,none⟩)),.agg #[.int .i64 (c:Int),.int .i64 p]] [A6 B ad,Bw true fb [.int .i64 p,Ag ad c] 129] fun u L=>u=.bool true∧L=[A6 B ad,Bw true fb [.int .i64 p,Ag ad c] 129]:=fun E w0 w ho=>
  (V7 ad _ c p w (ho.fact 0 rfl) (.inr (.inr ⟨h0,h15,fb,rfl,by have:=ho.fact 1 rfl;rw [O8 (by omega)] at this;exact this⟩))).mono fun e w' ⟨he,hc'⟩=>⟨_,_,⟨rfl,rfl⟩,he,ho.quiet hc'⟩
theorem Xs (v:Value) (acts:List Wa) (hacts:∀ x∈acts,Yv x):Au Tryz.prog 8 #[v] [Im v 6 O9 acts] fun u L=>(u=.bool true∧L=[Im v 6 O9 acts])∨((acts.length≤30∧∀ x∈acts,Af1 x)∧u=.bool false∧L=[Im v 6 O9 acts]):=
  (Y7 v acts hacts).mono fun u L ⟨bm,h1,h2,h3⟩=>by
    cases bm with
    | true=>exact .inl ⟨h2,h3⟩
    | false=>exact .inr ⟨h1 rfl,h2,h3⟩
theorem Own.cellRowI {α:Type} {w0 w:World} {E:Ent} {L:List Res} {b:Nat} {d:TypeId} {x:α} {k:Nat} {enc:α→List Value} {i:Nat} (hi:L[i]?=some (Bw true b (enc x) d)) (he:(enc x).length=k) (h:Own w0 E L w):Own w0 E (L.set i (A8 true (.slice (some ⟨b,0,none⟩) 1 1) d k enc [x])) w:=
  h.upd (i:=i) (r:=Bw true b (enc x) d) hi rfl (Chg.refl _ _) ⟨by simp [he],.inr ⟨b,0,1,(enc x).toArray,rfl,h.fact i hi,Nat.le_refl _,by unfold maxLen;omega,by simp [he],fun j u hj=>by simpa using hj,rfl⟩⟩ fun y hy=>.inl hy
theorem Z0 {B:Nat} (ad:Nat→Addr) {most b:Nat} {z:PZ} {A:List AN} {ts:List Int} {c:Int} (hp:PB most b z A ts c) (v:Value) (path:List ByteArray) (hpl:path.length≤30) (x' x:Hdl) (cc q:Nat) (p:Int) (hw:wkA A (0,0) path 0=(x',cc,q)) (hxx:cc=0→x'=x) (hq:0<cc→p=(q:Int)) (hsz:∀ i s,i≤q→path[i]?=some s→s.size≤100000)  : Au Tryz.prog 25 #[Pp b,v] [rPT most z,A6 B ad,A8 true v 9 1 stC path] (fun u L=>(cc=0∧u=.tuple #[Hg x.1 x.2,.nilIface]∧L=[rPT most z,A6 B ad,A8 true v 9 1 stC path])∨(0<cc∧∃ fb:Nat,u=.tuple #[Hg 0 0,.iface 127 (Pp fb)]∧L=[rPT most z,A6 B ad,A8 true v 9 1 stC path,Bw true fb [Ii p,Ag ad cc] 129])):=by
 refine Zo 38 Tryz.func25 fun E w0 w h=>?_
 refine Qs (ZN [Ii 0,Ii 0] 34 h fun k1 w h=>ZP .nilIface (Qm (ZP (Pp b) (ZP (Pp b) (ZP (Pt b 2) (ZG h (Gra 2 [Ii 0,Ii 0] 1 rfl (Aha hp)) (ZN [Ii 0,Ii 0] 34 h fun k2 w h=>ZSs [Ii 0,Ii 0] 0 rfl h fun w h=>Qu (ZP v (ZG h (Ki (by kernel_rfl) 4 rfl) (ZP (Ii 0) (Qn (Av ?_))))))))))))
 refine ZL (X:=Nat×Hdl×(Nat→Value)) [(5,5),(7,10),(18,38)] (fun ⟨i0,x0,J0⟩=>[(17,Ii i0)]) (fun ⟨i0,x0,J0⟩=>J0) (fun ⟨i0,x0,J0⟩=>[Rh k2 x0.1 x0.2,Rh k1 0 0,rPT most z,A6 B ad,A8 true v 9 1 stC path]) (fun ⟨i0,x0,J0⟩=>i0≤path.length∧wkA A (0,0) path 0=wkA A x0 (path.drop i0) i0) (fun ⟨i0,x0,J0⟩=>path.length - i0) (fun j=>⟨0,((0,0):Hdl),j⟩) ⟨Nat.zero_le _,rfl⟩ [0,0,0,0,0] h ?_
 rintro ⟨i0,x0,J0⟩ w hG h
 obtain ⟨hi0,hwk⟩:i0≤path.length∧wkA A (0,0) path 0=wkA A x0 (path.drop i0) i0:=hG
 refine Qs (ZP (.bool (decide ((i0:Int)<(path.length:Int)))) (Qn (Aa (Zd ((i0:Int)<(path.length:Int)) (fun hc3=>?_) fun hc3=>?_))))
 refine Kn (Aa (Av (Qs (ZP (Ii i0) ?_))))
 have hi4:i0<path.length:=by omega
 obtain ⟨x5,hx6⟩:∃ x,path[i0]?=some x:=⟨_,List.getElem?_eq_getElem hi4⟩
 refine ZG h (Lk i0 (by kernel_rfl) hi4 4 rfl) (ZG h (Gr (B0 v+i0*1) (.string x5) 4 rfl (L6 St hx6 (by kernel_rfl))) (ZP (Ii i0) (ZP (.string x5) (Qm (ZP (Pp b) (ZG h (Gla 0 [Ii x0.1,Ii x0.2] 0) (ZP (.string x5) ?_)))))))
 have hsz1:x5.size≤100000:=hsz i0 x5 (by have h_:=Af3 (A:=A) (path.drop i0) x0 i0;rw [← hwk,hw] at h_;exact h_) hx6
 refine ZD [2,2] (Aey ad hp x0.1 x0.2 x5 hsz1) h ?_;rintro v_ L_ w (⟨xk7,hlk9,rfl,rfl⟩|⟨ek8,hlk9,rfl,rfl⟩) h
 refine ZP (.tuple #[Hg xk7.1 xk7.2,.nilIface]) (ZP (Hg xk7.1 xk7.2) (ZP .nilIface (ZN [Ii 0,Ii 0] 34 h fun k10 w h=>ZSs [Ii xk7.1,Ii xk7.2] 0 rfl h fun w h=>ZP .nilIface (Qu (ZP .nilIface (ZP (.bool false) (Qf (Kn (Ah (ZG h (Gla 0 [Ii xk7.1,Ii xk7.2] 0) (ZSs [Ii xk7.1,Ii xk7.2] 3 rfl h fun w h=>Cu ?_)))))))))))
 refine Cb (Ai ?_)
 refine Ah (ZG h (A4 (v:=Ii (IntKind.i64.wrap ((i0:Int)+1))) (v':=Ii ((i0+1:Nat):Int)) (Az fun _=>by kernel_rfl) (wr (by omega))) (ZP (Ii ((i0+1:Nat):Int)) (Cu ?_)))
 have hQ11:((i0+1)≤path.length∧wkA A (0,0) path 0=wkA A xk7 (path.drop (i0+1)) (i0+1))∧(path.length - (i0+1))<(path.length - i0):=⟨⟨by omega,hwk.trans ((Age hx6 (congrArg Prod.snd (show Ab A x0 x5=(xk7,0) from hlk9))).trans (by rw [show Ab A x0 x5=(xk7,0) from hlk9]))⟩,by omega⟩
 refine Bn (fun j=>⟨(i0+1),xk7,j⟩) hQ11 (by kernel_rfl) [3,3,1,1,1] (by kernel_rfl) h
 refine ZP (.tuple #[Hg 0 0,Ag ad (ek8+1)]) (ZP (Hg 0 0) (ZP (Ag ad (ek8+1)) (ZN [Ii 0,Ii 0] 34 h fun k12 w h=>ZSs [Ii 0,Ii 0] 0 rfl h fun w h=>ZP (Ag ad (ek8+1)) (Qu (ZP (Ag ad (ek8+1)) (ZP (.bool true) (Qg (Qs (ZP (Hg 0 0) (ZP (Ii i0) (ZP (Ag ad (ek8+1)) (ZP (.agg #[Ii i0,Ag ad (ek8+1)]) (ZN [Ii i0,Ag ad (ek8+1)] 129 h fun k13 w h=>ZP (.iface 127 (Pp k13)) (ZSs [Ii 0,Ii 0] 5 rfl h fun w h=>ZP (.iface 127 (Pp k13)) (Qr (Ar (B7 (Ar (Li (B7 (Ar ?_)))))))))))))))))))))
 refine B5 [Hg 0 0,.iface 127 (Pp k13)] [2,2,4,0] h (by kernel_rfl) (Du 0 [Ii 0,Ii 0] (Hg 0 0) 5 rfl (by kernel_rfl) (Ei (by kernel_rfl) Dr)) ?_
 have he_:(Ab A x0 x5).2=ek8+1:=hlk9
 have hz:=hw.symm.trans (hwk.trans (Acv hx6 (by rw [he_];omega)))
 rw [he_] at hz
 obtain ⟨_,hz2⟩:=Prod.mk.inj hz
 obtain ⟨rfl,rfl⟩:=Prod.mk.inj hz2
 obtain rfl:=hq (Nat.succ_pos _)
 exact .inr ⟨Nat.succ_pos _,_,rfl,rfl⟩
 refine C9 (D3 (Ek (Ea (Ai (Qs (ZG h (Gla 0 [Ii x0.1,Ii x0.2] 0) (ZSs [Ii x0.1,Ii x0.2] 1 rfl h fun w h=>ZP .nilIface (Qr ?_))))))))
 refine B5 [Hg x0.1 x0.2,.nilIface] [2,2,2] h (by kernel_rfl) (Du 0 [Ii x0.1,Ii x0.2] (Hg x0.1 x0.2) 1 rfl (by kernel_rfl) (Ei (by kernel_rfl) Dr)) ?_
 have hz:=hw.symm.trans (hwk.trans (Acu (by omega)))
 obtain ⟨rfl,hz2⟩:=Prod.mk.inj hz
 obtain ⟨rfl,rfl⟩:=Prod.mk.inj hz2
 obtain rfl:=hxx rfl
 exact .inl ⟨rfl,rfl,rfl⟩
theorem Aaw  : Au Tryz.prog 24 #[] [] (fun u L=>u=Hg 0 (-1)∧L=[]):=by
 refine Zo 2 Tryz.func24 fun E w0 w h=>?_
 refine Qs (ZN [Ii 0,Ii 0] 66 h fun k1 w h=>Qm (ZP (Hg 0 (-1)) (ZSs [Ii 0,Ii (-1)] 0 rfl h fun w h=>Qr ?_)))
 refine B5 [Hg 0 (-1)] [] h (by kernel_rfl) (Du 0 [Ii 0,Ii (-1)] (Hg 0 (-1)) 0 rfl (by kernel_rfl) Dr) ?_
 exact ⟨rfl,rfl⟩
theorem P8 {B:Nat} (ad:Nat→Addr) (v:Value) (acts:List Wa) (hacts:∀ x∈acts,Yv x) (fa:Int) (nm:ByteArray) (pv:Value) (path:List ByteArray) (ck nn:Int) (hck:-9223372036854775808≤ck∧ck≤9223372036854775807) (hnn:-9223372036854775808≤nn∧nn≤9223372036854775807)  : Au Tryz.prog 5 #[v,Ii fa,.string nm,pv,Ii ck,Ii nn] [Im v 6 O9 acts,Im pv 1 stC path,A6 B ad] (fun u L=>u=.bool true∧L=[Im v 6 O9 acts,Im pv 1 stC path,A6 B ad]):=by
 refine Zo 194 Tryz.func5 fun E w0 w h=>?_
 refine Qs (ZP (.bool false) (Qm (ZC [2] (Vt ad) h fun w h=>ZP (.bool true) (Qu (ZP (.bool true) (ZP (.bool false) (ZP (.bool false) (ZP v ?_))))))))
 refine ZD [1] (Xs v acts hacts) h ?_;rintro v_ L_ w (⟨rfl,rfl⟩|⟨⟨hfew,hsz⟩,rfl,rfl⟩) h
 exact ZP (.bool true) (ZP (.bool true) (Zx (Zx (Zx (ZP (.bool true) (ZP (.bool true) (Zx (Zx (Zx (ZP (.bool true) (Qg (Qs (ZP (.bool true) (ZP (.bool true) (Qr (Ar (ZR [.bool true] [0,1,0] h ⟨rfl,rfl⟩)))))))))))))))))
 refine ZP (.bool false) (ZP (.bool false) (ZP (.string nm) (ZP (Ii (nm.size:Int)) ?_)))
 obtain ⟨b1,hb1⟩:=nmB (decide ((nm.size:Int)>100))
 refine ZB hb1 (ZP (.bool b1) (ZP (.bool b1) (ZM0 (v:=pv) b1 h (fun hB=>by subst hB;exact Gp pv) (ZM0 (v:=Ii (path.length:Int)) b1 h (fun hB=>by subst hB;exact Pe 9 (by kernel_rfl) 2 rfl) ?_))))
 obtain ⟨b2,hb2⟩:=nmB (decide ((path.length:Int)>30))
 refine ZM0 (v:=.bool b2) b1 h (fun hB=>by subst hB;exact by subst hb2;exact Az (v:=.bool (decide ((path.length:Int)>30))) fun _=>by kernel_rfl) ?_
 obtain ⟨b3,hb3⟩:=nmB (b1||b2)
 refine ZBc b1 hb3 (Qn (Zi (b3) (fun hc4=>?_) fun hc4=>?_))
 have q5:=hb3.symm.trans hc4
 have q6:(((nm.size:Int)>100)∨((path.length:Int)>30)):=by subst hb2;subst hb1;revert q5;first|(simp;done)|(simp;omega)
 exact Qs (ZP (.bool true) (ZP (.bool true) (Qr (Ar (ZR [.bool true] [0,1,0] h ⟨rfl,rfl⟩)))))
 have q7:=hb3.symm.trans hc4
 have q8:=oL q7
 have q9:=oR q7
 have q10:=hb1.symm.trans q8
 have q10:=dcF q10
 have q11:=hb2.symm.trans q9
 have q11:=dcF q11
 refine Ks ?_
 refine ZD [1] (Aeg ad 20 (by decide) (by decide)) h ?_;rintro v_ L_ w ⟨b,z0,hz0,rfl,rfl⟩ h
 refine ZP (.tuple #[Pp b,.nilIface]) (ZP (Pp b) (ZP .nilIface (ZP (Pp b) (ZP .nilIface (Qu (ZP .nilIface (ZP (.bool false) (ZP (.bool false) (ZP (Pp b) (ZP (.bool false) (ZP (.bool false) (Fs ?_))))))))))))
 refine ZD [] (Aah 20 (by omega)) h ?_;rintro v_ L_ w ⟨rb,vl0,vt,L0,hL0,rfl,rfl⟩ h
 have hp0:PB 20 b z0 (L0.map RN.a) ((List.replicate 20 (0:Int)).set 0 1) 1:=by rw [hL0];exact hz0
 refine ZP (Pp rb) (Qm (ZP (Hg 0 0) ?_))
 refine Gm rfl (fun b=>.slice (some ⟨b,0,none⟩) 1 1) [Ii 0,Ii 0] 34 (fun _=>by kernel_rfl) h ?_;intro k12 w h
 refine ZP (.agg #[.slice (some ⟨k12,0,none⟩) 1 1]) (ZN [.slice (some ⟨k12,0,none⟩) 1 1] 37 h fun k13 w h=>ZP (Pp k13) (Qn (Aa (Aa ?_))))
 have h:Own w0 E [Bw true k13 [.slice (some ⟨k12,0,none⟩) 1 1] 37,A8 true (.slice (some ⟨k12,0,none⟩) 1 1) 34 2 hdC [((0,0):Hdl)],Rt rb 20 vl0 vt,A8 true vt 3 1 inC ((List.replicate 20 (0:Int)).set 0 1),rRL vl0 L0,rPT 20 z0,A6 B ad,Im v 6 O9 acts,Im pv 1 stC path] w:=Own.cellRowI (x:=((0,0):Hdl)) (k:=2) (enc:=hdC) (i:=1) rfl rfl h
 refine Ah (ZP (Ii 0) (Qn (Av ?_)))
 refine ZL (X:=Nat×PZ×List RN×List Int×Value×Value×List Hdl×(Nat→Value)) [(66,79)] (fun ⟨i0,z,L,ts,vl,hv,hs,J0⟩=>[(18,Ii i0)]) (fun ⟨i0,z,L,ts,vl,hv,hs,J0⟩=>J0) (fun ⟨i0,z,L,ts,vl,hv,hs,J0⟩=>[Bw true k13 [hv] 37,A8 true hv 34 2 hdC hs,Rt rb 20 vl vt,A8 true vt 3 1 inC ts,rRL vl L,rPT 20 z,A6 B ad,Im v 6 O9 acts,Im pv 1 stC path]) (fun ⟨i0,z,L,ts,vl,hv,hs,J0⟩=>i0≤acts.length∧hs.length≤i0+1∧PB 20 b z (L.map RN.a) ts (3*(i0:Int)+1)) (fun ⟨i0,z,L,ts,vl,hv,hs,J0⟩=>acts.length - i0) (fun j=>⟨0,z0,L0,((List.replicate 20 (0:Int)).set 0 1),vl0,(.slice (some ⟨k12,0,none⟩) 1 1),[((0,0):Hdl)],j⟩) ⟨by omega,by simp,hp0⟩ [0,0,0,0,0,0,0,0,0] h ?_
 rintro ⟨i0,z,L,ts,vl,hv,hs,J0⟩ w hG h
 obtain ⟨hi0,hhs,hp1⟩:i0≤acts.length∧hs.length≤i0+1∧PB 20 b z (L.map RN.a) ts (3*(i0:Int)+1):=hG
 refine Qt (ZP (Ii i0) (ZP v (ZG h (Pe 39 (by kernel_rfl) 7 rfl) (ZP (.bool (decide ((i0:Int)<(acts.length:Int)))) (Qn (Zd ((i0:Int)<(acts.length:Int)) (fun hc14=>?_) fun hc14=>?_))))))
 refine Kn (Aa (Av (Ah (ZP (Pp b) (ZP (Pp rb) (ZP (Pp k13) (ZP v (ZP (Ii i0) ?_))))))))
 have hi15:i0<acts.length:=by omega
 obtain ⟨x16,hx17⟩:∃ x,acts[i0]?=some x:=⟨_,List.getElem?_eq_getElem hi15⟩
 obtain ⟨ho1,ho2,ho3⟩:=hacts x16 (List.mem_of_getElem? hx17)
 have hsm:=hsz x16 (List.mem_of_getElem? hx17)
 have hsm:x16.2.2.2.1.size≤100000∧x16.2.2.2.2.1.size≤100000:=⟨by have:=hsm.1;omega,by have:=hsm.2;omega⟩
 refine ZG h (Ou 39 i0 (by kernel_rfl) hi15 7 rfl) (ZG h (Gra (B0 v+i0*6) [.string x16.1,Ii x16.2.1,Ii x16.2.2.1,.string x16.2.2.2.1,.string x16.2.2.2.2.1,Ii x16.2.2.2.2.2.1] 7 rfl (Xt hx17 (by kernel_rfl))) ?_)
 refine ZD [5,5,2,2,2,0,0] (Afa ad 20 b rb k13 z L ts (3*(i0:Int)+1) hp1 vl vt hv hs (by omega) (by omega) x16.1 x16.2.1 x16.2.2.1 x16.2.2.2.1 x16.2.2.2.2.1 x16.2.2.2.2.2.1 hsm.1 hsm.2 ho3) h ?_;rintro v_ L_ w ⟨zz18,LL19,tt20,vv21,hv22,hh23,ee24,hp25,hl26,he27,hn28,rfl,rfl⟩ h
 refine Cu ?_
 refine Cb (Ai ?_)
 refine Ah (ZP (Ii i0) (ZG h (A4 (v:=Ii (IntKind.i64.wrap ((i0:Int)+1))) (v':=Ii ((i0+1:Nat):Int)) (Az fun _=>by kernel_rfl) (wr (by omega))) (ZP (Ii ((i0+1:Nat):Int)) (Cu ?_))))
 have hQ29:((i0+1)≤acts.length∧hh23.length≤(i0+1)+1∧PB 20 b zz18 (LL19.map RN.a) tt20 (3*((i0+1):Int)+1))∧(acts.length - (i0+1))<(acts.length - i0):=⟨⟨by omega,by omega,hp25.more (by omega) (by omega)⟩,by omega⟩
 refine Bn (fun j=>⟨(i0+1),zz18,LL19,tt20,vv21,hv22,hh23,j⟩) hQ29 (by kernel_rfl) [5,5,2,2,2,0,0,0,0] (by kernel_rfl) h
 refine C9 (D3 (Ek (Ea (Ai (Qs (ZP (Pp k13) (ZP (Ii fa) ?_)))))))
 refine ZD [0,0] (S8 k13 hv hs (by omega) fa) h ?_;rintro v_ L_ w ⟨xh30,rfl,rfl⟩ h
 refine ZN [Ii 0,Ii 0] 34 h fun k31 w h=>ZSs [Ii xh30.1,Ii xh30.2] 0 rfl h fun w h=>Qm (ZP (Pp b) (ZG h (Gla 0 [Ii xh30.1,Ii xh30.2] 0) (ZP (.string nm) (ZC [6,6] (Vp ad hp1 xh30.1 xh30.2 nm (by omega)) h fun w h=>ZP (.tuple #[.agg #[Ii ((Ab (L.map RN.a) (xh30.1,xh30.2) nm).1.1),Ii ((Ab (L.map RN.a) (xh30.1,xh30.2) nm).1.2)],Ag ad ((Ab (L.map RN.a) (xh30.1,xh30.2) nm).2)]) (ZP (.agg #[Ii ((Ab (L.map RN.a) (xh30.1,xh30.2) nm).1.1),Ii ((Ab (L.map RN.a) (xh30.1,xh30.2) nm).1.2)]) (ZP (Ag ad ((Ab (L.map RN.a) (xh30.1,xh30.2) nm).2)) (ZN [Ii 0,Ii 0] 34 h fun k32 w h=>ZSs [Ii ((Ab (L.map RN.a) (xh30.1,xh30.2) nm).1.1),Ii ((Ab (L.map RN.a) (xh30.1,xh30.2) nm).1.2)] 0 rfl h fun w h=>ZP (Ag ad ((Ab (L.map RN.a) (xh30.1,xh30.2) nm).2)) (Qm (ZP (Pp rb) (ZG h (Gla 0 [Ii xh30.1,Ii xh30.2] 3) (ZP (.string nm) (ZC [6,7] (H0 rb 20 vl vt L _ (by omega) (hp1.s.ti.rtok hp1.s.m3 hp1.s.cnt) xh30.1 xh30.2 nm (by omega)) h fun w h=>ZP (.tuple #[.agg #[Ii ((Ab (L.map RN.a) (xh30.1,xh30.2) nm).1.1),Ii ((Ab (L.map RN.a) (xh30.1,xh30.2) nm).1.2)],Ii (((Ab (L.map RN.a) (xh30.1,xh30.2) nm).2:Nat):Int)]) (ZP (.agg #[Ii ((Ab (L.map RN.a) (xh30.1,xh30.2) nm).1.1),Ii ((Ab (L.map RN.a) (xh30.1,xh30.2) nm).1.2)]) (ZP (Ii (((Ab (L.map RN.a) (xh30.1,xh30.2) nm).2:Nat):Int)) (ZN [Ii 0,Ii 0] 34 h fun k33 w h=>ZSs [Ii ((Ab (L.map RN.a) (xh30.1,xh30.2) nm).1.1),Ii ((Ab (L.map RN.a) (xh30.1,xh30.2) nm).1.2)] 0 rfl h fun w h=>ZP (Ii (((Ab (L.map RN.a) (xh30.1,xh30.2) nm).2:Nat):Int)) (Qu (ZP (Ag ad ((Ab (L.map RN.a) (xh30.1,xh30.2) nm).2)) (ZP (Ii (((Ab (L.map RN.a) (xh30.1,xh30.2) nm).2:Nat):Int)) (ZC [5] (Nv ad ((Ab (L.map RN.a) (xh30.1,xh30.2) nm).2) (((Ab (L.map RN.a) (xh30.1,xh30.2) nm).2:Nat):Int) (M7 _ _ _) rfl) h fun w h=>ZP (.bool false) (ZP (.bool false) (ZG h (Gla 0 [Ii ((Ab (L.map RN.a) (xh30.1,xh30.2) nm).1.1),Ii ((Ab (L.map RN.a) (xh30.1,xh30.2) nm).1.2)] 4) (ZG h (Gla 0 [Ii ((Ab (L.map RN.a) (xh30.1,xh30.2) nm).1.1),Ii ((Ab (L.map RN.a) (xh30.1,xh30.2) nm).1.2)] 1) (ZG h (A4 (v:=.bool (!((decide ((Ab (L.map RN.a) (xh30.1,xh30.2) nm).1.1=(Ab (L.map RN.a) (xh30.1,xh30.2) nm).1.1))&&(decide ((Ab (L.map RN.a) (xh30.1,xh30.2) nm).1.2=(Ab (L.map RN.a) (xh30.1,xh30.2) nm).1.2))))) (v':=.bool false) (Ez (n1:=(Ab (L.map RN.a) (xh30.1,xh30.2) nm).1.1) (g1:=(Ab (L.map RN.a) (xh30.1,xh30.2) nm).1.2) (n2:=(Ab (L.map RN.a) (xh30.1,xh30.2) nm).1.1) (g2:=(Ab (L.map RN.a) (xh30.1,xh30.2) nm).1.2) (by kernel_rfl)) (by simp)) (ZP (.bool false) (Fs (ZP (Pp b) (ZG h (Gla 0 [Ii xh30.1,Ii xh30.2] 6) (ZP (Ii ck) (ZP (Ii nn) ?_)))))))))))))))))))))))))))))
 refine ZD [5,0] (Ag6 ad hp1 xh30.1 xh30.2 ck nn (by omega) (by omega)) h ?_;rintro v_ L_ w ⟨vl34,rfl,rfl⟩ h
 refine ZP (.tuple #[vl34,Ii (((Cg (L.map RN.a) (xh30.1,xh30.2) ck nn).2.1:Nat):Int),Ag ad ((Cg (L.map RN.a) (xh30.1,xh30.2) ck nn).2.2)]) (ZP vl34 (ZP (Ii (((Cg (L.map RN.a) (xh30.1,xh30.2) ck nn).2.1:Nat):Int)) (ZP (Ag ad ((Cg (L.map RN.a) (xh30.1,xh30.2) ck nn).2.2)) (ZP vl34 (ZP (Ii (((Cg (L.map RN.a) (xh30.1,xh30.2) ck nn).2.1:Nat):Int)) (ZP (Ag ad ((Cg (L.map RN.a) (xh30.1,xh30.2) ck nn).2.2)) (Qm (ZP (Pp rb) (ZG h (Gla 0 [Ii xh30.1,Ii xh30.2] 7) (ZP (Ii ck) (ZP (Ii nn) ?_)))))))))))
 refine ZD [4,4] (Xl rb 20 vl vt L _ (by omega) (hp1.s.ti.rtok hp1.s.m3 hp1.s.cnt) xh30.1 xh30.2 ck nn (by omega) (by omega)) h ?_;rintro v_ L_ w ⟨vr35,rfl,rfl⟩ h
 refine ZP (.tuple #[vr35,Ii (((Cg (L.map RN.a) (xh30.1,xh30.2) ck nn).2.1:Nat):Int),Ii (((Cg (L.map RN.a) (xh30.1,xh30.2) ck nn).2.2:Nat):Int)]) (ZP vr35 (ZP (Ii (((Cg (L.map RN.a) (xh30.1,xh30.2) ck nn).2.1:Nat):Int)) (ZP (Ii (((Cg (L.map RN.a) (xh30.1,xh30.2) ck nn).2.2:Nat):Int)) (ZP vr35 (ZP (Ii (((Cg (L.map RN.a) (xh30.1,xh30.2) ck nn).2.1:Nat):Int)) (ZP (Ii (((Cg (L.map RN.a) (xh30.1,xh30.2) ck nn).2.2:Nat):Int)) (Qu (ZP (Ag ad ((Cg (L.map RN.a) (xh30.1,xh30.2) ck nn).2.2)) (ZP (Ii (((Cg (L.map RN.a) (xh30.1,xh30.2) ck nn).2.2:Nat):Int)) (ZC [4] (Nv ad ((Cg (L.map RN.a) (xh30.1,xh30.2) ck nn).2.2) (((Cg (L.map RN.a) (xh30.1,xh30.2) ck nn).2.2:Nat):Int) (Afx _ _ _ _) rfl) h fun w h=>ZP (.bool false) (ZP (.bool false) (ZP (Ii (((Cg (L.map RN.a) (xh30.1,xh30.2) ck nn).2.1:Nat):Int)) (ZP (Ii (((Cg (L.map RN.a) (xh30.1,xh30.2) ck nn).2.1:Nat):Int)) (ZG h (A4 (v:=.bool (!decide ((((Cg (L.map RN.a) (xh30.1,xh30.2) ck nn).2.1:Nat):Int)=(((Cg (L.map RN.a) (xh30.1,xh30.2) ck nn).2.1:Nat):Int)))) (v':=.bool false) (Az fun _=>by kernel_rfl) (by simp)) (ZP (.bool false) (ZP (.bool false) (ZP vl34 (ZP vr35 (ZC [5,3] (W3 vl34 vr35 ((Cg (L.map RN.a) (xh30.1,xh30.2) ck nn).1) (by exact Z3 (hp1.s.ti.rtok hp1.s.m3 hp1.s.cnt).few _ _ _)) h fun w h=>ZP (.bool false) (ZP (.bool false) (Fs (ZP (Hg 0 0) (ZN [Ii 0,Ii 0] 34 h fun k36 w h=>ZSs [Ii 0,Ii 0] 0 rfl h fun w h=>Qm (ZC [] (Aaw) h fun w h=>ZN [Ii 0,Ii 0] 66 h fun k37 w h=>ZSs [Ii 0,Ii (-1)] 0 rfl h fun w h=>Qu (ZP (Ii 0) (Qn (Av ?_)))))))))))))))))))))))))))
 refine ZL (X:=Nat×Hdl×Nat×Int×(Nat→Value)) [(12,12),(30,31),(141,173)] (fun ⟨j0,xa,cq,pq,J1⟩=>[(29,Ii j0)]) (fun ⟨j0,xa,cq,pq,J1⟩=>J1) (fun ⟨j0,xa,cq,pq,J1⟩=>[Bw true k37 [Ii ((cq:Nat):Int),Ii pq] 66,Rh k36 xa.1 xa.2,A8 true vl34 107 3 e3C ((Cg (L.map RN.a) (xh30.1,xh30.2) ck nn).1),A8 true vr35 107 3 e3C ((Cg (L.map RN.a) (xh30.1,xh30.2) ck nn).1),A6 B ad,Rt rb 20 vl vt,rRL vl L,rPT 20 z,Bw true k33 [Ii ((Ab (L.map RN.a) (xh30.1,xh30.2) nm).1.1),Ii ((Ab (L.map RN.a) (xh30.1,xh30.2) nm).1.2)] 34,Bw true k32 [Ii ((Ab (L.map RN.a) (xh30.1,xh30.2) nm).1.1),Ii ((Ab (L.map RN.a) (xh30.1,xh30.2) nm).1.2)] 34,Rh k31 xh30.1 xh30.2,Bw true k13 [hv] 37,A8 true hv 34 2 hdC hs,A8 true vt 3 1 inC ts,Im v 6 O9 acts,Im pv 1 stC path]) (fun ⟨j0,xa,cq,pq,J1⟩=>LkG (L.map RN.a) path j0 xa cq pq) (fun ⟨j0,xa,cq,pq,J1⟩=>path.length - j0) (fun j=>⟨0,((0,0):Hdl),0,(-1),j⟩) Ae8 [0,0,0,0,0,0,0,0,0,0,0,0,0,0,0,0] h ?_
 rintro ⟨j0,xa,cq,pq,J1⟩ w hG h
 have hlg:LkG (L.map RN.a) path j0 xa cq pq:=hG
 have hj0:j0≤path.length:=hlg.1
 refine Qt (ZP (Ii j0) (ZP pv (ZG h (Pe 9 (by kernel_rfl) 15 rfl) ?_)))
 obtain ⟨b38,hb38⟩:=nmB (decide ((j0:Int)<(path.length:Int)))
 refine ZB hb38 (ZP (.bool b38) (ZM1 (v:=Pp k37) b38 h (fun hB=>by subst hB;exact Gp (Pp k37)) (ZM1 (v:=Ii ((cq:Nat):Int)) b38 h (fun hB=>by subst hB;exact Gl 0 (Ii ((cq:Nat):Int)) 0) ?_)))
 obtain ⟨b39,hb39⟩:=nmB (decide (((cq:Nat):Int)=0))
 refine ZM1 (v:=.bool b39) b38 h (fun hB=>by subst hB;exact by subst hb39;exact Az (v:=.bool (decide (((cq:Nat):Int)=0))) fun _=>by kernel_rfl) ?_
 obtain ⟨b40,hb40⟩:=nmB (b38&&b39)
 refine ZBc b38 hb40 (Qn (Zi (b40) (fun hc41=>?_) fun hc41=>?_))
 have q42:=hb40.symm.trans hc41
 have q43:=aL q42
 have q44:=aR q42
 have q45:=hb38.symm.trans q43
 have q45:=dcT q45
 have q46:=hb39.symm.trans q44
 have q46:=dcT q46
 refine Kn (Aa (Av (Qt (ZP pv (ZP (Ii j0) ?_)))))
 have hi47:j0<path.length:=by omega
 obtain ⟨x48,hx49⟩:∃ x,path[j0]?=some x:=⟨_,List.getElem?_eq_getElem hi47⟩
 refine ZG h (Ou 9 j0 (by kernel_rfl) hi47 15 rfl) (ZG h (Gr (B0 pv+j0*1) (.string x48) 15 rfl (Xt hx49 (by kernel_rfl))) (ZP (Ii (x48.size:Int)) (ZP (.bool (decide ((x48.size:Int)>100))) (Qn (Zd ((x48.size:Int)>100) (fun hc50=>?_) fun hc50=>?_)))))
 exact Qs (ZP (.bool true) (Qr (Ar (B7 (Ar (Li (B7 (Ar (ZR [.bool true] [14,14,4] h ⟨rfl,rfl⟩)))))))))
 refine Kn (Aa (Ds 13 [1,14] h fun w h=>Dp 0 1086 (Pp rb) [1,14] h (Dq 1 1085 [1,14] rfl h (Gla 0 [Ii xa.1,Ii xa.2] 0) (Dp 2 1035 pv [1,14] h (Dp 3 1031 (Ii j0) [1,14] h (Dq (v:=Pt (Dg pv) (B0 pv+j0*1)) 4 1039 [1,14] rfl h (Ou 9 j0 (by kernel_rfl) hi47 1 rfl) (Dq 5 1055 [1,14] rfl h (Gr (B0 pv+j0*1) (.string x48) 1 rfl (Xt hx49 (by kernel_rfl))) ?_)))))))
 refine A1 [6,10] (by kernel_rfl) rfl ?_
 refine Di #[Pp rb,Hg xa.1 xa.2,.string x48] [5,5] [3,14] rfl (by kernel_rfl) (H0 rb 20 vl vt L _ (by omega) (hp1.s.ti.rtok hp1.s.m3 hp1.s.cnt) xa.1 xa.2 x48 (by omega)) (fun _=>by kernel_rfl) h ?_ ?_
 rintro v_ L_ w ⟨rfl,rfl⟩ h
 refine ⟨by kernel_rfl,?_⟩
 refine Dp 7 1151 (.tuple #[.agg #[Ii ((Ab (L.map RN.a) (xa.1,xa.2) x48).1.1),Ii ((Ab (L.map RN.a) (xa.1,xa.2) x48).1.2)],Ii (((Ab (L.map RN.a) (xa.1,xa.2) x48).2:Nat):Int)]) [3,14] h (Dp 8 1791 (.agg #[Ii ((Ab (L.map RN.a) (xa.1,xa.2) x48).1.1),Ii ((Ab (L.map RN.a) (xa.1,xa.2) x48).1.2)]) [3,14] h (Dp 9 3583 (Ii (((Ab (L.map RN.a) (xa.1,xa.2) x48).2:Nat):Int)) [3,14] h ?_))
 refine A1 [10] (by kernel_rfl) rfl ?_
 refine Ch [4,15] rfl (by kernel_rfl) (fun b=>Pp b) [Ii 0,Ii 0] 34 (fun _=>by kernel_rfl) h ?_ ?_
 intro k51 w h;refine ⟨by kernel_rfl,?_⟩
 refine As 11 [4,15] 0 [Ii ((Ab (L.map RN.a) (xa.1,xa.2) x48).1.1),Ii ((Ab (L.map RN.a) (xa.1,xa.2) x48).1.2)] [Ii ((Ab (L.map RN.a) (xa.1,xa.2) x48).1.1),Ii ((Ab (L.map RN.a) (xa.1,xa.2) x48).1.2)] 0 rfl h fun w h=>Dp 12 4095 (Ii (((Ab (L.map RN.a) (xa.1,xa.2) x48).2:Nat):Int)) [4,15] h (Dd (Ai (Qt (ZP (Ii (((Ab (L.map RN.a) (xa.1,xa.2) x48).2:Nat):Int)) (ZP (.bool (decide ((((Ab (L.map RN.a) (xa.1,xa.2) x48).2:Nat):Int)>0))) (Qn (Zd ((((Ab (L.map RN.a) (xa.1,xa.2) x48).2:Nat):Int)>0) (fun hc52=>?_) fun hc52=>?_)))))))
 refine Ah (ZP (Ii (((Ab (L.map RN.a) (xa.1,xa.2) x48).2:Nat):Int)) (ZP (Ii j0) (ZP (.agg #[Ii (((Ab (L.map RN.a) (xa.1,xa.2) x48).2:Nat):Int),Ii j0]) (ZSs [Ii (((Ab (L.map RN.a) (xa.1,xa.2) x48).2:Nat):Int),Ii j0] 3 rfl h fun w h=>Qn (Ah (ZG h (Gla 0 [Ii ((Ab (L.map RN.a) (xa.1,xa.2) x48).1.1),Ii ((Ab (L.map RN.a) (xa.1,xa.2) x48).1.2)] 0) (ZSs [Ii ((Ab (L.map RN.a) (xa.1,xa.2) x48).1.1),Ii ((Ab (L.map RN.a) (xa.1,xa.2) x48).1.2)] 4 rfl h fun w h=>Cu ?_)))))))
 refine Cb (Ai ?_)
 refine Ah (ZP (Ii j0) (ZG h (A4 (v:=Ii (IntKind.i64.wrap ((j0:Int)+1))) (v':=Ii ((j0+1:Nat):Int)) (Az fun _=>by kernel_rfl) (wr (by omega))) (ZP (Ii ((j0+1:Nat):Int)) (Cu ?_))))
 have hQ53:(LkG (L.map RN.a) path (j0+1) ((Ab (L.map RN.a) (xa.1,xa.2) x48).1) ((Ab (L.map RN.a) (xa.1,xa.2) x48).2) (j0:Int))∧(path.length - (j0+1))<(path.length - j0):=⟨Ada hlg (by omega) hx49 (by omega) (show 0<(Ab (L.map RN.a) (xa.1,xa.2) x48).2 by omega) _,by omega⟩
 refine Bn (fun j=>⟨(j0+1),(Ab (L.map RN.a) (xa.1,xa.2) x48).1,(Ab (L.map RN.a) (xa.1,xa.2) x48).2,(j0:Int),j⟩) hQ53 (by kernel_rfl) [3,3,3,3,3,1,1,1,1,1,1,1,1,1,1,1] (by kernel_rfl) h
 refine Kn (Ah (ZG h (Gla 0 [Ii ((Ab (L.map RN.a) (xa.1,xa.2) x48).1.1),Ii ((Ab (L.map RN.a) (xa.1,xa.2) x48).1.2)] 0) (ZSs [Ii ((Ab (L.map RN.a) (xa.1,xa.2) x48).1.1),Ii ((Ab (L.map RN.a) (xa.1,xa.2) x48).1.2)] 4 rfl h fun w h=>Cu ?_)))
 refine Cb (Ai ?_)
 refine Ah (ZP (Ii j0) (ZG h (A4 (v:=Ii (IntKind.i64.wrap ((j0:Int)+1))) (v':=Ii ((j0+1:Nat):Int)) (Az fun _=>by kernel_rfl) (wr (by omega))) (ZP (Ii ((j0+1:Nat):Int)) (Cu ?_))))
 have hQ54:(LkG (L.map RN.a) path (j0+1) ((Ab (L.map RN.a) (xa.1,xa.2) x48).1) cq pq)∧(path.length - (j0+1))<(path.length - j0):=⟨Af7 hlg (by omega) hx49 (by omega) (show (Ab (L.map RN.a) (xa.1,xa.2) x48).2=0 by omega),by omega⟩
 refine Bn (fun j=>⟨(j0+1),(Ab (L.map RN.a) (xa.1,xa.2) x48).1,cq,pq,j⟩) hQ54 (by kernel_rfl) [3,3,3,3,3,1,1,1,1,1,1,1,1,1,1,1] (by kernel_rfl) h
 exact Ba
 refine Ch [2,15] rfl (by kernel_rfl) (fun b=>Pp b) [Ii 0,Ii 0] 34 (fun _=>by kernel_rfl) h ?_ ?_
 intro k55 w h;refine ⟨by kernel_rfl,?_⟩
 refine Ad 6 [6,6] [4,15] (H0 rb 20 vl vt L _ (by omega) (hp1.s.ti.rtok hp1.s.m3 hp1.s.cnt) xa.1 xa.2 x48 (by omega)) h ?_
 rintro v_ L_ w ⟨rfl,rfl⟩ h
 refine ⟨by kernel_rfl,?_⟩
 refine Dp 7 1151 (.tuple #[.agg #[Ii ((Ab (L.map RN.a) (xa.1,xa.2) x48).1.1),Ii ((Ab (L.map RN.a) (xa.1,xa.2) x48).1.2)],Ii (((Ab (L.map RN.a) (xa.1,xa.2) x48).2:Nat):Int)]) [4,15] h (Dp 8 1791 (.agg #[Ii ((Ab (L.map RN.a) (xa.1,xa.2) x48).1.1),Ii ((Ab (L.map RN.a) (xa.1,xa.2) x48).1.2)]) [4,15] h (Dp 9 3583 (Ii (((Ab (L.map RN.a) (xa.1,xa.2) x48).2:Nat):Int)) [4,15] h (As 11 [4,15] 0 [Ii ((Ab (L.map RN.a) (xa.1,xa.2) x48).1.1),Ii ((Ab (L.map RN.a) (xa.1,xa.2) x48).1.2)] [Ii ((Ab (L.map RN.a) (xa.1,xa.2) x48).1.1),Ii ((Ab (L.map RN.a) (xa.1,xa.2) x48).1.2)] 2 rfl h fun w h=>Dp 12 4095 (Ii (((Ab (L.map RN.a) (xa.1,xa.2) x48).2:Nat):Int)) [4,15] h (Dd (Ai (Qt (ZP (Ii (((Ab (L.map RN.a) (xa.1,xa.2) x48).2:Nat):Int)) (ZP (.bool (decide ((((Ab (L.map RN.a) (xa.1,xa.2) x48).2:Nat):Int)>0))) (Qn (Zd ((((Ab (L.map RN.a) (xa.1,xa.2) x48).2:Nat):Int)>0) (fun hc56=>?_) fun hc56=>?_))))))))))
 refine Ah (ZP (Ii (((Ab (L.map RN.a) (xa.1,xa.2) x48).2:Nat):Int)) (ZP (Ii j0) (ZP (.agg #[Ii (((Ab (L.map RN.a) (xa.1,xa.2) x48).2:Nat):Int),Ii j0]) (ZSs [Ii (((Ab (L.map RN.a) (xa.1,xa.2) x48).2:Nat):Int),Ii j0] 3 rfl h fun w h=>Qn (Ah (ZG h (Gla 0 [Ii ((Ab (L.map RN.a) (xa.1,xa.2) x48).1.1),Ii ((Ab (L.map RN.a) (xa.1,xa.2) x48).1.2)] 2) (ZSs [Ii ((Ab (L.map RN.a) (xa.1,xa.2) x48).1.1),Ii ((Ab (L.map RN.a) (xa.1,xa.2) x48).1.2)] 4 rfl h fun w h=>Cu ?_)))))))
 refine Cb (Ai ?_)
 refine Ah (ZP (Ii j0) (ZG h (A4 (v:=Ii (IntKind.i64.wrap ((j0:Int)+1))) (v':=Ii ((j0+1:Nat):Int)) (Az fun _=>by kernel_rfl) (wr (by omega))) (ZP (Ii ((j0+1:Nat):Int)) (Cu ?_))))
 have hQ57:(LkG (L.map RN.a) path (j0+1) ((Ab (L.map RN.a) (xa.1,xa.2) x48).1) ((Ab (L.map RN.a) (xa.1,xa.2) x48).2) (j0:Int))∧(path.length - (j0+1))<(path.length - j0):=⟨Ada hlg (by omega) hx49 (by omega) (show 0<(Ab (L.map RN.a) (xa.1,xa.2) x48).2 by omega) _,by omega⟩
 refine Bn (fun j=>⟨(j0+1),(Ab (L.map RN.a) (xa.1,xa.2) x48).1,(Ab (L.map RN.a) (xa.1,xa.2) x48).2,(j0:Int),j⟩) hQ57 (by kernel_rfl) [3,3,3,3,3,0,0,1,1,1,1,1,1,1,1,1] (by kernel_rfl) h
 refine Kn (Ah (ZG h (Gla 0 [Ii ((Ab (L.map RN.a) (xa.1,xa.2) x48).1.1),Ii ((Ab (L.map RN.a) (xa.1,xa.2) x48).1.2)] 2) (ZSs [Ii ((Ab (L.map RN.a) (xa.1,xa.2) x48).1.1),Ii ((Ab (L.map RN.a) (xa.1,xa.2) x48).1.2)] 4 rfl h fun w h=>Cu ?_)))
 refine Cb (Ai ?_)
 refine Ah (ZP (Ii j0) (ZG h (A4 (v:=Ii (IntKind.i64.wrap ((j0:Int)+1))) (v':=Ii ((j0+1:Nat):Int)) (Az fun _=>by kernel_rfl) (wr (by omega))) (ZP (Ii ((j0+1:Nat):Int)) (Cu ?_))))
 have hQ58:(LkG (L.map RN.a) path (j0+1) ((Ab (L.map RN.a) (xa.1,xa.2) x48).1) cq pq)∧(path.length - (j0+1))<(path.length - j0):=⟨Af7 hlg (by omega) hx49 (by omega) (show (Ab (L.map RN.a) (xa.1,xa.2) x48).2=0 by omega),by omega⟩
 refine Bn (fun j=>⟨(j0+1),(Ab (L.map RN.a) (xa.1,xa.2) x48).1,cq,pq,j⟩) hQ58 (by kernel_rfl) [3,3,3,3,3,0,0,1,1,1,1,1,1,1,1,1] (by kernel_rfl) h
 exact Ba
 have q59:=hb40.symm.trans hc41
 have hexl:¬j0<path.length∨¬cq=0:=by revert hc41;subst hb40;subst hb39;subst hb38;simp;omega
 refine C9 (D3 (Ek (Ea (Ai (Qs (ZP (.slice none 0 0) (Qm (ZP (Pp b) (ZP (.slice none 0 0) (ZP pv ?_))))))))))
 have h:=h.nilRows 9 1 stC
 refine Afg rfl (by kernel_rfl) St (fun _=>rfl) h 0 rfl 16 rfl (Adh St (by decide)) (by (try simp only [List.length_append,List.length_cons,List.length_nil,List.length_map]);omega) ?_;intro v60 w h
 obtain ⟨qw,xw,hwk,hxw,hpq,hszw,h15⟩:=Agt hlg hexl
 refine ZD [8,5,0] (Z0 ad hp1 v60 path (by omega) xw xa cq qw pq hwk hxw hpq hszw) h ?_;rintro v_ L_ w (⟨hc0,rfl,rfl⟩|⟨hc0,fb9,rfl,rfl⟩) h
 refine ZP (.tuple #[Hg xa.1 xa.2,.nilIface]) (ZP (Hg xa.1 xa.2) (ZP .nilIface (ZSs [Ii xa.1,Ii xa.2] 10 rfl h fun w h=>ZP .nilIface (Qu (ZP (Pp k37) (ZG h (Gl 0 (Ii ((cq:Nat):Int)) 3) (ZP (.bool (decide (((cq:Nat):Int)>0))) (Qn (Zd (((cq:Nat):Int)>0) (fun hc61=>?_) fun hc61=>?_)))))))))
 exfalso;omega
 exact Ks (ZP .nilIface (ZP (.bool true) (ZP (.bool true) (ZG h (Gla 0 [Ii xa.1,Ii xa.2] 10) (ZG h (Gla 0 [Ii xa.1,Ii xa.2] 4) (ZG h (A4 (v:=.bool (((decide (xa.1=xa.1))&&(decide (xa.2=xa.2))))) (v':=.bool true) (Fm (n1:=xa.1) (g1:=xa.2) (n2:=xa.1) (g2:=xa.2) (by kernel_rfl)) (by simp)) (ZP (.bool true) (ZP (.bool true) (Qr (ZR [.bool true] [15,15,1] h ⟨rfl,rfl⟩))))))))))
 refine ZP (.tuple #[Hg 0 0,.iface 127 (Pp fb9)]) (ZP (Hg 0 0) (ZP (.iface 127 (Pp fb9)) (ZSs [Ii 0,Ii 0] 11 rfl h fun w h=>ZP (.iface 127 (Pp fb9)) (Qu (ZP (Pp k37) (ZG h (Gl 0 (Ii ((cq:Nat):Int)) 4) (ZP (.bool (decide (((cq:Nat):Int)>0))) (Qn (Zd (((cq:Nat):Int)>0) (fun hc62=>?_) fun hc62=>?_)))))))))
 exact Qs (ZP (.iface 127 (Pp fb9)) (ZG h (Gla 0 [Ii ((cq:Nat):Int),Ii pq] 4) (ZC [1,2] (Sm ad cq pq fb9 hc0 h15) h fun w h=>ZP (.bool true) (ZG h (Gla 0 [Ii 0,Ii 0] 11) (ZP (Hg 0 0) (ZG h (A4 (v:=.bool (((decide ((0:Int)=0))&&(decide ((0:Int)=0))))) (v':=.bool true) (Fm (n1:=0) (g1:=0) (n2:=0) (g2:=0) (by kernel_rfl)) (by rfl)) (ZP (.bool true) (ZP (.bool true) (Qr (Ar (ZR [.bool true] [16,16,0] h ⟨rfl,rfl⟩)))))))))))
 exfalso;omega
theorem Qd (ad:Nat→Addr) (fa:Int) (nm:ByteArray) (a1:Option Addr) (cap1:Nat) (path:List ByteArray) (ck nn:Int) (hck:-9223372036854775808≤ck∧ck≤9223372036854775807) (hnn:-9223372036854775808≤nn∧nn≤9223372036854775807) (a0:Option Addr) (cap:Nat) (acts:List Wa) (w:World) (he:J9 w.heap.size ad w) (hs:(Sh.slice Abb).At w w.heap.size (a0,cap,acts)) (hz:(Sh.slice Abb).Sz (a0,cap,acts)) (hs1:(Sh.slice Sh.str).At w w.heap.size (a1,cap1,path)) :
    Calls Tryz.prog 5 #[.slice a0 acts.length cap,Ii fa,.string nm,.slice a1 path.length cap1,Ii ck,Ii nn] w fun e w'=>e=.returned (.bool true)∧Chg Nil w w':=by
  have hok:∀ x∈acts,Yv x:=fun x hx=>by
    obtain ⟨i,hi,rfl⟩:=List.mem_iff_getElem.1 hx
    obtain ⟨⟨_,_,_,_,_,q6,_⟩,_⟩:=hs.2.2 i acts[i] (List.getElem?_eq_getElem hi)
    obtain ⟨_,_,_,r4,r5,_⟩:=hz.2 i acts[i] (List.getElem?_eq_getElem hi)
    exact ⟨r4,r5,q6⟩
  refine ((P8 (B:=w.heap.size) ad (.slice a0 acts.length cap) acts hok fa nm (.slice a1 path.length cap1) path ck nn hck hnn).reads (w:=w) rfl ?_).mono ?_
  · intro r hr
    simp only [List.mem_cons,List.mem_nil_iff,or_false] at hr
    rcases hr with rfl|rfl|rfl
    · exact Rz hs
    · exact Rz hs1
    · exact he
  · rintro e w' ⟨u,L',⟨rfl,_⟩,he,hc'⟩
    exact ⟨he,hc'⟩
section
open Go.RowKit Go.ChangeShapes Go.WideShapes Go.ChangeAt
theorem Abw:∀ c∈Cp,Vw c:=by
  intro c hc
  simp only [Cp,List.mem_cons,List.mem_nil_iff,or_false] at hc
  rcases hc with rfl|rfl|rfl|rfl|rfl|rfl|rfl|rfl|rfl|rfl|rfl|rfl|rfl|rfl|rfl<;>exact ⟨by kernel_rfl,by kernel_rfl⟩
def P3 : List (String × DataW Unit) := ("errors.errorType", Rows.laid_errors_errorType) :: Iu Cp
theorem Zy : Tryz.prog.globalNamed "errors.errorType" = some 15 := by kernel_rfl
theorem Aaa : (Tryz.prog.cutTypes.find? (·.1 == "internal/reflectlite.rtype")).map (·.2) = some 197 := by kernel_rfl
theorem Aa1:((List.range 264).filter fun t=>Tryz.prog.rowNamed t [101,114,114,111,114])=[27]:=by kernel_rfl
theorem Xq:Tryz.prog.types.size=264:=by kernel_rfl
theorem R7:typeHandle Tryz.prog 27=.pointer (some ⟨16,27,none⟩):=by kernel_rfl
theorem S9 {W:World} (h:laidMetH Tryz.prog P3 W):∃ ad,J9 W.heap.size ad W∧∀ c∈Cp,∃ s:ByteArray,W.cell? (ad c)=some (.string s)∧s.data.toList=Ji c:=by
  have h' : laidMet Tryz.prog (Iu Cp) W ∧ handlesMet Tryz.prog [("errors.errorType", Rows.laid_errors_errorType)] W := h
  obtain ⟨ad,he,ht⟩:=U0 h'.1 Abw
  obtain ⟨name,u,ty,e1,e2,e3,e4,e5⟩:=h'.2 _ (List.mem_singleton.2 rfl)
  have en:name=[101,114,114,111,114]:=(Option.some.inj e1).symm
  subst en
  obtain rfl:=Option.some.inj (Aaa.symm.trans e2)
  have hm:ty∈(List.range 264).filter fun t=>Tryz.prog.rowNamed t [101,114,114,111,114]:=List.mem_filter.2 ⟨List.mem_range.2 (by rw [← Xq];exact e3),e4⟩
  rw [Aa1] at hm
  obtain rfl:=List.mem_singleton.1 hm
  rw [R7] at e5
  have hc:W.cell? ⟨15,0,none⟩=some (.iface 197 (.agg #[.pointer (some ⟨16,27,none⟩)])):=by simpa using World.var?_cell Zy e5 0
  exact ⟨ad,⟨he,hc,World.block_lt_of_cell? _ _ hc⟩,ht⟩
noncomputable def doorWorld (os:Os):World:=
  { World.laidAll Tryz.prog os (Iu Cp) with heap:=(World.laidAll Tryz.prog os (Iu Cp)).heap.modify 15 fun
      | .cells _ t frozen=>.cells #[.iface 197 (.agg #[.pointer (some ⟨16,27,none⟩)])] t frozen
      | o=>o }
theorem S4 (os:Os):(doorWorld os).os=os:=by
  dsimp only [doorWorld]
  exact World.laidAll_os _ _ _
theorem Qj (os:Os) (args:Array Value):laidMetH Tryz.prog P3 ((doorWorld os).forCall (fun _ _=>0) ⟨#[],args,[]⟩).memory:=
  laidMetH_of_parts (show laidMet Tryz.prog (Iu Cp) _ from laidMet_of_run' 8 (by kernel_rfl) (by kernel_rfl)) (by kernel_rfl)
theorem M4 (os:Os) (args:Array Value):((doorWorld os).forCall (fun _ _=>0) ⟨#[],args,[]⟩).Shaped Tryz.prog:=World.shaped_of_ZipB (by kernel_rfl) (by kernel_rfl)
end
end Go.Proofs.YtpojpkhpddnmjaaGreatDoor
namespace Go.Proofs.YtpojpkhpddnmjaaGreatDoor.treeLooksDone
open Go.ChangeShapes Go.WideShapes Go.ChangeAt Go.RowKit Go.ChangeMaps
set_option linter.unusedVariables false
set_option linter.unusedSimpArgs false
theorem own:ownKnob Tryz.prog.godebug=none:=by kernel_rfl
theorem I5:laidOutB Tryz.prog=true:=by kernel_rfl
set_option maxRecDepth 100000 in
theorem Agp (os:Os) (started:os.Started) (H:Type) (enc:TypeId×Value→H) :
    ReturnsInHanded {} Tryz.checked os 5 .any (fun w args=>(Rows.treeLooksSpec.pre enc Tryz.prog Tryz.f5 Rows.treeLooksRow.domain false w args∧laidMetH Tryz.prog Rows.treeLooksRow.laid w)∧sizedMet enc Tryz.prog Tryz.f5 (OpenSpec.ofChange Rows.treeLooksSpec) false w args)
      (Rows.treeLooksSpec.post enc Tryz.prog Tryz.f5 false true false false):=by
  refine returnsInHanded_of_change_and (C:=Tryz.checked) (X:=fun w _=>laidMetH Tryz.prog Rows.treeLooksRow.laid w) (fun _ _ _ hh h=>h.of_heap hh) own started (by kernel_rfl) Tryz.func5
    (ChangeSpec.witness_shaped (enc:=enc) (C:=Tryz.checked) (os:=os) (X:=fun w _=>laidMetH Tryz.prog Rows.treeLooksRow.laid w) false (doorWorld os) #[.slice none 0 0,.int .i64 0,.string ⟨#[]⟩,.slice none 0 0,.int .i64 0,.int .i64 0] 8 (S4 os)
      (M4 os _) (by kernel_rfl) (by kernel_rfl) (by kernel_rfl) (Qj os _)) ?_
  intro W base args ds gs before hval0 hW _ hsz hL _
  have hval:∀ (j:Nat) t v,Tryz.f5.params[j]?=some t→args[j]?=some v→Value.okWide Tryz.prog W .any base t v:=hval0
  have hW':=hW
  obtain ⟨p,q,hA0,hV,rfl,hfz,hnd⟩:=hW
  have hA:DataW.TrodAll enc Tryz.prog W 0 (fun _=>true) true Tryz.f5.params.toList args.toList ds p:=hA0
  rw [Tryz.params5] at hA hval
  obtain ⟨v0,vs0,e0,ds0,pl0,q0,hargs,rfl,rfl,h0,r0⟩:=trodAll_cons hA
  obtain ⟨v1,vs1,e1,ds1,pl1,q1,rfl,rfl,rfl,h1,r1⟩:=trodAll_cons r0
  obtain ⟨v2,vs2,e2,ds2,pl2,q2,rfl,rfl,rfl,h2,r2⟩:=trodAll_cons r1
  obtain ⟨v3,vs3,e3,ds3,pl3,q3,rfl,rfl,rfl,h3,r3⟩:=trodAll_cons r2
  obtain ⟨v4,vs4,e4,ds4,pl4,q4,rfl,rfl,rfl,h4,r4⟩:=trodAll_cons r3
  obtain ⟨v5,vs5,e5,ds5,pl5,q5,rfl,rfl,rfl,h5,r5⟩:=trodAll_cons r4
  obtain ⟨rfl,rfl,rfl⟩:=trodAll_nil r5
  obtain rfl:args=#[v0,v1,v2,v3,v4,v5]:=by cases args;simp_all
  obtain ⟨rfl,rfl⟩:=trodVars_none hV
  have lt0:∀ x∈pl0,x.block<W.heap.size:=by obtain ⟨m,hm⟩:=h0;exact DataW.trod_lt m _ _ _ hm
  obtain ⟨d0,rfl,t0,zz0⟩:=Sh.open_val2 12 22 (Sh.slice Abb) (by kernel_rfl) (hval 0 22 v0 rfl rfl) h0
  have z0:=zz0 (Sh.weights_le hsz (j:=0) (by rw [Tryz.params5];rfl) rfl)
  obtain ⟨p0,c0,l0⟩:=d0
  have lt1:∀ x∈pl1,x.block<W.heap.size:=by obtain ⟨m,hm⟩:=h1;exact DataW.trod_lt m _ _ _ hm
  obtain ⟨d1,rfl,t1,zz1⟩:=Sh.open_val2 12 3 (Sh.int) (by kernel_rfl) (hval 1 3 v1 rfl rfl) h1
  have z1:=zz1 (Sh.weights_le hsz (j:=1) (by rw [Tryz.params5];rfl) rfl)
  have lt2:∀ x∈pl2,x.block<W.heap.size:=by obtain ⟨m,hm⟩:=h2;exact DataW.trod_lt m _ _ _ hm
  obtain ⟨d2,rfl,t2,zz2⟩:=Sh.open_val2 12 9 (Sh.str) (by kernel_rfl) (hval 2 9 v2 rfl rfl) h2
  have z2:=zz2 (Sh.weights_le hsz (j:=2) (by rw [Tryz.params5];rfl) rfl)
  have lt3:∀ x∈pl3,x.block<W.heap.size:=by obtain ⟨m,hm⟩:=h3;exact DataW.trod_lt m _ _ _ hm
  obtain ⟨d3,rfl,t3,zz3⟩:=Sh.open_val2 12 60 (Sh.slice Sh.str) (by kernel_rfl) (hval 3 60 v3 rfl rfl) h3
  have z3:=zz3 (Sh.weights_le hsz (j:=3) (by rw [Tryz.params5];rfl) rfl)
  obtain ⟨p3,c3,l3⟩:=d3
  have lt4:∀ x∈pl4,x.block<W.heap.size:=by obtain ⟨m,hm⟩:=h4;exact DataW.trod_lt m _ _ _ hm
  obtain ⟨d4,rfl,t4,zz4⟩:=Sh.open_val2 12 3 (Sh.int) (by kernel_rfl) (hval 4 3 v4 rfl rfl) h4
  have z4:=zz4 (Sh.weights_le hsz (j:=4) (by rw [Tryz.params5];rfl) rfl)
  have lt5:∀ x∈pl5,x.block<W.heap.size:=by obtain ⟨m,hm⟩:=h5;exact DataW.trod_lt m _ _ _ hm
  obtain ⟨d5,rfl,t5,zz5⟩:=Sh.open_val2 12 3 (Sh.int) (by kernel_rfl) (hval 5 3 v5 rfl rfl) h5
  have z5:=zz5 (Sh.weights_le hsz (j:=5) (by rw [Tryz.params5];rfl) rfl)
  clear hA0 hval0
  obtain ⟨ad,he,_⟩:=S9 (show laidMetH Tryz.prog P3 W from hL)
  show Calls Tryz.prog 5 #[.slice p0 l0.length c0,.int .i64 d1,.string d2,.slice p3 l3.length c3,.int .i64 d4,.int .i64 d5] W _
  refine (Qd ad d1 d2 p3 c3 l3 d4 d5 t4 t5 p0 c0 l0 W he t0 z0 t3).mono fun e W' ⟨he,hc⟩=>?_
  subst he
  have bel:Below W.heap.size W W':=hc.below (Nat.le_refl _) (fun _ _ f=>f.elim)
  exact ⟨_,rfl,_,_,_,[],_,[],hW',trodAll_mk1 (shut_bool Tryz.underlying4 _),(trodAll_cons_mk (Below.trod I5 (by kernel_rfl) (of_decide_eq_true (by kernel_rfl)) h0 bel lt0) (trodAll_cons_mk (Below.trod I5 (by kernel_rfl) (of_decide_eq_true (by kernel_rfl)) h1 bel lt1) (trodAll_cons_mk (Below.trod I5 (by kernel_rfl) (of_decide_eq_true (by kernel_rfl)) h2 bel lt2) (trodAll_cons_mk (Below.trod I5 (by kernel_rfl) (of_decide_eq_true (by kernel_rfl)) h3 bel lt3) (trodAll_cons_mk (Below.trod I5 (by kernel_rfl) (of_decide_eq_true (by kernel_rfl)) h4 bel lt4) (trodAll_cons_mk (Below.trod I5 (by kernel_rfl) (of_decide_eq_true (by kernel_rfl)) h5 bel lt5) trodAll_mk0)))))),rfl,bel.frame _,fun h=>by cases h⟩
theorem band {a b:Bool} (h:a=true) (k:b=true):(a&&b)=true:=by rw [h,k];rfl
set_option maxHeartbeats 0 in
theorem Ae3:joinedFacts Tryz.pinned.checked.prog 5 Tryz.f5 Rows.treeLooksSpec Rows.treeLooksRow=true:=by
  unfold joinedFacts
  repeat' (with_reducible refine band ?_ ?_)
  all_goals (as_aux_lemma=>kernel_rfl)
theorem said:Rows.TreeLooksSaid:=
  OpenClaim.holds_of_wide 5 Tryz.f5 rfl rfl rfl rfl rfl rfl rfl ⟨rfl,rfl,rfl,rfl,rfl⟩ rfl rfl rfl rfl rfl (by as_aux_lemma=>kernel_rfl) Tryz.func5 Ae3
    (of_decide_eq_true (by kernel_rfl)) (by unfold Func.isWrapper;first|(rw [if_pos (by decide +kernel)];kernel_rfl)|(rw [if_neg (by decide +kernel)];exact ⟨rfl,rfl⟩))
    (fun os started H enc _=>Agp os started H enc)
theorem plain (f : FuncId) (fn : Func) (hf : Tryz.pinned.checked.prog.funcNamed "pigeonholes/pigeonholeslaw1.TreeLooks" = some f) (hfn : Tryz.pinned.checked.prog.funcs[f]? = some fn) :
    true=Tryz.pinned.checked.prog.looks []∧∀ (j:Nat) t,fn.params[j]?=some t→Tryz.pinned.checked.prog.wantsStandIn t=false:=by
  obtain rfl : f = 5 := Option.some.inj ((show Tryz.prog.funcNamed "pigeonholes/pigeonholeslaw1.TreeLooks" = some 5 by kernel_rfl).symm.trans hf) |>.symm
  obtain rfl:fn=Tryz.f5:=(Option.some.inj (Tryz.func5.symm.trans hfn)).symm
  refine ⟨by kernel_rfl,fun j t ht=>?_⟩
  rw [Tryz.params5] at ht
  have hm:t=22∨t=3∨t=9∨t=60∨t=3∨t=3:=by simpa using Array.mem_of_getElem? ht
  rcases hm with rfl|rfl|rfl|rfl|rfl|rfl
  · exact (show Tryz.prog.wantsStandIn 22=false by kernel_rfl)
  · exact (show Tryz.prog.wantsStandIn 3=false by kernel_rfl)
  · exact (show Tryz.prog.wantsStandIn 9=false by kernel_rfl)
  · exact (show Tryz.prog.wantsStandIn 60=false by kernel_rfl)
  · exact (show Tryz.prog.wantsStandIn 3=false by kernel_rfl)
  · exact (show Tryz.prog.wantsStandIn 3=false by kernel_rfl)
set_option maxHeartbeats 0 in
theorem card:Rows.TreeLooksCardSaid:=
  Claim7.holds_tied_plain_at .later [] _ _ _ _ said (fun _ h=>by cases h) (by as_aux_lemma=>kernel_rfl) (fun _ h=>by cases h) treeLooks_row_tie (by as_aux_lemma=>rfl) (by as_aux_lemma=>exact ⟨rfl,rfl⟩) (by as_aux_lemma=>kernel_rfl) (by as_aux_lemma=>rfl) plain (by as_aux_lemma=>kernel_rfl)
#print axioms card
end Go.Proofs.YtpojpkhpddnmjaaGreatDoor.treeLooksDone
