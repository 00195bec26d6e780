/- Lemmas: part 5. -/
import Derived.Test.YtpojpkhpddnmjaaGreatDoorL4
import Derived.Shelf.SlIter.Nil
import Derived.Shelf.SlIter.Sorted
import Derived.Shelf.SortM.Plain
import Derived.Shelf.SortM.SortNone
import Derived.Test.YtpojpkhpddnmjaaGreatDoorProg
import Derived.StringKeys
set_option linter.all false
set_option maxRecDepth 100000
set_option maxHeartbeats 20000000
namespace Go.Proofs.YtpojpkhpddnmjaaGreatDoor
open Go.RowKit
theorem Tq {ds:List DN} {j:Nat} {d:DN} (hj:ds[j]?=some d) {x:Int×Int} (h:d.h≠x):∃ j:Nat,(ds.filter fun d=>!(d.h==x))[j]?=some d:=List.getElem?_of_mem (List.mem_filter.2 ⟨List.mem_of_getElem? hj,by simpa using h⟩)
section
variable {B:Nat} (ad:Nat→Addr) (b most tb dm pm:Nat) (ps:List (Option Nat)) (gs:List Int) (vl vg:Value) (T:TypeId) (Sl Sg:Nat→Prop) (l:List (Option ND)) (ds:List DN) (pn:List ((Int×Int)×Int)) (hl:ps.length=gs.length) (hr:∀ x∈gs,0≤x∧x≤1000000) (hdd:(ds.map (·.h)).Nodup) (ka:Nat) (ga:Int) (Na:ND) (hla:l[ka]?=some (some Na)) (haa:Bk ps gs (ka:Int) ga=some Na.nb) (ja:Nat) (da:DN) (hja:ds[ja]?=some da) (hda:da.h=((ka:Int),ga))
include B ad b most tb dm pm ps gs vl vg T Sl Sg l ds pn hl hr hdd ka ga Na hla haa ja da hja hda
theorem Tr (old nm:ByteArray) (hoz:old.size≤9223372036854775807) (hnz:nm.size≤9223372036854775807) (ho:A0 old) (hn:A0 nm) (kx:Nat) (gx:Int) (hx:Af da.es old=some ((kx:Int),gx)) (hxf:∀ d∈ds,d.h≠((kx:Int),gx)) (hkxa:kx≠ka) (hca:0≤Na.change∧Na.change≤1000000) (hy:Af da.es nm=none):Au Tryz.prog 20 #[Pp b,Hg ka ga,.string old,Hg ka ga,.string nm] (Ra B ad b tb most dm pm ps gs vl vg T Sl Sg l ds pn) (fun u L=>u=.nilIface∧L=(Ra B ad b tb most dm pm ps gs vl vg T Sl Sg (l.set ka (some (Ae Na))) ((ds.set ja (Dw da (Ak da.es old))).set ja (Dw da (Ay (Ak da.es old) nm ((kx:Int),gx)))) pn)):=by
 refine Zo 154 Tryz.func20 fun E w0 w h=>?_
 have h:=(h.eS [10] 6 rfl).eS [4] 7 rfl
 refine Qs (ZN [Ii ka,Ii ga] 34 h fun k1 w h=>ZN [Ii ka,Ii ga] 34 h fun k2 w h=>ZP .nilIface (Qm (ZP (Pp b) (ZG h (Gla 0 [Ii ka,Ii ga] 1) (ZC [4,4,4,4,3] (A7 ad b most tb dm pm ps gs vl vg T Sl Sg l ds pn hl hr (ka:Int) ga ka Na hla haa ja da hja hda hdd) h fun w h=>ZP (.tuple #[.map (some da.mb),.nilIface]) (ZP (.map (some da.mb)) (ZP .nilIface (ZP (.map (some da.mb)) (ZP .nilIface (Qu (ZP .nilIface (ZP (.bool false) (Fs (ZP (Pp b) (ZG h (Gla 0 [Ii ka,Ii ga] 5) (ZC [0,0,0,0,0] (A7 ad b most tb dm pm ps gs vl vg T Sl Sg l ds pn hl hr (ka:Int) ga ka Na hla haa ja da hja hda hdd) h fun w h=>ZP (.tuple #[.map (some da.mb),.nilIface]) (ZP (.map (some da.mb)) (ZP .nilIface (ZP (.map (some da.mb)) (ZP .nilIface (Qu (ZP .nilIface (ZP (.bool true) (Qg (Ah (ZP (.string old) (ZC [7] (A5 ad old hoz ho) h fun w h=>ZP .nilIface (Qu (ZP .nilIface (ZP (.bool true) (Qg (Ah (ZP (.string nm) (ZC [0] (A5 ad nm hnz hn) h fun w h=>ZP .nilIface (Qu (ZP .nilIface (ZP (.bool false) (Qf (Kn (Aa ?_))))))))))))))))))))))))))))))))))))))))
 have h:=(h.pkr [8]).dirOpen hja
 refine Ah (ZP (.map (some da.mb)) (ZP (.string old) (ZG h (A4 (v':=.tuple #[Hg kx gx,.bool true]) (Gks (kv:=da.es.map Bd) true old 0 rfl) (by rw [B9 hx];rfl)) (ZP (.tuple #[Hg kx gx,.bool true]) (ZP (Hg kx gx) (ZP (.bool true) (ZN [Ii 0,Ii 0] 34 h fun k3 w h=>ZSs [Ii kx,Ii gx] 0 rfl h fun w h=>ZP (.bool true) (Qn (Aa (Aa ?_))))))))))
 have h:=(h.pkr [1,1]).dirBack (d:=da) hja
 refine Ah (ZP (.bool true) (ZP (.bool false) (Qf (Kn (Aa (Ds 11 [1,2,4] h fun w h=>Dp 0 16 (Pp b) [1,2,4] h (Dp 1 17 (Pp b) [1,2,4] h (Dp 2 19 (Pt b 4) [1,2,4] h (Dq 3 23 [1,2,4] rfl h (Gl 4 (.map (some dm)) 1) (Dq 4 15 [1,2,4] rfl h (Gla 0 [Ii kx,Ii gx] 0) (Dq 5 31 [1,2,4] rfl h (A4 (v':=.tuple #[.map none,.bool false]) (Gkd (kv:=ds.map Bt) true ((kx:Int),gx) 2 rfl) (by rw [C4 hxf];rfl)) (Dp 6 63 (.tuple #[.map none,.bool false]) [1,2,4] h (Dp 7 383 (.map none) [1,2,4] h (Dp 8 767 (.bool false) [1,2,4] h (Dp 9 511 (.map none) [1,2,4] h (Dp 10 1023 (.bool false) [1,2,4] h (Dd (Ai (Qt (ZP (.bool false) (ZP (.bool false) (Zx (Zx (Zx (Zx (ZP (.bool false) (Qf (Kn (Aa ?_)))))))))))))))))))))))))))))
 have h:=h.dirOpen hja
 refine Ah (ZP (.map (some da.mb)) (ZP (.string nm) (ZG h (A4 (v':=.tuple #[Hg 0 0,.bool false]) (Gks (kv:=da.es.map Bd) true nm 0 rfl) (by rw [Ed hy];rfl)) (ZP (.tuple #[Hg 0 0,.bool false]) (ZP (Hg 0 0) (ZP (.bool false) (ZN [Ii 0,Ii 0] 34 h fun k4 w h=>ZSs [Ii 0,Ii 0] 0 rfl h fun w h=>ZP (.bool false) (Qn (Aa (Av (Aa ?_)))))))))))
 have h:=(h.pkr [1,1]).dirBack (d:=da) hja
 refine Ah (ZP (.bool false) (ZP (.bool false) (Zx (Zx (Zx (ZP (.bool false) (ZP (.bool false) (Qf (Qs (ZP (.bool false) (ZP (.bool false) (Qf (Aa ?_)))))))))))))
 have h:=h.dirOpen hja
 refine Ah (ZP (.map (some da.mb)) (ZG h (E3 (K:=9) (E:=34) (by kernel_rfl) 0 rfl) ?_))
 obtain ⟨b5,hb5⟩:=nmB (decide (((da.es.map Bd).length:Int)≥60))
 refine ZB hb5 (ZP (.bool b5) (ZM1 (v:=Hg ka ga) b5 h (fun hB=>by subst hB;exact Gla 0 [Ii ka,Ii ga] 11) (ZM1 (v:=Hg ka ga) b5 h (fun hB=>by subst hB;exact Gla 0 [Ii ka,Ii ga] 10) ?_)))
 obtain ⟨b6,hb6⟩:=nmB (!((decide ((ka:Int)=(ka:Int)))&&(decide (ga=ga))))
 refine ZM1 (v:=.bool b6) b5 h (fun hB=>by subst hB;exact by subst hb6;exact Ez (n1:=(ka:Int)) (g1:=ga) (n2:=(ka:Int)) (g2:=ga) (by kernel_rfl)) ?_
 obtain ⟨b7,hb7⟩:=nmB (b5&&b6)
 refine ZBc b5 hb7 (ZP (.bool b7) (Qn (Zi (b7) (fun hc8=>?_) fun hc8=>?_)))
 have q9:=hb7.symm.trans hc8
 have q10:=aL q9
 have q11:=aR q9
 have q12:=hb5.symm.trans q10
 have q12:=dcT q12
 have q13:=hb6.symm.trans q11
 have q14:=nT q13
 have q15:=ndA q14
 exfalso;first|omega|(simp only [List.length_map] at *;omega)|(revert hc8;subst hb7;subst hb6;subst hb5;simp;done)|(revert hc8;subst hb7;subst hb6;subst hb5;simp;omega)
 have q16:=hb7.symm.trans hc8
 refine B6 ?_
 refine Cb (Ai ?_)
 refine Aa ?_
 have h:=(h.dirBack (d:=da) hja).dirOpen hja
 refine Ah (ZP (.map (some da.mb)) (ZP (.string old) ?_))
 refine E1 rfl (K:=9) (E:=34) (Co (by kernel_rfl)) old (by kernel_rfl) h 0 rfl ?_;intro w h
 refine Qn (Aa (Aa ?_))
 rw [E4 old da.es] at h
 have h:=Own.dirClose (ds:=ds) (j:=ja) (Dw da (Ak da.es old)) h
 try unfold Ra at h
 rw [← Bx (d':=(Dw da (Ak da.es old))) hja rfl rfl] at h
 have hj17:=Ce (Dw da (Ak da.es old)) hja
 refine Ah (ZP (.bool false) (Qf (Kn (Aa ?_))))
 have h:=h.dirOpen hj17
 refine Ah (ZP (.map (some da.mb)) (ZP (.string nm) (ZG h (Gla 0 [Ii kx,Ii gx] 3) ?_)))
 refine Fn rfl (K:=9) (E:=34) (Co (by kernel_rfl)) nm (Hg kx gx) (by kernel_rfl) h 0 rfl ?_;intro w h
 refine Qn (Aa ?_)
 rw [show Ay ((Ak da.es old).map Bd) nm (Hg kx gx)=(Ay (Ak da.es old) nm ((kx:Int),gx)).map Bd from Gi nm ((kx:Int),gx) (Ak da.es old)] at h
 have h:=Own.dirClose (ds:=(ds.set ja (Dw da (Ak da.es old)))) (j:=ja) (Dw da (Ay (Ak da.es old) nm ((kx:Int),gx))) h
 try unfold Ra at h
 rw [← Bx (d':=(Dw da (Ay (Ak da.es old) nm ((kx:Int),gx)))) hj17 rfl rfl] at h
 have hj18:=Ce (Dw da (Ay (Ak da.es old) nm ((kx:Int),gx))) hj17
 refine Ds 6 [4,9] h fun w h=>Dp 0 16 (Pp b) [4,9] h (Dp 1 17 (Pp b) [4,9] h (Dp 2 19 (Pp b) [4,9] h (Dq 3 23 [4,9] rfl h (Gl 0 (Pp tb) 0) (Dq 4 15 [4,9] rfl h (Gla 0 [Ii ka,Ii ga] 1) ?_))))
 refine Ad 5 [5,5,6] [7,9] (Bq ad tb ps gs vl vg T Sl Sg l hl hr (ka:Int) ga ka Na hla haa hca) h ?_
 rintro v_ L_ w ⟨rfl,rfl⟩ h
 refine ⟨by kernel_rfl,?_⟩
 have hl19:=Ce (some (Ae Na)) hla
 refine Dd (Ai (Qt (ZG h (Gla 0 [Ii ka,Ii ga] 10) (ZG h (Gla 0 [Ii ka,Ii ga] 9) (ZG h (Ez (n1:=(ka:Int)) (g1:=ga) (n2:=(ka:Int)) (g2:=ga) (by kernel_rfl)) (Qn (Zi (!((decide ((ka:Int)=(ka:Int)))&&(decide (ga=ga)))) (fun hc20=>?_) fun hc20=>?_)))))))
 have q21:=nT hc20
 have q22:=ndA q21
 exfalso;first|omega|(simp only [List.length_map] at *;omega)|(revert hc20;simp;done)|(revert hc20;simp;omega)
 have q23:=nF hc20
 have q24:=aL q23
 have q25:=aR q23
 have q24:=dcT q24
 have q25:=dcT q25
 exact Ks (ZP .nilIface (Qr (ZR [.nilIface] [7,0,0,5,1,6,6] h ⟨rfl,rfl⟩)))
theorem Tm (old nm:ByteArray) (hoz:old.size≤9223372036854775807) (hnz:nm.size≤9223372036854775807) (ho:A0 old) (hn:A0 nm) (kx:Nat) (gx:Int) (hx:Af da.es old=some ((kx:Int),gx)) (hxf:∀ d∈ds,d.h≠((kx:Int),gx)) (hkxa:kx≠ka) (hca:0≤Na.change∧Na.change≤1000000) (ky:Nat) (gy:Int) (hy:Af da.es nm=some ((ky:Int),gy)) (hyx:¬((ky:Int)=(kx:Int)∧gy=gx)) (hkya:ky≠ka) (hkyx:ky≠kx) (Ny:ND) (hly:l[ky]?=some (some Ny)) (hay:Bk ps gs (ky:Int) gy=some Ny.nb) (hkpy:ky<ps.length) (hyf:∀ d∈ds,d.h≠((ky:Int),gy)) (hliy:0≤Ny.links∧Ny.links≤1000000) (hchy:0≤Ny.change∧Ny.change≤1000000) (h0:¬(Ny.links+-1=0∧(Af pn ((ky:Int),gy)).getD 0=0)):Au Tryz.prog 20 #[Pp b,Hg ka ga,.string old,Hg ka ga,.string nm] (Ra B ad b tb most dm pm ps gs vl vg T Sl Sg l ds pn) (fun u L=>u=.nilIface∧L=(Ra B ad b tb most dm pm ps gs vl vg T Sl Sg (((l.set ky (some (Ao Ny (-1)))).set ky (some (Ae (Ao Ny (-1))))).set ka (some (Ae Na))) (((ds.set ja (Dw da (Ak da.es old))).set ja (Dw da (Ak (Ak da.es old) nm))).set ja (Dw da (Ay (Ak (Ak da.es old) nm) nm ((kx:Int),gx)))) pn)):=by
 refine Zo 154 Tryz.func20 fun E w0 w h=>?_
 have h:=(h.eS [10] 6 rfl).eS [4] 7 rfl
 refine Qs (ZN [Ii ka,Ii ga] 34 h fun k1 w h=>ZN [Ii ka,Ii ga] 34 h fun k2 w h=>ZP .nilIface (Qm (ZP (Pp b) (ZG h (Gla 0 [Ii ka,Ii ga] 1) (ZC [4,4,4,4,3] (A7 ad b most tb dm pm ps gs vl vg T Sl Sg l ds pn hl hr (ka:Int) ga ka Na hla haa ja da hja hda hdd) h fun w h=>ZP (.tuple #[.map (some da.mb),.nilIface]) (ZP (.map (some da.mb)) (ZP .nilIface (ZP (.map (some da.mb)) (ZP .nilIface (Qu (ZP .nilIface (ZP (.bool false) (Fs (ZP (Pp b) (ZG h (Gla 0 [Ii ka,Ii ga] 5) (ZC [0,0,0,0,0] (A7 ad b most tb dm pm ps gs vl vg T Sl Sg l ds pn hl hr (ka:Int) ga ka Na hla haa ja da hja hda hdd) h fun w h=>ZP (.tuple #[.map (some da.mb),.nilIface]) (ZP (.map (some da.mb)) (ZP .nilIface (ZP (.map (some da.mb)) (ZP .nilIface (Qu (ZP .nilIface (ZP (.bool true) (Qg (Ah (ZP (.string old) (ZC [7] (A5 ad old hoz ho) h fun w h=>ZP .nilIface (Qu (ZP .nilIface (ZP (.bool true) (Qg (Ah (ZP (.string nm) (ZC [0] (A5 ad nm hnz hn) h fun w h=>ZP .nilIface (Qu (ZP .nilIface (ZP (.bool false) (Qf (Kn (Aa ?_))))))))))))))))))))))))))))))))))))))))
 have h:=(h.pkr [8]).dirOpen hja
 refine Ah (ZP (.map (some da.mb)) (ZP (.string old) (ZG h (A4 (v':=.tuple #[Hg kx gx,.bool true]) (Gks (kv:=da.es.map Bd) true old 0 rfl) (by rw [B9 hx];rfl)) (ZP (.tuple #[Hg kx gx,.bool true]) (ZP (Hg kx gx) (ZP (.bool true) (ZN [Ii 0,Ii 0] 34 h fun k3 w h=>ZSs [Ii kx,Ii gx] 0 rfl h fun w h=>ZP (.bool true) (Qn (Aa (Aa ?_))))))))))
 have h:=(h.pkr [1,1]).dirBack (d:=da) hja
 refine Ah (ZP (.bool true) (ZP (.bool false) (Qf (Kn (Aa (Ds 11 [1,2,4] h fun w h=>Dp 0 16 (Pp b) [1,2,4] h (Dp 1 17 (Pp b) [1,2,4] h (Dp 2 19 (Pt b 4) [1,2,4] h (Dq 3 23 [1,2,4] rfl h (Gl 4 (.map (some dm)) 1) (Dq 4 15 [1,2,4] rfl h (Gla 0 [Ii kx,Ii gx] 0) (Dq 5 31 [1,2,4] rfl h (A4 (v':=.tuple #[.map none,.bool false]) (Gkd (kv:=ds.map Bt) true ((kx:Int),gx) 2 rfl) (by rw [C4 hxf];rfl)) (Dp 6 63 (.tuple #[.map none,.bool false]) [1,2,4] h (Dp 7 383 (.map none) [1,2,4] h (Dp 8 767 (.bool false) [1,2,4] h (Dp 9 511 (.map none) [1,2,4] h (Dp 10 1023 (.bool false) [1,2,4] h (Dd (Ai (Qt (ZP (.bool false) (ZP (.bool false) (Zx (Zx (Zx (Zx (ZP (.bool false) (Qf (Kn (Aa ?_)))))))))))))))))))))))))))))
 have h:=h.dirOpen hja
 refine Ah (ZP (.map (some da.mb)) (ZP (.string nm) (ZG h (A4 (v':=.tuple #[Hg ky gy,.bool true]) (Gks (kv:=da.es.map Bd) true nm 0 rfl) (by rw [B9 hy];rfl)) (ZP (.tuple #[Hg ky gy,.bool true]) (ZP (Hg ky gy) (ZP (.bool true) (ZN [Ii 0,Ii 0] 34 h fun k4 w h=>ZSs [Ii ky,Ii gy] 0 rfl h fun w h=>ZP (.bool true) (Qn (Aa (Av (Aa ?_)))))))))))
 have h:=(h.pkr [1,1]).dirBack (d:=da) hja
 refine Ah (ZP (.bool true) (ZP (.bool true) (ZG h (Gla 0 [Ii ky,Ii gy] 1) (ZG h (Gla 0 [Ii kx,Ii gx] 2) ?_))))
 obtain ⟨b5,hb5⟩:=nmB ((decide ((ky:Int)=(kx:Int)))&&(decide (gy=gx)))
 refine Kc (v:=.bool b5) (by kernel_rfl) h (by subst hb5;exact Fm (n1:=(ky:Int)) (g1:=gy) (n2:=(kx:Int)) (g2:=gx) (by kernel_rfl)) ?_
 refine ZP (.bool b5) (ZP (.bool b5) (Qn (Zi (b5) (fun hc6=>?_) fun hc6=>?_)))
 have q7:=hb5.symm.trans hc6
 have q8:=aL q7
 have q9:=aR q7
 have q8:=dcT q8
 have q9:=dcT q9
 exfalso;first|omega|(simp only [List.length_map] at *;omega)|(revert hc6;subst hb5;simp;done)|(revert hc6;subst hb5;simp;omega)
 have q10:=hb5.symm.trans hc6
 have q11:=ndA q10
 refine Qs (ZP (.bool true) (ZP (.bool true) (Qg (Qs (ZP (Pp b) (ZG h (Gla 0 [Ii kx,Ii gx] 2) (ZG h (Gla 0 [Ii ky,Ii gy] 1) (ZC [4,4,4,4,0,6,6] (Mq ad b most tb dm pm ps gs vl vg T Sl Sg l ds pn hl hr (kx:Int) gx (ky:Int) gy hdd hxf hyf) h fun w h=>ZP .nilIface (Qm (ZP .nilIface (ZP (.bool false) (Qf (B6 ?_)))))))))))))
 refine Cb (Ai ?_)
 refine Aa ?_
 have h:=(h.pkr [4]).dirOpen hja
 refine Ah (ZP (.map (some da.mb)) (ZP (.string old) ?_))
 refine E1 rfl (K:=9) (E:=34) (Co (by kernel_rfl)) old (by kernel_rfl) h 0 rfl ?_;intro w h
 refine Qn (Aa (Aa ?_))
 rw [E4 old da.es] at h
 have h:=Own.dirClose (ds:=ds) (j:=ja) (Dw da (Ak da.es old)) h
 try unfold Ra at h
 rw [← Bx (d':=(Dw da (Ak da.es old))) hja rfl rfl] at h
 have hj12:=Ce (Dw da (Ak da.es old)) hja
 refine Ah (ZP (.bool true) (Qg (Aa ?_)))
 have h:=h.dirOpen hj12
 refine Ah (ZP (.map (some da.mb)) (ZP (.string nm) ?_))
 refine E1 rfl (K:=9) (E:=34) (Co (by kernel_rfl)) nm (by kernel_rfl) h 0 rfl ?_;intro w h
 refine Qn ?_
 rw [E4 nm (Ak da.es old)] at h
 have h:=Own.dirClose (ds:=(ds.set ja (Dw da (Ak da.es old)))) (j:=ja) (Dw da (Ak (Ak da.es old) nm)) h
 try unfold Ra at h
 rw [← Bx (d':=(Dw da (Ak (Ak da.es old) nm))) hj12 rfl rfl] at h
 have hj13:=Ce (Dw da (Ak (Ak da.es old) nm)) hj12
 refine Ah (ZP (Pp b) (ZG h (Gla 0 [Ii ky,Ii gy] 7) (ZG h (Gla 0 [Ii ka,Ii ga] 11) ?_)))
 refine ZD [1,1,1,1,0,0,4] (L4 ad b most tb dm pm ps gs vl vg T Sl Sg l ((ds.set ja (Dw da (Ak da.es old))).set ja (Dw da (Ak (Ak da.es old) nm))) pn hl hr ky gy Ny hly hay (ka:Int) ga hkpy (F6 (d:=(Dw da (Ak da.es old))) hj12 (F6 hja hyf)) hliy hchy h0) h ?_;rintro _ L_ w rfl h
 have hl14:((l.set ky (some (Ao Ny (-1)))).set ky (some (Ae (Ao Ny (-1)))))[ka]?=some (some Na):=A3 (A3 hla hkya) hkya
 refine Qn (Aa ?_)
 have h:=(h.pkr [4]).dirOpen hj13
 refine Ah (ZP (.map (some da.mb)) (ZP (.string nm) (ZG h (Gla 0 [Ii kx,Ii gx] 10) ?_)))
 refine Fn rfl (K:=9) (E:=34) (Co (by kernel_rfl)) nm (Hg kx gx) (by kernel_rfl) h 0 rfl ?_;intro w h
 refine Qn (Aa ?_)
 rw [show Ay ((Ak (Ak da.es old) nm).map Bd) nm (Hg kx gx)=(Ay (Ak (Ak da.es old) nm) nm ((kx:Int),gx)).map Bd from Gi nm ((kx:Int),gx) (Ak (Ak da.es old) nm)] at h
 have h:=Own.dirClose (ds:=((ds.set ja (Dw da (Ak da.es old))).set ja (Dw da (Ak (Ak da.es old) nm)))) (j:=ja) (Dw da (Ay (Ak (Ak da.es old) nm) nm ((kx:Int),gx))) h
 try unfold Ra at h
 rw [← Bx (d':=(Dw da (Ay (Ak (Ak da.es old) nm) nm ((kx:Int),gx)))) hj13 rfl rfl] at h
 have hj15:=Ce (Dw da (Ay (Ak (Ak da.es old) nm) nm ((kx:Int),gx))) hj13
 refine Ds 6 [1,11] h fun w h=>Dp 0 16 (Pp b) [1,11] h (Dp 1 17 (Pp b) [1,11] h (Dp 2 19 (Pp b) [1,11] h (Dq 3 23 [1,11] rfl h (Gl 0 (Pp tb) 0) (Dq 4 15 [1,11] rfl h (Gla 0 [Ii ka,Ii ga] 1) ?_))))
 refine Ad 5 [2,2,4] [4,11] (Bq ad tb ps gs vl vg T Sl Sg ((l.set ky (some (Ao Ny (-1)))).set ky (some (Ae (Ao Ny (-1))))) hl hr (ka:Int) ga ka Na hl14 haa hca) h ?_
 rintro v_ L_ w ⟨rfl,rfl⟩ h
 refine ⟨by kernel_rfl,?_⟩
 have hl16:=Ce (some (Ae Na)) hl14
 refine Dd (Ai (Qt (ZG h (Gla 0 [Ii ka,Ii ga] 12) (ZG h (Gla 0 [Ii ka,Ii ga] 11) (ZG h (Ez (n1:=(ka:Int)) (g1:=ga) (n2:=(ka:Int)) (g2:=ga) (by kernel_rfl)) (Qn (Zi (!((decide ((ka:Int)=(ka:Int)))&&(decide (ga=ga)))) (fun hc17=>?_) fun hc17=>?_)))))))
 have q18:=nT hc17
 have q19:=ndA q18
 exfalso;first|omega|(simp only [List.length_map] at *;omega)|(revert hc17;simp;done)|(revert hc17;simp;omega)
 have q20:=nF hc17
 have q21:=aL q20
 have q22:=aR q20
 have q21:=dcT q21
 have q22:=dcT q22
 exact Ks (ZP .nilIface (Qr (ZR [.nilIface] [4,0,0,2,1,1,1] h ⟨rfl,rfl⟩)))
theorem Tp (old nm:ByteArray) (hoz:old.size≤9223372036854775807) (hnz:nm.size≤9223372036854775807) (ho:A0 old) (hn:A0 nm) (kx:Nat) (gx:Int) (hx:Af da.es old=some ((kx:Int),gx)) (hxf:∀ d∈ds,d.h≠((kx:Int),gx)) (hkxa:kx≠ka) (hca:0≤Na.change∧Na.change≤1000000) (ky:Nat) (gy:Int) (hy:Af da.es nm=some ((ky:Int),gy)) (hyx:¬((ky:Int)=(kx:Int)∧gy=gx)) (hkya:ky≠ka) (hkyx:ky≠kx) (Ny:ND) (hly:l[ky]?=some (some Ny)) (hay:Bk ps gs (ky:Int) gy=some Ny.nb) (hkpy:ky<ps.length) (hyf:∀ d∈ds,d.h≠((ky:Int),gy)) (hliy:0≤Ny.links∧Ny.links≤1000000) (hchy:0≤Ny.change∧Ny.change≤1000000) (h0:(Ny.links+-1=0∧(Af pn ((ky:Int),gy)).getD 0=0)):Au Tryz.prog 20 #[Pp b,Hg ka ga,.string old,Hg ka ga,.string nm] (Ra B ad b tb most dm pm ps gs vl vg T Sl Sg l ds pn) (fun u L=>u=.nilIface∧L=(Ra B ad b tb most dm pm (ps.set ky none) gs vl vg T Sl Sg ((((l.set ky (some (Ao Ny (-1)))).set ky (some (Ae (Ao Ny (-1))))).set ky none).set ka (some (Ae Na))) (((ds.set ja (Dw da (Ak da.es old))).set ja (Dw da (Ak (Ak da.es old) nm))).set ja (Dw da (Ay (Ak (Ak da.es old) nm) nm ((kx:Int),gx)))) pn)):=by
 refine Zo 154 Tryz.func20 fun E w0 w h=>?_
 have h:=(h.eS [10] 6 rfl).eS [4] 7 rfl
 refine Qs (ZN [Ii ka,Ii ga] 34 h fun k1 w h=>ZN [Ii ka,Ii ga] 34 h fun k2 w h=>ZP .nilIface (Qm (ZP (Pp b) (ZG h (Gla 0 [Ii ka,Ii ga] 1) (ZC [4,4,4,4,3] (A7 ad b most tb dm pm ps gs vl vg T Sl Sg l ds pn hl hr (ka:Int) ga ka Na hla haa ja da hja hda hdd) h fun w h=>ZP (.tuple #[.map (some da.mb),.nilIface]) (ZP (.map (some da.mb)) (ZP .nilIface (ZP (.map (some da.mb)) (ZP .nilIface (Qu (ZP .nilIface (ZP (.bool false) (Fs (ZP (Pp b) (ZG h (Gla 0 [Ii ka,Ii ga] 5) (ZC [0,0,0,0,0] (A7 ad b most tb dm pm ps gs vl vg T Sl Sg l ds pn hl hr (ka:Int) ga ka Na hla haa ja da hja hda hdd) h fun w h=>ZP (.tuple #[.map (some da.mb),.nilIface]) (ZP (.map (some da.mb)) (ZP .nilIface (ZP (.map (some da.mb)) (ZP .nilIface (Qu (ZP .nilIface (ZP (.bool true) (Qg (Ah (ZP (.string old) (ZC [7] (A5 ad old hoz ho) h fun w h=>ZP .nilIface (Qu (ZP .nilIface (ZP (.bool true) (Qg (Ah (ZP (.string nm) (ZC [0] (A5 ad nm hnz hn) h fun w h=>ZP .nilIface (Qu (ZP .nilIface (ZP (.bool false) (Qf (Kn (Aa ?_))))))))))))))))))))))))))))))))))))))))
 have h:=(h.pkr [8]).dirOpen hja
 refine Ah (ZP (.map (some da.mb)) (ZP (.string old) (ZG h (A4 (v':=.tuple #[Hg kx gx,.bool true]) (Gks (kv:=da.es.map Bd) true old 0 rfl) (by rw [B9 hx];rfl)) (ZP (.tuple #[Hg kx gx,.bool true]) (ZP (Hg kx gx) (ZP (.bool true) (ZN [Ii 0,Ii 0] 34 h fun k3 w h=>ZSs [Ii kx,Ii gx] 0 rfl h fun w h=>ZP (.bool true) (Qn (Aa (Aa ?_))))))))))
 have h:=(h.pkr [1,1]).dirBack (d:=da) hja
 refine Ah (ZP (.bool true) (ZP (.bool false) (Qf (Kn (Aa (Ds 11 [1,2,4] h fun w h=>Dp 0 16 (Pp b) [1,2,4] h (Dp 1 17 (Pp b) [1,2,4] h (Dp 2 19 (Pt b 4) [1,2,4] h (Dq 3 23 [1,2,4] rfl h (Gl 4 (.map (some dm)) 1) (Dq 4 15 [1,2,4] rfl h (Gla 0 [Ii kx,Ii gx] 0) (Dq 5 31 [1,2,4] rfl h (A4 (v':=.tuple #[.map none,.bool false]) (Gkd (kv:=ds.map Bt) true ((kx:Int),gx) 2 rfl) (by rw [C4 hxf];rfl)) (Dp 6 63 (.tuple #[.map none,.bool false]) [1,2,4] h (Dp 7 383 (.map none) [1,2,4] h (Dp 8 767 (.bool false) [1,2,4] h (Dp 9 511 (.map none) [1,2,4] h (Dp 10 1023 (.bool false) [1,2,4] h (Dd (Ai (Qt (ZP (.bool false) (ZP (.bool false) (Zx (Zx (Zx (Zx (ZP (.bool false) (Qf (Kn (Aa ?_)))))))))))))))))))))))))))))
 have h:=h.dirOpen hja
 refine Ah (ZP (.map (some da.mb)) (ZP (.string nm) (ZG h (A4 (v':=.tuple #[Hg ky gy,.bool true]) (Gks (kv:=da.es.map Bd) true nm 0 rfl) (by rw [B9 hy];rfl)) (ZP (.tuple #[Hg ky gy,.bool true]) (ZP (Hg ky gy) (ZP (.bool true) (ZN [Ii 0,Ii 0] 34 h fun k4 w h=>ZSs [Ii ky,Ii gy] 0 rfl h fun w h=>ZP (.bool true) (Qn (Aa (Av (Aa ?_)))))))))))
 have h:=(h.pkr [1,1]).dirBack (d:=da) hja
 refine Ah (ZP (.bool true) (ZP (.bool true) (ZG h (Gla 0 [Ii ky,Ii gy] 1) (ZG h (Gla 0 [Ii kx,Ii gx] 2) ?_))))
 obtain ⟨b5,hb5⟩:=nmB ((decide ((ky:Int)=(kx:Int)))&&(decide (gy=gx)))
 refine Kc (v:=.bool b5) (by kernel_rfl) h (by subst hb5;exact Fm (n1:=(ky:Int)) (g1:=gy) (n2:=(kx:Int)) (g2:=gx) (by kernel_rfl)) ?_
 refine ZP (.bool b5) (ZP (.bool b5) (Qn (Zi (b5) (fun hc6=>?_) fun hc6=>?_)))
 have q7:=hb5.symm.trans hc6
 have q8:=aL q7
 have q9:=aR q7
 have q8:=dcT q8
 have q9:=dcT q9
 exfalso;first|omega|(simp only [List.length_map] at *;omega)|(revert hc6;subst hb5;simp;done)|(revert hc6;subst hb5;simp;omega)
 have q10:=hb5.symm.trans hc6
 have q11:=ndA q10
 refine Qs (ZP (.bool true) (ZP (.bool true) (Qg (Qs (ZP (Pp b) (ZG h (Gla 0 [Ii kx,Ii gx] 2) (ZG h (Gla 0 [Ii ky,Ii gy] 1) (ZC [4,4,4,4,0,6,6] (Mq ad b most tb dm pm ps gs vl vg T Sl Sg l ds pn hl hr (kx:Int) gx (ky:Int) gy hdd hxf hyf) h fun w h=>ZP .nilIface (Qm (ZP .nilIface (ZP (.bool false) (Qf (B6 ?_)))))))))))))
 refine Cb (Ai ?_)
 refine Aa ?_
 have h:=(h.pkr [4]).dirOpen hja
 refine Ah (ZP (.map (some da.mb)) (ZP (.string old) ?_))
 refine E1 rfl (K:=9) (E:=34) (Co (by kernel_rfl)) old (by kernel_rfl) h 0 rfl ?_;intro w h
 refine Qn (Aa (Aa ?_))
 rw [E4 old da.es] at h
 have h:=Own.dirClose (ds:=ds) (j:=ja) (Dw da (Ak da.es old)) h
 try unfold Ra at h
 rw [← Bx (d':=(Dw da (Ak da.es old))) hja rfl rfl] at h
 have hj12:=Ce (Dw da (Ak da.es old)) hja
 refine Ah (ZP (.bool true) (Qg (Aa ?_)))
 have h:=h.dirOpen hj12
 refine Ah (ZP (.map (some da.mb)) (ZP (.string nm) ?_))
 refine E1 rfl (K:=9) (E:=34) (Co (by kernel_rfl)) nm (by kernel_rfl) h 0 rfl ?_;intro w h
 refine Qn ?_
 rw [E4 nm (Ak da.es old)] at h
 have h:=Own.dirClose (ds:=(ds.set ja (Dw da (Ak da.es old)))) (j:=ja) (Dw da (Ak (Ak da.es old) nm)) h
 try unfold Ra at h
 rw [← Bx (d':=(Dw da (Ak (Ak da.es old) nm))) hj12 rfl rfl] at h
 have hj13:=Ce (Dw da (Ak (Ak da.es old) nm)) hj12
 refine Ah (ZP (Pp b) (ZG h (Gla 0 [Ii ky,Ii gy] 7) (ZG h (Gla 0 [Ii ka,Ii ga] 11) ?_)))
 refine ZD [1,1,1,1,0,0,4] (L8 ad b most tb dm pm ps gs vl vg T Sl Sg l ((ds.set ja (Dw da (Ak da.es old))).set ja (Dw da (Ak (Ak da.es old) nm))) pn hl hr ky gy Ny hly hay (ka:Int) ga hkpy (F6 (d:=(Dw da (Ak da.es old))) hj12 (F6 hja hyf)) hliy hchy h0) h ?_;rintro _ L_ w rfl h
 have hl14:(((l.set ky (some (Ao Ny (-1)))).set ky (some (Ae (Ao Ny (-1))))).set ky none)[ka]?=some (some Na):=A3 (A3 (A3 hla hkya) hkya) hkya
 refine Qn (Aa ?_)
 have h:=(h.pkr [4]).dirOpen hj13
 refine Ah (ZP (.map (some da.mb)) (ZP (.string nm) (ZG h (Gla 0 [Ii kx,Ii gx] 10) ?_)))
 refine Fn rfl (K:=9) (E:=34) (Co (by kernel_rfl)) nm (Hg kx gx) (by kernel_rfl) h 0 rfl ?_;intro w h
 refine Qn (Aa ?_)
 rw [show Ay ((Ak (Ak da.es old) nm).map Bd) nm (Hg kx gx)=(Ay (Ak (Ak da.es old) nm) nm ((kx:Int),gx)).map Bd from Gi nm ((kx:Int),gx) (Ak (Ak da.es old) nm)] at h
 have h:=Own.dirClose (ds:=((ds.set ja (Dw da (Ak da.es old))).set ja (Dw da (Ak (Ak da.es old) nm)))) (j:=ja) (Dw da (Ay (Ak (Ak da.es old) nm) nm ((kx:Int),gx))) h
 try unfold Ra at h
 rw [← Bx (d':=(Dw da (Ay (Ak (Ak da.es old) nm) nm ((kx:Int),gx)))) hj13 rfl rfl] at h
 have hj15:=Ce (Dw da (Ay (Ak (Ak da.es old) nm) nm ((kx:Int),gx))) hj13
 refine Ds 6 [1,11] h fun w h=>Dp 0 16 (Pp b) [1,11] h (Dp 1 17 (Pp b) [1,11] h (Dp 2 19 (Pp b) [1,11] h (Dq 3 23 [1,11] rfl h (Gl 0 (Pp tb) 0) (Dq 4 15 [1,11] rfl h (Gla 0 [Ii ka,Ii ga] 1) ?_))))
 refine Ad 5 [2,2,4] [4,11] (Bq ad tb (ps.set ky none) gs vl vg T Sl Sg (((l.set ky (some (Ao Ny (-1)))).set ky (some (Ae (Ao Ny (-1))))).set ky none) (by rw [List.length_set];exact hl) hr (ka:Int) ga ka Na hl14 (Dc haa hkya) hca) h ?_
 rintro v_ L_ w ⟨rfl,rfl⟩ h
 refine ⟨by kernel_rfl,?_⟩
 have hl16:=Ce (some (Ae Na)) hl14
 refine Dd (Ai (Qt (ZG h (Gla 0 [Ii ka,Ii ga] 12) (ZG h (Gla 0 [Ii ka,Ii ga] 11) (ZG h (Ez (n1:=(ka:Int)) (g1:=ga) (n2:=(ka:Int)) (g2:=ga) (by kernel_rfl)) (Qn (Zi (!((decide ((ka:Int)=(ka:Int)))&&(decide (ga=ga)))) (fun hc17=>?_) fun hc17=>?_)))))))
 have q18:=nT hc17
 have q19:=ndA q18
 exfalso;first|omega|(simp only [List.length_map] at *;omega)|(revert hc17;simp;done)|(revert hc17;simp;omega)
 have q20:=nF hc17
 have q21:=aL q20
 have q22:=aR q20
 have q21:=dcT q21
 have q22:=dcT q22
 exact Ks (ZP .nilIface (Qr (ZR [.nilIface] [4,0,0,2,1,1,1] h ⟨rfl,rfl⟩)))
theorem Vm (old nm:ByteArray) (hoz:old.size≤9223372036854775807) (hnz:nm.size≤9223372036854775807) (ho:A0 old) (hn:A0 nm) (kx:Nat) (gx:Int) (hx:Af da.es old=some ((kx:Int),gx)) (jx:Nat) (dx:DN) (hjx:ds[jx]?=some dx) (hdx:dx.h=((kx:Int),gx)) {A:List AN} {ts:List Int} (sm:Sim most ps gs l ds pn A ts) (ti:TI most ts A) (hdA:∃ M∈A,M.h=(((ka:Int),ga):Hdl)∧M.kind=2) (rk:Hdl→Nat) (hrk:∀ d,upA A d≠d→rk (upA A d)<rk d) (hcl:¬B8 A (((kx:Int),gx):Hdl) (((ka:Int),ga):Hdl)) (hkxa:kx≠ka) (hca:0≤Na.change∧Na.change≤1000000) (hy:Af da.es nm=none):Au Tryz.prog 20 #[Pp b,Hg ka ga,.string old,Hg ka ga,.string nm] (Ra B ad b tb most dm pm ps gs vl vg T Sl Sg l ds pn) (fun u L=>u=.nilIface∧L=(Ra B ad b tb most dm pm ps gs vl vg T Sl Sg (l.set ka (some (Ae Na))) ((ds.set ja (Dw da (Ak da.es old))).set ja (Dw da (Ay (Ak da.es old) nm ((kx:Int),gx)))) pn)):=by
 refine Zo 154 Tryz.func20 fun E w0 w h=>?_
 have h:=(h.eS [10] 6 rfl).eS [4] 7 rfl
 refine Qs (ZN [Ii ka,Ii ga] 34 h fun k1 w h=>ZN [Ii ka,Ii ga] 34 h fun k2 w h=>ZP .nilIface (Qm (ZP (Pp b) (ZG h (Gla 0 [Ii ka,Ii ga] 1) (ZC [4,4,4,4,3] (A7 ad b most tb dm pm ps gs vl vg T Sl Sg l ds pn hl hr (ka:Int) ga ka Na hla haa ja da hja hda hdd) h fun w h=>ZP (.tuple #[.map (some da.mb),.nilIface]) (ZP (.map (some da.mb)) (ZP .nilIface (ZP (.map (some da.mb)) (ZP .nilIface (Qu (ZP .nilIface (ZP (.bool false) (Fs (ZP (Pp b) (ZG h (Gla 0 [Ii ka,Ii ga] 5) (ZC [0,0,0,0,0] (A7 ad b most tb dm pm ps gs vl vg T Sl Sg l ds pn hl hr (ka:Int) ga ka Na hla haa ja da hja hda hdd) h fun w h=>ZP (.tuple #[.map (some da.mb),.nilIface]) (ZP (.map (some da.mb)) (ZP .nilIface (ZP (.map (some da.mb)) (ZP .nilIface (Qu (ZP .nilIface (ZP (.bool true) (Qg (Ah (ZP (.string old) (ZC [7] (A5 ad old hoz ho) h fun w h=>ZP .nilIface (Qu (ZP .nilIface (ZP (.bool true) (Qg (Ah (ZP (.string nm) (ZC [0] (A5 ad nm hnz hn) h fun w h=>ZP .nilIface (Qu (ZP .nilIface (ZP (.bool false) (Qf (Kn (Aa ?_))))))))))))))))))))))))))))))))))))))))
 have h:=(h.pkr [8]).dirOpen hja
 refine Ah (ZP (.map (some da.mb)) (ZP (.string old) (ZG h (A4 (v':=.tuple #[Hg kx gx,.bool true]) (Gks (kv:=da.es.map Bd) true old 0 rfl) (by rw [B9 hx];rfl)) (ZP (.tuple #[Hg kx gx,.bool true]) (ZP (Hg kx gx) (ZP (.bool true) (ZN [Ii 0,Ii 0] 34 h fun k3 w h=>ZSs [Ii kx,Ii gx] 0 rfl h fun w h=>ZP (.bool true) (Qn (Aa (Aa ?_))))))))))
 have h:=(h.pkr [1,1]).dirBack (d:=da) hja
 refine Ah (ZP (.bool true) (ZP (.bool false) (Qf (Kn (Aa (Ds 11 [1,2,4] h fun w h=>Dp 0 16 (Pp b) [1,2,4] h (Dp 1 17 (Pp b) [1,2,4] h (Dp 2 19 (Pt b 4) [1,2,4] h (Dq 3 23 [1,2,4] rfl h (Gl 4 (.map (some dm)) 1) (Dq 4 15 [1,2,4] rfl h (Gla 0 [Ii kx,Ii gx] 0) (Dq 5 31 [1,2,4] rfl h (A4 (v':=.tuple #[.map (some dx.mb),.bool true]) (Gkd (kv:=ds.map Bt) true ((kx:Int),gx) 2 rfl) (by rw [show Af (ds.map Bt) ((kx:Int),gx)=_ from hdx▸C1 hdd hjx];rfl)) (Dp 6 63 (.tuple #[.map (some dx.mb),.bool true]) [1,2,4] h (Dp 7 383 (.map (some dx.mb)) [1,2,4] h (Dp 8 767 (.bool true) [1,2,4] h (Dp 9 511 (.map (some dx.mb)) [1,2,4] h (Dp 10 1023 (.bool true) [1,2,4] h (Dd (Ai (Qt (ZP (.bool true) (ZP (.bool true) (ZP (Pp b) (ZG h (Gla 0 [Ii ka,Ii ga] 8) (ZG h (Gla 0 [Ii kx,Ii gx] 1) (ZC [3,3,3,3,0,5,5] (E8 ad b most tb dm pm ps gs vl vg T Sl Sg l ds pn hl hr sm ti ((kx:Int),gx) ((ka:Int),ga) hdA rk hrk hcl) h fun w h=>ZP (.bool false) (Qf (Kn (Aa ?_))))))))))))))))))))))))))))
 have h:=(h.pkr [4]).dirOpen hja
 refine Ah (ZP (.map (some da.mb)) (ZP (.string nm) (ZG h (A4 (v':=.tuple #[Hg 0 0,.bool false]) (Gks (kv:=da.es.map Bd) true nm 0 rfl) (by rw [Ed hy];rfl)) (ZP (.tuple #[Hg 0 0,.bool false]) (ZP (Hg 0 0) (ZP (.bool false) (ZN [Ii 0,Ii 0] 34 h fun k4 w h=>ZSs [Ii 0,Ii 0] 0 rfl h fun w h=>ZP (.bool false) (Qn (Aa (Av (Aa ?_)))))))))))
 have h:=(h.pkr [1,1]).dirBack (d:=da) hja
 refine Ah (ZP (.bool false) (ZP (.bool false) (Zx (Zx (Zx (ZP (.bool false) (ZP (.bool false) (Qf (Qs (ZP (.bool false) (ZP (.bool false) (Qf (Aa ?_)))))))))))))
 have h:=h.dirOpen hja
 refine Ah (ZP (.map (some da.mb)) (ZG h (E3 (K:=9) (E:=34) (by kernel_rfl) 0 rfl) ?_))
 obtain ⟨b5,hb5⟩:=nmB (decide (((da.es.map Bd).length:Int)≥60))
 refine ZB hb5 (ZP (.bool b5) (ZM1 (v:=Hg ka ga) b5 h (fun hB=>by subst hB;exact Gla 0 [Ii ka,Ii ga] 13) (ZM1 (v:=Hg ka ga) b5 h (fun hB=>by subst hB;exact Gla 0 [Ii ka,Ii ga] 12) ?_)))
 obtain ⟨b6,hb6⟩:=nmB (!((decide ((ka:Int)=(ka:Int)))&&(decide (ga=ga))))
 refine ZM1 (v:=.bool b6) b5 h (fun hB=>by subst hB;exact by subst hb6;exact Ez (n1:=(ka:Int)) (g1:=ga) (n2:=(ka:Int)) (g2:=ga) (by kernel_rfl)) ?_
 obtain ⟨b7,hb7⟩:=nmB (b5&&b6)
 refine ZBc b5 hb7 (ZP (.bool b7) (Qn (Zi (b7) (fun hc8=>?_) fun hc8=>?_)))
 have q9:=hb7.symm.trans hc8
 have q10:=aL q9
 have q11:=aR q9
 have q12:=hb5.symm.trans q10
 have q12:=dcT q12
 have q13:=hb6.symm.trans q11
 have q14:=nT q13
 have q15:=ndA q14
 exfalso;first|omega|(simp only [List.length_map] at *;omega)|(revert hc8;subst hb7;subst hb6;subst hb5;simp;done)|(revert hc8;subst hb7;subst hb6;subst hb5;simp;omega)
 have q16:=hb7.symm.trans hc8
 refine B6 ?_
 refine Cb (Ai ?_)
 refine Aa ?_
 have h:=(h.dirBack (d:=da) hja).dirOpen hja
 refine Ah (ZP (.map (some da.mb)) (ZP (.string old) ?_))
 refine E1 rfl (K:=9) (E:=34) (Co (by kernel_rfl)) old (by kernel_rfl) h 0 rfl ?_;intro w h
 refine Qn (Aa (Aa ?_))
 rw [E4 old da.es] at h
 have h:=Own.dirClose (ds:=ds) (j:=ja) (Dw da (Ak da.es old)) h
 try unfold Ra at h
 rw [← Bx (d':=(Dw da (Ak da.es old))) hja rfl rfl] at h
 have hj17:=Ce (Dw da (Ak da.es old)) hja
 refine Ah (ZP (.bool false) (Qf (Kn (Aa ?_))))
 have h:=h.dirOpen hj17
 refine Ah (ZP (.map (some da.mb)) (ZP (.string nm) (ZG h (Gla 0 [Ii kx,Ii gx] 9) ?_)))
 refine Fn rfl (K:=9) (E:=34) (Co (by kernel_rfl)) nm (Hg kx gx) (by kernel_rfl) h 0 rfl ?_;intro w h
 refine Qn (Aa ?_)
 rw [show Ay ((Ak da.es old).map Bd) nm (Hg kx gx)=(Ay (Ak da.es old) nm ((kx:Int),gx)).map Bd from Gi nm ((kx:Int),gx) (Ak da.es old)] at h
 have h:=Own.dirClose (ds:=(ds.set ja (Dw da (Ak da.es old)))) (j:=ja) (Dw da (Ay (Ak da.es old) nm ((kx:Int),gx))) h
 try unfold Ra at h
 rw [← Bx (d':=(Dw da (Ay (Ak da.es old) nm ((kx:Int),gx)))) hj17 rfl rfl] at h
 have hj18:=Ce (Dw da (Ay (Ak da.es old) nm ((kx:Int),gx))) hj17
 refine Ds 6 [2,11] h fun w h=>Dp 0 16 (Pp b) [2,11] h (Dp 1 17 (Pp b) [2,11] h (Dp 2 19 (Pp b) [2,11] h (Dq 3 23 [2,11] rfl h (Gl 0 (Pp tb) 0) (Dq 4 15 [2,11] rfl h (Gla 0 [Ii ka,Ii ga] 1) ?_))))
 refine Ad 5 [3,3,8] [5,11] (Bq ad tb ps gs vl vg T Sl Sg l hl hr (ka:Int) ga ka Na hla haa hca) h ?_
 rintro v_ L_ w ⟨rfl,rfl⟩ h
 refine ⟨by kernel_rfl,?_⟩
 have hl19:=Ce (some (Ae Na)) hla
 refine Dd (Ai (Qt (ZG h (Gla 0 [Ii ka,Ii ga] 12) (ZG h (Gla 0 [Ii ka,Ii ga] 11) (ZG h (Ez (n1:=(ka:Int)) (g1:=ga) (n2:=(ka:Int)) (g2:=ga) (by kernel_rfl)) (Qn (Zi (!((decide ((ka:Int)=(ka:Int)))&&(decide (ga=ga)))) (fun hc20=>?_) fun hc20=>?_)))))))
 have q21:=nT hc20
 have q22:=ndA q21
 exfalso;first|omega|(simp only [List.length_map] at *;omega)|(revert hc20;simp;done)|(revert hc20;simp;omega)
 have q23:=nF hc20
 have q24:=aL q23
 have q25:=aR q23
 have q24:=dcT q24
 have q25:=dcT q25
 exact Ks (ZP .nilIface (Qr (ZR [.nilIface] [5,0,0,3,1,2,2] h ⟨rfl,rfl⟩)))
theorem Ub (old nm:ByteArray) (hoz:old.size≤9223372036854775807) (hnz:nm.size≤9223372036854775807) (ho:A0 old) (hn:A0 nm) (kx:Nat) (gx:Int) (hx:Af da.es old=some ((kx:Int),gx)) (jx:Nat) (dx:DN) (hjx:ds[jx]?=some dx) (hdx:dx.h=((kx:Int),gx)) {A:List AN} {ts:List Int} (sm:Sim most ps gs l ds pn A ts) (ti:TI most ts A) (hdA:∃ M∈A,M.h=(((ka:Int),ga):Hdl)∧M.kind=2) (rk:Hdl→Nat) (hrk:∀ d,upA A d≠d→rk (upA A d)<rk d) (hcl:¬B8 A (((kx:Int),gx):Hdl) (((ka:Int),ga):Hdl)) (hkxa:kx≠ka) (hca:0≤Na.change∧Na.change≤1000000) (hlia:1≤Na.links∧Na.links≤1000000) (ky:Nat) (gy:Int) (hy:Af da.es nm=some ((ky:Int),gy)) (hyx:¬((ky:Int)=(kx:Int)∧gy=gx)) (hkya:ky≠ka) (hkyx:ky≠kx) (Ny:ND) (hly:l[ky]?=some (some Ny)) (hay:Bk ps gs (ky:Int) gy=some Ny.nb) (hkpy:ky<ps.length) (jy:Nat) (dy:DN) (hjy:ds[jy]?=some dy) (hdy:dy.h=((ky:Int),gy)) (hemp:dy.es.length=0) (hjya:ja≠jy):Au Tryz.prog 20 #[Pp b,Hg ka ga,.string old,Hg ka ga,.string nm] (Ra B ad b tb most dm pm ps gs vl vg T Sl Sg l ds pn) (fun u L=>∃ j2:Nat,(((ds.set ja (Dw da (Ak da.es old))).set ja (Dw da (Ak (Ak da.es old) nm))).filter fun d=>!(d.h==((ky:Int),gy)))[j2]?=some (Dw da (Ak (Ak da.es old) nm))∧u=.nilIface∧L=(Ra B ad b tb most dm pm (ps.set ky none) gs vl vg T Sl Sg (((l.set ky none).set ka (some (Ao Na (-1)))).set ka (some (Ae (Ao Na (-1))))) ((((ds.set ja (Dw da (Ak da.es old))).set ja (Dw da (Ak (Ak da.es old) nm))).filter fun d=>!(d.h==((ky:Int),gy))).set j2 (Dw da (Ay (Ak (Ak da.es old) nm) nm ((kx:Int),gx)))) pn)):=by
 refine Zo 154 Tryz.func20 fun E w0 w h=>?_
 have h:=(h.eS [10] 6 rfl).eS [4] 7 rfl
 refine Qs (ZN [Ii ka,Ii ga] 34 h fun k1 w h=>ZN [Ii ka,Ii ga] 34 h fun k2 w h=>ZP .nilIface (Qm (ZP (Pp b) (ZG h (Gla 0 [Ii ka,Ii ga] 1) (ZC [4,4,4,4,3] (A7 ad b most tb dm pm ps gs vl vg T Sl Sg l ds pn hl hr (ka:Int) ga ka Na hla haa ja da hja hda hdd) h fun w h=>ZP (.tuple #[.map (some da.mb),.nilIface]) (ZP (.map (some da.mb)) (ZP .nilIface (ZP (.map (some da.mb)) (ZP .nilIface (Qu (ZP .nilIface (ZP (.bool false) (Fs (ZP (Pp b) (ZG h (Gla 0 [Ii ka,Ii ga] 5) (ZC [0,0,0,0,0] (A7 ad b most tb dm pm ps gs vl vg T Sl Sg l ds pn hl hr (ka:Int) ga ka Na hla haa ja da hja hda hdd) h fun w h=>ZP (.tuple #[.map (some da.mb),.nilIface]) (ZP (.map (some da.mb)) (ZP .nilIface (ZP (.map (some da.mb)) (ZP .nilIface (Qu (ZP .nilIface (ZP (.bool true) (Qg (Ah (ZP (.string old) (ZC [7] (A5 ad old hoz ho) h fun w h=>ZP .nilIface (Qu (ZP .nilIface (ZP (.bool true) (Qg (Ah (ZP (.string nm) (ZC [0] (A5 ad nm hnz hn) h fun w h=>ZP .nilIface (Qu (ZP .nilIface (ZP (.bool false) (Qf (Kn (Aa ?_))))))))))))))))))))))))))))))))))))))))
 have h:=(h.pkr [8]).dirOpen hja
 refine Ah (ZP (.map (some da.mb)) (ZP (.string old) (ZG h (A4 (v':=.tuple #[Hg kx gx,.bool true]) (Gks (kv:=da.es.map Bd) true old 0 rfl) (by rw [B9 hx];rfl)) (ZP (.tuple #[Hg kx gx,.bool true]) (ZP (Hg kx gx) (ZP (.bool true) (ZN [Ii 0,Ii 0] 34 h fun k3 w h=>ZSs [Ii kx,Ii gx] 0 rfl h fun w h=>ZP (.bool true) (Qn (Aa (Aa ?_))))))))))
 have h:=(h.pkr [1,1]).dirBack (d:=da) hja
 refine Ah (ZP (.bool true) (ZP (.bool false) (Qf (Kn (Aa (Ds 11 [1,2,4] h fun w h=>Dp 0 16 (Pp b) [1,2,4] h (Dp 1 17 (Pp b) [1,2,4] h (Dp 2 19 (Pt b 4) [1,2,4] h (Dq 3 23 [1,2,4] rfl h (Gl 4 (.map (some dm)) 1) (Dq 4 15 [1,2,4] rfl h (Gla 0 [Ii kx,Ii gx] 0) (Dq 5 31 [1,2,4] rfl h (A4 (v':=.tuple #[.map (some dx.mb),.bool true]) (Gkd (kv:=ds.map Bt) true ((kx:Int),gx) 2 rfl) (by rw [show Af (ds.map Bt) ((kx:Int),gx)=_ from hdx▸C1 hdd hjx];rfl)) (Dp 6 63 (.tuple #[.map (some dx.mb),.bool true]) [1,2,4] h (Dp 7 383 (.map (some dx.mb)) [1,2,4] h (Dp 8 767 (.bool true) [1,2,4] h (Dp 9 511 (.map (some dx.mb)) [1,2,4] h (Dp 10 1023 (.bool true) [1,2,4] h (Dd (Ai (Qt (ZP (.bool true) (ZP (.bool true) (ZP (Pp b) (ZG h (Gla 0 [Ii ka,Ii ga] 8) (ZG h (Gla 0 [Ii kx,Ii gx] 1) (ZC [3,3,3,3,0,5,5] (E8 ad b most tb dm pm ps gs vl vg T Sl Sg l ds pn hl hr sm ti ((kx:Int),gx) ((ka:Int),ga) hdA rk hrk hcl) h fun w h=>ZP (.bool false) (Qf (Kn (Aa ?_))))))))))))))))))))))))))))
 have h:=(h.pkr [4]).dirOpen hja
 refine Ah (ZP (.map (some da.mb)) (ZP (.string nm) (ZG h (A4 (v':=.tuple #[Hg ky gy,.bool true]) (Gks (kv:=da.es.map Bd) true nm 0 rfl) (by rw [B9 hy];rfl)) (ZP (.tuple #[Hg ky gy,.bool true]) (ZP (Hg ky gy) (ZP (.bool true) (ZN [Ii 0,Ii 0] 34 h fun k4 w h=>ZSs [Ii ky,Ii gy] 0 rfl h fun w h=>ZP (.bool true) (Qn (Aa (Av (Aa ?_)))))))))))
 have h:=(h.pkr [1,1]).dirBack (d:=da) hja
 refine Ah (ZP (.bool true) (ZP (.bool true) (ZG h (Gla 0 [Ii ky,Ii gy] 1) (ZG h (Gla 0 [Ii kx,Ii gx] 8) ?_))))
 obtain ⟨b5,hb5⟩:=nmB ((decide ((ky:Int)=(kx:Int)))&&(decide (gy=gx)))
 refine Kc (v:=.bool b5) (by kernel_rfl) h (by subst hb5;exact Fm (n1:=(ky:Int)) (g1:=gy) (n2:=(kx:Int)) (g2:=gx) (by kernel_rfl)) ?_
 refine ZP (.bool b5) (ZP (.bool b5) (Qn (Zi (b5) (fun hc6=>?_) fun hc6=>?_)))
 have q7:=hb5.symm.trans hc6
 have q8:=aL q7
 have q9:=aR q7
 have q8:=dcT q8
 have q9:=dcT q9
 exfalso;first|omega|(simp only [List.length_map] at *;omega)|(revert hc6;subst hb5;simp;done)|(revert hc6;subst hb5;simp;omega)
 have q10:=hb5.symm.trans hc6
 have q11:=ndA q10
 refine Qs (ZP (.bool true) (ZP (.bool true) (Qg (Qs (ZP (Pp b) (ZG h (Gla 0 [Ii kx,Ii gx] 8) (ZG h (Gla 0 [Ii ky,Ii gy] 1) (ZC [2,2,2,2,0,1,1] (T6 ad b most tb dm pm ps gs vl vg T Sl Sg l ds pn hl hr (kx:Int) gx (ky:Int) gy hdd jx dx hjx hdx jy dy hjy hdy hemp) h fun w h=>ZP .nilIface (Qm (ZP .nilIface (ZP (.bool false) (Qf (B6 ?_)))))))))))))
 refine Cb (Ai ?_)
 refine Aa ?_
 have h:=(h.pkr [4]).dirOpen hja
 refine Ah (ZP (.map (some da.mb)) (ZP (.string old) ?_))
 refine E1 rfl (K:=9) (E:=34) (Co (by kernel_rfl)) old (by kernel_rfl) h 0 rfl ?_;intro w h
 refine Qn (Aa (Aa ?_))
 rw [E4 old da.es] at h
 have h:=Own.dirClose (ds:=ds) (j:=ja) (Dw da (Ak da.es old)) h
 try unfold Ra at h
 rw [← Bx (d':=(Dw da (Ak da.es old))) hja rfl rfl] at h
 have hj12:=Ce (Dw da (Ak da.es old)) hja
 refine Ah (ZP (.bool true) (Qg (Aa ?_)))
 have h:=h.dirOpen hj12
 refine Ah (ZP (.map (some da.mb)) (ZP (.string nm) ?_))
 refine E1 rfl (K:=9) (E:=34) (Co (by kernel_rfl)) nm (by kernel_rfl) h 0 rfl ?_;intro w h
 refine Qn ?_
 rw [E4 nm (Ak da.es old)] at h
 have h:=Own.dirClose (ds:=(ds.set ja (Dw da (Ak da.es old)))) (j:=ja) (Dw da (Ak (Ak da.es old) nm)) h
 try unfold Ra at h
 rw [← Bx (d':=(Dw da (Ak (Ak da.es old) nm))) hj12 rfl rfl] at h
 have hj13:=Ce (Dw da (Ak (Ak da.es old) nm)) hj12
 refine Ah (ZP (Pp b) (ZG h (Gla 0 [Ii ky,Ii gy] 7) (ZG h (Gla 0 [Ii ka,Ii ga] 11) ?_)))
 have hds14:(((ds.set ja (Dw da (Ak da.es old))).set ja (Dw da (Ak (Ak da.es old) nm))).map (·.h)).Nodup:=by have e:((ds.set ja (Dw da (Ak da.es old))).set ja (Dw da (Ak (Ak da.es old) nm))).map (·.h)=ds.map (·.h):=(Ux hj12).trans (Ux hja);rw [e];exact hdd
 refine ZD [1,1,1,1,0,0,4] (L9 ad b most tb dm pm ps gs vl vg T Sl Sg l ((ds.set ja (Dw da (Ak da.es old))).set ja (Dw da (Ak (Ak da.es old) nm))) pn hl hr ky gy Ny hly hay ka ga Na hla haa hkya hkpy hds14 jy dy (A3 (A3 hjy hjya) hjya) hdy (by constructor<;>omega)) h ?_;rintro _ L_ w rfl h
 have hl15:((l.set ky none).set ka (some (Ao Na (-1))))[ka]?=some (some (Ao Na (-1))):=C0 (by simp;exact Cz hla)
 obtain ⟨j2,hj2⟩:∃ j:Nat,(((ds.set ja (Dw da (Ak da.es old))).set ja (Dw da (Ak (Ak da.es old) nm))).filter fun d=>!(d.h==((ky:Int),gy)))[j]?=some (Dw da (Ak (Ak da.es old) nm)):=Tq hj13 (fun e=>hkya (by have q_:=congrArg Prod.fst (hda.symm.trans e);simp only at q_;omega))
 refine Qn (Aa ?_)
 have h:=(h.pkr [4]).dirOpen hj2
 refine Ah (ZP (.map (some da.mb)) (ZP (.string nm) (ZG h (Gla 0 [Ii kx,Ii gx] 10) ?_)))
 refine Fn rfl (K:=9) (E:=34) (Co (by kernel_rfl)) nm (Hg kx gx) (by kernel_rfl) h 0 rfl ?_;intro w h
 refine Qn (Aa ?_)
 rw [show Ay ((Ak (Ak da.es old) nm).map Bd) nm (Hg kx gx)=(Ay (Ak (Ak da.es old) nm) nm ((kx:Int),gx)).map Bd from Gi nm ((kx:Int),gx) (Ak (Ak da.es old) nm)] at h
 have h:=Own.dirClose (ds:=(((ds.set ja (Dw da (Ak da.es old))).set ja (Dw da (Ak (Ak da.es old) nm))).filter fun d=>!(d.h==((ky:Int),gy)))) (j:=j2) (Dw da (Ay (Ak (Ak da.es old) nm) nm ((kx:Int),gx))) h
 try unfold Ra at h
 rw [← Bx (d':=(Dw da (Ay (Ak (Ak da.es old) nm) nm ((kx:Int),gx)))) hj2 rfl rfl] at h
 have hj16:=Ce (Dw da (Ay (Ak (Ak da.es old) nm) nm ((kx:Int),gx))) hj2
 refine Ds 6 [1,11] h fun w h=>Dp 0 16 (Pp b) [1,11] h (Dp 1 17 (Pp b) [1,11] h (Dp 2 19 (Pp b) [1,11] h (Dq 3 23 [1,11] rfl h (Gl 0 (Pp tb) 0) (Dq 4 15 [1,11] rfl h (Gla 0 [Ii ka,Ii ga] 1) ?_))))
 refine Ad 5 [2,2,4] [4,11] (Bq ad tb (ps.set ky none) gs vl vg T Sl Sg ((l.set ky none).set ka (some (Ao Na (-1)))) (by rw [List.length_set];exact hl) hr (ka:Int) ga ka (Ao Na (-1)) hl15 (Dc haa hkya) hca) h ?_
 rintro v_ L_ w ⟨rfl,rfl⟩ h
 refine ⟨by kernel_rfl,?_⟩
 have hl17:=Ce (some (Ae (Ao Na (-1)))) hl15
 refine Dd (Ai (Qt (ZG h (Gla 0 [Ii ka,Ii ga] 12) (ZG h (Gla 0 [Ii ka,Ii ga] 11) (ZG h (Ez (n1:=(ka:Int)) (g1:=ga) (n2:=(ka:Int)) (g2:=ga) (by kernel_rfl)) (Qn (Zi (!((decide ((ka:Int)=(ka:Int)))&&(decide (ga=ga)))) (fun hc18=>?_) fun hc18=>?_)))))))
 have q19:=nT hc18
 have q20:=ndA q19
 exfalso;first|omega|(simp only [List.length_map] at *;omega)|(revert hc18;simp;done)|(revert hc18;simp;omega)
 have q21:=nF hc18
 have q22:=aL q21
 have q23:=aR q21
 have q22:=dcT q22
 have q23:=dcT q23
 exact Ks (ZP .nilIface (Qr (ZR [.nilIface] [4,0,0,2,1,1,1] h ⟨j2,hj2,rfl,rfl⟩)))
theorem T7 (kb:Nat) (gb:Int) (Nb:ND) (hlb:l[kb]?=some (some Nb)) (hab:Bk ps gs (kb:Int) gb=some Nb.nb) (jb:Nat) (db:DN) (hjb:ds[jb]?=some db) (hdb:db.h=((kb:Int),gb)) (old nm:ByteArray) (hoz:old.size≤9223372036854775807) (hnz:nm.size≤9223372036854775807) (ho:A0 old) (hn:A0 nm) (kx:Nat) (gx:Int) (hx:Af da.es old=some ((kx:Int),gx)) (hxf:∀ d∈ds,d.h≠((kx:Int),gx)) (hkxa:kx≠ka) (hkab:ka≠kb) (hkxb:kx≠kb) (hjj:ja≠jb) (hca:0≤Na.change∧Na.change≤1000000) (hcb:0≤Nb.change∧Nb.change≤1000000) (hy:Af db.es nm=none) (hlen:db.es.length<60):Au Tryz.prog 20 #[Pp b,Hg ka ga,.string old,Hg kb gb,.string nm] (Ra B ad b tb most dm pm ps gs vl vg T Sl Sg l ds pn) (fun u L=>u=.nilIface∧L=(Ra B ad b tb most dm pm ps gs vl vg T Sl Sg ((l.set ka (some (Ae Na))).set kb (some (Ae Nb))) ((ds.set ja (Dw da (Ak da.es old))).set jb (Dw db (Ay db.es nm ((kx:Int),gx)))) pn)):=by
 refine Zo 154 Tryz.func20 fun E w0 w h=>?_
 have h:=(h.eS [10] 6 rfl).eS [4] 7 rfl
 refine Qs (ZN [Ii ka,Ii ga] 34 h fun k1 w h=>ZN [Ii kb,Ii gb] 34 h fun k2 w h=>ZP .nilIface (Qm (ZP (Pp b) (ZG h (Gla 0 [Ii ka,Ii ga] 1) (ZC [4,4,4,4,3] (A7 ad b most tb dm pm ps gs vl vg T Sl Sg l ds pn hl hr (ka:Int) ga ka Na hla haa ja da hja hda hdd) h fun w h=>ZP (.tuple #[.map (some da.mb),.nilIface]) (ZP (.map (some da.mb)) (ZP .nilIface (ZP (.map (some da.mb)) (ZP .nilIface (Qu (ZP .nilIface (ZP (.bool false) (Fs (ZP (Pp b) (ZG h (Gla 0 [Ii kb,Ii gb] 5) (ZC [0,0,0,0,0] (A7 ad b most tb dm pm ps gs vl vg T Sl Sg l ds pn hl hr (kb:Int) gb kb Nb hlb hab jb db hjb hdb hdd) h fun w h=>ZP (.tuple #[.map (some db.mb),.nilIface]) (ZP (.map (some db.mb)) (ZP .nilIface (ZP (.map (some db.mb)) (ZP .nilIface (Qu (ZP .nilIface (ZP (.bool true) (Qg (Ah (ZP (.string old) (ZC [7] (A5 ad old hoz ho) h fun w h=>ZP .nilIface (Qu (ZP .nilIface (ZP (.bool true) (Qg (Ah (ZP (.string nm) (ZC [0] (A5 ad nm hnz hn) h fun w h=>ZP .nilIface (Qu (ZP .nilIface (ZP (.bool false) (Qf (Kn (Aa ?_))))))))))))))))))))))))))))))))))))))))
 have h:=(h.pkr [8]).dirOpen hja
 refine Ah (ZP (.map (some da.mb)) (ZP (.string old) (ZG h (A4 (v':=.tuple #[Hg kx gx,.bool true]) (Gks (kv:=da.es.map Bd) true old 0 rfl) (by rw [B9 hx];rfl)) (ZP (.tuple #[Hg kx gx,.bool true]) (ZP (Hg kx gx) (ZP (.bool true) (ZN [Ii 0,Ii 0] 34 h fun k3 w h=>ZSs [Ii kx,Ii gx] 0 rfl h fun w h=>ZP (.bool true) (Qn (Aa (Aa ?_))))))))))
 have h:=(h.pkr [1,1]).dirBack (d:=da) hja
 refine Ah (ZP (.bool true) (ZP (.bool false) (Qf (Kn (Aa (Ds 11 [1,2,4] h fun w h=>Dp 0 16 (Pp b) [1,2,4] h (Dp 1 17 (Pp b) [1,2,4] h (Dp 2 19 (Pt b 4) [1,2,4] h (Dq 3 23 [1,2,4] rfl h (Gl 4 (.map (some dm)) 1) (Dq 4 15 [1,2,4] rfl h (Gla 0 [Ii kx,Ii gx] 0) (Dq 5 31 [1,2,4] rfl h (A4 (v':=.tuple #[.map none,.bool false]) (Gkd (kv:=ds.map Bt) true ((kx:Int),gx) 2 rfl) (by rw [C4 hxf];rfl)) (Dp 6 63 (.tuple #[.map none,.bool false]) [1,2,4] h (Dp 7 383 (.map none) [1,2,4] h (Dp 8 767 (.bool false) [1,2,4] h (Dp 9 511 (.map none) [1,2,4] h (Dp 10 1023 (.bool false) [1,2,4] h (Dd (Ai (Qt (ZP (.bool false) (ZP (.bool false) (Zx (Zx (Zx (Zx (ZP (.bool false) (Qf (Kn (Aa ?_)))))))))))))))))))))))))))))
 have h:=h.dirOpen hjb
 refine Ah (ZP (.map (some db.mb)) (ZP (.string nm) (ZG h (A4 (v':=.tuple #[Hg 0 0,.bool false]) (Gks (kv:=db.es.map Bd) true nm 0 rfl) (by rw [Ed hy];rfl)) (ZP (.tuple #[Hg 0 0,.bool false]) (ZP (Hg 0 0) (ZP (.bool false) (ZN [Ii 0,Ii 0] 34 h fun k4 w h=>ZSs [Ii 0,Ii 0] 0 rfl h fun w h=>ZP (.bool false) (Qn (Aa (Av (Aa ?_)))))))))))
 have h:=(h.pkr [1,1]).dirBack (d:=db) hjb
 refine Ah (ZP (.bool false) (ZP (.bool false) (Zx (Zx (Zx (ZP (.bool false) (ZP (.bool false) (Qf (Qs (ZP (.bool false) (ZP (.bool false) (Qf (Aa ?_)))))))))))))
 have h:=h.dirOpen hjb
 refine Ah (ZP (.map (some db.mb)) (ZG h (E3 (K:=9) (E:=34) (by kernel_rfl) 0 rfl) ?_))
 obtain ⟨b5,hb5⟩:=nmB (decide (((db.es.map Bd).length:Int)≥60))
 refine ZB hb5 (ZP (.bool b5) (ZM1 (v:=Hg ka ga) b5 h (fun hB=>by subst hB;exact Gla 0 [Ii ka,Ii ga] 11) (ZM1 (v:=Hg kb gb) b5 h (fun hB=>by subst hB;exact Gla 0 [Ii kb,Ii gb] 10) ?_)))
 obtain ⟨b6,hb6⟩:=nmB (!((decide ((ka:Int)=(kb:Int)))&&(decide (ga=gb))))
 refine ZM1 (v:=.bool b6) b5 h (fun hB=>by subst hB;exact by subst hb6;exact Ez (n1:=(ka:Int)) (g1:=ga) (n2:=(kb:Int)) (g2:=gb) (by kernel_rfl)) ?_
 obtain ⟨b7,hb7⟩:=nmB (b5&&b6)
 refine ZBc b5 hb7 (ZP (.bool b7) (Qn (Zi (b7) (fun hc8=>?_) fun hc8=>?_)))
 have q9:=hb7.symm.trans hc8
 have q10:=aL q9
 have q11:=aR q9
 have q12:=hb5.symm.trans q10
 have q12:=dcT q12
 have q13:=hb6.symm.trans q11
 have q14:=nT q13
 have q15:=ndA q14
 exfalso;first|omega|(simp only [List.length_map] at *;omega)|(revert hc8;subst hb7;subst hb6;subst hb5;simp;done)|(revert hc8;subst hb7;subst hb6;subst hb5;simp;omega)
 have q16:=hb7.symm.trans hc8
 refine B6 ?_
 refine Cb (Ai ?_)
 refine Aa ?_
 have h:=(h.dirBack (d:=db) hjb).dirOpen hja
 refine Ah (ZP (.map (some da.mb)) (ZP (.string old) ?_))
 refine E1 rfl (K:=9) (E:=34) (Co (by kernel_rfl)) old (by kernel_rfl) h 0 rfl ?_;intro w h
 refine Qn (Aa (Aa ?_))
 rw [E4 old da.es] at h
 have h:=Own.dirClose (ds:=ds) (j:=ja) (Dw da (Ak da.es old)) h
 try unfold Ra at h
 rw [← Bx (d':=(Dw da (Ak da.es old))) hja rfl rfl] at h
 have hj17:=Ce (Dw da (Ak da.es old)) hja
 have hj18:=D2 (Dw da (Ak da.es old)) hjb hjj
 refine Ah (ZP (.bool false) (Qf (Kn (Aa ?_))))
 have h:=h.dirOpen hj18
 refine Ah (ZP (.map (some db.mb)) (ZP (.string nm) (ZG h (Gla 0 [Ii kx,Ii gx] 3) ?_)))
 refine Fn rfl (K:=9) (E:=34) (Co (by kernel_rfl)) nm (Hg kx gx) (by kernel_rfl) h 0 rfl ?_;intro w h
 refine Qn (Aa ?_)
 rw [show Ay (db.es.map Bd) nm (Hg kx gx)=(Ay db.es nm ((kx:Int),gx)).map Bd from Gi nm ((kx:Int),gx) db.es] at h
 have h:=Own.dirClose (ds:=(ds.set ja (Dw da (Ak da.es old)))) (j:=jb) (Dw db (Ay db.es nm ((kx:Int),gx))) h
 try unfold Ra at h
 rw [← Bx (d':=(Dw db (Ay db.es nm ((kx:Int),gx)))) hj18 rfl rfl] at h
 have hj19:=Ce (Dw db (Ay db.es nm ((kx:Int),gx))) hj18
 have hj20:=D2 (Dw db (Ay db.es nm ((kx:Int),gx))) hj17 (Ne.symm hjj)
 refine Ds 6 [4,9] h fun w h=>Dp 0 16 (Pp b) [4,9] h (Dp 1 17 (Pp b) [4,9] h (Dp 2 19 (Pp b) [4,9] h (Dq 3 23 [4,9] rfl h (Gl 0 (Pp tb) 0) (Dq 4 15 [4,9] rfl h (Gla 0 [Ii ka,Ii ga] 1) ?_))))
 refine Ad 5 [5,5,6] [7,9] (Bq ad tb ps gs vl vg T Sl Sg l hl hr (ka:Int) ga ka Na hla haa hca) h ?_
 rintro v_ L_ w ⟨rfl,rfl⟩ h
 refine ⟨by kernel_rfl,?_⟩
 have hl21:=Ce (some (Ae Na)) hla
 have hl22:=D2 (some (Ae Na)) hlb hkab
 refine Dd (Ai (Qt (ZG h (Gla 0 [Ii ka,Ii ga] 10) (ZG h (Gla 0 [Ii kb,Ii gb] 9) (ZG h (Ez (n1:=(ka:Int)) (g1:=ga) (n2:=(kb:Int)) (g2:=gb) (by kernel_rfl)) (Qn (Zi (!((decide ((ka:Int)=(kb:Int)))&&(decide (ga=gb)))) (fun hc23=>?_) fun hc23=>?_)))))))
 have q24:=nT hc23
 have q25:=ndA q24
 refine Aa (Ds 6 [7,8] h fun w h=>Dp 0 16 (Pp b) [7,8] h (Dp 1 17 (Pp b) [7,8] h (Dp 2 19 (Pp b) [7,8] h (Dq 3 23 [7,8] rfl h (Gl 0 (Pp tb) 0) (Dq 4 15 [7,8] rfl h (Gla 0 [Ii kb,Ii gb] 1) ?_)))))
 refine Ad 5 [0,0,0] [7,8] (Bq ad tb ps gs vl vg T Sl Sg (l.set ka (some (Ae Na))) hl hr (kb:Int) gb kb Nb hl22 hab hcb) h ?_
 rintro v_ L_ w ⟨rfl,rfl⟩ h
 refine ⟨by kernel_rfl,?_⟩
 have hl26:=D2 (some (Ae Nb)) hl21 (Ne.symm hkab)
 have hl27:=Ce (some (Ae Nb)) hl22
 exact Dd (Ai (Qs (ZP (.bool false) (Fs (ZP .nilIface (Qr (ZR [.nilIface] [7,0,0,5,1,6,6] h ⟨rfl,rfl⟩)))))))
 have q28:=nF hc23
 have q29:=aL q28
 have q30:=aR q28
 have q29:=dcT q29
 have q30:=dcT q30
 exfalso;first|omega|(simp only [List.length_map] at *;omega)|(revert hc23;simp;done)|(revert hc23;simp;omega)
theorem Vl (kb:Nat) (gb:Int) (Nb:ND) (hlb:l[kb]?=some (some Nb)) (hab:Bk ps gs (kb:Int) gb=some Nb.nb) (jb:Nat) (db:DN) (hjb:ds[jb]?=some db) (hdb:db.h=((kb:Int),gb)) (old nm:ByteArray) (hoz:old.size≤9223372036854775807) (hnz:nm.size≤9223372036854775807) (ho:A0 old) (hn:A0 nm) (kx:Nat) (gx:Int) (hx:Af da.es old=some ((kx:Int),gx)) (hxf:∀ d∈ds,d.h≠((kx:Int),gx)) (hkxa:kx≠ka) (hkab:ka≠kb) (hkxb:kx≠kb) (hjj:ja≠jb) (hca:0≤Na.change∧Na.change≤1000000) (hcb:0≤Nb.change∧Nb.change≤1000000) (ky:Nat) (gy:Int) (hy:Af db.es nm=some ((ky:Int),gy)) (hyx:¬((ky:Int)=(kx:Int)∧gy=gx)) (hkya:ky≠ka) (hkyx:ky≠kx) (hkyb:ky≠kb) (Ny:ND) (hly:l[ky]?=some (some Ny)) (hay:Bk ps gs (ky:Int) gy=some Ny.nb) (hkpy:ky<ps.length) (hyf:∀ d∈ds,d.h≠((ky:Int),gy)) (hliy:0≤Ny.links∧Ny.links≤1000000) (hchy:0≤Ny.change∧Ny.change≤1000000) (h0:¬(Ny.links+-1=0∧(Af pn ((ky:Int),gy)).getD 0=0)):Au Tryz.prog 20 #[Pp b,Hg ka ga,.string old,Hg kb gb,.string nm] (Ra B ad b tb most dm pm ps gs vl vg T Sl Sg l ds pn) (fun u L=>u=.nilIface∧L=(Ra B ad b tb most dm pm ps gs vl vg T Sl Sg ((((l.set ky (some (Ao Ny (-1)))).set ky (some (Ae (Ao Ny (-1))))).set ka (some (Ae Na))).set kb (some (Ae Nb))) (((ds.set ja (Dw da (Ak da.es old))).set jb (Dw db (Ak db.es nm))).set jb (Dw db (Ay (Ak db.es nm) nm ((kx:Int),gx)))) pn)):=by
 refine Zo 154 Tryz.func20 fun E w0 w h=>?_
 have h:=(h.eS [10] 6 rfl).eS [4] 7 rfl
 refine Qs (ZN [Ii ka,Ii ga] 34 h fun k1 w h=>ZN [Ii kb,Ii gb] 34 h fun k2 w h=>ZP .nilIface (Qm (ZP (Pp b) (ZG h (Gla 0 [Ii ka,Ii ga] 1) (ZC [4,4,4,4,3] (A7 ad b most tb dm pm ps gs vl vg T Sl Sg l ds pn hl hr (ka:Int) ga ka Na hla haa ja da hja hda hdd) h fun w h=>ZP (.tuple #[.map (some da.mb),.nilIface]) (ZP (.map (some da.mb)) (ZP .nilIface (ZP (.map (some da.mb)) (ZP .nilIface (Qu (ZP .nilIface (ZP (.bool false) (Fs (ZP (Pp b) (ZG h (Gla 0 [Ii kb,Ii gb] 5) (ZC [0,0,0,0,0] (A7 ad b most tb dm pm ps gs vl vg T Sl Sg l ds pn hl hr (kb:Int) gb kb Nb hlb hab jb db hjb hdb hdd) h fun w h=>ZP (.tuple #[.map (some db.mb),.nilIface]) (ZP (.map (some db.mb)) (ZP .nilIface (ZP (.map (some db.mb)) (ZP .nilIface (Qu (ZP .nilIface (ZP (.bool true) (Qg (Ah (ZP (.string old) (ZC [7] (A5 ad old hoz ho) h fun w h=>ZP .nilIface (Qu (ZP .nilIface (ZP (.bool true) (Qg (Ah (ZP (.string nm) (ZC [0] (A5 ad nm hnz hn) h fun w h=>ZP .nilIface (Qu (ZP .nilIface (ZP (.bool false) (Qf (Kn (Aa ?_))))))))))))))))))))))))))))))))))))))))
 have h:=(h.pkr [8]).dirOpen hja
 refine Ah (ZP (.map (some da.mb)) (ZP (.string old) (ZG h (A4 (v':=.tuple #[Hg kx gx,.bool true]) (Gks (kv:=da.es.map Bd) true old 0 rfl) (by rw [B9 hx];rfl)) (ZP (.tuple #[Hg kx gx,.bool true]) (ZP (Hg kx gx) (ZP (.bool true) (ZN [Ii 0,Ii 0] 34 h fun k3 w h=>ZSs [Ii kx,Ii gx] 0 rfl h fun w h=>ZP (.bool true) (Qn (Aa (Aa ?_))))))))))
 have h:=(h.pkr [1,1]).dirBack (d:=da) hja
 refine Ah (ZP (.bool true) (ZP (.bool false) (Qf (Kn (Aa (Ds 11 [1,2,4] h fun w h=>Dp 0 16 (Pp b) [1,2,4] h (Dp 1 17 (Pp b) [1,2,4] h (Dp 2 19 (Pt b 4) [1,2,4] h (Dq 3 23 [1,2,4] rfl h (Gl 4 (.map (some dm)) 1) (Dq 4 15 [1,2,4] rfl h (Gla 0 [Ii kx,Ii gx] 0) (Dq 5 31 [1,2,4] rfl h (A4 (v':=.tuple #[.map none,.bool false]) (Gkd (kv:=ds.map Bt) true ((kx:Int),gx) 2 rfl) (by rw [C4 hxf];rfl)) (Dp 6 63 (.tuple #[.map none,.bool false]) [1,2,4] h (Dp 7 383 (.map none) [1,2,4] h (Dp 8 767 (.bool false) [1,2,4] h (Dp 9 511 (.map none) [1,2,4] h (Dp 10 1023 (.bool false) [1,2,4] h (Dd (Ai (Qt (ZP (.bool false) (ZP (.bool false) (Zx (Zx (Zx (Zx (ZP (.bool false) (Qf (Kn (Aa ?_)))))))))))))))))))))))))))))
 have h:=h.dirOpen hjb
 refine Ah (ZP (.map (some db.mb)) (ZP (.string nm) (ZG h (A4 (v':=.tuple #[Hg ky gy,.bool true]) (Gks (kv:=db.es.map Bd) true nm 0 rfl) (by rw [B9 hy];rfl)) (ZP (.tuple #[Hg ky gy,.bool true]) (ZP (Hg ky gy) (ZP (.bool true) (ZN [Ii 0,Ii 0] 34 h fun k4 w h=>ZSs [Ii ky,Ii gy] 0 rfl h fun w h=>ZP (.bool true) (Qn (Aa (Av (Aa ?_)))))))))))
 have h:=(h.pkr [1,1]).dirBack (d:=db) hjb
 refine Ah (ZP (.bool true) (ZP (.bool true) (ZG h (Gla 0 [Ii ky,Ii gy] 1) (ZG h (Gla 0 [Ii kx,Ii gx] 2) ?_))))
 obtain ⟨b5,hb5⟩:=nmB ((decide ((ky:Int)=(kx:Int)))&&(decide (gy=gx)))
 refine Kc (v:=.bool b5) (by kernel_rfl) h (by subst hb5;exact Fm (n1:=(ky:Int)) (g1:=gy) (n2:=(kx:Int)) (g2:=gx) (by kernel_rfl)) ?_
 refine ZP (.bool b5) (ZP (.bool b5) (Qn (Zi (b5) (fun hc6=>?_) fun hc6=>?_)))
 have q7:=hb5.symm.trans hc6
 have q8:=aL q7
 have q9:=aR q7
 have q8:=dcT q8
 have q9:=dcT q9
 exfalso;first|omega|(simp only [List.length_map] at *;omega)|(revert hc6;subst hb5;simp;done)|(revert hc6;subst hb5;simp;omega)
 have q10:=hb5.symm.trans hc6
 have q11:=ndA q10
 refine Qs (ZP (.bool true) (ZP (.bool true) (Qg (Qs (ZP (Pp b) (ZG h (Gla 0 [Ii kx,Ii gx] 2) (ZG h (Gla 0 [Ii ky,Ii gy] 1) (ZC [4,4,4,4,0,6,6] (Mq ad b most tb dm pm ps gs vl vg T Sl Sg l ds pn hl hr (kx:Int) gx (ky:Int) gy hdd hxf hyf) h fun w h=>ZP .nilIface (Qm (ZP .nilIface (ZP (.bool false) (Qf (B6 ?_)))))))))))))
 refine Cb (Ai ?_)
 refine Aa ?_
 have h:=(h.pkr [4]).dirOpen hja
 refine Ah (ZP (.map (some da.mb)) (ZP (.string old) ?_))
 refine E1 rfl (K:=9) (E:=34) (Co (by kernel_rfl)) old (by kernel_rfl) h 0 rfl ?_;intro w h
 refine Qn (Aa (Aa ?_))
 rw [E4 old da.es] at h
 have h:=Own.dirClose (ds:=ds) (j:=ja) (Dw da (Ak da.es old)) h
 try unfold Ra at h
 rw [← Bx (d':=(Dw da (Ak da.es old))) hja rfl rfl] at h
 have hj12:=Ce (Dw da (Ak da.es old)) hja
 have hj13:=D2 (Dw da (Ak da.es old)) hjb hjj
 refine Ah (ZP (.bool true) (Qg (Aa ?_)))
 have h:=h.dirOpen hj13
 refine Ah (ZP (.map (some db.mb)) (ZP (.string nm) ?_))
 refine E1 rfl (K:=9) (E:=34) (Co (by kernel_rfl)) nm (by kernel_rfl) h 0 rfl ?_;intro w h
 refine Qn ?_
 rw [E4 nm db.es] at h
 have h:=Own.dirClose (ds:=(ds.set ja (Dw da (Ak da.es old)))) (j:=jb) (Dw db (Ak db.es nm)) h
 try unfold Ra at h
 rw [← Bx (d':=(Dw db (Ak db.es nm))) hj13 rfl rfl] at h
 have hj14:=Ce (Dw db (Ak db.es nm)) hj13
 have hj15:=D2 (Dw db (Ak db.es nm)) hj12 (Ne.symm hjj)
 refine Ah (ZP (Pp b) (ZG h (Gla 0 [Ii ky,Ii gy] 7) (ZG h (Gla 0 [Ii kb,Ii gb] 11) ?_)))
 refine ZD [1,1,1,1,0,0,4] (L4 ad b most tb dm pm ps gs vl vg T Sl Sg l ((ds.set ja (Dw da (Ak da.es old))).set jb (Dw db (Ak db.es nm))) pn hl hr ky gy Ny hly hay (kb:Int) gb hkpy (F6 (d:=db) hj13 (F6 hja hyf)) hliy hchy h0) h ?_;rintro _ L_ w rfl h
 have hl16:((l.set ky (some (Ao Ny (-1)))).set ky (some (Ae (Ao Ny (-1)))))[ka]?=some (some Na):=A3 (A3 hla hkya) hkya
 have hl17:((l.set ky (some (Ao Ny (-1)))).set ky (some (Ae (Ao Ny (-1)))))[kb]?=some (some Nb):=A3 (A3 hlb hkyb) hkyb
 refine Qn (Aa ?_)
 have h:=(h.pkr [4]).dirOpen hj14
 refine Ah (ZP (.map (some db.mb)) (ZP (.string nm) (ZG h (Gla 0 [Ii kx,Ii gx] 10) ?_)))
 refine Fn rfl (K:=9) (E:=34) (Co (by kernel_rfl)) nm (Hg kx gx) (by kernel_rfl) h 0 rfl ?_;intro w h
 refine Qn (Aa ?_)
 rw [show Ay ((Ak db.es nm).map Bd) nm (Hg kx gx)=(Ay (Ak db.es nm) nm ((kx:Int),gx)).map Bd from Gi nm ((kx:Int),gx) (Ak db.es nm)] at h
 have h:=Own.dirClose (ds:=((ds.set ja (Dw da (Ak da.es old))).set jb (Dw db (Ak db.es nm)))) (j:=jb) (Dw db (Ay (Ak db.es nm) nm ((kx:Int),gx))) h
 try unfold Ra at h
 rw [← Bx (d':=(Dw db (Ay (Ak db.es nm) nm ((kx:Int),gx)))) hj14 rfl rfl] at h
 have hj18:=Ce (Dw db (Ay (Ak db.es nm) nm ((kx:Int),gx))) hj14
 have hj19:=D2 (Dw db (Ay (Ak db.es nm) nm ((kx:Int),gx))) hj15 (Ne.symm hjj)
 refine Ds 6 [1,11] h fun w h=>Dp 0 16 (Pp b) [1,11] h (Dp 1 17 (Pp b) [1,11] h (Dp 2 19 (Pp b) [1,11] h (Dq 3 23 [1,11] rfl h (Gl 0 (Pp tb) 0) (Dq 4 15 [1,11] rfl h (Gla 0 [Ii ka,Ii ga] 1) ?_))))
 refine Ad 5 [2,2,4] [4,11] (Bq ad tb ps gs vl vg T Sl Sg ((l.set ky (some (Ao Ny (-1)))).set ky (some (Ae (Ao Ny (-1))))) hl hr (ka:Int) ga ka Na hl16 haa hca) h ?_
 rintro v_ L_ w ⟨rfl,rfl⟩ h
 refine ⟨by kernel_rfl,?_⟩
 have hl20:=Ce (some (Ae Na)) hl16
 have hl21:=D2 (some (Ae Na)) hl17 hkab
 refine Dd (Ai (Qt (ZG h (Gla 0 [Ii ka,Ii ga] 12) (ZG h (Gla 0 [Ii kb,Ii gb] 11) (ZG h (Ez (n1:=(ka:Int)) (g1:=ga) (n2:=(kb:Int)) (g2:=gb) (by kernel_rfl)) (Qn (Zi (!((decide ((ka:Int)=(kb:Int)))&&(decide (ga=gb)))) (fun hc22=>?_) fun hc22=>?_)))))))
 have q23:=nT hc22
 have q24:=ndA q23
 refine Aa (Ds 6 [4,10] h fun w h=>Dp 0 16 (Pp b) [4,10] h (Dp 1 17 (Pp b) [4,10] h (Dp 2 19 (Pp b) [4,10] h (Dq 3 23 [4,10] rfl h (Gl 0 (Pp tb) 0) (Dq 4 15 [4,10] rfl h (Gla 0 [Ii kb,Ii gb] 1) ?_)))))
 refine Ad 5 [0,0,0] [4,10] (Bq ad tb ps gs vl vg T Sl Sg (((l.set ky (some (Ao Ny (-1)))).set ky (some (Ae (Ao Ny (-1))))).set ka (some (Ae Na))) hl hr (kb:Int) gb kb Nb hl21 hab hcb) h ?_
 rintro v_ L_ w ⟨rfl,rfl⟩ h
 refine ⟨by kernel_rfl,?_⟩
 have hl25:=D2 (some (Ae Nb)) hl20 (Ne.symm hkab)
 have hl26:=Ce (some (Ae Nb)) hl21
 exact Dd (Ai (Qs (ZP (.bool false) (Fs (ZP .nilIface (Qr (ZR [.nilIface] [4,0,0,2,1,1,1] h ⟨rfl,rfl⟩)))))))
 have q27:=nF hc22
 have q28:=aL q27
 have q29:=aR q27
 have q28:=dcT q28
 have q29:=dcT q29
 exfalso;first|omega|(simp only [List.length_map] at *;omega)|(revert hc22;simp;done)|(revert hc22;simp;omega)
theorem Tv (kb:Nat) (gb:Int) (Nb:ND) (hlb:l[kb]?=some (some Nb)) (hab:Bk ps gs (kb:Int) gb=some Nb.nb) (jb:Nat) (db:DN) (hjb:ds[jb]?=some db) (hdb:db.h=((kb:Int),gb)) (old nm:ByteArray) (hoz:old.size≤9223372036854775807) (hnz:nm.size≤9223372036854775807) (ho:A0 old) (hn:A0 nm) (kx:Nat) (gx:Int) (hx:Af da.es old=some ((kx:Int),gx)) (hxf:∀ d∈ds,d.h≠((kx:Int),gx)) (hkxa:kx≠ka) (hkab:ka≠kb) (hkxb:kx≠kb) (hjj:ja≠jb) (hca:0≤Na.change∧Na.change≤1000000) (hcb:0≤Nb.change∧Nb.change≤1000000) (ky:Nat) (gy:Int) (hy:Af db.es nm=some ((ky:Int),gy)) (hyx:¬((ky:Int)=(kx:Int)∧gy=gx)) (hkya:ky≠ka) (hkyx:ky≠kx) (hkyb:ky≠kb) (Ny:ND) (hly:l[ky]?=some (some Ny)) (hay:Bk ps gs (ky:Int) gy=some Ny.nb) (hkpy:ky<ps.length) (hyf:∀ d∈ds,d.h≠((ky:Int),gy)) (hliy:0≤Ny.links∧Ny.links≤1000000) (hchy:0≤Ny.change∧Ny.change≤1000000) (h0:(Ny.links+-1=0∧(Af pn ((ky:Int),gy)).getD 0=0)):Au Tryz.prog 20 #[Pp b,Hg ka ga,.string old,Hg kb gb,.string nm] (Ra B ad b tb most dm pm ps gs vl vg T Sl Sg l ds pn) (fun u L=>u=.nilIface∧L=(Ra B ad b tb most dm pm (ps.set ky none) gs vl vg T Sl Sg (((((l.set ky (some (Ao Ny (-1)))).set ky (some (Ae (Ao Ny (-1))))).set ky none).set ka (some (Ae Na))).set kb (some (Ae Nb))) (((ds.set ja (Dw da (Ak da.es old))).set jb (Dw db (Ak db.es nm))).set jb (Dw db (Ay (Ak db.es nm) nm ((kx:Int),gx)))) pn)):=by
 refine Zo 154 Tryz.func20 fun E w0 w h=>?_
 have h:=(h.eS [10] 6 rfl).eS [4] 7 rfl
 refine Qs (ZN [Ii ka,Ii ga] 34 h fun k1 w h=>ZN [Ii kb,Ii gb] 34 h fun k2 w h=>ZP .nilIface (Qm (ZP (Pp b) (ZG h (Gla 0 [Ii ka,Ii ga] 1) (ZC [4,4,4,4,3] (A7 ad b most tb dm pm ps gs vl vg T Sl Sg l ds pn hl hr (ka:Int) ga ka Na hla haa ja da hja hda hdd) h fun w h=>ZP (.tuple #[.map (some da.mb),.nilIface]) (ZP (.map (some da.mb)) (ZP .nilIface (ZP (.map (some da.mb)) (ZP .nilIface (Qu (ZP .nilIface (ZP (.bool false) (Fs (ZP (Pp b) (ZG h (Gla 0 [Ii kb,Ii gb] 5) (ZC [0,0,0,0,0] (A7 ad b most tb dm pm ps gs vl vg T Sl Sg l ds pn hl hr (kb:Int) gb kb Nb hlb hab jb db hjb hdb hdd) h fun w h=>ZP (.tuple #[.map (some db.mb),.nilIface]) (ZP (.map (some db.mb)) (ZP .nilIface (ZP (.map (some db.mb)) (ZP .nilIface (Qu (ZP .nilIface (ZP (.bool true) (Qg (Ah (ZP (.string old) (ZC [7] (A5 ad old hoz ho) h fun w h=>ZP .nilIface (Qu (ZP .nilIface (ZP (.bool true) (Qg (Ah (ZP (.string nm) (ZC [0] (A5 ad nm hnz hn) h fun w h=>ZP .nilIface (Qu (ZP .nilIface (ZP (.bool false) (Qf (Kn (Aa ?_))))))))))))))))))))))))))))))))))))))))
 have h:=(h.pkr [8]).dirOpen hja
 refine Ah (ZP (.map (some da.mb)) (ZP (.string old) (ZG h (A4 (v':=.tuple #[Hg kx gx,.bool true]) (Gks (kv:=da.es.map Bd) true old 0 rfl) (by rw [B9 hx];rfl)) (ZP (.tuple #[Hg kx gx,.bool true]) (ZP (Hg kx gx) (ZP (.bool true) (ZN [Ii 0,Ii 0] 34 h fun k3 w h=>ZSs [Ii kx,Ii gx] 0 rfl h fun w h=>ZP (.bool true) (Qn (Aa (Aa ?_))))))))))
 have h:=(h.pkr [1,1]).dirBack (d:=da) hja
 refine Ah (ZP (.bool true) (ZP (.bool false) (Qf (Kn (Aa (Ds 11 [1,2,4] h fun w h=>Dp 0 16 (Pp b) [1,2,4] h (Dp 1 17 (Pp b) [1,2,4] h (Dp 2 19 (Pt b 4) [1,2,4] h (Dq 3 23 [1,2,4] rfl h (Gl 4 (.map (some dm)) 1) (Dq 4 15 [1,2,4] rfl h (Gla 0 [Ii kx,Ii gx] 0) (Dq 5 31 [1,2,4] rfl h (A4 (v':=.tuple #[.map none,.bool false]) (Gkd (kv:=ds.map Bt) true ((kx:Int),gx) 2 rfl) (by rw [C4 hxf];rfl)) (Dp 6 63 (.tuple #[.map none,.bool false]) [1,2,4] h (Dp 7 383 (.map none) [1,2,4] h (Dp 8 767 (.bool false) [1,2,4] h (Dp 9 511 (.map none) [1,2,4] h (Dp 10 1023 (.bool false) [1,2,4] h (Dd (Ai (Qt (ZP (.bool false) (ZP (.bool false) (Zx (Zx (Zx (Zx (ZP (.bool false) (Qf (Kn (Aa ?_)))))))))))))))))))))))))))))
 have h:=h.dirOpen hjb
 refine Ah (ZP (.map (some db.mb)) (ZP (.string nm) (ZG h (A4 (v':=.tuple #[Hg ky gy,.bool true]) (Gks (kv:=db.es.map Bd) true nm 0 rfl) (by rw [B9 hy];rfl)) (ZP (.tuple #[Hg ky gy,.bool true]) (ZP (Hg ky gy) (ZP (.bool true) (ZN [Ii 0,Ii 0] 34 h fun k4 w h=>ZSs [Ii ky,Ii gy] 0 rfl h fun w h=>ZP (.bool true) (Qn (Aa (Av (Aa ?_)))))))))))
 have h:=(h.pkr [1,1]).dirBack (d:=db) hjb
 refine Ah (ZP (.bool true) (ZP (.bool true) (ZG h (Gla 0 [Ii ky,Ii gy] 1) (ZG h (Gla 0 [Ii kx,Ii gx] 2) ?_))))
 obtain ⟨b5,hb5⟩:=nmB ((decide ((ky:Int)=(kx:Int)))&&(decide (gy=gx)))
 refine Kc (v:=.bool b5) (by kernel_rfl) h (by subst hb5;exact Fm (n1:=(ky:Int)) (g1:=gy) (n2:=(kx:Int)) (g2:=gx) (by kernel_rfl)) ?_
 refine ZP (.bool b5) (ZP (.bool b5) (Qn (Zi (b5) (fun hc6=>?_) fun hc6=>?_)))
 have q7:=hb5.symm.trans hc6
 have q8:=aL q7
 have q9:=aR q7
 have q8:=dcT q8
 have q9:=dcT q9
 exfalso;first|omega|(simp only [List.length_map] at *;omega)|(revert hc6;subst hb5;simp;done)|(revert hc6;subst hb5;simp;omega)
 have q10:=hb5.symm.trans hc6
 have q11:=ndA q10
 refine Qs (ZP (.bool true) (ZP (.bool true) (Qg (Qs (ZP (Pp b) (ZG h (Gla 0 [Ii kx,Ii gx] 2) (ZG h (Gla 0 [Ii ky,Ii gy] 1) (ZC [4,4,4,4,0,6,6] (Mq ad b most tb dm pm ps gs vl vg T Sl Sg l ds pn hl hr (kx:Int) gx (ky:Int) gy hdd hxf hyf) h fun w h=>ZP .nilIface (Qm (ZP .nilIface (ZP (.bool false) (Qf (B6 ?_)))))))))))))
 refine Cb (Ai ?_)
 refine Aa ?_
 have h:=(h.pkr [4]).dirOpen hja
 refine Ah (ZP (.map (some da.mb)) (ZP (.string old) ?_))
 refine E1 rfl (K:=9) (E:=34) (Co (by kernel_rfl)) old (by kernel_rfl) h 0 rfl ?_;intro w h
 refine Qn (Aa (Aa ?_))
 rw [E4 old da.es] at h
 have h:=Own.dirClose (ds:=ds) (j:=ja) (Dw da (Ak da.es old)) h
 try unfold Ra at h
 rw [← Bx (d':=(Dw da (Ak da.es old))) hja rfl rfl] at h
 have hj12:=Ce (Dw da (Ak da.es old)) hja
 have hj13:=D2 (Dw da (Ak da.es old)) hjb hjj
 refine Ah (ZP (.bool true) (Qg (Aa ?_)))
 have h:=h.dirOpen hj13
 refine Ah (ZP (.map (some db.mb)) (ZP (.string nm) ?_))
 refine E1 rfl (K:=9) (E:=34) (Co (by kernel_rfl)) nm (by kernel_rfl) h 0 rfl ?_;intro w h
 refine Qn ?_
 rw [E4 nm db.es] at h
 have h:=Own.dirClose (ds:=(ds.set ja (Dw da (Ak da.es old)))) (j:=jb) (Dw db (Ak db.es nm)) h
 try unfold Ra at h
 rw [← Bx (d':=(Dw db (Ak db.es nm))) hj13 rfl rfl] at h
 have hj14:=Ce (Dw db (Ak db.es nm)) hj13
 have hj15:=D2 (Dw db (Ak db.es nm)) hj12 (Ne.symm hjj)
 refine Ah (ZP (Pp b) (ZG h (Gla 0 [Ii ky,Ii gy] 7) (ZG h (Gla 0 [Ii kb,Ii gb] 11) ?_)))
 refine ZD [1,1,1,1,0,0,4] (L8 ad b most tb dm pm ps gs vl vg T Sl Sg l ((ds.set ja (Dw da (Ak da.es old))).set jb (Dw db (Ak db.es nm))) pn hl hr ky gy Ny hly hay (kb:Int) gb hkpy (F6 (d:=db) hj13 (F6 hja hyf)) hliy hchy h0) h ?_;rintro _ L_ w rfl h
 have hl16:(((l.set ky (some (Ao Ny (-1)))).set ky (some (Ae (Ao Ny (-1))))).set ky none)[ka]?=some (some Na):=A3 (A3 (A3 hla hkya) hkya) hkya
 have hl17:(((l.set ky (some (Ao Ny (-1)))).set ky (some (Ae (Ao Ny (-1))))).set ky none)[kb]?=some (some Nb):=A3 (A3 (A3 hlb hkyb) hkyb) hkyb
 refine Qn (Aa ?_)
 have h:=(h.pkr [4]).dirOpen hj14
 refine Ah (ZP (.map (some db.mb)) (ZP (.string nm) (ZG h (Gla 0 [Ii kx,Ii gx] 10) ?_)))
 refine Fn rfl (K:=9) (E:=34) (Co (by kernel_rfl)) nm (Hg kx gx) (by kernel_rfl) h 0 rfl ?_;intro w h
 refine Qn (Aa ?_)
 rw [show Ay ((Ak db.es nm).map Bd) nm (Hg kx gx)=(Ay (Ak db.es nm) nm ((kx:Int),gx)).map Bd from Gi nm ((kx:Int),gx) (Ak db.es nm)] at h
 have h:=Own.dirClose (ds:=((ds.set ja (Dw da (Ak da.es old))).set jb (Dw db (Ak db.es nm)))) (j:=jb) (Dw db (Ay (Ak db.es nm) nm ((kx:Int),gx))) h
 try unfold Ra at h
 rw [← Bx (d':=(Dw db (Ay (Ak db.es nm) nm ((kx:Int),gx)))) hj14 rfl rfl] at h
 have hj18:=Ce (Dw db (Ay (Ak db.es nm) nm ((kx:Int),gx))) hj14
 have hj19:=D2 (Dw db (Ay (Ak db.es nm) nm ((kx:Int),gx))) hj15 (Ne.symm hjj)
 refine Ds 6 [1,11] h fun w h=>Dp 0 16 (Pp b) [1,11] h (Dp 1 17 (Pp b) [1,11] h (Dp 2 19 (Pp b) [1,11] h (Dq 3 23 [1,11] rfl h (Gl 0 (Pp tb) 0) (Dq 4 15 [1,11] rfl h (Gla 0 [Ii ka,Ii ga] 1) ?_))))
 refine Ad 5 [2,2,4] [4,11] (Bq ad tb (ps.set ky none) gs vl vg T Sl Sg (((l.set ky (some (Ao Ny (-1)))).set ky (some (Ae (Ao Ny (-1))))).set ky none) (by rw [List.length_set];exact hl) hr (ka:Int) ga ka Na hl16 (Dc haa hkya) hca) h ?_
 rintro v_ L_ w ⟨rfl,rfl⟩ h
 refine ⟨by kernel_rfl,?_⟩
 have hl20:=Ce (some (Ae Na)) hl16
 have hl21:=D2 (some (Ae Na)) hl17 hkab
 refine Dd (Ai (Qt (ZG h (Gla 0 [Ii ka,Ii ga] 12) (ZG h (Gla 0 [Ii kb,Ii gb] 11) (ZG h (Ez (n1:=(ka:Int)) (g1:=ga) (n2:=(kb:Int)) (g2:=gb) (by kernel_rfl)) (Qn (Zi (!((decide ((ka:Int)=(kb:Int)))&&(decide (ga=gb)))) (fun hc22=>?_) fun hc22=>?_)))))))
 have q23:=nT hc22
 have q24:=ndA q23
 refine Aa (Ds 6 [4,10] h fun w h=>Dp 0 16 (Pp b) [4,10] h (Dp 1 17 (Pp b) [4,10] h (Dp 2 19 (Pp b) [4,10] h (Dq 3 23 [4,10] rfl h (Gl 0 (Pp tb) 0) (Dq 4 15 [4,10] rfl h (Gla 0 [Ii kb,Ii gb] 1) ?_)))))
 refine Ad 5 [0,0,0] [4,10] (Bq ad tb (ps.set ky none) gs vl vg T Sl Sg ((((l.set ky (some (Ao Ny (-1)))).set ky (some (Ae (Ao Ny (-1))))).set ky none).set ka (some (Ae Na))) (by rw [List.length_set];exact hl) hr (kb:Int) gb kb Nb hl21 (Dc hab hkyb) hcb) h ?_
 rintro v_ L_ w ⟨rfl,rfl⟩ h
 refine ⟨by kernel_rfl,?_⟩
 have hl25:=D2 (some (Ae Nb)) hl20 (Ne.symm hkab)
 have hl26:=Ce (some (Ae Nb)) hl21
 exact Dd (Ai (Qs (ZP (.bool false) (Fs (ZP .nilIface (Qr (ZR [.nilIface] [4,0,0,2,1,1,1] h ⟨rfl,rfl⟩)))))))
 have q27:=nF hc22
 have q28:=aL q27
 have q29:=aR q27
 have q28:=dcT q28
 have q29:=dcT q29
 exfalso;first|omega|(simp only [List.length_map] at *;omega)|(revert hc22;simp;done)|(revert hc22;simp;omega)
theorem Uu (kb:Nat) (gb:Int) (Nb:ND) (hlb:l[kb]?=some (some Nb)) (hab:Bk ps gs (kb:Int) gb=some Nb.nb) (jb:Nat) (db:DN) (hjb:ds[jb]?=some db) (hdb:db.h=((kb:Int),gb)) (old nm:ByteArray) (hoz:old.size≤9223372036854775807) (hnz:nm.size≤9223372036854775807) (ho:A0 old) (hn:A0 nm) (kx:Nat) (gx:Int) (hx:Af da.es old=some ((kx:Int),gx)) (jx:Nat) (dx:DN) (hjx:ds[jx]?=some dx) (hdx:dx.h=((kx:Int),gx)) {A:List AN} {ts:List Int} (sm:Sim most ps gs l ds pn A ts) (ti:TI most ts A) (hdA:∃ M∈A,M.h=(((kb:Int),gb):Hdl)∧M.kind=2) (rk:Hdl→Nat) (hrk:∀ d,upA A d≠d→rk (upA A d)<rk d) (hcl:¬B8 A (((kx:Int),gx):Hdl) (((kb:Int),gb):Hdl)) (hkxa:kx≠ka) (hkab:ka≠kb) (hkxb:kx≠kb) (hjj:ja≠jb) (hca:0≤Na.change∧Na.change≤1000000) (hcb:0≤Nb.change∧Nb.change≤1000000) (Nx:ND) (hlx:l[kx]?=some (some Nx)) (hax:Bk ps gs (kx:Int) gx=some Nx.nb) (hlia:1≤Na.links∧Na.links≤1000000) (hlib:1≤Nb.links∧Nb.links≤1000000) (hy:Af db.es nm=none) (hlen:db.es.length<60):Au Tryz.prog 20 #[Pp b,Hg ka ga,.string old,Hg kb gb,.string nm] (Ra B ad b tb most dm pm ps gs vl vg T Sl Sg l ds pn) (fun u L=>u=.nilIface∧L=(Ra B ad b tb most dm pm ps gs vl vg T Sl Sg (((((l.set ka (some (Ae Na))).set kb (some (Ae Nb))).set kx (some (keepN Nx Nx.kind (Am Nx) Nx.links (kb:Int) gb))).set ka (some (Ao (Ae Na) (-1)))).set kb (some (Ao (Ae Nb) 1))) ((ds.set ja (Dw da (Ak da.es old))).set jb (Dw db (Ay db.es nm ((kx:Int),gx)))) pn)):=by
 refine Zo 154 Tryz.func20 fun E w0 w h=>?_
 have h:=(h.eS [10] 6 rfl).eS [4] 7 rfl
 refine Qs (ZN [Ii ka,Ii ga] 34 h fun k1 w h=>ZN [Ii kb,Ii gb] 34 h fun k2 w h=>ZP .nilIface (Qm (ZP (Pp b) (ZG h (Gla 0 [Ii ka,Ii ga] 1) (ZC [4,4,4,4,3] (A7 ad b most tb dm pm ps gs vl vg T Sl Sg l ds pn hl hr (ka:Int) ga ka Na hla haa ja da hja hda hdd) h fun w h=>ZP (.tuple #[.map (some da.mb),.nilIface]) (ZP (.map (some da.mb)) (ZP .nilIface (ZP (.map (some da.mb)) (ZP .nilIface (Qu (ZP .nilIface (ZP (.bool false) (Fs (ZP (Pp b) (ZG h (Gla 0 [Ii kb,Ii gb] 5) (ZC [0,0,0,0,0] (A7 ad b most tb dm pm ps gs vl vg T Sl Sg l ds pn hl hr (kb:Int) gb kb Nb hlb hab jb db hjb hdb hdd) h fun w h=>ZP (.tuple #[.map (some db.mb),.nilIface]) (ZP (.map (some db.mb)) (ZP .nilIface (ZP (.map (some db.mb)) (ZP .nilIface (Qu (ZP .nilIface (ZP (.bool true) (Qg (Ah (ZP (.string old) (ZC [7] (A5 ad old hoz ho) h fun w h=>ZP .nilIface (Qu (ZP .nilIface (ZP (.bool true) (Qg (Ah (ZP (.string nm) (ZC [0] (A5 ad nm hnz hn) h fun w h=>ZP .nilIface (Qu (ZP .nilIface (ZP (.bool false) (Qf (Kn (Aa ?_))))))))))))))))))))))))))))))))))))))))
 have h:=(h.pkr [8]).dirOpen hja
 refine Ah (ZP (.map (some da.mb)) (ZP (.string old) (ZG h (A4 (v':=.tuple #[Hg kx gx,.bool true]) (Gks (kv:=da.es.map Bd) true old 0 rfl) (by rw [B9 hx];rfl)) (ZP (.tuple #[Hg kx gx,.bool true]) (ZP (Hg kx gx) (ZP (.bool true) (ZN [Ii 0,Ii 0] 34 h fun k3 w h=>ZSs [Ii kx,Ii gx] 0 rfl h fun w h=>ZP (.bool true) (Qn (Aa (Aa ?_))))))))))
 have h:=(h.pkr [1,1]).dirBack (d:=da) hja
 refine Ah (ZP (.bool true) (ZP (.bool false) (Qf (Kn (Aa (Ds 11 [1,2,4] h fun w h=>Dp 0 16 (Pp b) [1,2,4] h (Dp 1 17 (Pp b) [1,2,4] h (Dp 2 19 (Pt b 4) [1,2,4] h (Dq 3 23 [1,2,4] rfl h (Gl 4 (.map (some dm)) 1) (Dq 4 15 [1,2,4] rfl h (Gla 0 [Ii kx,Ii gx] 0) (Dq 5 31 [1,2,4] rfl h (A4 (v':=.tuple #[.map (some dx.mb),.bool true]) (Gkd (kv:=ds.map Bt) true ((kx:Int),gx) 2 rfl) (by rw [show Af (ds.map Bt) ((kx:Int),gx)=_ from hdx▸C1 hdd hjx];rfl)) (Dp 6 63 (.tuple #[.map (some dx.mb),.bool true]) [1,2,4] h (Dp 7 383 (.map (some dx.mb)) [1,2,4] h (Dp 8 767 (.bool true) [1,2,4] h (Dp 9 511 (.map (some dx.mb)) [1,2,4] h (Dp 10 1023 (.bool true) [1,2,4] h (Dd (Ai (Qt (ZP (.bool true) (ZP (.bool true) (ZP (Pp b) (ZG h (Gla 0 [Ii kb,Ii gb] 8) (ZG h (Gla 0 [Ii kx,Ii gx] 1) (ZC [3,3,3,3,0,5,5] (E8 ad b most tb dm pm ps gs vl vg T Sl Sg l ds pn hl hr sm ti ((kx:Int),gx) ((kb:Int),gb) hdA rk hrk hcl) h fun w h=>ZP (.bool false) (Qf (Kn (Aa ?_))))))))))))))))))))))))))))
 have h:=(h.pkr [4]).dirOpen hjb
 refine Ah (ZP (.map (some db.mb)) (ZP (.string nm) (ZG h (A4 (v':=.tuple #[Hg 0 0,.bool false]) (Gks (kv:=db.es.map Bd) true nm 0 rfl) (by rw [Ed hy];rfl)) (ZP (.tuple #[Hg 0 0,.bool false]) (ZP (Hg 0 0) (ZP (.bool false) (ZN [Ii 0,Ii 0] 34 h fun k4 w h=>ZSs [Ii 0,Ii 0] 0 rfl h fun w h=>ZP (.bool false) (Qn (Aa (Av (Aa ?_)))))))))))
 have h:=(h.pkr [1,1]).dirBack (d:=db) hjb
 refine Ah (ZP (.bool false) (ZP (.bool false) (Zx (Zx (Zx (ZP (.bool false) (ZP (.bool false) (Qf (Qs (ZP (.bool false) (ZP (.bool false) (Qf (Aa ?_)))))))))))))
 have h:=h.dirOpen hjb
 refine Ah (ZP (.map (some db.mb)) (ZG h (E3 (K:=9) (E:=34) (by kernel_rfl) 0 rfl) ?_))
 obtain ⟨b5,hb5⟩:=nmB (decide (((db.es.map Bd).length:Int)≥60))
 refine ZB hb5 (ZP (.bool b5) (ZM1 (v:=Hg ka ga) b5 h (fun hB=>by subst hB;exact Gla 0 [Ii ka,Ii ga] 13) (ZM1 (v:=Hg kb gb) b5 h (fun hB=>by subst hB;exact Gla 0 [Ii kb,Ii gb] 12) ?_)))
 obtain ⟨b6,hb6⟩:=nmB (!((decide ((ka:Int)=(kb:Int)))&&(decide (ga=gb))))
 refine ZM1 (v:=.bool b6) b5 h (fun hB=>by subst hB;exact by subst hb6;exact Ez (n1:=(ka:Int)) (g1:=ga) (n2:=(kb:Int)) (g2:=gb) (by kernel_rfl)) ?_
 obtain ⟨b7,hb7⟩:=nmB (b5&&b6)
 refine ZBc b5 hb7 (ZP (.bool b7) (Qn (Zi (b7) (fun hc8=>?_) fun hc8=>?_)))
 have q9:=hb7.symm.trans hc8
 have q10:=aL q9
 have q11:=aR q9
 have q12:=hb5.symm.trans q10
 have q12:=dcT q12
 have q13:=hb6.symm.trans q11
 have q14:=nT q13
 have q15:=ndA q14
 exfalso;first|omega|(simp only [List.length_map] at *;omega)|(revert hc8;subst hb7;subst hb6;subst hb5;simp;done)|(revert hc8;subst hb7;subst hb6;subst hb5;simp;omega)
 have q16:=hb7.symm.trans hc8
 refine B6 ?_
 refine Cb (Ai ?_)
 refine Aa ?_
 have h:=(h.dirBack (d:=db) hjb).dirOpen hja
 refine Ah (ZP (.map (some da.mb)) (ZP (.string old) ?_))
 refine E1 rfl (K:=9) (E:=34) (Co (by kernel_rfl)) old (by kernel_rfl) h 0 rfl ?_;intro w h
 refine Qn (Aa (Aa ?_))
 rw [E4 old da.es] at h
 have h:=Own.dirClose (ds:=ds) (j:=ja) (Dw da (Ak da.es old)) h
 try unfold Ra at h
 rw [← Bx (d':=(Dw da (Ak da.es old))) hja rfl rfl] at h
 have hj17:=Ce (Dw da (Ak da.es old)) hja
 have hj18:=D2 (Dw da (Ak da.es old)) hjb hjj
 refine Ah (ZP (.bool false) (Qf (Kn (Aa ?_))))
 have h:=h.dirOpen hj18
 refine Ah (ZP (.map (some db.mb)) (ZP (.string nm) (ZG h (Gla 0 [Ii kx,Ii gx] 9) ?_)))
 refine Fn rfl (K:=9) (E:=34) (Co (by kernel_rfl)) nm (Hg kx gx) (by kernel_rfl) h 0 rfl ?_;intro w h
 refine Qn (Aa ?_)
 rw [show Ay (db.es.map Bd) nm (Hg kx gx)=(Ay db.es nm ((kx:Int),gx)).map Bd from Gi nm ((kx:Int),gx) db.es] at h
 have h:=Own.dirClose (ds:=(ds.set ja (Dw da (Ak da.es old)))) (j:=jb) (Dw db (Ay db.es nm ((kx:Int),gx))) h
 try unfold Ra at h
 rw [← Bx (d':=(Dw db (Ay db.es nm ((kx:Int),gx)))) hj18 rfl rfl] at h
 have hj19:=Ce (Dw db (Ay db.es nm ((kx:Int),gx))) hj18
 have hj20:=D2 (Dw db (Ay db.es nm ((kx:Int),gx))) hj17 (Ne.symm hjj)
 refine Ds 6 [2,11] h fun w h=>Dp 0 16 (Pp b) [2,11] h (Dp 1 17 (Pp b) [2,11] h (Dp 2 19 (Pp b) [2,11] h (Dq 3 23 [2,11] rfl h (Gl 0 (Pp tb) 0) (Dq 4 15 [2,11] rfl h (Gla 0 [Ii ka,Ii ga] 1) ?_))))
 refine Ad 5 [3,3,8] [5,11] (Bq ad tb ps gs vl vg T Sl Sg l hl hr (ka:Int) ga ka Na hla haa hca) h ?_
 rintro v_ L_ w ⟨rfl,rfl⟩ h
 refine ⟨by kernel_rfl,?_⟩
 have hl21:=Ce (some (Ae Na)) hla
 have hl22:=D2 (some (Ae Na)) hlb hkab
 have hl23:=D2 (some (Ae Na)) hlx (Ne.symm hkxa)
 refine Dd (Ai (Qt (ZG h (Gla 0 [Ii ka,Ii ga] 12) (ZG h (Gla 0 [Ii kb,Ii gb] 11) (ZG h (Ez (n1:=(ka:Int)) (g1:=ga) (n2:=(kb:Int)) (g2:=gb) (by kernel_rfl)) (Qn (Zi (!((decide ((ka:Int)=(kb:Int)))&&(decide (ga=gb)))) (fun hc24=>?_) fun hc24=>?_)))))))
 have q25:=nT hc24
 have q26:=ndA q25
 refine Aa (Ds 6 [5,10] h fun w h=>Dp 0 16 (Pp b) [5,10] h (Dp 1 17 (Pp b) [5,10] h (Dp 2 19 (Pp b) [5,10] h (Dq 3 23 [5,10] rfl h (Gl 0 (Pp tb) 0) (Dq 4 15 [5,10] rfl h (Gla 0 [Ii kb,Ii gb] 1) ?_)))))
 refine Ad 5 [0,0,0] [5,10] (Bq ad tb ps gs vl vg T Sl Sg (l.set ka (some (Ae Na))) hl hr (kb:Int) gb kb Nb hl22 hab hcb) h ?_
 rintro v_ L_ w ⟨rfl,rfl⟩ h
 refine ⟨by kernel_rfl,?_⟩
 have hl27:=D2 (some (Ae Nb)) hl21 (Ne.symm hkab)
 have hl28:=Ce (some (Ae Nb)) hl22
 have hl29:=D2 (some (Ae Nb)) hl23 (Ne.symm hkxb)
 refine Dd (Ai (Qs (ZP (.bool true) (Qg (Aa (Ds 12 [5,8] h fun w h=>Dp 0 528 (Pp b) [5,8] h (Dp 1 529 (Pp b) [5,8] h (Dp 2 531 (Pp b) [5,8] h (Dq 3 535 [5,8] rfl h (Gl 0 (Pp tb) 0) (Dq 4 527 [5,8] rfl h (Gla 0 [Ii kx,Ii gx] 1) ?_))))))))))
 refine A1 [5,9] (by kernel_rfl) rfl ?_
 refine Di #[Pp tb,Hg kx gx] [0,0,0] [5,8] rfl (by kernel_rfl) (Bm ad tb ps gs vl vg T Sl Sg ((l.set ka (some (Ae Na))).set kb (some (Ae Nb))) hl hr (kx:Int) gx kx Nx hl29 hax) (fun _=>by kernel_rfl) h ?_ ?_
 rintro v_ L_ w ⟨rfl,rfl⟩ h
 refine ⟨by kernel_rfl,?_⟩
 refine Dp 6 575 (.tuple #[.agg #[Ii Nx.kind,Ii (Am Nx),Ii Nx.links,Ii Nx.change,Ii Nx.upn,Ii Nx.upg],.nilIface]) [5,8] h (Dp 7 895 (.agg #[Ii Nx.kind,Ii (Am Nx),Ii Nx.links,Ii Nx.change,Ii Nx.upn,Ii Nx.upg]) [5,8] h (Dp 8 1791 .nilIface [5,8] h ?_))
 refine A1 [9] (by kernel_rfl) rfl ?_
 refine Ch [6,9] rfl (by kernel_rfl) (fun b=>Pp b) [Ii 0,Ii 0,Ii 0,Ii 0,Ii 0,Ii 0] 46 (fun _=>by kernel_rfl) h ?_ ?_
 intro k30 w h;refine ⟨by kernel_rfl,?_⟩
 refine As 10 [6,9] 0 [Ii Nx.kind,Ii (Am Nx),Ii Nx.links,Ii Nx.change,Ii Nx.upn,Ii Nx.upg] [Ii Nx.kind,Ii (Am Nx),Ii Nx.links,Ii Nx.change,Ii Nx.upn,Ii Nx.upg] 0 rfl h fun w h=>Dp 11 2047 .nilIface [6,9] h (Dd (Ai (Qs (ZG h (Gla 0 [Ii kb,Ii gb] 12) (ZP (Pt k30 4) (ZS 4 [Ii kb,Ii gb] [Ii Nx.kind,Ii (Am Nx),Ii Nx.links,Ii Nx.change,Ii kb,Ii gb] 0 rfl h fun w h=>Qn (Aa (Ds 7 [0,5,8] h fun w h=>Dp 0 48 (Pp b) [0,5,8] h (Dp 1 49 (Pp b) [0,5,8] h (Dp 2 51 (Pp b) [0,5,8] h (Dq 3 55 [0,5,8] rfl h (Gl 0 (Pp tb) 1) (Dq 4 47 [0,5,8] rfl h (Gla 0 [Ii kx,Ii gx] 2) (Dq 5 31 [0,5,8] rfl h (Gla 0 [Ii Nx.kind,Ii (Am Nx),Ii Nx.links,Ii Nx.change,Ii kb,Ii gb] 0) ?_)))))))))))))
 refine Ad 6 [1,1,1] [3,5,8] (Gs ad tb ps gs vl vg T Sl Sg ((l.set ka (some (Ae Na))).set kb (some (Ae Nb))) hl hr (kx:Int) gx kx Nx hl29 hax Nx.kind (Am Nx) Nx.links Nx.change (kb:Int) gb) h ?_
 rintro _ L_ w rfl h
 refine ⟨by kernel_rfl,?_⟩
 have hl31:=D2 (some (keepN Nx Nx.kind (Am Nx) Nx.links (kb:Int) gb)) hl27 hkxa
 have hl32:=D2 (some (keepN Nx Nx.kind (Am Nx) Nx.links (kb:Int) gb)) hl28 hkxb
 have hl33:=Ce (some (keepN Nx Nx.kind (Am Nx) Nx.links (kb:Int) gb)) hl29
 refine Dd (Ai (Qs (ZP (Pp b) (ZG h (Gla 0 [Ii ka,Ii ga] 13) ?_))))
 refine ZD [6,0,0,0] (Da ad b most tb dm pm ps gs vl vg T Sl Sg (((l.set ka (some (Ae Na))).set kb (some (Ae Nb))).set kx (some (keepN Nx Nx.kind (Am Nx) Nx.links (kb:Int) gb))) ((ds.set ja (Dw da (Ak da.es old))).set jb (Dw db (Ay db.es nm ((kx:Int),gx)))) pn hl hr (ka:Int) ga ka (Ae Na) hl31 haa (-1) (by omega) (by first|(constructor<;>first|omega|(simp only [Ao,Ae,keepN];omega)))) h ?_;rintro _ L_ w rfl h
 have hl34:=Ce (some (Ao (Ae Na) (-1))) hl31
 have hl35:=D2 (some (Ao (Ae Na) (-1))) hl32 hkab
 have hl36:=D2 (some (Ao (Ae Na) (-1))) hl33 (Ne.symm hkxa)
 refine Qn (Ah (ZP (Pp b) (ZG h (Gla 0 [Ii kb,Ii gb] 12) ?_)))
 refine ZD [0,0,0,0] (Da ad b most tb dm pm ps gs vl vg T Sl Sg ((((l.set ka (some (Ae Na))).set kb (some (Ae Nb))).set kx (some (keepN Nx Nx.kind (Am Nx) Nx.links (kb:Int) gb))).set ka (some (Ao (Ae Na) (-1)))) ((ds.set ja (Dw da (Ak da.es old))).set jb (Dw db (Ay db.es nm ((kx:Int),gx)))) pn hl hr (kb:Int) gb kb (Ae Nb) hl35 hab 1 (by omega) (by first|(constructor<;>first|omega|(simp only [Ao,Ae,keepN];omega)))) h ?_;rintro _ L_ w rfl h
 have hl37:=D2 (some (Ao (Ae Nb) 1)) hl34 (Ne.symm hkab)
 have hl38:=Ce (some (Ao (Ae Nb) 1)) hl35
 have hl39:=D2 (some (Ao (Ae Nb) 1)) hl36 (Ne.symm hkxb)
 exact Qm (ZP .nilIface (Qr (ZR [.nilIface] [0,0,0,4,2,3,3] h ⟨rfl,rfl⟩)))
 exact Ba
 refine Ch [6,9] rfl (by kernel_rfl) (fun b=>Pp b) [Ii 0,Ii 0,Ii 0,Ii 0,Ii 0,Ii 0] 46 (fun _=>by kernel_rfl) h ?_ ?_
 intro k40 w h;refine ⟨by kernel_rfl,?_⟩
 refine Ad 5 [1,1,1] [6,9] (Bm ad tb ps gs vl vg T Sl Sg ((l.set ka (some (Ae Na))).set kb (some (Ae Nb))) hl hr (kx:Int) gx kx Nx hl29 hax) h ?_
 rintro v_ L_ w ⟨rfl,rfl⟩ h
 refine ⟨by kernel_rfl,?_⟩
 refine Dp 6 575 (.tuple #[.agg #[Ii Nx.kind,Ii (Am Nx),Ii Nx.links,Ii Nx.change,Ii Nx.upn,Ii Nx.upg],.nilIface]) [6,9] h (Dp 7 895 (.agg #[Ii Nx.kind,Ii (Am Nx),Ii Nx.links,Ii Nx.change,Ii Nx.upn,Ii Nx.upg]) [6,9] h (Dp 8 1791 .nilIface [6,9] h (As 10 [6,9] 0 [Ii Nx.kind,Ii (Am Nx),Ii Nx.links,Ii Nx.change,Ii Nx.upn,Ii Nx.upg] [Ii Nx.kind,Ii (Am Nx),Ii Nx.links,Ii Nx.change,Ii Nx.upn,Ii Nx.upg] 3 rfl h fun w h=>Dp 11 2047 .nilIface [6,9] h (Dd (Ai (Qs (ZG h (Gla 0 [Ii kb,Ii gb] 12) (ZP (Pt k40 4) (ZS 4 [Ii kb,Ii gb] [Ii Nx.kind,Ii (Am Nx),Ii Nx.links,Ii Nx.change,Ii kb,Ii gb] 3 rfl h fun w h=>Qn (Aa (Ds 7 [3,5,8] h fun w h=>Dp 0 48 (Pp b) [3,5,8] h (Dp 1 49 (Pp b) [3,5,8] h (Dp 2 51 (Pp b) [3,5,8] h (Dq 3 55 [3,5,8] rfl h (Gl 0 (Pp tb) 1) (Dq 4 47 [3,5,8] rfl h (Gla 0 [Ii kx,Ii gx] 2) (Dq 5 31 [3,5,8] rfl h (Gla 0 [Ii Nx.kind,Ii (Am Nx),Ii Nx.links,Ii Nx.change,Ii kb,Ii gb] 0) ?_))))))))))))))))
 refine Ad 6 [0,0,0] [3,5,8] (Gs ad tb ps gs vl vg T Sl Sg ((l.set ka (some (Ae Na))).set kb (some (Ae Nb))) hl hr (kx:Int) gx kx Nx hl29 hax Nx.kind (Am Nx) Nx.links Nx.change (kb:Int) gb) h ?_
 rintro _ L_ w rfl h
 refine ⟨by kernel_rfl,?_⟩
 have hl41:=D2 (some (keepN Nx Nx.kind (Am Nx) Nx.links (kb:Int) gb)) hl27 hkxa
 have hl42:=D2 (some (keepN Nx Nx.kind (Am Nx) Nx.links (kb:Int) gb)) hl28 hkxb
 have hl43:=Ce (some (keepN Nx Nx.kind (Am Nx) Nx.links (kb:Int) gb)) hl29
 refine Dd (Ai (Qs (ZP (Pp b) (ZG h (Gla 0 [Ii ka,Ii ga] 13) ?_))))
 refine ZD [6,0,0,0] (Da ad b most tb dm pm ps gs vl vg T Sl Sg (((l.set ka (some (Ae Na))).set kb (some (Ae Nb))).set kx (some (keepN Nx Nx.kind (Am Nx) Nx.links (kb:Int) gb))) ((ds.set ja (Dw da (Ak da.es old))).set jb (Dw db (Ay db.es nm ((kx:Int),gx)))) pn hl hr (ka:Int) ga ka (Ae Na) hl41 haa (-1) (by omega) (by first|(constructor<;>first|omega|(simp only [Ao,Ae,keepN];omega)))) h ?_;rintro _ L_ w rfl h
 have hl44:=Ce (some (Ao (Ae Na) (-1))) hl41
 have hl45:=D2 (some (Ao (Ae Na) (-1))) hl42 hkab
 have hl46:=D2 (some (Ao (Ae Na) (-1))) hl43 (Ne.symm hkxa)
 refine Qn (Ah (ZP (Pp b) (ZG h (Gla 0 [Ii kb,Ii gb] 12) ?_)))
 refine ZD [0,0,0,0] (Da ad b most tb dm pm ps gs vl vg T Sl Sg ((((l.set ka (some (Ae Na))).set kb (some (Ae Nb))).set kx (some (keepN Nx Nx.kind (Am Nx) Nx.links (kb:Int) gb))).set ka (some (Ao (Ae Na) (-1)))) ((ds.set ja (Dw da (Ak da.es old))).set jb (Dw db (Ay db.es nm ((kx:Int),gx)))) pn hl hr (kb:Int) gb kb (Ae Nb) hl45 hab 1 (by omega) (by first|(constructor<;>first|omega|(simp only [Ao,Ae,keepN];omega)))) h ?_;rintro _ L_ w rfl h
 have hl47:=D2 (some (Ao (Ae Nb) 1)) hl44 (Ne.symm hkab)
 have hl48:=Ce (some (Ao (Ae Nb) 1)) hl45
 have hl49:=D2 (some (Ao (Ae Nb) 1)) hl46 (Ne.symm hkxb)
 exact Qm (ZP .nilIface (Qr (ZR [.nilIface] [0,0,0,4,2,3,3] h ⟨rfl,rfl⟩)))
 exact Ba
 have q50:=nF hc24
 have q51:=aL q50
 have q52:=aR q50
 have q51:=dcT q51
 have q52:=dcT q52
 exfalso;first|omega|(simp only [List.length_map] at *;omega)|(revert hc24;simp;done)|(revert hc24;simp;omega)
theorem Tj (kb:Nat) (gb:Int) (Nb:ND) (hlb:l[kb]?=some (some Nb)) (hab:Bk ps gs (kb:Int) gb=some Nb.nb) (jb:Nat) (db:DN) (hjb:ds[jb]?=some db) (hdb:db.h=((kb:Int),gb)) (old nm:ByteArray) (hoz:old.size≤9223372036854775807) (hnz:nm.size≤9223372036854775807) (ho:A0 old) (hn:A0 nm) (kx:Nat) (gx:Int) (hx:Af da.es old=some ((kx:Int),gx)) (jx:Nat) (dx:DN) (hjx:ds[jx]?=some dx) (hdx:dx.h=((kx:Int),gx)) {A:List AN} {ts:List Int} (sm:Sim most ps gs l ds pn A ts) (ti:TI most ts A) (hdA:∃ M∈A,M.h=(((kb:Int),gb):Hdl)∧M.kind=2) (rk:Hdl→Nat) (hrk:∀ d,upA A d≠d→rk (upA A d)<rk d) (hcl:¬B8 A (((kx:Int),gx):Hdl) (((kb:Int),gb):Hdl)) (hkxa:kx≠ka) (hkab:ka≠kb) (hkxb:kx≠kb) (hjj:ja≠jb) (hca:0≤Na.change∧Na.change≤1000000) (hcb:0≤Nb.change∧Nb.change≤1000000) (Nx:ND) (hlx:l[kx]?=some (some Nx)) (hax:Bk ps gs (kx:Int) gx=some Nx.nb) (hlia:1≤Na.links∧Na.links≤1000000) (hlib:1≤Nb.links∧Nb.links≤1000000) (ky:Nat) (gy:Int) (hy:Af db.es nm=some ((ky:Int),gy)) (hyx:¬((ky:Int)=(kx:Int)∧gy=gx)) (hkya:ky≠ka) (hkyx:ky≠kx) (hkyb:ky≠kb) (Ny:ND) (hly:l[ky]?=some (some Ny)) (hay:Bk ps gs (ky:Int) gy=some Ny.nb) (hkpy:ky<ps.length) (jy:Nat) (dy:DN) (hjy:ds[jy]?=some dy) (hdy:dy.h=((ky:Int),gy)) (hemp:dy.es.length=0) (hjya:ja≠jy) (hjyb:jb≠jy):Au Tryz.prog 20 #[Pp b,Hg ka ga,.string old,Hg kb gb,.string nm] (Ra B ad b tb most dm pm ps gs vl vg T Sl Sg l ds pn) (fun u L=>∃ j2:Nat,(((ds.set ja (Dw da (Ak da.es old))).set jb (Dw db (Ak db.es nm))).filter fun d=>!(d.h==((ky:Int),gy)))[j2]?=some (Dw db (Ak db.es nm))∧u=.nilIface∧L=(Ra B ad b tb most dm pm (ps.set ky none) gs vl vg T Sl Sg (((((((l.set ky none).set kb (some (Ao Nb (-1)))).set ka (some (Ae Na))).set kb (some (Ae (Ao Nb (-1))))).set kx (some (keepN Nx Nx.kind (Am Nx) Nx.links (kb:Int) gb))).set ka (some (Ao (Ae Na) (-1)))).set kb (some (Ao (Ae (Ao Nb (-1))) 1))) ((((ds.set ja (Dw da (Ak da.es old))).set jb (Dw db (Ak db.es nm))).filter fun d=>!(d.h==((ky:Int),gy))).set j2 (Dw db (Ay (Ak db.es nm) nm ((kx:Int),gx)))) pn)):=by
 refine Zo 154 Tryz.func20 fun E w0 w h=>?_
 have h:=(h.eS [10] 6 rfl).eS [4] 7 rfl
 refine Qs (ZN [Ii ka,Ii ga] 34 h fun k1 w h=>ZN [Ii kb,Ii gb] 34 h fun k2 w h=>ZP .nilIface (Qm (ZP (Pp b) (ZG h (Gla 0 [Ii ka,Ii ga] 1) (ZC [4,4,4,4,3] (A7 ad b most tb dm pm ps gs vl vg T Sl Sg l ds pn hl hr (ka:Int) ga ka Na hla haa ja da hja hda hdd) h fun w h=>ZP (.tuple #[.map (some da.mb),.nilIface]) (ZP (.map (some da.mb)) (ZP .nilIface (ZP (.map (some da.mb)) (ZP .nilIface (Qu (ZP .nilIface (ZP (.bool false) (Fs (ZP (Pp b) (ZG h (Gla 0 [Ii kb,Ii gb] 5) (ZC [0,0,0,0,0] (A7 ad b most tb dm pm ps gs vl vg T Sl Sg l ds pn hl hr (kb:Int) gb kb Nb hlb hab jb db hjb hdb hdd) h fun w h=>ZP (.tuple #[.map (some db.mb),.nilIface]) (ZP (.map (some db.mb)) (ZP .nilIface (ZP (.map (some db.mb)) (ZP .nilIface (Qu (ZP .nilIface (ZP (.bool true) (Qg (Ah (ZP (.string old) (ZC [7] (A5 ad old hoz ho) h fun w h=>ZP .nilIface (Qu (ZP .nilIface (ZP (.bool true) (Qg (Ah (ZP (.string nm) (ZC [0] (A5 ad nm hnz hn) h fun w h=>ZP .nilIface (Qu (ZP .nilIface (ZP (.bool false) (Qf (Kn (Aa ?_))))))))))))))))))))))))))))))))))))))))
 have h:=(h.pkr [8]).dirOpen hja
 refine Ah (ZP (.map (some da.mb)) (ZP (.string old) (ZG h (A4 (v':=.tuple #[Hg kx gx,.bool true]) (Gks (kv:=da.es.map Bd) true old 0 rfl) (by rw [B9 hx];rfl)) (ZP (.tuple #[Hg kx gx,.bool true]) (ZP (Hg kx gx) (ZP (.bool true) (ZN [Ii 0,Ii 0] 34 h fun k3 w h=>ZSs [Ii kx,Ii gx] 0 rfl h fun w h=>ZP (.bool true) (Qn (Aa (Aa ?_))))))))))
 have h:=(h.pkr [1,1]).dirBack (d:=da) hja
 refine Ah (ZP (.bool true) (ZP (.bool false) (Qf (Kn (Aa (Ds 11 [1,2,4] h fun w h=>Dp 0 16 (Pp b) [1,2,4] h (Dp 1 17 (Pp b) [1,2,4] h (Dp 2 19 (Pt b 4) [1,2,4] h (Dq 3 23 [1,2,4] rfl h (Gl 4 (.map (some dm)) 1) (Dq 4 15 [1,2,4] rfl h (Gla 0 [Ii kx,Ii gx] 0) (Dq 5 31 [1,2,4] rfl h (A4 (v':=.tuple #[.map (some dx.mb),.bool true]) (Gkd (kv:=ds.map Bt) true ((kx:Int),gx) 2 rfl) (by rw [show Af (ds.map Bt) ((kx:Int),gx)=_ from hdx▸C1 hdd hjx];rfl)) (Dp 6 63 (.tuple #[.map (some dx.mb),.bool true]) [1,2,4] h (Dp 7 383 (.map (some dx.mb)) [1,2,4] h (Dp 8 767 (.bool true) [1,2,4] h (Dp 9 511 (.map (some dx.mb)) [1,2,4] h (Dp 10 1023 (.bool true) [1,2,4] h (Dd (Ai (Qt (ZP (.bool true) (ZP (.bool true) (ZP (Pp b) (ZG h (Gla 0 [Ii kb,Ii gb] 8) (ZG h (Gla 0 [Ii kx,Ii gx] 1) (ZC [3,3,3,3,0,5,5] (E8 ad b most tb dm pm ps gs vl vg T Sl Sg l ds pn hl hr sm ti ((kx:Int),gx) ((kb:Int),gb) hdA rk hrk hcl) h fun w h=>ZP (.bool false) (Qf (Kn (Aa ?_))))))))))))))))))))))))))))
 have h:=(h.pkr [4]).dirOpen hjb
 refine Ah (ZP (.map (some db.mb)) (ZP (.string nm) (ZG h (A4 (v':=.tuple #[Hg ky gy,.bool true]) (Gks (kv:=db.es.map Bd) true nm 0 rfl) (by rw [B9 hy];rfl)) (ZP (.tuple #[Hg ky gy,.bool true]) (ZP (Hg ky gy) (ZP (.bool true) (ZN [Ii 0,Ii 0] 34 h fun k4 w h=>ZSs [Ii ky,Ii gy] 0 rfl h fun w h=>ZP (.bool true) (Qn (Aa (Av (Aa ?_)))))))))))
 have h:=(h.pkr [1,1]).dirBack (d:=db) hjb
 refine Ah (ZP (.bool true) (ZP (.bool true) (ZG h (Gla 0 [Ii ky,Ii gy] 1) (ZG h (Gla 0 [Ii kx,Ii gx] 8) ?_))))
 obtain ⟨b5,hb5⟩:=nmB ((decide ((ky:Int)=(kx:Int)))&&(decide (gy=gx)))
 refine Kc (v:=.bool b5) (by kernel_rfl) h (by subst hb5;exact Fm (n1:=(ky:Int)) (g1:=gy) (n2:=(kx:Int)) (g2:=gx) (by kernel_rfl)) ?_
 refine ZP (.bool b5) (ZP (.bool b5) (Qn (Zi (b5) (fun hc6=>?_) fun hc6=>?_)))
 have q7:=hb5.symm.trans hc6
 have q8:=aL q7
 have q9:=aR q7
 have q8:=dcT q8
 have q9:=dcT q9
 exfalso;first|omega|(simp only [List.length_map] at *;omega)|(revert hc6;subst hb5;simp;done)|(revert hc6;subst hb5;simp;omega)
 have q10:=hb5.symm.trans hc6
 have q11:=ndA q10
 refine Qs (ZP (.bool true) (ZP (.bool true) (Qg (Qs (ZP (Pp b) (ZG h (Gla 0 [Ii kx,Ii gx] 8) (ZG h (Gla 0 [Ii ky,Ii gy] 1) (ZC [2,2,2,2,0,1,1] (T6 ad b most tb dm pm ps gs vl vg T Sl Sg l ds pn hl hr (kx:Int) gx (ky:Int) gy hdd jx dx hjx hdx jy dy hjy hdy hemp) h fun w h=>ZP .nilIface (Qm (ZP .nilIface (ZP (.bool false) (Qf (B6 ?_)))))))))))))
 refine Cb (Ai ?_)
 refine Aa ?_
 have h:=(h.pkr [4]).dirOpen hja
 refine Ah (ZP (.map (some da.mb)) (ZP (.string old) ?_))
 refine E1 rfl (K:=9) (E:=34) (Co (by kernel_rfl)) old (by kernel_rfl) h 0 rfl ?_;intro w h
 refine Qn (Aa (Aa ?_))
 rw [E4 old da.es] at h
 have h:=Own.dirClose (ds:=ds) (j:=ja) (Dw da (Ak da.es old)) h
 try unfold Ra at h
 rw [← Bx (d':=(Dw da (Ak da.es old))) hja rfl rfl] at h
 have hj12:=Ce (Dw da (Ak da.es old)) hja
 have hj13:=D2 (Dw da (Ak da.es old)) hjb hjj
 refine Ah (ZP (.bool true) (Qg (Aa ?_)))
 have h:=h.dirOpen hj13
 refine Ah (ZP (.map (some db.mb)) (ZP (.string nm) ?_))
 refine E1 rfl (K:=9) (E:=34) (Co (by kernel_rfl)) nm (by kernel_rfl) h 0 rfl ?_;intro w h
 refine Qn ?_
 rw [E4 nm db.es] at h
 have h:=Own.dirClose (ds:=(ds.set ja (Dw da (Ak da.es old)))) (j:=jb) (Dw db (Ak db.es nm)) h
 try unfold Ra at h
 rw [← Bx (d':=(Dw db (Ak db.es nm))) hj13 rfl rfl] at h
 have hj14:=Ce (Dw db (Ak db.es nm)) hj13
 have hj15:=D2 (Dw db (Ak db.es nm)) hj12 (Ne.symm hjj)
 refine Ah (ZP (Pp b) (ZG h (Gla 0 [Ii ky,Ii gy] 7) (ZG h (Gla 0 [Ii kb,Ii gb] 11) ?_)))
 have hds16:(((ds.set ja (Dw da (Ak da.es old))).set jb (Dw db (Ak db.es nm))).map (·.h)).Nodup:=by have e:((ds.set ja (Dw da (Ak da.es old))).set jb (Dw db (Ak db.es nm))).map (·.h)=ds.map (·.h):=(Ux hj13).trans (Ux hja);rw [e];exact hdd
 refine ZD [1,1,1,1,0,0,4] (L9 ad b most tb dm pm ps gs vl vg T Sl Sg l ((ds.set ja (Dw da (Ak da.es old))).set jb (Dw db (Ak db.es nm))) pn hl hr ky gy Ny hly hay kb gb Nb hlb hab hkyb hkpy hds16 jy dy (A3 (A3 hjy hjya) hjyb) hdy (by constructor<;>omega)) h ?_;rintro _ L_ w rfl h
 have hl17:((l.set ky none).set kb (some (Ao Nb (-1))))[ka]?=some (some Na):=A3 (A3 hla hkya) (Ne.symm hkab)
 have hl18:((l.set ky none).set kb (some (Ao Nb (-1))))[kb]?=some (some (Ao Nb (-1))):=C0 (by simp;exact Cz hlb)
 have hl19:((l.set ky none).set kb (some (Ao Nb (-1))))[kx]?=some (some Nx):=A3 (A3 hlx hkyx) (Ne.symm hkxb)
 obtain ⟨j2,hj2⟩:∃ j:Nat,(((ds.set ja (Dw da (Ak da.es old))).set jb (Dw db (Ak db.es nm))).filter fun d=>!(d.h==((ky:Int),gy)))[j]?=some (Dw db (Ak db.es nm)):=Tq hj14 (fun e=>hkyb (by have q_:=congrArg Prod.fst (hdb.symm.trans e);simp only at q_;omega))
 refine Qn (Aa ?_)
 have h:=(h.pkr [4]).dirOpen hj2
 refine Ah (ZP (.map (some db.mb)) (ZP (.string nm) (ZG h (Gla 0 [Ii kx,Ii gx] 10) ?_)))
 refine Fn rfl (K:=9) (E:=34) (Co (by kernel_rfl)) nm (Hg kx gx) (by kernel_rfl) h 0 rfl ?_;intro w h
 refine Qn (Aa ?_)
 rw [show Ay ((Ak db.es nm).map Bd) nm (Hg kx gx)=(Ay (Ak db.es nm) nm ((kx:Int),gx)).map Bd from Gi nm ((kx:Int),gx) (Ak db.es nm)] at h
 have h:=Own.dirClose (ds:=(((ds.set ja (Dw da (Ak da.es old))).set jb (Dw db (Ak db.es nm))).filter fun d=>!(d.h==((ky:Int),gy)))) (j:=j2) (Dw db (Ay (Ak db.es nm) nm ((kx:Int),gx))) h
 try unfold Ra at h
 rw [← Bx (d':=(Dw db (Ay (Ak db.es nm) nm ((kx:Int),gx)))) hj2 rfl rfl] at h
 have hj20:=Ce (Dw db (Ay (Ak db.es nm) nm ((kx:Int),gx))) hj2
 refine Ds 6 [1,11] h fun w h=>Dp 0 16 (Pp b) [1,11] h (Dp 1 17 (Pp b) [1,11] h (Dp 2 19 (Pp b) [1,11] h (Dq 3 23 [1,11] rfl h (Gl 0 (Pp tb) 0) (Dq 4 15 [1,11] rfl h (Gla 0 [Ii ka,Ii ga] 1) ?_))))
 refine Ad 5 [2,2,4] [4,11] (Bq ad tb (ps.set ky none) gs vl vg T Sl Sg ((l.set ky none).set kb (some (Ao Nb (-1)))) (by rw [List.length_set];exact hl) hr (ka:Int) ga ka Na hl17 (Dc haa hkya) hca) h ?_
 rintro v_ L_ w ⟨rfl,rfl⟩ h
 refine ⟨by kernel_rfl,?_⟩
 have hl21:=Ce (some (Ae Na)) hl17
 have hl22:=D2 (some (Ae Na)) hl18 hkab
 have hl23:=D2 (some (Ae Na)) hl19 (Ne.symm hkxa)
 refine Dd (Ai (Qt (ZG h (Gla 0 [Ii ka,Ii ga] 12) (ZG h (Gla 0 [Ii kb,Ii gb] 11) (ZG h (Ez (n1:=(ka:Int)) (g1:=ga) (n2:=(kb:Int)) (g2:=gb) (by kernel_rfl)) (Qn (Zi (!((decide ((ka:Int)=(kb:Int)))&&(decide (ga=gb)))) (fun hc24=>?_) fun hc24=>?_)))))))
 have q25:=nT hc24
 have q26:=ndA q25
 refine Aa (Ds 6 [4,10] h fun w h=>Dp 0 16 (Pp b) [4,10] h (Dp 1 17 (Pp b) [4,10] h (Dp 2 19 (Pp b) [4,10] h (Dq 3 23 [4,10] rfl h (Gl 0 (Pp tb) 0) (Dq 4 15 [4,10] rfl h (Gla 0 [Ii kb,Ii gb] 1) ?_)))))
 refine Ad 5 [0,0,0] [4,10] (Bq ad tb (ps.set ky none) gs vl vg T Sl Sg (((l.set ky none).set kb (some (Ao Nb (-1)))).set ka (some (Ae Na))) (by rw [List.length_set];exact hl) hr (kb:Int) gb kb (Ao Nb (-1)) hl22 (Dc hab hkyb) hcb) h ?_
 rintro v_ L_ w ⟨rfl,rfl⟩ h
 refine ⟨by kernel_rfl,?_⟩
 have hl27:=D2 (some (Ae (Ao Nb (-1)))) hl21 (Ne.symm hkab)
 have hl28:=Ce (some (Ae (Ao Nb (-1)))) hl22
 have hl29:=D2 (some (Ae (Ao Nb (-1)))) hl23 (Ne.symm hkxb)
 refine Dd (Ai (Qs (ZP (.bool true) (Qg (Aa (Ds 12 [4,8] h fun w h=>Dp 0 528 (Pp b) [4,8] h (Dp 1 529 (Pp b) [4,8] h (Dp 2 531 (Pp b) [4,8] h (Dq 3 535 [4,8] rfl h (Gl 0 (Pp tb) 0) (Dq 4 527 [4,8] rfl h (Gla 0 [Ii kx,Ii gx] 1) ?_))))))))))
 refine A1 [5,9] (by kernel_rfl) rfl ?_
 refine Di #[Pp tb,Hg kx gx] [0,0,0] [4,8] rfl (by kernel_rfl) (Bm ad tb (ps.set ky none) gs vl vg T Sl Sg ((((l.set ky none).set kb (some (Ao Nb (-1)))).set ka (some (Ae Na))).set kb (some (Ae (Ao Nb (-1))))) (by rw [List.length_set];exact hl) hr (kx:Int) gx kx Nx hl29 (Dc hax hkyx)) (fun _=>by kernel_rfl) h ?_ ?_
 rintro v_ L_ w ⟨rfl,rfl⟩ h
 refine ⟨by kernel_rfl,?_⟩
 refine Dp 6 575 (.tuple #[.agg #[Ii Nx.kind,Ii (Am Nx),Ii Nx.links,Ii Nx.change,Ii Nx.upn,Ii Nx.upg],.nilIface]) [4,8] h (Dp 7 895 (.agg #[Ii Nx.kind,Ii (Am Nx),Ii Nx.links,Ii Nx.change,Ii Nx.upn,Ii Nx.upg]) [4,8] h (Dp 8 1791 .nilIface [4,8] h ?_))
 refine A1 [9] (by kernel_rfl) rfl ?_
 refine Ch [5,9] rfl (by kernel_rfl) (fun b=>Pp b) [Ii 0,Ii 0,Ii 0,Ii 0,Ii 0,Ii 0] 46 (fun _=>by kernel_rfl) h ?_ ?_
 intro k30 w h;refine ⟨by kernel_rfl,?_⟩
 refine As 10 [5,9] 0 [Ii Nx.kind,Ii (Am Nx),Ii Nx.links,Ii Nx.change,Ii Nx.upn,Ii Nx.upg] [Ii Nx.kind,Ii (Am Nx),Ii Nx.links,Ii Nx.change,Ii Nx.upn,Ii Nx.upg] 0 rfl h fun w h=>Dp 11 2047 .nilIface [5,9] h (Dd (Ai (Qs (ZG h (Gla 0 [Ii kb,Ii gb] 12) (ZP (Pt k30 4) (ZS 4 [Ii kb,Ii gb] [Ii Nx.kind,Ii (Am Nx),Ii Nx.links,Ii Nx.change,Ii kb,Ii gb] 0 rfl h fun w h=>Qn (Aa (Ds 7 [0,4,8] h fun w h=>Dp 0 48 (Pp b) [0,4,8] h (Dp 1 49 (Pp b) [0,4,8] h (Dp 2 51 (Pp b) [0,4,8] h (Dq 3 55 [0,4,8] rfl h (Gl 0 (Pp tb) 1) (Dq 4 47 [0,4,8] rfl h (Gla 0 [Ii kx,Ii gx] 2) (Dq 5 31 [0,4,8] rfl h (Gla 0 [Ii Nx.kind,Ii (Am Nx),Ii Nx.links,Ii Nx.change,Ii kb,Ii gb] 0) ?_)))))))))))))
 refine Ad 6 [1,1,1] [3,4,8] (Gs ad tb (ps.set ky none) gs vl vg T Sl Sg ((((l.set ky none).set kb (some (Ao Nb (-1)))).set ka (some (Ae Na))).set kb (some (Ae (Ao Nb (-1))))) (by rw [List.length_set];exact hl) hr (kx:Int) gx kx Nx hl29 (Dc hax hkyx) Nx.kind (Am Nx) Nx.links Nx.change (kb:Int) gb) h ?_
 rintro _ L_ w rfl h
 refine ⟨by kernel_rfl,?_⟩
 have hl31:=D2 (some (keepN Nx Nx.kind (Am Nx) Nx.links (kb:Int) gb)) hl27 hkxa
 have hl32:=D2 (some (keepN Nx Nx.kind (Am Nx) Nx.links (kb:Int) gb)) hl28 hkxb
 have hl33:=Ce (some (keepN Nx Nx.kind (Am Nx) Nx.links (kb:Int) gb)) hl29
 refine Dd (Ai (Qs (ZP (Pp b) (ZG h (Gla 0 [Ii ka,Ii ga] 13) ?_))))
 refine ZD [5,0,0,0] (Da ad b most tb dm pm (ps.set ky none) gs vl vg T Sl Sg (((((l.set ky none).set kb (some (Ao Nb (-1)))).set ka (some (Ae Na))).set kb (some (Ae (Ao Nb (-1))))).set kx (some (keepN Nx Nx.kind (Am Nx) Nx.links (kb:Int) gb))) ((((ds.set ja (Dw da (Ak da.es old))).set jb (Dw db (Ak db.es nm))).filter fun d=>!(d.h==((ky:Int),gy))).set j2 (Dw db (Ay (Ak db.es nm) nm ((kx:Int),gx)))) pn (by rw [List.length_set];exact hl) hr (ka:Int) ga ka (Ae Na) hl31 (Dc haa hkya) (-1) (by omega) (by first|(constructor<;>first|omega|(simp only [Ao,Ae,keepN];omega)))) h ?_;rintro _ L_ w rfl h
 have hl34:=Ce (some (Ao (Ae Na) (-1))) hl31
 have hl35:=D2 (some (Ao (Ae Na) (-1))) hl32 hkab
 have hl36:=D2 (some (Ao (Ae Na) (-1))) hl33 (Ne.symm hkxa)
 refine Qn (Ah (ZP (Pp b) (ZG h (Gla 0 [Ii kb,Ii gb] 12) ?_)))
 refine ZD [0,0,0,0] (Da ad b most tb dm pm (ps.set ky none) gs vl vg T Sl Sg ((((((l.set ky none).set kb (some (Ao Nb (-1)))).set ka (some (Ae Na))).set kb (some (Ae (Ao Nb (-1))))).set kx (some (keepN Nx Nx.kind (Am Nx) Nx.links (kb:Int) gb))).set ka (some (Ao (Ae Na) (-1)))) ((((ds.set ja (Dw da (Ak da.es old))).set jb (Dw db (Ak db.es nm))).filter fun d=>!(d.h==((ky:Int),gy))).set j2 (Dw db (Ay (Ak db.es nm) nm ((kx:Int),gx)))) pn (by rw [List.length_set];exact hl) hr (kb:Int) gb kb (Ae (Ao Nb (-1))) hl35 (Dc hab hkyb) 1 (by omega) (by first|(constructor<;>first|omega|(simp only [Ao,Ae,keepN];omega)))) h ?_;rintro _ L_ w rfl h
 have hl37:=D2 (some (Ao (Ae (Ao Nb (-1))) 1)) hl34 (Ne.symm hkab)
 have hl38:=Ce (some (Ao (Ae (Ao Nb (-1))) 1)) hl35
 have hl39:=D2 (some (Ao (Ae (Ao Nb (-1))) 1)) hl36 (Ne.symm hkxb)
 exact Qm (ZP .nilIface (Qr (ZR [.nilIface] [0,0,0,3,2,2,2] h ⟨j2,hj2,rfl,rfl⟩)))
 exact Ba
 refine Ch [5,9] rfl (by kernel_rfl) (fun b=>Pp b) [Ii 0,Ii 0,Ii 0,Ii 0,Ii 0,Ii 0] 46 (fun _=>by kernel_rfl) h ?_ ?_
 intro k40 w h;refine ⟨by kernel_rfl,?_⟩
 refine Ad 5 [1,1,1] [5,9] (Bm ad tb (ps.set ky none) gs vl vg T Sl Sg ((((l.set ky none).set kb (some (Ao Nb (-1)))).set ka (some (Ae Na))).set kb (some (Ae (Ao Nb (-1))))) (by rw [List.length_set];exact hl) hr (kx:Int) gx kx Nx hl29 (Dc hax hkyx)) h ?_
 rintro v_ L_ w ⟨rfl,rfl⟩ h
 refine ⟨by kernel_rfl,?_⟩
 refine Dp 6 575 (.tuple #[.agg #[Ii Nx.kind,Ii (Am Nx),Ii Nx.links,Ii Nx.change,Ii Nx.upn,Ii Nx.upg],.nilIface]) [5,9] h (Dp 7 895 (.agg #[Ii Nx.kind,Ii (Am Nx),Ii Nx.links,Ii Nx.change,Ii Nx.upn,Ii Nx.upg]) [5,9] h (Dp 8 1791 .nilIface [5,9] h (As 10 [5,9] 0 [Ii Nx.kind,Ii (Am Nx),Ii Nx.links,Ii Nx.change,Ii Nx.upn,Ii Nx.upg] [Ii Nx.kind,Ii (Am Nx),Ii Nx.links,Ii Nx.change,Ii Nx.upn,Ii Nx.upg] 3 rfl h fun w h=>Dp 11 2047 .nilIface [5,9] h (Dd (Ai (Qs (ZG h (Gla 0 [Ii kb,Ii gb] 12) (ZP (Pt k40 4) (ZS 4 [Ii kb,Ii gb] [Ii Nx.kind,Ii (Am Nx),Ii Nx.links,Ii Nx.change,Ii kb,Ii gb] 3 rfl h fun w h=>Qn (Aa (Ds 7 [3,4,8] h fun w h=>Dp 0 48 (Pp b) [3,4,8] h (Dp 1 49 (Pp b) [3,4,8] h (Dp 2 51 (Pp b) [3,4,8] h (Dq 3 55 [3,4,8] rfl h (Gl 0 (Pp tb) 1) (Dq 4 47 [3,4,8] rfl h (Gla 0 [Ii kx,Ii gx] 2) (Dq 5 31 [3,4,8] rfl h (Gla 0 [Ii Nx.kind,Ii (Am Nx),Ii Nx.links,Ii Nx.change,Ii kb,Ii gb] 0) ?_))))))))))))))))
 refine Ad 6 [0,0,0] [3,4,8] (Gs ad tb (ps.set ky none) gs vl vg T Sl Sg ((((l.set ky none).set kb (some (Ao Nb (-1)))).set ka (some (Ae Na))).set kb (some (Ae (Ao Nb (-1))))) (by rw [List.length_set];exact hl) hr (kx:Int) gx kx Nx hl29 (Dc hax hkyx) Nx.kind (Am Nx) Nx.links Nx.change (kb:Int) gb) h ?_
 rintro _ L_ w rfl h
 refine ⟨by kernel_rfl,?_⟩
 have hl41:=D2 (some (keepN Nx Nx.kind (Am Nx) Nx.links (kb:Int) gb)) hl27 hkxa
 have hl42:=D2 (some (keepN Nx Nx.kind (Am Nx) Nx.links (kb:Int) gb)) hl28 hkxb
 have hl43:=Ce (some (keepN Nx Nx.kind (Am Nx) Nx.links (kb:Int) gb)) hl29
 refine Dd (Ai (Qs (ZP (Pp b) (ZG h (Gla 0 [Ii ka,Ii ga] 13) ?_))))
 refine ZD [5,0,0,0] (Da ad b most tb dm pm (ps.set ky none) gs vl vg T Sl Sg (((((l.set ky none).set kb (some (Ao Nb (-1)))).set ka (some (Ae Na))).set kb (some (Ae (Ao Nb (-1))))).set kx (some (keepN Nx Nx.kind (Am Nx) Nx.links (kb:Int) gb))) ((((ds.set ja (Dw da (Ak da.es old))).set jb (Dw db (Ak db.es nm))).filter fun d=>!(d.h==((ky:Int),gy))).set j2 (Dw db (Ay (Ak db.es nm) nm ((kx:Int),gx)))) pn (by rw [List.length_set];exact hl) hr (ka:Int) ga ka (Ae Na) hl41 (Dc haa hkya) (-1) (by omega) (by first|(constructor<;>first|omega|(simp only [Ao,Ae,keepN];omega)))) h ?_;rintro _ L_ w rfl h
 have hl44:=Ce (some (Ao (Ae Na) (-1))) hl41
 have hl45:=D2 (some (Ao (Ae Na) (-1))) hl42 hkab
 have hl46:=D2 (some (Ao (Ae Na) (-1))) hl43 (Ne.symm hkxa)
 refine Qn (Ah (ZP (Pp b) (ZG h (Gla 0 [Ii kb,Ii gb] 12) ?_)))
 refine ZD [0,0,0,0] (Da ad b most tb dm pm (ps.set ky none) gs vl vg T Sl Sg ((((((l.set ky none).set kb (some (Ao Nb (-1)))).set ka (some (Ae Na))).set kb (some (Ae (Ao Nb (-1))))).set kx (some (keepN Nx Nx.kind (Am Nx) Nx.links (kb:Int) gb))).set ka (some (Ao (Ae Na) (-1)))) ((((ds.set ja (Dw da (Ak da.es old))).set jb (Dw db (Ak db.es nm))).filter fun d=>!(d.h==((ky:Int),gy))).set j2 (Dw db (Ay (Ak db.es nm) nm ((kx:Int),gx)))) pn (by rw [List.length_set];exact hl) hr (kb:Int) gb kb (Ae (Ao Nb (-1))) hl45 (Dc hab hkyb) 1 (by omega) (by first|(constructor<;>first|omega|(simp only [Ao,Ae,keepN];omega)))) h ?_;rintro _ L_ w rfl h
 have hl47:=D2 (some (Ao (Ae (Ao Nb (-1))) 1)) hl44 (Ne.symm hkab)
 have hl48:=Ce (some (Ao (Ae (Ao Nb (-1))) 1)) hl45
 have hl49:=D2 (some (Ao (Ae (Ao Nb (-1))) 1)) hl46 (Ne.symm hkxb)
 exact Qm (ZP .nilIface (Qr (ZR [.nilIface] [0,0,0,3,2,2,2] h ⟨j2,hj2,rfl,rfl⟩)))
 exact Ba
 have q50:=nF hc24
 have q51:=aL q50
 have q52:=aR q50
 have q51:=dcT q51
 have q52:=dcT q52
 exfalso;first|omega|(simp only [List.length_map] at *;omega)|(revert hc24;simp;done)|(revert hc24;simp;omega)
end
theorem Ws (b:Nat) (mst:Int) (vl vt:Value) (L:List RN) (hl:L.length≤100000) (hn:(L.map fun N=>N.a.h).Nodup) (j:Nat) (N:RN) (hx:L[j]?=some N) (n g:Int) (hh:N.a.h=(n,g)) (hk:N.a.kind=2):Au Tryz.prog 59 #[Pp b,Hg n g] [Rt b mst vl vt,rRL vl L] fun u L'=>u=Ii 0∧L'=[Rt b mst vl vt,rRL vl L]:=
  (Fz b mst vl vt L n g hl).mono fun u L' h=>by
    rcases h with ⟨hno,_⟩|⟨i,M,hi,hM,hk2,_⟩|⟨i,M,hi,hM,hk2,h2⟩
    · exact absurd hh (hno N (List.mem_of_getElem? hx))
    · obtain ⟨rfl,rfl⟩:=Aff hn hi hx (hM.trans hh.symm);exact absurd hk hk2
    · exact h2
theorem Acx {es:List Bj} (hn:(es.map (·.1)).Nodup) {x y:Bj} (hx:x∈es) (hy:y∈es) (h:x.1=y.1):x=y:=by
  obtain ⟨i,hi⟩:=List.getElem?_of_mem hx
  obtain ⟨j,hj⟩:=List.getElem?_of_mem hy
  have:=Vo hn hi hj h
  subst this;rw [hi] at hj;exact Option.some.inj hj
theorem Uw {es:List Bj} (hn:(es.map (·.1)).Nodup) {i:Nat} {e:Bj} (he:es[i]?=some e) {nm:ByteArray} (h:e.1=nm):∀ x∈es.eraseIdx i,x.1≠nm:=fun x hx=>by
  rw [Py hn he h] at hx
  simpa using (List.mem_filter.1 hx).2
theorem Pd {es:List Bj} {i:Nat} {e:Bj} (he:es[i]?=some e) (hl:es.length≤60):(es.eraseIdx i).length<60:=by
  have:=(List.getElem?_eq_some_iff.1 he).1
  rw [List.length_eraseIdx_of_lt this];omega
theorem Aal {es:List Bj} (hn:(es.map (·.1)).Nodup) {i:Nat} {e x:Bj} (he:es[i]?=some e) (hx:x∈es) (hne:x.1≠e.1):x∈es.eraseIdx i:=by
  rw [Py hn he rfl];exact List.mem_filter.2 ⟨hx,by simpa using hne⟩
theorem Lb (A:List AN) (a:Hdl) (old nm:ByteArray) (h:Hdl) (y:Option Hdl):Eu A a old a nm h y=Ap (match y with|none=>Ax (Al A a old) a nm h|some y=>C5 (Ax (Al (Al A a old) a nm) a nm h) y) a:=if_pos rfl
theorem Jj (A:List AN) {a b:Hdl} (hne:a≠b) (old nm:ByteArray) (h:Hdl) (y:Option Hdl):Eu A a old b nm h y=Ap (Ap (match y with|none=>Ax (Al A a old) b nm h|some y=>C5 (Ax (Al (Al A a old) b nm) b nm h) y) a) b:=if_neg hne
theorem Xb (b:Nat) (mst:Int) (vl vt:Value) (L:List RN) (c:Int) (hc:c≤900000) (hok:Dm (L.map RN.a) c) (n g:Int) (old nm:ByteArray) (hoz:old.size≤100000) (hnz:nm.size≤100000) (rk:Hdl→Nat) (hrk:∀ d,upA (L.map RN.a) d≠d→rk (upA (L.map RN.a) d)<rk d)  : Au Tryz.prog 37 #[Pp b,Hg n g,.string old,Hg n g,.string nm] [Rt b mst vl vt,rRL vl L] (fun u L'=>∃ (v':Value) (L2:List RN),L2.map RN.a=(tRename (L.map RN.a) (n,g) old (n,g) nm).2∧u=Ii (((tRename (L.map RN.a) (n,g) old (n,g) nm).1:Nat):Int)∧L'=[Rt b mst v' vt,rRL v' L2]):=by
 have hl:=hok.hl
 have hnod:=hok.hnod
 have hent:=hok.hent
 have hfew:=hok.hfew
 refine Zo 184 Tryz.func37 fun E w0 w h=>?_
 refine Qs (ZN [Ii n,Ii g] 34 h fun k1 w h=>ZN [Ii n,Ii g] 34 h fun k2 w h=>ZP (Ii 0) (Qm (ZP (Pp b) (ZG h (Gla 0 [Ii n,Ii g] 1) ?_))))
 refine ZD [2,2] (Fz b mst vl vt L n g (by omega)) h ?_;rintro v_ L_ w (⟨hno8,rfl,rfl⟩|⟨j3,N4,hx5,hh6,hkd7,rfl,rfl⟩|⟨j3,N4,hx5,hh6,hkd7,rfl,rfl⟩) h
 refine ZP (Ii 10) (Qu (ZP (Ii 10) (ZP (.bool false) (Ft (ZP (Ii 10) (ZP (.bool false) (Ft (ZP (Ii 10) (ZP (.bool false) (Ft (ZP (Ii 10) (ZP (.bool true) (Qg (Qs (ZP (Ii 10) (ZP (Ii 10) (Qr (Ar (ZR [Ii 10] [0,0] h ?_)))))))))))))))))))
 have hT:=Afu (A:=L.map RN.a) (a:=(n,g)) (b:=(n,g)) (old:=old) (nm:=nm) (Fa hno8)
 exact ⟨vl,L,by rw [hT],by rw [hT];rfl,rfl⟩
 refine ZP (Ii 7) (Qu (ZP (Ii 7) (ZP (.bool false) (Ft (ZP (Ii 7) (ZP (.bool false) (Ft (ZP (Ii 7) (ZP (.bool false) (Ft (ZP (Ii 7) (ZP (.bool true) (Qg (Qs (ZP (Ii 7) (ZP (Ii 7) (Qr (Ar (ZR [Ii 7] [0,0] h ?_)))))))))))))))))))
 have hT:=Ya (A:=L.map RN.a) (a:=(n,g)) (b:=(n,g)) (old:=old) (nm:=nm) (Aj hnod hx5 hh6) hkd7
 exact ⟨vl,L,by rw [hT],by rw [hT];rfl,rfl⟩
 refine ZP (Ii 0) (Qu (ZP (Ii 0) (ZP (.bool true) (Qg (Ah (ZP (Pp b) (ZG h (Gla 0 [Ii n,Ii g] 2) (ZC [0,0] (Ws b mst vl vt L (by omega) hnod j3 N4 hx5 n g hh6 hkd7) h fun w h=>ZP (Ii 0) (Qu (ZP (Ii 0) (ZP (.bool true) (Qg (Ah (ZP (.string old) ?_))))))))))))))
 refine ZD [] (Et old (by omega)) h ?_;rintro v_ L_ w (⟨hnm9,rfl,rfl⟩|⟨hnm9,rfl,rfl⟩) h
 refine ZP (Ii 0) (Qu (ZP (Ii 0) (ZP (.bool true) (Qg (Ah (ZP (.string nm) ?_))))))
 refine ZD [] (Et nm (by omega)) h ?_;rintro v_ L_ w (⟨hnm10,rfl,rfl⟩|⟨hnm10,rfl,rfl⟩) h
 refine ZP (Ii 0) (Qu (ZP (Ii 0) (ZP (.bool false) (Fs (ZP (Pp b) (ZG h (Gla 0 [Ii n,Ii g] 3) (ZC [0,0] (Cr b mst vl vt L (by omega) hnod j3 N4 hx5 n g hh6) h fun w h=>ZP (Pp N4.nb) (Qm (ZP (Pp b) (ZG h (Gla 0 [Ii n,Ii g] 2) (ZC [0,0] (Cr b mst vl vt L (by omega) hnod j3 N4 hx5 n g hh6) h fun w h=>ZP (Pp N4.nb) (Qm (ZP (Pp N4.nb) (ZP (.string old) ?_))))))))))))))
 refine ZD [1] (Ev vl L j3 N4 hx5 old (by have:=hok.at_few hx5;omega)) h ?_;rintro v_ L_ w (⟨iq11,eq12,he13,hen14,rfl,rfl⟩|⟨hno15,rfl,rfl⟩) h
 have hfliq11:=(List.getElem?_eq_some_iff.1 he13).1
 refine ZP (Ii iq11) (Qu (ZP (Ii iq11) (ZP (.bool (decide ((iq11:Int)<0))) (Qn (Zd ((iq11:Int)<0) (fun hc16=>?_) fun hc16=>?_)))))
 exfalso;omega
 refine Ks (ZP (Pp N4.nb) (ZP (Pp N4.nb) (ZP (Pt N4.nb 6) (ZG h (Gr 6 N4.ve 0 rfl (Cc hx5 6 (by kernel_rfl))) (ZP (Ii iq11) (ZG h (Dn (k:=3) 107 iq11 rfl (by kernel_rfl) (List.getElem?_eq_some_iff.1 he13).1 0 rfl (Bo hx5)) (ZP (Pt (Dg N4.ve) (B0 N4.ve+iq11*3+1)) (ZG h (Gra (B0 N4.ve+iq11*3+1) [Ii eq12.2.1,Ii eq12.2.2] 0 rfl (rdS (Bo hx5) D0 he13 1 (by kernel_rfl))) (ZN [Ii 0,Ii 0] 34 h fun k17 w h=>ZSs [Ii eq12.2.1,Ii eq12.2.2] 0 rfl h fun w h=>Qm (ZP (Pp b) (ZG h (Gla 0 [Ii eq12.2.1,Ii eq12.2.2] 0) ?_)))))))))))
 obtain ⟨K18,hK19,hKh20⟩:=hent N4 (List.mem_of_getElem? hx5) eq12 (List.mem_of_getElem? he13)
 obtain ⟨jK21,hjK22⟩:=List.getElem?_of_mem hK19
 have hexo:∃ K∈L.map RN.a,K.h=eq12.2:=⟨K18.a,List.mem_map.2 ⟨K18,hK19,rfl⟩,hKh20⟩
 refine ZC [2,1] (Cr b mst vl vt L (by omega) hnod jK21 K18 hjK22 eq12.2.1 eq12.2.2 hKh20) h fun w h=>ZP (Pp K18.nb) (Qu (ZG h (Gla 0 [Ii n,Ii g] 3) (ZN [Ii 0,Ii 0] 34 h fun k23 w h=>ZSs [Ii n,Ii g] 0 rfl h fun w h=>Qn ?_)))
 refine ZMd (X:=Nat×(Nat→Value)) w0 E [(10,10),(17,18),(64,79)] (fun ⟨du,JM1⟩=>[]) (fun ⟨du,JM1⟩=>JM1) (fun ⟨du,JM1⟩=>[Rt b mst vl vt,rRL vl L,Rh k17 eq12.2.1 eq12.2.2,Rh k2 n g,Rh k1 n g]) (fun ⟨du,JM1⟩=>¬(K18.a.kind=2∧B8 (L.map RN.a) eq12.2 (n,g))) ?_ ?_
 refine Av ?_
 refine ZL (X:=Nat×Hdl×Nat×(Nat→Value)) [(10,10),(18,18),(64,79)] (fun ⟨bu,uh,ku,J0⟩=>[(17,Pp bu)]) (fun ⟨bu,uh,ku,J0⟩=>J0) (fun ⟨bu,uh,ku,J0⟩=>[Rh bu uh.1 uh.2,Rt b mst vl vt,rRL vl L,Rh k17 eq12.2.1 eq12.2.2,Rh k2 n g,Rh k1 n g]) (fun ⟨bu,uh,ku,J0⟩=>uh=itU (L.map RN.a) ku (n,g)∧(K18.a.kind=2→∀ j,j<ku→itU (L.map RN.a) j (n,g)≠eq12.2)) (fun ⟨bu,uh,ku,J0⟩=>rk uh) (fun j=>⟨k23,(n,g),0,j⟩) ⟨rfl,fun _ j hj=>absurd hj (by omega)⟩ [0,0,0,0,0,0] h ?_
 rintro ⟨bu,uh,ku,J0⟩ w hG h
 obtain ⟨hu,hnoU⟩:uh=itU (L.map RN.a) ku (n,g)∧(K18.a.kind=2→∀ j,j<ku→itU (L.map RN.a) j (n,g)≠eq12.2):=hG
 refine Qt (ZP (Pp K18.nb) (ZP (Pp K18.nb) (ZP (Pt K18.nb 2) (ZG h (Gr 2 (Ii K18.a.kind) 2 rfl (Cc hjK22 2 (by kernel_rfl))) (ZP (.bool (decide (K18.a.kind=2))) (Qn (Zd (K18.a.kind=2) (fun hc24=>?_) fun hc24=>?_)))))))
 refine Kn (Aa (Av (Qt (ZG h (Gla 0 [Ii uh.1,Ii uh.2] 0) (ZG h (Gla 0 [Ii eq12.2.1,Ii eq12.2.2] 3) (ZG h (Fm (n1:=uh.1) (g1:=uh.2) (n2:=eq12.2.1) (g2:=eq12.2.2) (by kernel_rfl)) (Qn (Zh (uh.1=eq12.2.1) (uh.2=eq12.2.2) (fun hc25 q26 q27=>?_) fun hc25 q28=>?_))))))))
 refine Qs (ZP (Ii 3) (Qr (Ar (B7 (Ar (Li (B7 (G1 (Ar (ZR [Ii 3] [1,1] h ?_))))))))))
 have hT:=N8 (A:=L.map RN.a) (a:=(n,g)) (b:=(n,g)) (old:=old) (nm:=nm) (Aj hnod hx5 hh6) hkd7 (Aj hnod hx5 hh6) hkd7 hnm9 hnm10 (Bu (hok.at_nms hx5) he13 hen14) (Aj hnod hjK22 hKh20) (by omega) ⟨ku,hu.symm.trans (Prod.ext (by omega) (by omega))⟩
 exact ⟨vl,L,by rw [hT],by rw [hT];rfl,rfl⟩
 have hnq:uh≠eq12.2:=fun q=>by have q1:=congrArg Prod.fst q;have q2:=congrArg Prod.snd q;omega
 refine Ks (ZP (Pp b) (ZG h (Gla 0 [Ii uh.1,Ii uh.2] 0) (ZC [1,1] (Up b mst vl vt L (by omega) hfew uh.1 uh.2) h fun w h=>ZN [Ii 0,Ii 0] 34 h fun k29 w h=>ZSs [Ii ((upA (L.map RN.a) (uh.1,uh.2)).1),Ii ((upA (L.map RN.a) (uh.1,uh.2)).2)] 0 rfl h fun w h=>Qu (ZG h (Gla 0 [Ii ((upA (L.map RN.a) (uh.1,uh.2)).1),Ii ((upA (L.map RN.a) (uh.1,uh.2)).2)] 0) (ZG h (Gla 0 [Ii uh.1,Ii uh.2] 3) (ZG h (Fm (n1:=(upA (L.map RN.a) (uh.1,uh.2)).1) (g1:=(upA (L.map RN.a) (uh.1,uh.2)).2) (n2:=uh.1) (g2:=uh.2) (by kernel_rfl)) (Qn (Zh ((upA (L.map RN.a) (uh.1,uh.2)).1=uh.1) ((upA (L.map RN.a) (uh.1,uh.2)).2=uh.2) (fun hc30 q31 q32=>?_) fun hc30 q34=>?_))))))))
 have hfix:upA (L.map RN.a) (uh.1,uh.2)=uh:=Prod.ext (by omega) (by omega)
 have h9:¬(K18.a.kind=2∧B8 (L.map RN.a) eq12.2 (n,g)):=fun q=>O4 (k:=ku) (by rw [← hu];exact hfix) (fun j hj=>by by_cases e:j=ku;(subst e;rw [← hu];exact hnq);exact hnoU (by omega) j (by omega)) q.2
 refine C9 (D3 (Afy rfl (D3 (Ek (Ea (F8 ?_))))))
 have hQ33:¬(K18.a.kind=2∧B8 (L.map RN.a) eq12.2 (n,g)):=h9
 refine Dt (fun j=>⟨0,j⟩) hQ33 (by kernel_rfl) [1,1,2,2,2] (by kernel_rfl) h
 have hfix:upA (L.map RN.a) (uh.1,uh.2)≠uh:=fun q=>by have q1:=congrArg Prod.fst q;have q2:=congrArg Prod.snd q;omega
 refine Kn (Ah (ZG h (Gla 0 [Ii ((upA (L.map RN.a) (uh.1,uh.2)).1),Ii ((upA (L.map RN.a) (uh.1,uh.2)).2)] 0) (ZSs [Ii ((upA (L.map RN.a) (uh.1,uh.2)).1),Ii ((upA (L.map RN.a) (uh.1,uh.2)).2)] 3 rfl h fun w h=>Cu ?_)))
 refine Cb (Ai ?_)
 refine Qs (ZG h (Gla 0 [Ii ((upA (L.map RN.a) (uh.1,uh.2)).1),Ii ((upA (L.map RN.a) (uh.1,uh.2)).2)] 3) (Qn (Ah (ZN [Ii 0,Ii 0] 34 h fun k35 w h=>ZSs [Ii ((upA (L.map RN.a) (uh.1,uh.2)).1),Ii ((upA (L.map RN.a) (uh.1,uh.2)).2)] 0 rfl h fun w h=>Cu ?_))))
 have hQ36:((upA (L.map RN.a) (uh.1,uh.2))=itU (L.map RN.a) (ku+1) (n,g)∧(K18.a.kind=2→∀ j,j<(ku+1)→itU (L.map RN.a) j (n,g)≠eq12.2))∧(rk (upA (L.map RN.a) (uh.1,uh.2)))<(rk uh):=⟨⟨by show upA (L.map RN.a) uh=upA (L.map RN.a) (itU (L.map RN.a) ku (n,g));rw [← hu],fun hk j hj=>by by_cases e:j=ku;(subst e;rw [← hu];exact hnq);exact hnoU hk j (by omega)⟩,hrk uh hfix⟩
 refine Bn (fun j=>⟨k35,(upA (L.map RN.a) (uh.1,uh.2)),(ku+1),j⟩) hQ36 (by kernel_rfl) [0,1,1,2,2,2] (by kernel_rfl) h
 have h9:¬(K18.a.kind=2∧B8 (L.map RN.a) eq12.2 (n,g)):=fun q=>absurd q.1 (by omega)
 refine C9 (D3 (Ek (Ea (F8 ?_))))
 have hQ37:¬(K18.a.kind=2∧B8 (L.map RN.a) eq12.2 (n,g)):=h9
 refine Dt (fun j=>⟨0,j⟩) hQ37 (by kernel_rfl) [1,1,1,1,1] (by kernel_rfl) h
 rintro a_ w ⟨⟨du,JM1⟩,hG,rfl,h⟩
 have h9:¬(K18.a.kind=2∧B8 (L.map RN.a) eq12.2 (n,g)):=hG
 refine Ai (Qs (ZP (Pp N4.nb) (ZP (.string nm) ?_)))
 refine ZD [1] (Ev vl L j3 N4 hx5 nm (by have:=hok.at_few hx5;omega)) h ?_;rintro v_ L_ w (⟨iq38,eq39,he40,hen41,rfl,rfl⟩|⟨hno42,rfl,rfl⟩) h
 have hfliq38:=(List.getElem?_eq_some_iff.1 he40).1
 refine ZP (Ii iq38) (Qu (ZP (Ii iq38) (ZP (.bool (decide ((iq38:Int)≥0))) (Qn ?_))))
 refine ZMd (X:=Nat×RN×(Nat→Value)) w0 E [(10,10),(20,20),(85,141)] (fun ⟨jq,Kq,JM2⟩=>[]) (fun ⟨jq,Kq,JM2⟩=>JM2) (fun ⟨jq,Kq,JM2⟩=>[rRL vl L,Rt b mst vl vt,Rh k17 eq12.2.1 eq12.2.2,Rh k2 n g,Rh k1 n g]) (fun ⟨jq,Kq,JM2⟩=>¬eq39.2=eq12.2∧L[jq]?=some Kq∧Kq.a.h=eq39.2∧¬(K18.a.kind=1∧Kq.a.kind=2)∧¬(K18.a.kind=2∧Kq.a.kind=1)∧Kq.a.es.length=0) ?_ ?_
 refine Zd ((iq38:Int)≥0) (fun hc43=>?_) fun hc43=>?_
 refine Qs (ZP (Pp b) (ZP (Pp N4.nb) (ZP (Pp N4.nb) (ZP (Pt N4.nb 6) (ZG h (Gr 6 N4.ve 0 rfl (Cc hx5 6 (by kernel_rfl))) (ZP (Ii iq38) (ZG h (Dn (k:=3) 107 iq38 rfl (by kernel_rfl) (List.getElem?_eq_some_iff.1 he40).1 0 rfl (Bo hx5)) (ZP (Pt (Dg N4.ve) (B0 N4.ve+iq38*3+1)) (ZG h (Gra (B0 N4.ve+iq38*3+1) [Ii eq39.2.1,Ii eq39.2.2] 0 rfl (rdS (Bo hx5) D0 he40 1 (by kernel_rfl))) ?_)))))))))
 obtain ⟨K44,hK45,hKh46⟩:=hent N4 (List.mem_of_getElem? hx5) eq39 (List.mem_of_getElem? he40)
 obtain ⟨jK47,hjK48⟩:=List.getElem?_of_mem hK45
 have hexy:∃ K∈L.map RN.a,K.h=eq39.2:=⟨K44.a,List.mem_map.2 ⟨K44,hK45,rfl⟩,hKh46⟩
 refine ZC [1,0] (Cr b mst vl vt L (by omega) hnod jK47 K44 hjK48 eq39.2.1 eq39.2.2 hKh46) h fun w h=>ZP (Pp K44.nb) (Qn (Aa (Aa (Ds 6 [1,1] h fun w h=>Dp 0 16 (Pp K44.nb) [1,1] h (Dp 1 17 (Pp K44.nb) [1,1] h (Dp 2 19 (Pp K44.nb) [1,1] h (Dq 3 23 [1,1] rfl h (Gra 0 [Ii K44.a.h.1,Ii K44.a.h.2] 0 rfl (Cc hjK48 0 (by kernel_rfl))) (Dq 4 15 [1,1] rfl h (Gla 0 [Ii eq12.2.1,Ii eq12.2.2] 1) (Dq (v:=.bool ((decide (K44.a.h.1=eq12.2.1))&&(decide (K44.a.h.2=eq12.2.2)))) 5 31 [1,1] rfl h (Fm (n1:=K44.a.h.1) (g1:=K44.a.h.2) (n2:=eq12.2.1) (g2:=eq12.2.2) (by kernel_rfl)) (Dd (Ai (Zh (K44.a.h.1=eq12.2.1) (K44.a.h.2=eq12.2.2) (fun hc49 q50 q51=>?_) fun hc49 q52=>?_))))))))))))
 have hyh:eq39.2=eq12.2:=hKh46.symm.trans (Prod.ext (by omega) (by omega))
 refine Qs (ZP (Ii 0) (Qr (Ar (G1 (Ar (ZR [Ii 0] [0,0] h ?_))))))
 have hT:=Mv (A:=L.map RN.a) (a:=(n,g)) (b:=(n,g)) (old:=old) (nm:=nm) (Aj hnod hx5 hh6) hkd7 (Aj hnod hx5 hh6) hkd7 hnm9 hnm10 (Bu (hok.at_nms hx5) he13 hen14) (Aj hnod hjK22 hKh20) h9 (Bu (hok.at_nms hx5) he40 hen41) hyh
 exact ⟨vl,L,by rw [hT],by rw [hT];rfl,rfl⟩
 have hyh:¬eq39.2=eq12.2:=fun q=>by have q1:=congrArg Prod.fst (hKh46.trans q);have q2:=congrArg Prod.snd (hKh46.trans q);omega
 refine Kw (ZP (Pp K18.nb) (ZP (Pp K18.nb) (ZP (Pt K18.nb 2) (ZG h (Gr 2 (Ii K18.a.kind) 1 rfl (Cc hjK22 2 (by kernel_rfl))) ?_))))
 obtain ⟨b53,hb53⟩:=nmB (decide (K18.a.kind=1))
 refine ZB hb53 (ZP (.bool b53) ?_)
 rcases Bool.eq_false_or_eq_true b53 with hc54|hc54
 subst hc54
 have q55:=hb53.symm
 have q55:=dcT q55
 refine ZP (Pp K44.nb) (ZP (Pp K44.nb) (ZP (Pt K44.nb 2) (ZG h (Gr 2 (Ii K44.a.kind) 1 rfl (Cc hjK48 2 (by kernel_rfl))) ?_)))
 obtain ⟨b56,hb56⟩:=nmB (decide (K44.a.kind=2))
 refine ZB hb56 (ZP (.bool b56) (Qn (Zi (b56) (fun hc57=>?_) fun hc57=>?_)))
 have q58:=hb56.symm.trans hc57
 have q58:=dcT q58
 refine Qs (ZP (Ii 7) (Qr (Ar (G1 (Ar (ZR [Ii 7] [0,0] h ?_))))))
 have hT:=Th (A:=L.map RN.a) (a:=(n,g)) (b:=(n,g)) (old:=old) (nm:=nm) (Aj hnod hx5 hh6) hkd7 (Aj hnod hx5 hh6) hkd7 hnm9 hnm10 (Bu (hok.at_nms hx5) he13 hen14) (Aj hnod hjK22 hKh20) h9 (Bu (hok.at_nms hx5) he40 hen41) hyh (Aj hnod hjK48 hKh46) ⟨by omega,by omega⟩
 exact ⟨vl,L,by rw [hT],by rw [hT];rfl,rfl⟩
 have q59:=hb56.symm.trans hc57
 have q59:=dcF q59
 refine Kw (ZP (Pp K18.nb) (ZP (Pp K18.nb) (ZP (Pt K18.nb 2) (ZG h (Gr 2 (Ii K18.a.kind) 1 rfl (Cc hjK22 2 (by kernel_rfl))) ?_))))
 obtain ⟨b60,hb60⟩:=nmB (decide (K18.a.kind=2))
 refine ZB hb60 (ZP (.bool b60) ?_)
 rcases Bool.eq_false_or_eq_true b60 with hc61|hc61
 subst hc61
 have q62:=hb60.symm
 have q62:=dcT q62
 refine ZP (Pp K44.nb) (ZP (Pp K44.nb) (ZP (Pt K44.nb 2) (ZG h (Gr 2 (Ii K44.a.kind) 1 rfl (Cc hjK48 2 (by kernel_rfl))) ?_)))
 obtain ⟨b63,hb63⟩:=nmB (decide (K44.a.kind=1))
 refine ZB hb63 (ZP (.bool b63) (Qn (Zi (b63) (fun hc64=>?_) fun hc64=>?_)))
 have q65:=hb63.symm.trans hc64
 have q65:=dcT q65
 refine Qs (ZP (Ii 8) (Qr (Ar (G1 (Ar (ZR [Ii 8] [0,0] h ?_))))))
 have hT:=K8 (A:=L.map RN.a) (a:=(n,g)) (b:=(n,g)) (old:=old) (nm:=nm) (Aj hnod hx5 hh6) hkd7 (Aj hnod hx5 hh6) hkd7 hnm9 hnm10 (Bu (hok.at_nms hx5) he13 hen14) (Aj hnod hjK22 hKh20) h9 (Bu (hok.at_nms hx5) he40 hen41) hyh (Aj hnod hjK48 hKh46) (by omega) ⟨by omega,by omega⟩
 exact ⟨vl,L,by rw [hT],by rw [hT];rfl,rfl⟩
 have q66:=hb63.symm.trans hc64
 have q66:=dcF q66
 refine Ks (ZP (Pp K44.nb) (ZP (Pp K44.nb) (ZP (Pt K44.nb 6) (ZG h (Gr 6 K44.ve 1 rfl (Cc hjK48 6 (by kernel_rfl))) (ZG h (Dh 107 (by kernel_rfl) 1 rfl (Bo hjK48)) (ZP (.bool (decide ((K44.a.es.length:Int)>0))) (Qn (Zd ((K44.a.es.length:Int)>0) (fun hc67=>?_) fun hc67=>?_))))))))
 refine Qs (ZP (Ii 11) (Qr (G1 (Ar (ZR [Ii 11] [0,0] h ?_)))))
 have hT:=Ho (A:=L.map RN.a) (a:=(n,g)) (b:=(n,g)) (old:=old) (nm:=nm) (Aj hnod hx5 hh6) hkd7 (Aj hnod hx5 hh6) hkd7 hnm9 hnm10 (Bu (hok.at_nms hx5) he13 hen14) (Aj hnod hjK22 hKh20) h9 (Bu (hok.at_nms hx5) he40 hen41) hyh (Aj hnod hjK48 hKh46) (by omega) (by omega) (by omega)
 exact ⟨vl,L,by rw [hT],by rw [hT];rfl,rfl⟩
 refine B6 (F8 ?_)
 have hQ68:¬eq39.2=eq12.2∧L[jK47]?=some K44∧K44.a.h=eq39.2∧¬(K18.a.kind=1∧K44.a.kind=2)∧¬(K18.a.kind=2∧K44.a.kind=1)∧K44.a.es.length=0:=⟨hyh,hjK48,hKh46,by omega,by omega,by omega⟩
 refine Dt (fun j=>⟨jK47,K44,j⟩) hQ68 (by kernel_rfl) [1,0,0,0,0] (by kernel_rfl) h
 subst hc61
 have q69:=hb60.symm
 have q69:=dcF q69
 refine Zx (Zx (Zx (Zx (Zx (ZP (.bool false) (Fs (ZP (Pp K44.nb) (ZP (Pp K44.nb) (ZP (Pt K44.nb 6) (ZG h (Gr 6 K44.ve 1 rfl (Cc hjK48 6 (by kernel_rfl))) (ZG h (Dh 107 (by kernel_rfl) 1 rfl (Bo hjK48)) (ZP (.bool (decide ((K44.a.es.length:Int)>0))) (Qn (Zd ((K44.a.es.length:Int)>0) (fun hc70=>?_) fun hc70=>?_))))))))))))))
 refine Qs (ZP (Ii 11) (Qr (G1 (Ar (ZR [Ii 11] [0,0] h ?_)))))
 have hT:=Ho (A:=L.map RN.a) (a:=(n,g)) (b:=(n,g)) (old:=old) (nm:=nm) (Aj hnod hx5 hh6) hkd7 (Aj hnod hx5 hh6) hkd7 hnm9 hnm10 (Bu (hok.at_nms hx5) he13 hen14) (Aj hnod hjK22 hKh20) h9 (Bu (hok.at_nms hx5) he40 hen41) hyh (Aj hnod hjK48 hKh46) (by omega) (by omega) (by omega)
 exact ⟨vl,L,by rw [hT],by rw [hT];rfl,rfl⟩
 refine B6 (F8 ?_)
 have hQ71:¬eq39.2=eq12.2∧L[jK47]?=some K44∧K44.a.h=eq39.2∧¬(K18.a.kind=1∧K44.a.kind=2)∧¬(K18.a.kind=2∧K44.a.kind=1)∧K44.a.es.length=0:=⟨hyh,hjK48,hKh46,by omega,by omega,by omega⟩
 refine Dt (fun j=>⟨jK47,K44,j⟩) hQ71 (by kernel_rfl) [1,0,0,0,0] (by kernel_rfl) h
 subst hc54
 have q72:=hb53.symm
 have q72:=dcF q72
 refine Zx (Zx (Zx (Zx (Zx (ZP (.bool false) (Ft (ZP (Pp K18.nb) (ZP (Pp K18.nb) (ZP (Pt K18.nb 2) (ZG h (Gr 2 (Ii K18.a.kind) 1 rfl (Cc hjK22 2 (by kernel_rfl))) ?_))))))))))
 obtain ⟨b73,hb73⟩:=nmB (decide (K18.a.kind=2))
 refine ZB hb73 (ZP (.bool b73) ?_)
 rcases Bool.eq_false_or_eq_true b73 with hc74|hc74
 subst hc74
 have q75:=hb73.symm
 have q75:=dcT q75
 refine ZP (Pp K44.nb) (ZP (Pp K44.nb) (ZP (Pt K44.nb 2) (ZG h (Gr 2 (Ii K44.a.kind) 1 rfl (Cc hjK48 2 (by kernel_rfl))) ?_)))
 obtain ⟨b76,hb76⟩:=nmB (decide (K44.a.kind=1))
 refine ZB hb76 (ZP (.bool b76) (Qn (Zi (b76) (fun hc77=>?_) fun hc77=>?_)))
 have q78:=hb76.symm.trans hc77
 have q78:=dcT q78
 refine Qs (ZP (Ii 8) (Qr (Ar (G1 (Ar (ZR [Ii 8] [0,0] h ?_))))))
 have hT:=K8 (A:=L.map RN.a) (a:=(n,g)) (b:=(n,g)) (old:=old) (nm:=nm) (Aj hnod hx5 hh6) hkd7 (Aj hnod hx5 hh6) hkd7 hnm9 hnm10 (Bu (hok.at_nms hx5) he13 hen14) (Aj hnod hjK22 hKh20) h9 (Bu (hok.at_nms hx5) he40 hen41) hyh (Aj hnod hjK48 hKh46) (by omega) ⟨by omega,by omega⟩
 exact ⟨vl,L,by rw [hT],by rw [hT];rfl,rfl⟩
 have q79:=hb76.symm.trans hc77
 have q79:=dcF q79
 refine Ks (ZP (Pp K44.nb) (ZP (Pp K44.nb) (ZP (Pt K44.nb 6) (ZG h (Gr 6 K44.ve 1 rfl (Cc hjK48 6 (by kernel_rfl))) (ZG h (Dh 107 (by kernel_rfl) 1 rfl (Bo hjK48)) (ZP (.bool (decide ((K44.a.es.length:Int)>0))) (Qn (Zd ((K44.a.es.length:Int)>0) (fun hc80=>?_) fun hc80=>?_))))))))
 refine Qs (ZP (Ii 11) (Qr (G1 (Ar (ZR [Ii 11] [0,0] h ?_)))))
 have hT:=Ho (A:=L.map RN.a) (a:=(n,g)) (b:=(n,g)) (old:=old) (nm:=nm) (Aj hnod hx5 hh6) hkd7 (Aj hnod hx5 hh6) hkd7 hnm9 hnm10 (Bu (hok.at_nms hx5) he13 hen14) (Aj hnod hjK22 hKh20) h9 (Bu (hok.at_nms hx5) he40 hen41) hyh (Aj hnod hjK48 hKh46) (by omega) (by omega) (by omega)
 exact ⟨vl,L,by rw [hT],by rw [hT];rfl,rfl⟩
 refine B6 (F8 ?_)
 have hQ81:¬eq39.2=eq12.2∧L[jK47]?=some K44∧K44.a.h=eq39.2∧¬(K18.a.kind=1∧K44.a.kind=2)∧¬(K18.a.kind=2∧K44.a.kind=1)∧K44.a.es.length=0:=⟨hyh,hjK48,hKh46,by omega,by omega,by omega⟩
 refine Dt (fun j=>⟨jK47,K44,j⟩) hQ81 (by kernel_rfl) [1,0,0,0,0] (by kernel_rfl) h
 subst hc74
 have q82:=hb73.symm
 have q82:=dcF q82
 refine Zx (Zx (Zx (Zx (Zx (ZP (.bool false) (Fs (ZP (Pp K44.nb) (ZP (Pp K44.nb) (ZP (Pt K44.nb 6) (ZG h (Gr 6 K44.ve 1 rfl (Cc hjK48 6 (by kernel_rfl))) (ZG h (Dh 107 (by kernel_rfl) 1 rfl (Bo hjK48)) (ZP (.bool (decide ((K44.a.es.length:Int)>0))) (Qn (Zd ((K44.a.es.length:Int)>0) (fun hc83=>?_) fun hc83=>?_))))))))))))))
 refine Qs (ZP (Ii 11) (Qr (G1 (Ar (ZR [Ii 11] [0,0] h ?_)))))
 have hT:=Ho (A:=L.map RN.a) (a:=(n,g)) (b:=(n,g)) (old:=old) (nm:=nm) (Aj hnod hx5 hh6) hkd7 (Aj hnod hx5 hh6) hkd7 hnm9 hnm10 (Bu (hok.at_nms hx5) he13 hen14) (Aj hnod hjK22 hKh20) h9 (Bu (hok.at_nms hx5) he40 hen41) hyh (Aj hnod hjK48 hKh46) (by omega) (by omega) (by omega)
 exact ⟨vl,L,by rw [hT],by rw [hT];rfl,rfl⟩
 refine B6 (F8 ?_)
 have hQ84:¬eq39.2=eq12.2∧L[jK47]?=some K44∧K44.a.h=eq39.2∧¬(K18.a.kind=1∧K44.a.kind=2)∧¬(K18.a.kind=2∧K44.a.kind=1)∧K44.a.es.length=0:=⟨hyh,hjK48,hKh46,by omega,by omega,by omega⟩
 refine Dt (fun j=>⟨jK47,K44,j⟩) hQ84 (by kernel_rfl) [1,0,0,0,0] (by kernel_rfl) h
 exfalso;omega
 rintro a_ w ⟨⟨jq,Kq,JM2⟩,hG,rfl,h⟩
 obtain ⟨hyh,hYx,hYh,hk12,hk21,hYe⟩:¬eq39.2=eq12.2∧L[jq]?=some Kq∧Kq.a.h=eq39.2∧¬(K18.a.kind=1∧Kq.a.kind=2)∧¬(K18.a.kind=2∧Kq.a.kind=1)∧Kq.a.es.length=0:=hG
 have hexy:∃ K∈L.map RN.a,K.h=eq39.2:=⟨Kq.a,List.mem_map.2 ⟨Kq,List.mem_of_getElem? hYx,rfl⟩,hYh⟩
 have hnyA:=Mc hx5 hYx hnod (by omega) he13
 have hnyB:=Mc hx5 hYx hnod (by omega) he40
 refine Ai (Qs ?_)
 have hrA:=hok.at_rng hx5
 refine ZP (Pp N4.nb) (ZP (Ii iq11) ?_)
 refine ZD [0] (Fy vl L j3 N4 hx5 iq11 (by have:=hok.at_few hx5;omega) (by omega)) h ?_;rintro u86 L_ w ⟨v85,rfl⟩ h
 have hx87:=Ce (Rx N4 v85 (N4.a.es.eraseIdx iq11)) hx5
 have hok88:Dm ((L.set j3 (Rx N4 v85 (N4.a.es.eraseIdx iq11))).map RN.a) c:=hok.leave hx5 iq11 v85
 have hs89:(L.set j3 (Rx N4 v85 (N4.a.es.eraseIdx iq11))).map RN.a=Al ((L).map RN.a) (n,g) old:=Hi hok hx5 hh6 he13 hen14 v85
 have exo90:=F5 (N':=(Rx N4 v85 (N4.a.es.eraseIdx iq11))) hx5 rfl hexo
 have exy91:=F5 (N':=(Rx N4 v85 (N4.a.es.eraseIdx iq11))) hx5 rfl hexy
 refine Qu (ZP (Ii iq38) (ZP (.bool (decide ((iq38:Int)≥0))) (Qn (Zd ((iq38:Int)≥0) (fun hc92=>?_) fun hc92=>?_))))
 refine Qs (ZP (Pp N4.nb) (ZP (.string nm) ?_))
 refine ZD [0] (Ev vl (L.set j3 (Rx N4 v85 (N4.a.es.eraseIdx iq11))) j3 (Rx N4 v85 (N4.a.es.eraseIdx iq11)) hx87 nm (by have:=hok88.at_few hx87;omega)) h ?_;rintro v_ L_ w (⟨iq93,eq94,he95,hen96,rfl,rfl⟩|⟨hno97,rfl,rfl⟩) h
 have hfliq93:=(List.getElem?_eq_some_iff.1 he95).1
 have h2y:eq39=eq94:=Acx (hok.at_nms hx5) (List.mem_of_getElem? he40) (M5 (List.mem_of_getElem? he95)) (hen41.trans hen96.symm)
 have hyh2:¬eq94.2=eq12.2:=h2y▸hyh
 have hYh2:Kq.a.h=eq94.2:=h2y▸hYh
 refine ZP (Ii iq93) (Qm (ZP (Pp N4.nb) (ZP (Pp N4.nb) (ZP (Pt N4.nb 6) (ZG h (Gr 6 v85 0 rfl (Cc hx87 6 (by kernel_rfl))) (ZP (Ii iq93) (ZG h (Dn (k:=3) 107 iq93 rfl (by kernel_rfl) (List.getElem?_eq_some_iff.1 he95).1 0 rfl (Bo hx87)) (ZP (Pt (Dg v85) (B0 v85+iq93*3+1)) (ZG h (Gra (B0 v85+iq93*3+1) [Ii eq94.2.1,Ii eq94.2.2] 0 rfl (rdS (Bo hx87) D0 he95 1 (by kernel_rfl))) (ZN [Ii 0,Ii 0] 34 h fun k98 w h=>ZSs [Ii eq94.2.1,Ii eq94.2.2] 0 rfl h fun w h=>Qm (ZP (Pp N4.nb) (ZP (Ii iq93) ?_))))))))))))
 refine ZD [1] (Fy vl (L.set j3 (Rx N4 v85 (N4.a.es.eraseIdx iq11))) j3 (Rx N4 v85 (N4.a.es.eraseIdx iq11)) hx87 iq93 (by have:=hok88.at_few hx87;omega) (by omega)) h ?_;rintro u100 L_ w ⟨v99,rfl⟩ h
 have hx101:=Ce (Rx N4 v99 ((N4.a.es.eraseIdx iq11).eraseIdx iq93)) hx87
 have hok102:Dm (((L.set j3 (Rx N4 v85 (N4.a.es.eraseIdx iq11))).set j3 (Rx N4 v99 ((N4.a.es.eraseIdx iq11).eraseIdx iq93))).map RN.a) c:=hok88.leave hx87 iq93 v99
 have hs103:((L.set j3 (Rx N4 v85 (N4.a.es.eraseIdx iq11))).set j3 (Rx N4 v99 ((N4.a.es.eraseIdx iq11).eraseIdx iq93))).map RN.a=Al ((L.set j3 (Rx N4 v85 (N4.a.es.eraseIdx iq11))).map RN.a) (n,g) nm:=Hi hok88 hx87 hh6 he95 hen96 v99
 have exo104:=F5 (N':=(Rx N4 v99 ((N4.a.es.eraseIdx iq11).eraseIdx iq93))) hx87 rfl exo90
 have exy105:=F5 (N':=(Rx N4 v99 ((N4.a.es.eraseIdx iq11).eraseIdx iq93))) hx87 rfl exy91
 refine Qm (ZP (Pp N4.nb) (ZP (.string nm) (ZG h (Gla 0 [Ii eq12.2.1,Ii eq12.2.2] 3) ?_)))
 refine ZD [0] (Gq vl ((L.set j3 (Rx N4 v85 (N4.a.es.eraseIdx iq11))).set j3 (Rx N4 v99 ((N4.a.es.eraseIdx iq11).eraseIdx iq93))) j3 (Rx N4 v99 ((N4.a.es.eraseIdx iq11).eraseIdx iq93)) hx101 nm eq12.2.1 eq12.2.2 (by have:=hok102.at_few hx101;omega)) h ?_;rintro u107 L_ w ⟨v106,rfl⟩ h
 have hx108:=Ce (Rx N4 v106 (Bi nm (eq12.2.1,eq12.2.2) ((N4.a.es.eraseIdx iq11).eraseIdx iq93))) hx101
 have hok109:Dm ((((L.set j3 (Rx N4 v85 (N4.a.es.eraseIdx iq11))).set j3 (Rx N4 v99 ((N4.a.es.eraseIdx iq11).eraseIdx iq93))).set j3 (Rx N4 v106 (Bi nm (eq12.2.1,eq12.2.2) ((N4.a.es.eraseIdx iq11).eraseIdx iq93)))).map RN.a) c:=hok102.enter (nm:=nm) (x:=(eq12.2.1,eq12.2.2)) hx101 rfl exo104 (Uw (hok88.at_nms hx87) he95 hen96) (Pd he95 (hok88.at_few hx87))
 have hs110:(((L.set j3 (Rx N4 v85 (N4.a.es.eraseIdx iq11))).set j3 (Rx N4 v99 ((N4.a.es.eraseIdx iq11).eraseIdx iq93))).set j3 (Rx N4 v106 (Bi nm (eq12.2.1,eq12.2.2) ((N4.a.es.eraseIdx iq11).eraseIdx iq93)))).map RN.a=Ax (((L.set j3 (Rx N4 v85 (N4.a.es.eraseIdx iq11))).set j3 (Rx N4 v99 ((N4.a.es.eraseIdx iq11).eraseIdx iq93))).map RN.a) (n,g) nm (eq12.2.1,eq12.2.2):=C7 hok102.hnod hx101 hh6 rfl
 have exo111:=F5 (N':=(Rx N4 v106 (Bi nm (eq12.2.1,eq12.2.2) ((N4.a.es.eraseIdx iq11).eraseIdx iq93)))) hx101 rfl exo104
 have exy112:=F5 (N':=(Rx N4 v106 (Bi nm (eq12.2.1,eq12.2.2) ((N4.a.es.eraseIdx iq11).eraseIdx iq93)))) hx101 rfl exy105
 refine Qn (Ah (ZP (Pp b) (ZG h (Gla 0 [Ii eq94.2.1,Ii eq94.2.2] 1) ?_)))
 obtain ⟨jy117,Ky118,hxy119,hhy120⟩:=Af5 (x:=eq94.2) (h2y▸exy112)
 refine ZD [2,0] (Lu b mst vl vt (((L.set j3 (Rx N4 v85 (N4.a.es.eraseIdx iq11))).set j3 (Rx N4 v99 ((N4.a.es.eraseIdx iq11).eraseIdx iq93))).set j3 (Rx N4 v106 (Bi nm (eq12.2.1,eq12.2.2) ((N4.a.es.eraseIdx iq11).eraseIdx iq93)))) c (by omega) hok109 jy117 Ky118 hxy119 eq94.2.1 eq94.2.2 hhy120) h ?_;rintro u114 L_ w ⟨v113,L115,hA116,hA116K,rfl⟩ h
 have hnL121:=Ui hA116 hok109
 obtain ⟨jz122,hz123⟩:=List.getElem?_of_mem (hA116K (Rx N4 v106 (Bi nm (eq12.2.1,eq12.2.2) ((N4.a.es.eraseIdx iq11).eraseIdx iq93))) (List.mem_of_getElem? hx108) (by exact hkd7) (fun q=>hnyA (q.trans hYh2.symm)))
 refine Qm (ZP (Pp N4.nb) (ZP (Pp N4.nb) (ZP (Pt N4.nb 3) (ZG h (Gr 3 (Ii N4.a.change) 1 rfl (Cc hz123 3 (by kernel_rfl))) (ZG h (Gw (N4.a.change+1)) (ZP (Pp N4.nb) (ZP (Pt N4.nb 3) ?_)))))))
 refine Fc rfl (b:=N4.nb) 3 [Ii (N4.a.change+1)] h 1 rfl (by kernel_rfl) (L3 hz123 3 [Ii (N4.a.change+1)] (Rw N4 v106 (N4.a.change+1) (Bi nm (eq12.2.1,eq12.2.2) ((N4.a.es.eraseIdx iq11).eraseIdx iq93))) (Nat.le_of_ble_eq_true (by kernel_rfl)) (by kernel_rfl) rfl rfl rfl rfl rfl) ?_;intro w h
 have hx124:=Ce (Rw N4 v106 (N4.a.change+1) (Bi nm (eq12.2.1,eq12.2.2) ((N4.a.es.eraseIdx iq11).eraseIdx iq93))) hz123
 refine Qu (ZG h (Gla 0 [Ii n,Ii g] 5) (ZG h (Gla 0 [Ii n,Ii g] 4) (ZG h (Ez (n1:=n) (g1:=g) (n2:=n) (g2:=g) (by kernel_rfl)) (Qn (Zi (!((decide (n=n))&&(decide (g=g)))) (fun hc125=>?_) fun hc125=>?_)))))
 have q126:=nT hc125
 have q127:=ndA q126
 exfalso;omega
 have q128:=nF hc125
 have q129:=aL q128
 have q130:=aR q128
 have q129:=dcT q129
 have q130:=dcT q130
 refine Ks (ZP (Ii 0) (Qr (ZR [Ii 0] [0,0] h ?_)))
 have hT:=Mr (A:=L.map RN.a) (a:=(n,g)) (b:=(n,g)) (old:=old) (nm:=nm) (Aj hnod hx5 hh6) hkd7 (Aj hnod hx5 hh6) hkd7 hnm9 hnm10 (Bu (hok.at_nms hx5) he13 hen14) (Aj hnod hjK22 hKh20) h9 (h2y▸(Bu (hok.at_nms hx5) he40 hen41)) hyh2 (Aj hnod hYx hYh2) (by omega) (by omega) (by omega)
 have hT1:((L115).set jz122 (Rw N4 v106 (N4.a.change+1) (Bi nm (eq12.2.1,eq12.2.2) ((N4.a.es.eraseIdx iq11).eraseIdx iq93)))).map RN.a=Ap ((L115).map RN.a) (n,g):=C7 hnL121 hz123 hh6 rfl
 refine ⟨v113,(L115).set jz122 (Rw N4 v106 (N4.a.change+1) (Bi nm (eq12.2.1,eq12.2.2) ((N4.a.es.eraseIdx iq11).eraseIdx iq93))),?_,by rw [hT];rfl,rfl⟩
 rw [hT,hT1,hA116,hs110,hs103,hs89]
 exact (Lb (L.map RN.a) (n,g) old nm eq12.2 (some eq94.2)).symm
 exact absurd hen41 (hno97 eq39 (Aal (hok.at_nms hx5) he13 (List.mem_of_getElem? he40) (fun q=>hyh (congrArg Prod.snd (Acx (hok.at_nms hx5) (List.mem_of_getElem? he40) (List.mem_of_getElem? he13) q)))))
 exfalso;omega
 refine ZP (Ii (-1)) (Qu (ZP (Ii (-1)) (ZP (.bool false) (Qn ?_))))
 refine ZMd (X:=Nat×RN×(Nat→Value)) w0 E [(10,10),(20,20),(85,141)] (fun ⟨jq,Kq,JM3⟩=>[]) (fun ⟨jq,Kq,JM3⟩=>JM3) (fun ⟨jq,Kq,JM3⟩=>[rRL vl L,Rt b mst vl vt,Rh k17 eq12.2.1 eq12.2.2,Rh k2 n g,Rh k1 n g]) (fun ⟨jq,Kq,JM3⟩=>True) ?_ ?_
 refine Zf (Qs (ZP (Pp N4.nb) (ZP (Pp N4.nb) (ZP (Pt N4.nb 6) (ZG h (Gr 6 N4.ve 0 rfl (Cc hx5 6 (by kernel_rfl))) (ZG h (Dh 107 (by kernel_rfl) 0 rfl (Bo hx5)) ?_))))))
 obtain ⟨b131,hb131⟩:=nmB (decide ((N4.a.es.length:Int)≥60))
 refine ZB hb131 (ZP (.bool b131) ?_)
 rcases Bool.eq_false_or_eq_true b131 with hc132|hc132
 subst hc132
 have q133:=hb131.symm
 have q133:=dcT q133
 refine ZG h (Gla 0 [Ii n,Ii g] 4) (ZG h (Gla 0 [Ii n,Ii g] 3) ?_)
 obtain ⟨b134,hb134⟩:=nmB (!((decide (n=n))&&(decide (g=g))))
 refine Kc (v:=.bool b134) (by kernel_rfl) h (by subst hb134;exact Ez (n1:=n) (g1:=g) (n2:=n) (g2:=g) (by kernel_rfl)) ?_
 refine ZP (.bool b134) (Qn (Zi (b134) (fun hc135=>?_) fun hc135=>?_))
 have q136:=hb134.symm.trans hc135
 have q137:=nT q136
 have q138:=ndA q137
 exfalso;omega
 have q139:=hb134.symm.trans hc135
 have q140:=nF q139
 have q141:=aL q140
 have q142:=aR q140
 have q141:=dcT q141
 have q142:=dcT q142
 refine B6 (F8 ?_)
 have hQ143:True:=trivial
 refine Dt (fun j=>⟨0,N4,j⟩) hQ143 (by kernel_rfl) [0,0,0,0,0] (by kernel_rfl) h
 subst hc132
 have q144:=hb131.symm
 have q144:=dcF q144
 refine Zx (Zx (Zx (ZP (.bool false) (Qf (B6 (F8 ?_))))))
 have hQ145:True:=trivial
 refine Dt (fun j=>⟨0,N4,j⟩) hQ145 (by kernel_rfl) [0,0,0,0,0] (by kernel_rfl) h
 rintro a_ w ⟨⟨jq,Kq,JM3⟩,hG,rfl,h⟩
 have hfew:True:=hG
 refine Ai (Qs ?_)
 have hrA:=hok.at_rng hx5
 refine ZP (Pp N4.nb) (ZP (Ii iq11) ?_)
 refine ZD [0] (Fy vl L j3 N4 hx5 iq11 (by have:=hok.at_few hx5;omega) (by omega)) h ?_;rintro u147 L_ w ⟨v146,rfl⟩ h
 have hx148:=Ce (Rx N4 v146 (N4.a.es.eraseIdx iq11)) hx5
 have hok149:Dm ((L.set j3 (Rx N4 v146 (N4.a.es.eraseIdx iq11))).map RN.a) c:=hok.leave hx5 iq11 v146
 have hs150:(L.set j3 (Rx N4 v146 (N4.a.es.eraseIdx iq11))).map RN.a=Al ((L).map RN.a) (n,g) old:=Hi hok hx5 hh6 he13 hen14 v146
 have exo151:=F5 (N':=(Rx N4 v146 (N4.a.es.eraseIdx iq11))) hx5 rfl hexo
 refine Qu (ZP (Ii (-1)) (ZP (.bool false) (Qf (Ah (ZP (Pp N4.nb) (ZP (.string nm) (ZG h (Gla 0 [Ii eq12.2.1,Ii eq12.2.2] 2) ?_)))))))
 refine ZD [0] (Gq vl (L.set j3 (Rx N4 v146 (N4.a.es.eraseIdx iq11))) j3 (Rx N4 v146 (N4.a.es.eraseIdx iq11)) hx148 nm eq12.2.1 eq12.2.2 (by have:=hok149.at_few hx148;omega)) h ?_;rintro u153 L_ w ⟨v152,rfl⟩ h
 have hx154:=Ce (Rx N4 v152 (Bi nm (eq12.2.1,eq12.2.2) (N4.a.es.eraseIdx iq11))) hx148
 have hok155:Dm (((L.set j3 (Rx N4 v146 (N4.a.es.eraseIdx iq11))).set j3 (Rx N4 v152 (Bi nm (eq12.2.1,eq12.2.2) (N4.a.es.eraseIdx iq11)))).map RN.a) c:=hok149.enter (nm:=nm) (x:=(eq12.2.1,eq12.2.2)) hx148 rfl exo151 (fun e he=>hno42 e (M5 he)) (Pd he13 (hok.at_few hx5))
 have hs156:((L.set j3 (Rx N4 v146 (N4.a.es.eraseIdx iq11))).set j3 (Rx N4 v152 (Bi nm (eq12.2.1,eq12.2.2) (N4.a.es.eraseIdx iq11)))).map RN.a=Ax ((L.set j3 (Rx N4 v146 (N4.a.es.eraseIdx iq11))).map RN.a) (n,g) nm (eq12.2.1,eq12.2.2):=C7 hok149.hnod hx148 hh6 rfl
 have exo157:=F5 (N':=(Rx N4 v152 (Bi nm (eq12.2.1,eq12.2.2) (N4.a.es.eraseIdx iq11)))) hx148 rfl exo151
 refine Qm (ZP (Pp N4.nb) (ZP (Pp N4.nb) (ZP (Pt N4.nb 3) (ZG h (Gr 3 (Ii N4.a.change) 0 rfl (Cc hx154 3 (by kernel_rfl))) (ZG h (Gw (N4.a.change+1)) (ZP (Pp N4.nb) (ZP (Pt N4.nb 3) ?_)))))))
 refine Fc rfl (b:=N4.nb) 3 [Ii (N4.a.change+1)] h 0 rfl (by kernel_rfl) (L3 hx154 3 [Ii (N4.a.change+1)] (Rw N4 v152 (N4.a.change+1) (Bi nm (eq12.2.1,eq12.2.2) (N4.a.es.eraseIdx iq11))) (Nat.le_of_ble_eq_true (by kernel_rfl)) (by kernel_rfl) rfl rfl rfl rfl rfl) ?_;intro w h
 have hx158:=Ce (Rw N4 v152 (N4.a.change+1) (Bi nm (eq12.2.1,eq12.2.2) (N4.a.es.eraseIdx iq11))) hx154
 refine Qu (ZG h (Gla 0 [Ii n,Ii g] 4) (ZG h (Gla 0 [Ii n,Ii g] 3) (ZG h (Ez (n1:=n) (g1:=g) (n2:=n) (g2:=g) (by kernel_rfl)) (Qn (Zi (!((decide (n=n))&&(decide (g=g)))) (fun hc159=>?_) fun hc159=>?_)))))
 have q160:=nT hc159
 have q161:=ndA q160
 exfalso;omega
 have q162:=nF hc159
 have q163:=aL q162
 have q164:=aR q162
 have q163:=dcT q163
 have q164:=dcT q164
 refine Ks (ZP (Ii 0) (Qr (ZR [Ii 0] [1,0] h ?_)))
 have hT:=Lw (A:=L.map RN.a) (a:=(n,g)) (b:=(n,g)) (old:=old) (nm:=nm) (Aj hnod hx5 hh6) hkd7 (Aj hnod hx5 hh6) hkd7 hnm9 hnm10 (Bu (hok.at_nms hx5) he13 hen14) (Aj hnod hjK22 hKh20) h9 (Gb hno42) (fun q=>absurd rfl q.2)
 have hT1:(((L.set j3 (Rx N4 v146 (N4.a.es.eraseIdx iq11))).set j3 (Rx N4 v152 (Bi nm (eq12.2.1,eq12.2.2) (N4.a.es.eraseIdx iq11)))).set j3 (Rw N4 v152 (N4.a.change+1) (Bi nm (eq12.2.1,eq12.2.2) (N4.a.es.eraseIdx iq11)))).map RN.a=Ap (((L.set j3 (Rx N4 v146 (N4.a.es.eraseIdx iq11))).set j3 (Rx N4 v152 (Bi nm (eq12.2.1,eq12.2.2) (N4.a.es.eraseIdx iq11)))).map RN.a) (n,g):=C7 hok155.hnod hx154 hh6 rfl
 refine ⟨vl,((L.set j3 (Rx N4 v146 (N4.a.es.eraseIdx iq11))).set j3 (Rx N4 v152 (Bi nm (eq12.2.1,eq12.2.2) (N4.a.es.eraseIdx iq11)))).set j3 (Rw N4 v152 (N4.a.change+1) (Bi nm (eq12.2.1,eq12.2.2) (N4.a.es.eraseIdx iq11))),?_,by rw [hT];rfl,rfl⟩
 rw [hT,hT1,hs156,hs150]
 exact (Lb (L.map RN.a) (n,g) old nm eq12.2 none).symm
 refine ZP (Ii (-1)) (Qu (ZP (Ii (-1)) (ZP (.bool true) (Qg (Qs (ZP (Ii 5) (Qr (Ar (ZR [Ii 5] [1,0] h ?_)))))))))
 have hT:=Og (A:=L.map RN.a) (a:=(n,g)) (b:=(n,g)) (old:=old) (nm:=nm) (Aj hnod hx5 hh6) hkd7 (Aj hnod hx5 hh6) hkd7 hnm9 hnm10 (Gb hno15)
 exact ⟨vl,L,by rw [hT],by rw [hT];rfl,rfl⟩
 refine ZP (Ii 4) (Qu (ZP (Ii 4) (ZP (.bool true) (Qg (Qs (ZP (Ii 4) (ZP (Ii 4) (Qr (Ar (ZR [Ii 4] [0,0] h ?_))))))))))
 have hT:=Xx (A:=L.map RN.a) (a:=(n,g)) (b:=(n,g)) (old:=old) (nm:=nm) (Aj hnod hx5 hh6) hkd7 (Aj hnod hx5 hh6) hkd7 hnm9 hnm10
 exact ⟨vl,L,by rw [hT],by rw [hT];rfl,rfl⟩
 refine ZP (Ii 4) (Qu (ZP (Ii 4) (ZP (.bool false) (Ft (ZP (Ii 4) (ZP (.bool true) (Qg (Qs (ZP (Ii 4) (ZP (Ii 4) (Qr (Ar (ZR [Ii 4] [0,0] h ?_)))))))))))))
 have hT:=Sa (A:=L.map RN.a) (a:=(n,g)) (b:=(n,g)) (old:=old) (nm:=nm) (Aj hnod hx5 hh6) hkd7 (Aj hnod hx5 hh6) hkd7 hnm9
 exact ⟨vl,L,by rw [hT],by rw [hT];rfl,rfl⟩
theorem Wu (b:Nat) (mst:Int) (vl vt:Value) (L:List RN) (c:Int) (hc:c≤900000) (hok:Dm (L.map RN.a) c) (n g:Int) (m f:Int) (hne:((n,g):Hdl)≠(m,f)) (old nm:ByteArray) (hoz:old.size≤100000) (hnz:nm.size≤100000) (rk:Hdl→Nat) (hrk:∀ d,upA (L.map RN.a) d≠d→rk (upA (L.map RN.a) d)<rk d)  : Au Tryz.prog 37 #[Pp b,Hg n g,.string old,Hg m f,.string nm] [Rt b mst vl vt,rRL vl L] (fun u L'=>∃ (v':Value) (L2:List RN),L2.map RN.a=(tRename (L.map RN.a) (n,g) old (m,f) nm).2∧u=Ii (((tRename (L.map RN.a) (n,g) old (m,f) nm).1:Nat):Int)∧L'=[Rt b mst v' vt,rRL v' L2]):=by
 have hl:=hok.hl
 have hnod:=hok.hnod
 have hent:=hok.hent
 have hfew:=hok.hfew
 refine Zo 184 Tryz.func37 fun E w0 w h=>?_
 refine Qs (ZN [Ii n,Ii g] 34 h fun k1 w h=>ZN [Ii m,Ii f] 34 h fun k2 w h=>ZP (Ii 0) (Qm (ZP (Pp b) (ZG h (Gla 0 [Ii n,Ii g] 1) ?_))))
 refine ZD [2,2] (Fz b mst vl vt L n g (by omega)) h ?_;rintro v_ L_ w (⟨hno8,rfl,rfl⟩|⟨j3,N4,hx5,hh6,hkd7,rfl,rfl⟩|⟨j3,N4,hx5,hh6,hkd7,rfl,rfl⟩) h
 refine ZP (Ii 10) (Qu (ZP (Ii 10) (ZP (.bool false) (Ft (ZP (Ii 10) (ZP (.bool false) (Ft (ZP (Ii 10) (ZP (.bool false) (Ft (ZP (Ii 10) (ZP (.bool true) (Qg (Qs (ZP (Ii 10) (ZP (Ii 10) (Qr (Ar (ZR [Ii 10] [0,0] h ?_)))))))))))))))))))
 have hT:=Afu (A:=L.map RN.a) (a:=(n,g)) (b:=(m,f)) (old:=old) (nm:=nm) (Fa hno8)
 exact ⟨vl,L,by rw [hT],by rw [hT];rfl,rfl⟩
 refine ZP (Ii 7) (Qu (ZP (Ii 7) (ZP (.bool false) (Ft (ZP (Ii 7) (ZP (.bool false) (Ft (ZP (Ii 7) (ZP (.bool false) (Ft (ZP (Ii 7) (ZP (.bool true) (Qg (Qs (ZP (Ii 7) (ZP (Ii 7) (Qr (Ar (ZR [Ii 7] [0,0] h ?_)))))))))))))))))))
 have hT:=Ya (A:=L.map RN.a) (a:=(n,g)) (b:=(m,f)) (old:=old) (nm:=nm) (Aj hnod hx5 hh6) hkd7
 exact ⟨vl,L,by rw [hT],by rw [hT];rfl,rfl⟩
 refine ZP (Ii 0) (Qu (ZP (Ii 0) (ZP (.bool true) (Qg (Ah (ZP (Pp b) (ZG h (Gla 0 [Ii m,Ii f] 2) ?_)))))))
 refine ZD [0,0] (Fz b mst vl vt L m f (by omega)) h ?_;rintro v_ L_ w (⟨hno14,rfl,rfl⟩|⟨j9,N10,hx11,hh12,hkd13,rfl,rfl⟩|⟨j9,N10,hx11,hh12,hkd13,rfl,rfl⟩) h
 refine ZP (Ii 10) (Qu (ZP (Ii 10) (ZP (.bool false) (Ft (ZP (Ii 10) (ZP (.bool false) (Ft (ZP (Ii 10) (ZP (.bool true) (Qg (Qs (ZP (Ii 10) (ZP (Ii 10) (Qr (Ar (ZR [Ii 10] [0,0] h ?_))))))))))))))))
 have hT:=Ahe (A:=L.map RN.a) (a:=(n,g)) (b:=(m,f)) (old:=old) (nm:=nm) (Aj hnod hx5 hh6) hkd7 (Fa hno14)
 exact ⟨vl,L,by rw [hT],by rw [hT];rfl,rfl⟩
 refine ZP (Ii 7) (Qu (ZP (Ii 7) (ZP (.bool false) (Ft (ZP (Ii 7) (ZP (.bool false) (Ft (ZP (Ii 7) (ZP (.bool true) (Qg (Qs (ZP (Ii 7) (ZP (Ii 7) (Qr (Ar (ZR [Ii 7] [0,0] h ?_))))))))))))))))
 have hT:=Ab9 (A:=L.map RN.a) (a:=(n,g)) (b:=(m,f)) (old:=old) (nm:=nm) (Aj hnod hx5 hh6) hkd7 (Aj hnod hx11 hh12) hkd13
 exact ⟨vl,L,by rw [hT],by rw [hT];rfl,rfl⟩
 refine ZP (Ii 0) (Qu (ZP (Ii 0) (ZP (.bool true) (Qg (Ah (ZP (.string old) ?_))))))
 refine ZD [] (Et old (by omega)) h ?_;rintro v_ L_ w (⟨hnm15,rfl,rfl⟩|⟨hnm15,rfl,rfl⟩) h
 refine ZP (Ii 0) (Qu (ZP (Ii 0) (ZP (.bool true) (Qg (Ah (ZP (.string nm) ?_))))))
 refine ZD [] (Et nm (by omega)) h ?_;rintro v_ L_ w (⟨hnm16,rfl,rfl⟩|⟨hnm16,rfl,rfl⟩) h
 refine ZP (Ii 0) (Qu (ZP (Ii 0) (ZP (.bool false) (Fs (ZP (Pp b) (ZG h (Gla 0 [Ii n,Ii g] 3) (ZC [0,0] (Cr b mst vl vt L (by omega) hnod j3 N4 hx5 n g hh6) h fun w h=>ZP (Pp N4.nb) (Qm (ZP (Pp b) (ZG h (Gla 0 [Ii m,Ii f] 2) (ZC [0,0] (Cr b mst vl vt L (by omega) hnod j9 N10 hx11 m f hh12) h fun w h=>ZP (Pp N10.nb) (Qm (ZP (Pp N4.nb) (ZP (.string old) ?_))))))))))))))
 refine ZD [1] (Ev vl L j3 N4 hx5 old (by have:=hok.at_few hx5;omega)) h ?_;rintro v_ L_ w (⟨iq17,eq18,he19,hen20,rfl,rfl⟩|⟨hno21,rfl,rfl⟩) h
 have hfliq17:=(List.getElem?_eq_some_iff.1 he19).1
 refine ZP (Ii iq17) (Qu (ZP (Ii iq17) (ZP (.bool (decide ((iq17:Int)<0))) (Qn (Zd ((iq17:Int)<0) (fun hc22=>?_) fun hc22=>?_)))))
 exfalso;omega
 refine Ks (ZP (Pp N4.nb) (ZP (Pp N4.nb) (ZP (Pt N4.nb 6) (ZG h (Gr 6 N4.ve 0 rfl (Cc hx5 6 (by kernel_rfl))) (ZP (Ii iq17) (ZG h (Dn (k:=3) 107 iq17 rfl (by kernel_rfl) (List.getElem?_eq_some_iff.1 he19).1 0 rfl (Bo hx5)) (ZP (Pt (Dg N4.ve) (B0 N4.ve+iq17*3+1)) (ZG h (Gra (B0 N4.ve+iq17*3+1) [Ii eq18.2.1,Ii eq18.2.2] 0 rfl (rdS (Bo hx5) D0 he19 1 (by kernel_rfl))) (ZN [Ii 0,Ii 0] 34 h fun k23 w h=>ZSs [Ii eq18.2.1,Ii eq18.2.2] 0 rfl h fun w h=>Qm (ZP (Pp b) (ZG h (Gla 0 [Ii eq18.2.1,Ii eq18.2.2] 0) ?_)))))))))))
 obtain ⟨K24,hK25,hKh26⟩:=hent N4 (List.mem_of_getElem? hx5) eq18 (List.mem_of_getElem? he19)
 obtain ⟨jK27,hjK28⟩:=List.getElem?_of_mem hK25
 have hexo:∃ K∈L.map RN.a,K.h=eq18.2:=⟨K24.a,List.mem_map.2 ⟨K24,hK25,rfl⟩,hKh26⟩
 refine ZC [2,1] (Cr b mst vl vt L (by omega) hnod jK27 K24 hjK28 eq18.2.1 eq18.2.2 hKh26) h fun w h=>ZP (Pp K24.nb) (Qu (ZG h (Gla 0 [Ii m,Ii f] 3) (ZN [Ii 0,Ii 0] 34 h fun k29 w h=>ZSs [Ii m,Ii f] 0 rfl h fun w h=>Qn ?_)))
 refine ZMd (X:=Nat×(Nat→Value)) w0 E [(10,10),(17,18),(64,79)] (fun ⟨du,JM1⟩=>[]) (fun ⟨du,JM1⟩=>JM1) (fun ⟨du,JM1⟩=>[Rt b mst vl vt,rRL vl L,Rh k23 eq18.2.1 eq18.2.2,Rh k2 m f,Rh k1 n g]) (fun ⟨du,JM1⟩=>¬(K24.a.kind=2∧B8 (L.map RN.a) eq18.2 (m,f))) ?_ ?_
 refine Av ?_
 refine ZL (X:=Nat×Hdl×Nat×(Nat→Value)) [(10,10),(18,18),(64,79)] (fun ⟨bu,uh,ku,J0⟩=>[(17,Pp bu)]) (fun ⟨bu,uh,ku,J0⟩=>J0) (fun ⟨bu,uh,ku,J0⟩=>[Rh bu uh.1 uh.2,Rt b mst vl vt,rRL vl L,Rh k23 eq18.2.1 eq18.2.2,Rh k2 m f,Rh k1 n g]) (fun ⟨bu,uh,ku,J0⟩=>uh=itU (L.map RN.a) ku (m,f)∧(K24.a.kind=2→∀ j,j<ku→itU (L.map RN.a) j (m,f)≠eq18.2)) (fun ⟨bu,uh,ku,J0⟩=>rk uh) (fun j=>⟨k29,(m,f),0,j⟩) ⟨rfl,fun _ j hj=>absurd hj (by omega)⟩ [0,0,0,0,0,0] h ?_
 rintro ⟨bu,uh,ku,J0⟩ w hG h
 obtain ⟨hu,hnoU⟩:uh=itU (L.map RN.a) ku (m,f)∧(K24.a.kind=2→∀ j,j<ku→itU (L.map RN.a) j (m,f)≠eq18.2):=hG
 refine Qt (ZP (Pp K24.nb) (ZP (Pp K24.nb) (ZP (Pt K24.nb 2) (ZG h (Gr 2 (Ii K24.a.kind) 2 rfl (Cc hjK28 2 (by kernel_rfl))) (ZP (.bool (decide (K24.a.kind=2))) (Qn (Zd (K24.a.kind=2) (fun hc30=>?_) fun hc30=>?_)))))))
 refine Kn (Aa (Av (Qt (ZG h (Gla 0 [Ii uh.1,Ii uh.2] 0) (ZG h (Gla 0 [Ii eq18.2.1,Ii eq18.2.2] 3) (ZG h (Fm (n1:=uh.1) (g1:=uh.2) (n2:=eq18.2.1) (g2:=eq18.2.2) (by kernel_rfl)) (Qn (Zh (uh.1=eq18.2.1) (uh.2=eq18.2.2) (fun hc31 q32 q33=>?_) fun hc31 q34=>?_))))))))
 refine Qs (ZP (Ii 3) (Qr (Ar (B7 (Ar (Li (B7 (G1 (Ar (ZR [Ii 3] [1,1] h ?_))))))))))
 have hT:=N8 (A:=L.map RN.a) (a:=(n,g)) (b:=(m,f)) (old:=old) (nm:=nm) (Aj hnod hx5 hh6) hkd7 (Aj hnod hx11 hh12) hkd13 hnm15 hnm16 (Bu (hok.at_nms hx5) he19 hen20) (Aj hnod hjK28 hKh26) (by omega) ⟨ku,hu.symm.trans (Prod.ext (by omega) (by omega))⟩
 exact ⟨vl,L,by rw [hT],by rw [hT];rfl,rfl⟩
 have hnq:uh≠eq18.2:=fun q=>by have q1:=congrArg Prod.fst q;have q2:=congrArg Prod.snd q;omega
 refine Ks (ZP (Pp b) (ZG h (Gla 0 [Ii uh.1,Ii uh.2] 0) (ZC [1,1] (Up b mst vl vt L (by omega) hfew uh.1 uh.2) h fun w h=>ZN [Ii 0,Ii 0] 34 h fun k35 w h=>ZSs [Ii ((upA (L.map RN.a) (uh.1,uh.2)).1),Ii ((upA (L.map RN.a) (uh.1,uh.2)).2)] 0 rfl h fun w h=>Qu (ZG h (Gla 0 [Ii ((upA (L.map RN.a) (uh.1,uh.2)).1),Ii ((upA (L.map RN.a) (uh.1,uh.2)).2)] 0) (ZG h (Gla 0 [Ii uh.1,Ii uh.2] 3) (ZG h (Fm (n1:=(upA (L.map RN.a) (uh.1,uh.2)).1) (g1:=(upA (L.map RN.a) (uh.1,uh.2)).2) (n2:=uh.1) (g2:=uh.2) (by kernel_rfl)) (Qn (Zh ((upA (L.map RN.a) (uh.1,uh.2)).1=uh.1) ((upA (L.map RN.a) (uh.1,uh.2)).2=uh.2) (fun hc36 q37 q38=>?_) fun hc36 q40=>?_))))))))
 have hfix:upA (L.map RN.a) (uh.1,uh.2)=uh:=Prod.ext (by omega) (by omega)
 have h9:¬(K24.a.kind=2∧B8 (L.map RN.a) eq18.2 (m,f)):=fun q=>O4 (k:=ku) (by rw [← hu];exact hfix) (fun j hj=>by by_cases e:j=ku;(subst e;rw [← hu];exact hnq);exact hnoU (by omega) j (by omega)) q.2
 refine C9 (D3 (Afy rfl (D3 (Ek (Ea (F8 ?_))))))
 have hQ39:¬(K24.a.kind=2∧B8 (L.map RN.a) eq18.2 (m,f)):=h9
 refine Dt (fun j=>⟨0,j⟩) hQ39 (by kernel_rfl) [1,1,2,2,2] (by kernel_rfl) h
 have hfix:upA (L.map RN.a) (uh.1,uh.2)≠uh:=fun q=>by have q1:=congrArg Prod.fst q;have q2:=congrArg Prod.snd q;omega
 refine Kn (Ah (ZG h (Gla 0 [Ii ((upA (L.map RN.a) (uh.1,uh.2)).1),Ii ((upA (L.map RN.a) (uh.1,uh.2)).2)] 0) (ZSs [Ii ((upA (L.map RN.a) (uh.1,uh.2)).1),Ii ((upA (L.map RN.a) (uh.1,uh.2)).2)] 3 rfl h fun w h=>Cu ?_)))
 refine Cb (Ai ?_)
 refine Qs (ZG h (Gla 0 [Ii ((upA (L.map RN.a) (uh.1,uh.2)).1),Ii ((upA (L.map RN.a) (uh.1,uh.2)).2)] 3) (Qn (Ah (ZN [Ii 0,Ii 0] 34 h fun k41 w h=>ZSs [Ii ((upA (L.map RN.a) (uh.1,uh.2)).1),Ii ((upA (L.map RN.a) (uh.1,uh.2)).2)] 0 rfl h fun w h=>Cu ?_))))
 have hQ42:((upA (L.map RN.a) (uh.1,uh.2))=itU (L.map RN.a) (ku+1) (m,f)∧(K24.a.kind=2→∀ j,j<(ku+1)→itU (L.map RN.a) j (m,f)≠eq18.2))∧(rk (upA (L.map RN.a) (uh.1,uh.2)))<(rk uh):=⟨⟨by show upA (L.map RN.a) uh=upA (L.map RN.a) (itU (L.map RN.a) ku (m,f));rw [← hu],fun hk j hj=>by by_cases e:j=ku;(subst e;rw [← hu];exact hnq);exact hnoU hk j (by omega)⟩,hrk uh hfix⟩
 refine Bn (fun j=>⟨k41,(upA (L.map RN.a) (uh.1,uh.2)),(ku+1),j⟩) hQ42 (by kernel_rfl) [0,1,1,2,2,2] (by kernel_rfl) h
 have h9:¬(K24.a.kind=2∧B8 (L.map RN.a) eq18.2 (m,f)):=fun q=>absurd q.1 (by omega)
 refine C9 (D3 (Ek (Ea (F8 ?_))))
 have hQ43:¬(K24.a.kind=2∧B8 (L.map RN.a) eq18.2 (m,f)):=h9
 refine Dt (fun j=>⟨0,j⟩) hQ43 (by kernel_rfl) [1,1,1,1,1] (by kernel_rfl) h
 rintro a_ w ⟨⟨du,JM1⟩,hG,rfl,h⟩
 have h9:¬(K24.a.kind=2∧B8 (L.map RN.a) eq18.2 (m,f)):=hG
 refine Ai (Qs (ZP (Pp N10.nb) (ZP (.string nm) ?_)))
 refine ZD [1] (Ev vl L j9 N10 hx11 nm (by have:=hok.at_few hx11;omega)) h ?_;rintro v_ L_ w (⟨iq44,eq45,he46,hen47,rfl,rfl⟩|⟨hno48,rfl,rfl⟩) h
 have hfliq44:=(List.getElem?_eq_some_iff.1 he46).1
 refine ZP (Ii iq44) (Qu (ZP (Ii iq44) (ZP (.bool (decide ((iq44:Int)≥0))) (Qn ?_))))
 refine ZMd (X:=Nat×RN×(Nat→Value)) w0 E [(10,10),(20,20),(85,141)] (fun ⟨jq,Kq,JM2⟩=>[]) (fun ⟨jq,Kq,JM2⟩=>JM2) (fun ⟨jq,Kq,JM2⟩=>[rRL vl L,Rt b mst vl vt,Rh k23 eq18.2.1 eq18.2.2,Rh k2 m f,Rh k1 n g]) (fun ⟨jq,Kq,JM2⟩=>¬eq45.2=eq18.2∧L[jq]?=some Kq∧Kq.a.h=eq45.2∧¬(K24.a.kind=1∧Kq.a.kind=2)∧¬(K24.a.kind=2∧Kq.a.kind=1)∧Kq.a.es.length=0) ?_ ?_
 refine Zd ((iq44:Int)≥0) (fun hc49=>?_) fun hc49=>?_
 refine Qs (ZP (Pp b) (ZP (Pp N10.nb) (ZP (Pp N10.nb) (ZP (Pt N10.nb 6) (ZG h (Gr 6 N10.ve 0 rfl (Cc hx11 6 (by kernel_rfl))) (ZP (Ii iq44) (ZG h (Dn (k:=3) 107 iq44 rfl (by kernel_rfl) (List.getElem?_eq_some_iff.1 he46).1 0 rfl (Bo hx11)) (ZP (Pt (Dg N10.ve) (B0 N10.ve+iq44*3+1)) (ZG h (Gra (B0 N10.ve+iq44*3+1) [Ii eq45.2.1,Ii eq45.2.2] 0 rfl (rdS (Bo hx11) D0 he46 1 (by kernel_rfl))) ?_)))))))))
 obtain ⟨K50,hK51,hKh52⟩:=hent N10 (List.mem_of_getElem? hx11) eq45 (List.mem_of_getElem? he46)
 obtain ⟨jK53,hjK54⟩:=List.getElem?_of_mem hK51
 have hexy:∃ K∈L.map RN.a,K.h=eq45.2:=⟨K50.a,List.mem_map.2 ⟨K50,hK51,rfl⟩,hKh52⟩
 refine ZC [1,0] (Cr b mst vl vt L (by omega) hnod jK53 K50 hjK54 eq45.2.1 eq45.2.2 hKh52) h fun w h=>ZP (Pp K50.nb) (Qn (Aa (Aa (Ds 6 [1,1] h fun w h=>Dp 0 16 (Pp K50.nb) [1,1] h (Dp 1 17 (Pp K50.nb) [1,1] h (Dp 2 19 (Pp K50.nb) [1,1] h (Dq 3 23 [1,1] rfl h (Gra 0 [Ii K50.a.h.1,Ii K50.a.h.2] 0 rfl (Cc hjK54 0 (by kernel_rfl))) (Dq 4 15 [1,1] rfl h (Gla 0 [Ii eq18.2.1,Ii eq18.2.2] 1) (Dq (v:=.bool ((decide (K50.a.h.1=eq18.2.1))&&(decide (K50.a.h.2=eq18.2.2)))) 5 31 [1,1] rfl h (Fm (n1:=K50.a.h.1) (g1:=K50.a.h.2) (n2:=eq18.2.1) (g2:=eq18.2.2) (by kernel_rfl)) (Dd (Ai (Zh (K50.a.h.1=eq18.2.1) (K50.a.h.2=eq18.2.2) (fun hc55 q56 q57=>?_) fun hc55 q58=>?_))))))))))))
 have hyh:eq45.2=eq18.2:=hKh52.symm.trans (Prod.ext (by omega) (by omega))
 refine Qs (ZP (Ii 0) (Qr (Ar (G1 (Ar (ZR [Ii 0] [0,0] h ?_))))))
 have hT:=Mv (A:=L.map RN.a) (a:=(n,g)) (b:=(m,f)) (old:=old) (nm:=nm) (Aj hnod hx5 hh6) hkd7 (Aj hnod hx11 hh12) hkd13 hnm15 hnm16 (Bu (hok.at_nms hx5) he19 hen20) (Aj hnod hjK28 hKh26) h9 (Bu (hok.at_nms hx11) he46 hen47) hyh
 exact ⟨vl,L,by rw [hT],by rw [hT];rfl,rfl⟩
 have hyh:¬eq45.2=eq18.2:=fun q=>by have q1:=congrArg Prod.fst (hKh52.trans q);have q2:=congrArg Prod.snd (hKh52.trans q);omega
 refine Kw (ZP (Pp K24.nb) (ZP (Pp K24.nb) (ZP (Pt K24.nb 2) (ZG h (Gr 2 (Ii K24.a.kind) 1 rfl (Cc hjK28 2 (by kernel_rfl))) ?_))))
 obtain ⟨b59,hb59⟩:=nmB (decide (K24.a.kind=1))
 refine ZB hb59 (ZP (.bool b59) ?_)
 rcases Bool.eq_false_or_eq_true b59 with hc60|hc60
 subst hc60
 have q61:=hb59.symm
 have q61:=dcT q61
 refine ZP (Pp K50.nb) (ZP (Pp K50.nb) (ZP (Pt K50.nb 2) (ZG h (Gr 2 (Ii K50.a.kind) 1 rfl (Cc hjK54 2 (by kernel_rfl))) ?_)))
 obtain ⟨b62,hb62⟩:=nmB (decide (K50.a.kind=2))
 refine ZB hb62 (ZP (.bool b62) (Qn (Zi (b62) (fun hc63=>?_) fun hc63=>?_)))
 have q64:=hb62.symm.trans hc63
 have q64:=dcT q64
 refine Qs (ZP (Ii 7) (Qr (Ar (G1 (Ar (ZR [Ii 7] [0,0] h ?_))))))
 have hT:=Th (A:=L.map RN.a) (a:=(n,g)) (b:=(m,f)) (old:=old) (nm:=nm) (Aj hnod hx5 hh6) hkd7 (Aj hnod hx11 hh12) hkd13 hnm15 hnm16 (Bu (hok.at_nms hx5) he19 hen20) (Aj hnod hjK28 hKh26) h9 (Bu (hok.at_nms hx11) he46 hen47) hyh (Aj hnod hjK54 hKh52) ⟨by omega,by omega⟩
 exact ⟨vl,L,by rw [hT],by rw [hT];rfl,rfl⟩
 have q65:=hb62.symm.trans hc63
 have q65:=dcF q65
 refine Kw (ZP (Pp K24.nb) (ZP (Pp K24.nb) (ZP (Pt K24.nb 2) (ZG h (Gr 2 (Ii K24.a.kind) 1 rfl (Cc hjK28 2 (by kernel_rfl))) ?_))))
 obtain ⟨b66,hb66⟩:=nmB (decide (K24.a.kind=2))
 refine ZB hb66 (ZP (.bool b66) ?_)
 rcases Bool.eq_false_or_eq_true b66 with hc67|hc67
 subst hc67
 have q68:=hb66.symm
 have q68:=dcT q68
 refine ZP (Pp K50.nb) (ZP (Pp K50.nb) (ZP (Pt K50.nb 2) (ZG h (Gr 2 (Ii K50.a.kind) 1 rfl (Cc hjK54 2 (by kernel_rfl))) ?_)))
 obtain ⟨b69,hb69⟩:=nmB (decide (K50.a.kind=1))
 refine ZB hb69 (ZP (.bool b69) (Qn (Zi (b69) (fun hc70=>?_) fun hc70=>?_)))
 have q71:=hb69.symm.trans hc70
 have q71:=dcT q71
 refine Qs (ZP (Ii 8) (Qr (Ar (G1 (Ar (ZR [Ii 8] [0,0] h ?_))))))
 have hT:=K8 (A:=L.map RN.a) (a:=(n,g)) (b:=(m,f)) (old:=old) (nm:=nm) (Aj hnod hx5 hh6) hkd7 (Aj hnod hx11 hh12) hkd13 hnm15 hnm16 (Bu (hok.at_nms hx5) he19 hen20) (Aj hnod hjK28 hKh26) h9 (Bu (hok.at_nms hx11) he46 hen47) hyh (Aj hnod hjK54 hKh52) (by omega) ⟨by omega,by omega⟩
 exact ⟨vl,L,by rw [hT],by rw [hT];rfl,rfl⟩
 have q72:=hb69.symm.trans hc70
 have q72:=dcF q72
 refine Ks (ZP (Pp K50.nb) (ZP (Pp K50.nb) (ZP (Pt K50.nb 6) (ZG h (Gr 6 K50.ve 1 rfl (Cc hjK54 6 (by kernel_rfl))) (ZG h (Dh 107 (by kernel_rfl) 1 rfl (Bo hjK54)) (ZP (.bool (decide ((K50.a.es.length:Int)>0))) (Qn (Zd ((K50.a.es.length:Int)>0) (fun hc73=>?_) fun hc73=>?_))))))))
 refine Qs (ZP (Ii 11) (Qr (G1 (Ar (ZR [Ii 11] [0,0] h ?_)))))
 have hT:=Ho (A:=L.map RN.a) (a:=(n,g)) (b:=(m,f)) (old:=old) (nm:=nm) (Aj hnod hx5 hh6) hkd7 (Aj hnod hx11 hh12) hkd13 hnm15 hnm16 (Bu (hok.at_nms hx5) he19 hen20) (Aj hnod hjK28 hKh26) h9 (Bu (hok.at_nms hx11) he46 hen47) hyh (Aj hnod hjK54 hKh52) (by omega) (by omega) (by omega)
 exact ⟨vl,L,by rw [hT],by rw [hT];rfl,rfl⟩
 refine B6 (F8 ?_)
 have hQ74:¬eq45.2=eq18.2∧L[jK53]?=some K50∧K50.a.h=eq45.2∧¬(K24.a.kind=1∧K50.a.kind=2)∧¬(K24.a.kind=2∧K50.a.kind=1)∧K50.a.es.length=0:=⟨hyh,hjK54,hKh52,by omega,by omega,by omega⟩
 refine Dt (fun j=>⟨jK53,K50,j⟩) hQ74 (by kernel_rfl) [1,0,0,0,0] (by kernel_rfl) h
 subst hc67
 have q75:=hb66.symm
 have q75:=dcF q75
 refine Zx (Zx (Zx (Zx (Zx (ZP (.bool false) (Fs (ZP (Pp K50.nb) (ZP (Pp K50.nb) (ZP (Pt K50.nb 6) (ZG h (Gr 6 K50.ve 1 rfl (Cc hjK54 6 (by kernel_rfl))) (ZG h (Dh 107 (by kernel_rfl) 1 rfl (Bo hjK54)) (ZP (.bool (decide ((K50.a.es.length:Int)>0))) (Qn (Zd ((K50.a.es.length:Int)>0) (fun hc76=>?_) fun hc76=>?_))))))))))))))
 refine Qs (ZP (Ii 11) (Qr (G1 (Ar (ZR [Ii 11] [0,0] h ?_)))))
 have hT:=Ho (A:=L.map RN.a) (a:=(n,g)) (b:=(m,f)) (old:=old) (nm:=nm) (Aj hnod hx5 hh6) hkd7 (Aj hnod hx11 hh12) hkd13 hnm15 hnm16 (Bu (hok.at_nms hx5) he19 hen20) (Aj hnod hjK28 hKh26) h9 (Bu (hok.at_nms hx11) he46 hen47) hyh (Aj hnod hjK54 hKh52) (by omega) (by omega) (by omega)
 exact ⟨vl,L,by rw [hT],by rw [hT];rfl,rfl⟩
 refine B6 (F8 ?_)
 have hQ77:¬eq45.2=eq18.2∧L[jK53]?=some K50∧K50.a.h=eq45.2∧¬(K24.a.kind=1∧K50.a.kind=2)∧¬(K24.a.kind=2∧K50.a.kind=1)∧K50.a.es.length=0:=⟨hyh,hjK54,hKh52,by omega,by omega,by omega⟩
 refine Dt (fun j=>⟨jK53,K50,j⟩) hQ77 (by kernel_rfl) [1,0,0,0,0] (by kernel_rfl) h
 subst hc60
 have q78:=hb59.symm
 have q78:=dcF q78
 refine Zx (Zx (Zx (Zx (Zx (ZP (.bool false) (Ft (ZP (Pp K24.nb) (ZP (Pp K24.nb) (ZP (Pt K24.nb 2) (ZG h (Gr 2 (Ii K24.a.kind) 1 rfl (Cc hjK28 2 (by kernel_rfl))) ?_))))))))))
 obtain ⟨b79,hb79⟩:=nmB (decide (K24.a.kind=2))
 refine ZB hb79 (ZP (.bool b79) ?_)
 rcases Bool.eq_false_or_eq_true b79 with hc80|hc80
 subst hc80
 have q81:=hb79.symm
 have q81:=dcT q81
 refine ZP (Pp K50.nb) (ZP (Pp K50.nb) (ZP (Pt K50.nb 2) (ZG h (Gr 2 (Ii K50.a.kind) 1 rfl (Cc hjK54 2 (by kernel_rfl))) ?_)))
 obtain ⟨b82,hb82⟩:=nmB (decide (K50.a.kind=1))
 refine ZB hb82 (ZP (.bool b82) (Qn (Zi (b82) (fun hc83=>?_) fun hc83=>?_)))
 have q84:=hb82.symm.trans hc83
 have q84:=dcT q84
 refine Qs (ZP (Ii 8) (Qr (Ar (G1 (Ar (ZR [Ii 8] [0,0] h ?_))))))
 have hT:=K8 (A:=L.map RN.a) (a:=(n,g)) (b:=(m,f)) (old:=old) (nm:=nm) (Aj hnod hx5 hh6) hkd7 (Aj hnod hx11 hh12) hkd13 hnm15 hnm16 (Bu (hok.at_nms hx5) he19 hen20) (Aj hnod hjK28 hKh26) h9 (Bu (hok.at_nms hx11) he46 hen47) hyh (Aj hnod hjK54 hKh52) (by omega) ⟨by omega,by omega⟩
 exact ⟨vl,L,by rw [hT],by rw [hT];rfl,rfl⟩
 have q85:=hb82.symm.trans hc83
 have q85:=dcF q85
 refine Ks (ZP (Pp K50.nb) (ZP (Pp K50.nb) (ZP (Pt K50.nb 6) (ZG h (Gr 6 K50.ve 1 rfl (Cc hjK54 6 (by kernel_rfl))) (ZG h (Dh 107 (by kernel_rfl) 1 rfl (Bo hjK54)) (ZP (.bool (decide ((K50.a.es.length:Int)>0))) (Qn (Zd ((K50.a.es.length:Int)>0) (fun hc86=>?_) fun hc86=>?_))))))))
 refine Qs (ZP (Ii 11) (Qr (G1 (Ar (ZR [Ii 11] [0,0] h ?_)))))
 have hT:=Ho (A:=L.map RN.a) (a:=(n,g)) (b:=(m,f)) (old:=old) (nm:=nm) (Aj hnod hx5 hh6) hkd7 (Aj hnod hx11 hh12) hkd13 hnm15 hnm16 (Bu (hok.at_nms hx5) he19 hen20) (Aj hnod hjK28 hKh26) h9 (Bu (hok.at_nms hx11) he46 hen47) hyh (Aj hnod hjK54 hKh52) (by omega) (by omega) (by omega)
 exact ⟨vl,L,by rw [hT],by rw [hT];rfl,rfl⟩
 refine B6 (F8 ?_)
 have hQ87:¬eq45.2=eq18.2∧L[jK53]?=some K50∧K50.a.h=eq45.2∧¬(K24.a.kind=1∧K50.a.kind=2)∧¬(K24.a.kind=2∧K50.a.kind=1)∧K50.a.es.length=0:=⟨hyh,hjK54,hKh52,by omega,by omega,by omega⟩
 refine Dt (fun j=>⟨jK53,K50,j⟩) hQ87 (by kernel_rfl) [1,0,0,0,0] (by kernel_rfl) h
 subst hc80
 have q88:=hb79.symm
 have q88:=dcF q88
 refine Zx (Zx (Zx (Zx (Zx (ZP (.bool false) (Fs (ZP (Pp K50.nb) (ZP (Pp K50.nb) (ZP (Pt K50.nb 6) (ZG h (Gr 6 K50.ve 1 rfl (Cc hjK54 6 (by kernel_rfl))) (ZG h (Dh 107 (by kernel_rfl) 1 rfl (Bo hjK54)) (ZP (.bool (decide ((K50.a.es.length:Int)>0))) (Qn (Zd ((K50.a.es.length:Int)>0) (fun hc89=>?_) fun hc89=>?_))))))))))))))
 refine Qs (ZP (Ii 11) (Qr (G1 (Ar (ZR [Ii 11] [0,0] h ?_)))))
 have hT:=Ho (A:=L.map RN.a) (a:=(n,g)) (b:=(m,f)) (old:=old) (nm:=nm) (Aj hnod hx5 hh6) hkd7 (Aj hnod hx11 hh12) hkd13 hnm15 hnm16 (Bu (hok.at_nms hx5) he19 hen20) (Aj hnod hjK28 hKh26) h9 (Bu (hok.at_nms hx11) he46 hen47) hyh (Aj hnod hjK54 hKh52) (by omega) (by omega) (by omega)
 exact ⟨vl,L,by rw [hT],by rw [hT];rfl,rfl⟩
 refine B6 (F8 ?_)
 have hQ90:¬eq45.2=eq18.2∧L[jK53]?=some K50∧K50.a.h=eq45.2∧¬(K24.a.kind=1∧K50.a.kind=2)∧¬(K24.a.kind=2∧K50.a.kind=1)∧K50.a.es.length=0:=⟨hyh,hjK54,hKh52,by omega,by omega,by omega⟩
 refine Dt (fun j=>⟨jK53,K50,j⟩) hQ90 (by kernel_rfl) [1,0,0,0,0] (by kernel_rfl) h
 exfalso;omega
 rintro a_ w ⟨⟨jq,Kq,JM2⟩,hG,rfl,h⟩
 obtain ⟨hyh,hYx,hYh,hk12,hk21,hYe⟩:¬eq45.2=eq18.2∧L[jq]?=some Kq∧Kq.a.h=eq45.2∧¬(K24.a.kind=1∧Kq.a.kind=2)∧¬(K24.a.kind=2∧Kq.a.kind=1)∧Kq.a.es.length=0:=hG
 have hexy:∃ K∈L.map RN.a,K.h=eq45.2:=⟨Kq.a,List.mem_map.2 ⟨Kq,List.mem_of_getElem? hYx,rfl⟩,hYh⟩
 have hnyA:=Mc hx5 hYx hnod (by omega) he19
 have hnyB:=Mc hx11 hYx hnod (by omega) he46
 refine Ai (Qs ?_)
 have hrA:=hok.at_rng hx5
 have hrB:=hok.at_rng hx11
 have hneA:=W5 hx5 hx11 (fun q=>hne (hh6.symm.trans (q.trans hh12)))
 refine ZP (Pp N4.nb) (ZP (Ii iq17) ?_)
 refine ZD [0] (Fy vl L j3 N4 hx5 iq17 (by have:=hok.at_few hx5;omega) (by omega)) h ?_;rintro u92 L_ w ⟨v91,rfl⟩ h
 have hx93:=Ce (Rx N4 v91 (N4.a.es.eraseIdx iq17)) hx5
 have hx94:(L.set j3 (Rx N4 v91 (N4.a.es.eraseIdx iq17)))[j9]?=some N10:=by rw [List.getElem?_set_ne hneA];exact hx11
 have hok95:Dm ((L.set j3 (Rx N4 v91 (N4.a.es.eraseIdx iq17))).map RN.a) c:=hok.leave hx5 iq17 v91
 have hs96:(L.set j3 (Rx N4 v91 (N4.a.es.eraseIdx iq17))).map RN.a=Al ((L).map RN.a) (n,g) old:=Hi hok hx5 hh6 he19 hen20 v91
 have exo97:=F5 (N':=(Rx N4 v91 (N4.a.es.eraseIdx iq17))) hx5 rfl hexo
 have exy98:=F5 (N':=(Rx N4 v91 (N4.a.es.eraseIdx iq17))) hx5 rfl hexy
 refine Qu (ZP (Ii iq44) (ZP (.bool (decide ((iq44:Int)≥0))) (Qn (Zd ((iq44:Int)≥0) (fun hc99=>?_) fun hc99=>?_))))
 refine Qs (ZP (Pp N10.nb) (ZP (.string nm) ?_))
 refine ZD [0] (Ev vl (L.set j3 (Rx N4 v91 (N4.a.es.eraseIdx iq17))) j9 N10 hx94 nm (by have:=hok95.at_few hx94;omega)) h ?_;rintro v_ L_ w (⟨iq100,eq101,he102,hen103,rfl,rfl⟩|⟨hno104,rfl,rfl⟩) h
 have hfliq100:=(List.getElem?_eq_some_iff.1 he102).1
 have h2y:eq45=eq101:=Acx (hok.at_nms hx11) (List.mem_of_getElem? he46) (List.mem_of_getElem? he102) (hen47.trans hen103.symm)
 have hyh2:¬eq101.2=eq18.2:=h2y▸hyh
 have hYh2:Kq.a.h=eq101.2:=h2y▸hYh
 refine ZP (Ii iq100) (Qm (ZP (Pp N10.nb) (ZP (Pp N10.nb) (ZP (Pt N10.nb 6) (ZG h (Gr 6 N10.ve 0 rfl (Cc hx94 6 (by kernel_rfl))) (ZP (Ii iq100) (ZG h (Dn (k:=3) 107 iq100 rfl (by kernel_rfl) (List.getElem?_eq_some_iff.1 he102).1 0 rfl (Bo hx94)) (ZP (Pt (Dg N10.ve) (B0 N10.ve+iq100*3+1)) (ZG h (Gra (B0 N10.ve+iq100*3+1) [Ii eq101.2.1,Ii eq101.2.2] 0 rfl (rdS (Bo hx94) D0 he102 1 (by kernel_rfl))) (ZN [Ii 0,Ii 0] 34 h fun k105 w h=>ZSs [Ii eq101.2.1,Ii eq101.2.2] 0 rfl h fun w h=>Qm (ZP (Pp N10.nb) (ZP (Ii iq100) ?_))))))))))))
 refine ZD [1] (Fy vl (L.set j3 (Rx N4 v91 (N4.a.es.eraseIdx iq17))) j9 N10 hx94 iq100 (by have:=hok95.at_few hx94;omega) (by omega)) h ?_;rintro u107 L_ w ⟨v106,rfl⟩ h
 have hx108:=Ce (Rx N10 v106 (N10.a.es.eraseIdx iq100)) hx94
 have hx109:((L.set j3 (Rx N4 v91 (N4.a.es.eraseIdx iq17))).set j9 (Rx N10 v106 (N10.a.es.eraseIdx iq100)))[j3]?=some (Rx N4 v91 (N4.a.es.eraseIdx iq17)):=by rw [List.getElem?_set_ne (Ne.symm hneA)];exact hx93
 have hok110:Dm (((L.set j3 (Rx N4 v91 (N4.a.es.eraseIdx iq17))).set j9 (Rx N10 v106 (N10.a.es.eraseIdx iq100))).map RN.a) c:=hok95.leave hx94 iq100 v106
 have hs111:((L.set j3 (Rx N4 v91 (N4.a.es.eraseIdx iq17))).set j9 (Rx N10 v106 (N10.a.es.eraseIdx iq100))).map RN.a=Al ((L.set j3 (Rx N4 v91 (N4.a.es.eraseIdx iq17))).map RN.a) (m,f) nm:=Hi hok95 hx94 hh12 he102 hen103 v106
 have exo112:=F5 (N':=(Rx N10 v106 (N10.a.es.eraseIdx iq100))) hx94 rfl exo97
 have exy113:=F5 (N':=(Rx N10 v106 (N10.a.es.eraseIdx iq100))) hx94 rfl exy98
 refine Qm (ZP (Pp N10.nb) (ZP (.string nm) (ZG h (Gla 0 [Ii eq18.2.1,Ii eq18.2.2] 3) ?_)))
 refine ZD [0] (Gq vl ((L.set j3 (Rx N4 v91 (N4.a.es.eraseIdx iq17))).set j9 (Rx N10 v106 (N10.a.es.eraseIdx iq100))) j9 (Rx N10 v106 (N10.a.es.eraseIdx iq100)) hx108 nm eq18.2.1 eq18.2.2 (by have:=hok110.at_few hx108;omega)) h ?_;rintro u115 L_ w ⟨v114,rfl⟩ h
 have hx116:=Ce (Rx N10 v114 (Bi nm (eq18.2.1,eq18.2.2) (N10.a.es.eraseIdx iq100))) hx108
 have hx117:(((L.set j3 (Rx N4 v91 (N4.a.es.eraseIdx iq17))).set j9 (Rx N10 v106 (N10.a.es.eraseIdx iq100))).set j9 (Rx N10 v114 (Bi nm (eq18.2.1,eq18.2.2) (N10.a.es.eraseIdx iq100))))[j3]?=some (Rx N4 v91 (N4.a.es.eraseIdx iq17)):=by rw [List.getElem?_set_ne (Ne.symm hneA)];exact hx109
 have hok118:Dm ((((L.set j3 (Rx N4 v91 (N4.a.es.eraseIdx iq17))).set j9 (Rx N10 v106 (N10.a.es.eraseIdx iq100))).set j9 (Rx N10 v114 (Bi nm (eq18.2.1,eq18.2.2) (N10.a.es.eraseIdx iq100)))).map RN.a) c:=hok110.enter (nm:=nm) (x:=(eq18.2.1,eq18.2.2)) hx108 rfl exo112 (Uw (hok95.at_nms hx94) he102 hen103) (Pd he102 (hok95.at_few hx94))
 have hs119:(((L.set j3 (Rx N4 v91 (N4.a.es.eraseIdx iq17))).set j9 (Rx N10 v106 (N10.a.es.eraseIdx iq100))).set j9 (Rx N10 v114 (Bi nm (eq18.2.1,eq18.2.2) (N10.a.es.eraseIdx iq100)))).map RN.a=Ax (((L.set j3 (Rx N4 v91 (N4.a.es.eraseIdx iq17))).set j9 (Rx N10 v106 (N10.a.es.eraseIdx iq100))).map RN.a) (m,f) nm (eq18.2.1,eq18.2.2):=C7 hok110.hnod hx108 hh12 rfl
 have exo120:=F5 (N':=(Rx N10 v114 (Bi nm (eq18.2.1,eq18.2.2) (N10.a.es.eraseIdx iq100)))) hx108 rfl exo112
 have exy121:=F5 (N':=(Rx N10 v114 (Bi nm (eq18.2.1,eq18.2.2) (N10.a.es.eraseIdx iq100)))) hx108 rfl exy113
 refine Qn (Ah (ZP (Pp b) (ZG h (Gla 0 [Ii eq101.2.1,Ii eq101.2.2] 1) ?_)))
 obtain ⟨jy126,Ky127,hxy128,hhy129⟩:=Af5 (x:=eq101.2) (h2y▸exy121)
 refine ZD [2,0] (Lu b mst vl vt (((L.set j3 (Rx N4 v91 (N4.a.es.eraseIdx iq17))).set j9 (Rx N10 v106 (N10.a.es.eraseIdx iq100))).set j9 (Rx N10 v114 (Bi nm (eq18.2.1,eq18.2.2) (N10.a.es.eraseIdx iq100)))) c (by omega) hok118 jy126 Ky127 hxy128 eq101.2.1 eq101.2.2 hhy129) h ?_;rintro u123 L_ w ⟨v122,L124,hA125,hA125K,rfl⟩ h
 have hnL130:=Ui hA125 hok118
 obtain ⟨jz131,hz132⟩:=List.getElem?_of_mem (hA125K (Rx N4 v91 (N4.a.es.eraseIdx iq17)) (List.mem_of_getElem? hx117) (by exact hkd7) (fun q=>hnyA (q.trans hYh2.symm)))
 obtain ⟨jz133,hz134⟩:=List.getElem?_of_mem (hA125K (Rx N10 v114 (Bi nm (eq18.2.1,eq18.2.2) (N10.a.es.eraseIdx iq100))) (List.mem_of_getElem? hx116) (by exact hkd13) (fun q=>hnyB (q.trans hYh2.symm)))
 have hneZ:=W5 hz132 hz134 (fun q=>hne (hh6.symm.trans (q.trans hh12)))
 refine Qm (ZP (Pp N4.nb) (ZP (Pp N4.nb) (ZP (Pt N4.nb 3) (ZG h (Gr 3 (Ii N4.a.change) 1 rfl (Cc hz132 3 (by kernel_rfl))) (ZG h (Gw (N4.a.change+1)) (ZP (Pp N4.nb) (ZP (Pt N4.nb 3) ?_)))))))
 refine Fc rfl (b:=N4.nb) 3 [Ii (N4.a.change+1)] h 1 rfl (by kernel_rfl) (L3 hz132 3 [Ii (N4.a.change+1)] (Rw N4 v91 (N4.a.change+1) (N4.a.es.eraseIdx iq17)) (Nat.le_of_ble_eq_true (by kernel_rfl)) (by kernel_rfl) rfl rfl rfl rfl rfl) ?_;intro w h
 have hx135:=Ce (Rw N4 v91 (N4.a.change+1) (N4.a.es.eraseIdx iq17)) hz132
 have hx136:(L124.set jz131 (Rw N4 v91 (N4.a.change+1) (N4.a.es.eraseIdx iq17)))[jz133]?=some (Rx N10 v114 (Bi nm (eq18.2.1,eq18.2.2) (N10.a.es.eraseIdx iq100))):=by rw [List.getElem?_set_ne hneZ];exact hz134
 refine Qu (ZG h (Gla 0 [Ii n,Ii g] 5) (ZG h (Gla 0 [Ii m,Ii f] 4) (ZG h (Ez (n1:=n) (g1:=g) (n2:=m) (g2:=f) (by kernel_rfl)) (Qn (Zi (!((decide (n=m))&&(decide (g=f)))) (fun hc137=>?_) fun hc137=>?_)))))
 have q138:=nT hc137
 have q139:=ndA q138
 refine Ah (ZP (Pp N10.nb) (ZP (Pp N10.nb) (ZP (Pt N10.nb 3) (ZG h (Gr 3 (Ii N10.a.change) 1 rfl (Cc hx136 3 (by kernel_rfl))) (ZG h (Gw (N10.a.change+1)) (ZP (Pp N10.nb) (ZP (Pt N10.nb 3) ?_)))))))
 refine Fc rfl (b:=N10.nb) 3 [Ii (N10.a.change+1)] h 1 rfl (by kernel_rfl) (L3 hx136 3 [Ii (N10.a.change+1)] (Rw N10 v114 (N10.a.change+1) (Bi nm (eq18.2.1,eq18.2.2) (N10.a.es.eraseIdx iq100))) (Nat.le_of_ble_eq_true (by kernel_rfl)) (by kernel_rfl) rfl rfl rfl rfl rfl) ?_;intro w h
 have hx140:=Ce (Rw N10 v114 (N10.a.change+1) (Bi nm (eq18.2.1,eq18.2.2) (N10.a.es.eraseIdx iq100))) hx136
 have hx141:((L124.set jz131 (Rw N4 v91 (N4.a.change+1) (N4.a.es.eraseIdx iq17))).set jz133 (Rw N10 v114 (N10.a.change+1) (Bi nm (eq18.2.1,eq18.2.2) (N10.a.es.eraseIdx iq100))))[jz131]?=some (Rw N4 v91 (N4.a.change+1) (N4.a.es.eraseIdx iq17)):=by rw [List.getElem?_set_ne (Ne.symm hneZ)];exact hx135
 refine Qm (ZP (Ii 0) (Qr (ZR [Ii 0] [0,0] h ?_)))
 have hT:=Mr (A:=L.map RN.a) (a:=(n,g)) (b:=(m,f)) (old:=old) (nm:=nm) (Aj hnod hx5 hh6) hkd7 (Aj hnod hx11 hh12) hkd13 hnm15 hnm16 (Bu (hok.at_nms hx5) he19 hen20) (Aj hnod hjK28 hKh26) h9 (h2y▸(Bu (hok.at_nms hx11) he46 hen47)) hyh2 (Aj hnod hYx hYh2) (by omega) (by omega) (by omega)
 have hT1:((L124).set jz131 (Rw N4 v91 (N4.a.change+1) (N4.a.es.eraseIdx iq17))).map RN.a=Ap ((L124).map RN.a) (n,g):=C7 hnL130 hz132 hh6 rfl
 have hxB1:((L124).set jz131 (Rw N4 v91 (N4.a.change+1) (N4.a.es.eraseIdx iq17)))[jz133]?=some (Rx N10 v114 (Bi nm (eq18.2.1,eq18.2.2) (N10.a.es.eraseIdx iq100))):=by rw [List.getElem?_set_ne hneZ];exact hz134
 have hT2:(((L124).set jz131 (Rw N4 v91 (N4.a.change+1) (N4.a.es.eraseIdx iq17))).set jz133 (Rw N10 v114 (N10.a.change+1) (Bi nm (eq18.2.1,eq18.2.2) (N10.a.es.eraseIdx iq100)))).map RN.a=Ap (((L124).set jz131 (Rw N4 v91 (N4.a.change+1) (N4.a.es.eraseIdx iq17))).map RN.a) (m,f):=C7 (Lf hnL130 hz132 (N':=(Rw N4 v91 (N4.a.change+1) (N4.a.es.eraseIdx iq17))) rfl) hxB1 hh12 rfl
 refine ⟨v122,((L124).set jz131 (Rw N4 v91 (N4.a.change+1) (N4.a.es.eraseIdx iq17))).set jz133 (Rw N10 v114 (N10.a.change+1) (Bi nm (eq18.2.1,eq18.2.2) (N10.a.es.eraseIdx iq100))),?_,by rw [hT];rfl,rfl⟩
 rw [hT,hT2,hT1,hA125,hs119,hs111,hs96]
 exact (Jj (L.map RN.a) hne old nm eq18.2 (some eq101.2)).symm
 have q142:=nF hc137
 have q143:=aL q142
 have q144:=aR q142
 have q143:=dcT q143
 have q144:=dcT q144
 exfalso;exact hne (Prod.ext (by omega) (by omega))
 exact absurd hen47 (hno104 eq45 (List.mem_of_getElem? he46))
 exfalso;omega
 refine ZP (Ii (-1)) (Qu (ZP (Ii (-1)) (ZP (.bool false) (Qn ?_))))
 refine ZMd (X:=Nat×RN×(Nat→Value)) w0 E [(10,10),(20,20),(85,141)] (fun ⟨jq,Kq,JM3⟩=>[]) (fun ⟨jq,Kq,JM3⟩=>JM3) (fun ⟨jq,Kq,JM3⟩=>[rRL vl L,Rt b mst vl vt,Rh k23 eq18.2.1 eq18.2.2,Rh k2 m f,Rh k1 n g]) (fun ⟨jq,Kq,JM3⟩=>N10.a.es.length<60) ?_ ?_
 refine Zf (Qs (ZP (Pp N10.nb) (ZP (Pp N10.nb) (ZP (Pt N10.nb 6) (ZG h (Gr 6 N10.ve 0 rfl (Cc hx11 6 (by kernel_rfl))) (ZG h (Dh 107 (by kernel_rfl) 0 rfl (Bo hx11)) ?_))))))
 obtain ⟨b145,hb145⟩:=nmB (decide ((N10.a.es.length:Int)≥60))
 refine ZB hb145 (ZP (.bool b145) ?_)
 rcases Bool.eq_false_or_eq_true b145 with hc146|hc146
 subst hc146
 have q147:=hb145.symm
 have q147:=dcT q147
 refine ZG h (Gla 0 [Ii n,Ii g] 4) (ZG h (Gla 0 [Ii m,Ii f] 3) ?_)
 obtain ⟨b148,hb148⟩:=nmB (!((decide (n=m))&&(decide (g=f))))
 refine Kc (v:=.bool b148) (by kernel_rfl) h (by subst hb148;exact Ez (n1:=n) (g1:=g) (n2:=m) (g2:=f) (by kernel_rfl)) ?_
 refine ZP (.bool b148) (Qn (Zi (b148) (fun hc149=>?_) fun hc149=>?_))
 have q150:=hb148.symm.trans hc149
 have q151:=nT q150
 have q152:=ndA q151
 refine Qs (ZP (Ii 9) (Qr (G1 (Ar (ZR [Ii 9] [1,0] h ?_)))))
 have hT:=Oe (A:=L.map RN.a) (a:=(n,g)) (b:=(m,f)) (old:=old) (nm:=nm) (Aj hnod hx5 hh6) hkd7 (Aj hnod hx11 hh12) hkd13 hnm15 hnm16 (Bu (hok.at_nms hx5) he19 hen20) (Aj hnod hjK28 hKh26) h9 (Gb hno48) ⟨by omega,hne⟩
 exact ⟨vl,L,by rw [hT],by rw [hT];rfl,rfl⟩
 have q153:=hb148.symm.trans hc149
 have q154:=nF q153
 have q155:=aL q154
 have q156:=aR q154
 have q155:=dcT q155
 have q156:=dcT q156
 exfalso;exact hne (Prod.ext (by omega) (by omega))
 subst hc146
 have q157:=hb145.symm
 have q157:=dcF q157
 refine Zx (Zx (Zx (ZP (.bool false) (Qf (B6 (F8 ?_))))))
 have hQ158:N10.a.es.length<60:=(by omega)
 refine Dt (fun j=>⟨0,N4,j⟩) hQ158 (by kernel_rfl) [0,0,0,0,0] (by kernel_rfl) h
 rintro a_ w ⟨⟨jq,Kq,JM3⟩,hG,rfl,h⟩
 have hfew:N10.a.es.length<60:=hG
 refine Ai (Qs ?_)
 have hrA:=hok.at_rng hx5
 have hrB:=hok.at_rng hx11
 have hneA:=W5 hx5 hx11 (fun q=>hne (hh6.symm.trans (q.trans hh12)))
 refine ZP (Pp N4.nb) (ZP (Ii iq17) ?_)
 refine ZD [0] (Fy vl L j3 N4 hx5 iq17 (by have:=hok.at_few hx5;omega) (by omega)) h ?_;rintro u160 L_ w ⟨v159,rfl⟩ h
 have hx161:=Ce (Rx N4 v159 (N4.a.es.eraseIdx iq17)) hx5
 have hx162:(L.set j3 (Rx N4 v159 (N4.a.es.eraseIdx iq17)))[j9]?=some N10:=by rw [List.getElem?_set_ne hneA];exact hx11
 have hok163:Dm ((L.set j3 (Rx N4 v159 (N4.a.es.eraseIdx iq17))).map RN.a) c:=hok.leave hx5 iq17 v159
 have hs164:(L.set j3 (Rx N4 v159 (N4.a.es.eraseIdx iq17))).map RN.a=Al ((L).map RN.a) (n,g) old:=Hi hok hx5 hh6 he19 hen20 v159
 have exo165:=F5 (N':=(Rx N4 v159 (N4.a.es.eraseIdx iq17))) hx5 rfl hexo
 refine Qu (ZP (Ii (-1)) (ZP (.bool false) (Qf (Ah (ZP (Pp N10.nb) (ZP (.string nm) (ZG h (Gla 0 [Ii eq18.2.1,Ii eq18.2.2] 2) ?_)))))))
 refine ZD [0] (Gq vl (L.set j3 (Rx N4 v159 (N4.a.es.eraseIdx iq17))) j9 N10 hx162 nm eq18.2.1 eq18.2.2 (by have:=hok163.at_few hx162;omega)) h ?_;rintro u167 L_ w ⟨v166,rfl⟩ h
 have hx168:=Ce (Rx N10 v166 (Bi nm (eq18.2.1,eq18.2.2) N10.a.es)) hx162
 have hx169:((L.set j3 (Rx N4 v159 (N4.a.es.eraseIdx iq17))).set j9 (Rx N10 v166 (Bi nm (eq18.2.1,eq18.2.2) N10.a.es)))[j3]?=some (Rx N4 v159 (N4.a.es.eraseIdx iq17)):=by rw [List.getElem?_set_ne (Ne.symm hneA)];exact hx161
 have hok170:Dm (((L.set j3 (Rx N4 v159 (N4.a.es.eraseIdx iq17))).set j9 (Rx N10 v166 (Bi nm (eq18.2.1,eq18.2.2) N10.a.es))).map RN.a) c:=hok163.enter (nm:=nm) (x:=(eq18.2.1,eq18.2.2)) hx162 rfl exo165 hno48 (by omega)
 have hs171:((L.set j3 (Rx N4 v159 (N4.a.es.eraseIdx iq17))).set j9 (Rx N10 v166 (Bi nm (eq18.2.1,eq18.2.2) N10.a.es))).map RN.a=Ax ((L.set j3 (Rx N4 v159 (N4.a.es.eraseIdx iq17))).map RN.a) (m,f) nm (eq18.2.1,eq18.2.2):=C7 hok163.hnod hx162 hh12 rfl
 have exo172:=F5 (N':=(Rx N10 v166 (Bi nm (eq18.2.1,eq18.2.2) N10.a.es))) hx162 rfl exo165
 refine Qm (ZP (Pp N4.nb) (ZP (Pp N4.nb) (ZP (Pt N4.nb 3) (ZG h (Gr 3 (Ii N4.a.change) 0 rfl (Cc hx169 3 (by kernel_rfl))) (ZG h (Gw (N4.a.change+1)) (ZP (Pp N4.nb) (ZP (Pt N4.nb 3) ?_)))))))
 refine Fc rfl (b:=N4.nb) 3 [Ii (N4.a.change+1)] h 0 rfl (by kernel_rfl) (L3 hx169 3 [Ii (N4.a.change+1)] (Rw N4 v159 (N4.a.change+1) (N4.a.es.eraseIdx iq17)) (Nat.le_of_ble_eq_true (by kernel_rfl)) (by kernel_rfl) rfl rfl rfl rfl rfl) ?_;intro w h
 have hx173:=Ce (Rw N4 v159 (N4.a.change+1) (N4.a.es.eraseIdx iq17)) hx169
 have hx174:(((L.set j3 (Rx N4 v159 (N4.a.es.eraseIdx iq17))).set j9 (Rx N10 v166 (Bi nm (eq18.2.1,eq18.2.2) N10.a.es))).set j3 (Rw N4 v159 (N4.a.change+1) (N4.a.es.eraseIdx iq17)))[j9]?=some (Rx N10 v166 (Bi nm (eq18.2.1,eq18.2.2) N10.a.es)):=by rw [List.getElem?_set_ne hneA];exact hx168
 refine Qu (ZG h (Gla 0 [Ii n,Ii g] 4) (ZG h (Gla 0 [Ii m,Ii f] 3) (ZG h (Ez (n1:=n) (g1:=g) (n2:=m) (g2:=f) (by kernel_rfl)) (Qn (Zi (!((decide (n=m))&&(decide (g=f)))) (fun hc175=>?_) fun hc175=>?_)))))
 have q176:=nT hc175
 have q177:=ndA q176
 refine Ah (ZP (Pp N10.nb) (ZP (Pp N10.nb) (ZP (Pt N10.nb 3) (ZG h (Gr 3 (Ii N10.a.change) 0 rfl (Cc hx174 3 (by kernel_rfl))) (ZG h (Gw (N10.a.change+1)) (ZP (Pp N10.nb) (ZP (Pt N10.nb 3) ?_)))))))
 refine Fc rfl (b:=N10.nb) 3 [Ii (N10.a.change+1)] h 0 rfl (by kernel_rfl) (L3 hx174 3 [Ii (N10.a.change+1)] (Rw N10 v166 (N10.a.change+1) (Bi nm (eq18.2.1,eq18.2.2) N10.a.es)) (Nat.le_of_ble_eq_true (by kernel_rfl)) (by kernel_rfl) rfl rfl rfl rfl rfl) ?_;intro w h
 have hx178:=Ce (Rw N10 v166 (N10.a.change+1) (Bi nm (eq18.2.1,eq18.2.2) N10.a.es)) hx174
 have hx179:((((L.set j3 (Rx N4 v159 (N4.a.es.eraseIdx iq17))).set j9 (Rx N10 v166 (Bi nm (eq18.2.1,eq18.2.2) N10.a.es))).set j3 (Rw N4 v159 (N4.a.change+1) (N4.a.es.eraseIdx iq17))).set j9 (Rw N10 v166 (N10.a.change+1) (Bi nm (eq18.2.1,eq18.2.2) N10.a.es)))[j3]?=some (Rw N4 v159 (N4.a.change+1) (N4.a.es.eraseIdx iq17)):=by rw [List.getElem?_set_ne (Ne.symm hneA)];exact hx173
 refine Qm (ZP (Ii 0) (Qr (ZR [Ii 0] [1,0] h ?_)))
 have hT:=Lw (A:=L.map RN.a) (a:=(n,g)) (b:=(m,f)) (old:=old) (nm:=nm) (Aj hnod hx5 hh6) hkd7 (Aj hnod hx11 hh12) hkd13 hnm15 hnm16 (Bu (hok.at_nms hx5) he19 hen20) (Aj hnod hjK28 hKh26) h9 (Gb hno48) (fun q=>absurd q.1 (by omega))
 have hT1:(((L.set j3 (Rx N4 v159 (N4.a.es.eraseIdx iq17))).set j9 (Rx N10 v166 (Bi nm (eq18.2.1,eq18.2.2) N10.a.es))).set j3 (Rw N4 v159 (N4.a.change+1) (N4.a.es.eraseIdx iq17))).map RN.a=Ap (((L.set j3 (Rx N4 v159 (N4.a.es.eraseIdx iq17))).set j9 (Rx N10 v166 (Bi nm (eq18.2.1,eq18.2.2) N10.a.es))).map RN.a) (n,g):=C7 hok170.hnod hx169 hh6 rfl
 have hxB1:(((L.set j3 (Rx N4 v159 (N4.a.es.eraseIdx iq17))).set j9 (Rx N10 v166 (Bi nm (eq18.2.1,eq18.2.2) N10.a.es))).set j3 (Rw N4 v159 (N4.a.change+1) (N4.a.es.eraseIdx iq17)))[j9]?=some (Rx N10 v166 (Bi nm (eq18.2.1,eq18.2.2) N10.a.es)):=by rw [List.getElem?_set_ne hneA];exact hx168
 have hT2:((((L.set j3 (Rx N4 v159 (N4.a.es.eraseIdx iq17))).set j9 (Rx N10 v166 (Bi nm (eq18.2.1,eq18.2.2) N10.a.es))).set j3 (Rw N4 v159 (N4.a.change+1) (N4.a.es.eraseIdx iq17))).set j9 (Rw N10 v166 (N10.a.change+1) (Bi nm (eq18.2.1,eq18.2.2) N10.a.es))).map RN.a=Ap ((((L.set j3 (Rx N4 v159 (N4.a.es.eraseIdx iq17))).set j9 (Rx N10 v166 (Bi nm (eq18.2.1,eq18.2.2) N10.a.es))).set j3 (Rw N4 v159 (N4.a.change+1) (N4.a.es.eraseIdx iq17))).map RN.a) (m,f):=C7 (Lf hok170.hnod hx169 (N':=(Rw N4 v159 (N4.a.change+1) (N4.a.es.eraseIdx iq17))) rfl) hxB1 hh12 rfl
 refine ⟨vl,(((L.set j3 (Rx N4 v159 (N4.a.es.eraseIdx iq17))).set j9 (Rx N10 v166 (Bi nm (eq18.2.1,eq18.2.2) N10.a.es))).set j3 (Rw N4 v159 (N4.a.change+1) (N4.a.es.eraseIdx iq17))).set j9 (Rw N10 v166 (N10.a.change+1) (Bi nm (eq18.2.1,eq18.2.2) N10.a.es)),?_,by rw [hT];rfl,rfl⟩
 rw [hT,hT2,hT1,hs171,hs164]
 exact (Jj (L.map RN.a) hne old nm eq18.2 none).symm
 have q180:=nF hc175
 have q181:=aL q180
 have q182:=aR q180
 have q181:=dcT q181
 have q182:=dcT q182
 exfalso;exact hne (Prod.ext (by omega) (by omega))
 refine ZP (Ii (-1)) (Qu (ZP (Ii (-1)) (ZP (.bool true) (Qg (Qs (ZP (Ii 5) (Qr (Ar (ZR [Ii 5] [1,0] h ?_)))))))))
 have hT:=Og (A:=L.map RN.a) (a:=(n,g)) (b:=(m,f)) (old:=old) (nm:=nm) (Aj hnod hx5 hh6) hkd7 (Aj hnod hx11 hh12) hkd13 hnm15 hnm16 (Gb hno21)
 exact ⟨vl,L,by rw [hT],by rw [hT];rfl,rfl⟩
 refine ZP (Ii 4) (Qu (ZP (Ii 4) (ZP (.bool true) (Qg (Qs (ZP (Ii 4) (ZP (Ii 4) (Qr (Ar (ZR [Ii 4] [0,0] h ?_))))))))))
 have hT:=Xx (A:=L.map RN.a) (a:=(n,g)) (b:=(m,f)) (old:=old) (nm:=nm) (Aj hnod hx5 hh6) hkd7 (Aj hnod hx11 hh12) hkd13 hnm15 hnm16
 exact ⟨vl,L,by rw [hT],by rw [hT];rfl,rfl⟩
 refine ZP (Ii 4) (Qu (ZP (Ii 4) (ZP (.bool false) (Ft (ZP (Ii 4) (ZP (.bool true) (Qg (Qs (ZP (Ii 4) (ZP (Ii 4) (Qr (Ar (ZR [Ii 4] [0,0] h ?_)))))))))))))
 have hT:=Sa (A:=L.map RN.a) (a:=(n,g)) (b:=(m,f)) (old:=old) (nm:=nm) (Aj hnod hx5 hh6) hkd7 (Aj hnod hx11 hh12) hkd13 hnm15
 exact ⟨vl,L,by rw [hT],by rw [hT];rfl,rfl⟩
section
variable {most:Nat} {ps:List (Option Nat)} {gs:List Int} {l:List (Option ND)} {ds:List DN} {pn:List ((Int×Int)×Int)} {A:List AN} {ts:List Int}
theorem StA.be {B:List AN} {fh:Hdl} {X:AN} (st:StA most ps gs l ds pn A B ts fh X) {T:AN} (hT:T∈B) (hk:T.kind=2) {f:Bj} (hf:f∈T.es) (hXT:X.h≠T.h):∃ lz',TI0 most ts lz' (Ax (Al B T.h f.1) T.h f.1 X.h):=by
  obtain ⟨lz,b,hz⟩:=st.ti
  have b1:=b.leave hT hk hf (fun h=>lz h+if f.2=h then 1 else 0) (fun _ _ _=>rfl)
  have hlt:=lv_lt (b.nms T hT) hf
  have hfew:=b.few T hT
  refine ⟨fun h=>(lz h+if f.2=h then 1 else 0) - (if X.h=h then 1 else 0),b1.enter (D5 hT f.1) (Ca st.xm hXT) hk (Pw T f.1) (by omega) (fun k1=>?_) _ fun M hM k2=>?_⟩
  · have:=Do b.nod hT (b.nms T hT) hf X.h
    have:=st.x8 k1
    omega
  · obtain ⟨K,hK,e1,e2⟩:∃ K∈B,K.h=M.h∧K.kind=2:=by
      obtain ⟨K,hK,rfl⟩:=B4 hM
      refine ⟨K,hK,?_⟩
      by_cases c:K.h=T.h
      · rw [if_pos c] at k2 ⊢;exact ⟨rfl,k2⟩
      · rw [if_neg c] at k2 ⊢;exact ⟨rfl,k2⟩
    have:=hz K hK e2
    rw [e1] at this
    show (lz M.h+(if f.2=M.h then 1 else 0)) - (if X.h=M.h then 1 else 0)+(if X.h=M.h then 1 else 0)=_
    rw [this];omega
section
variable (s:Sim most ps gs l ds pn A ts) (t:TI most ts A) {F X:AN} (hF:F∈A) (hX:X∈A) (hkF:F.kind=2) {e:Bj} (he:e∈F.es) (hx:e.2=X.h) (hXF:X.h≠F.h) {ka kx ja:Nat} {Na Nx:ND} {da:DN} (hla:l[ka]?=some (some Na)) (hFh:F.h=((ka:Int),Aw ts ka - 1)) (hlx:l[kx]?=some (some Nx)) (hXh:X.h=((kx:Int),Aw ts kx - 1)) (hja:ds[ja]?=some da) (hda:da.h=F.h) (hrx:NdR A Nx X)
include s t hF hX hkF he hx hXF hla hFh hlx hXh hja hda hrx
theorem Sim.upX (k2:X.kind=2):F.h=(Nx.upn,Nx.upg):=by
  obtain ⟨_,u1,u2⟩:=hrx.dird k2
  rw [u1,u2]
  exact (Ng (t.base.lnk_dir hX k2) hF he hx).symm
theorem Sim.mvSN {nm:ByteArray} (hno:∀ e∈F.es,e.1≠nm):Sim most ps gs (l.set ka (some (Ae Na))) (ds.set ja { da with es:=Ay (Ak da.es e.1) nm X.h }) pn (Eu A F.h e.1 F.h nm X.h none) ts:=by
  have st:=s.stA t hF hX hkF he hx hXF hja hda
  obtain ⟨lz,b,_⟩:=st.ti
  have h:=st.sd.finS b (D5 hF e.1) st.xm hkF hXF hla hFh hlx hXh (C0 (Cz hja)) hda (nm:=nm) (fun e' he'=>hno e' (Ag0 F e.1 e' he')) (fun _=>rfl) (fun _ q=>q) (s.upX t hF hX hkF he hx hXF hla hFh hlx hXh hja hda hrx) st.x0
  rw [List.set_set] at h
  rw [Lb];exact h
section
variable {Y:AN} (hY:Y∈A) (hYX:Y.h≠X.h) {ky:Nat} (hYh:Y.h=((ky:Int),Aw ts ky - 1)) {f:Bj} (hfy:f.2=Y.h)
include hY hYX hYh hfy
section
variable (hf:f∈F.es) (hYF:Y.h≠F.h)
include hf hYF
theorem Sim.fe:f.1≠e.1:=fun q=>by
  have:e=f:=by
    have hn:=t.base.nms F hF
    obtain ⟨i,hi⟩:=List.getElem?_of_mem he
    obtain ⟨j,hj⟩:=List.getElem?_of_mem hf
    have:=Vo hn hi hj q.symm
    subst this;rw [hi] at hj;exact Option.some.inj hj
  exact hYX (by rw [← hfy,← this,hx])
theorem Sim.mvSD (hky:Y.kind=2) (hes:Y.es=[]) {j2:Nat} (hj2:(((ds.set ja { da with es:=Ak da.es e.1 }).set ja { da with es:=Ak (Ak da.es e.1) f.1 }).filter fun d=>!(d.h==Y.h))[j2]?=some { da with es:=Ak (Ak da.es e.1) f.1 }) :
    Sim most (ps.set ky none) gs (((l.set ky none).set ka (some (Ao Na (-1)))).set ka (some (Ae (Ao Na (-1))))) ((((ds.set ja { da with es:=Ak da.es e.1 }).set ja { da with es:=Ak (Ak da.es e.1) f.1 }).filter fun d=>!(d.h==Y.h)).set j2 { da with es:=Ay (Ak (Ak da.es e.1) f.1) f.1 X.h }) pn (Eu A F.h e.1 F.h f.1 X.h (some Y.h)) ts:=by
  have hfe:=s.fe t hF hX hkF he hx hXF hla hFh hlx hXh hja hda hrx hY hYX hYh hfy hf hYF
  have st:=s.stA t hF hX hkF he hx hXF hja hda
  have hf1:f∈(lv F e.1).es:=List.mem_filter.2 ⟨hf,by simpa using hfe⟩
  have hyx:ky≠kx:=fun q=>hYX (by rw [hYh,hXh,q])
  have hxa:kx≠ka:=fun q=>hXF (by rw [hXh,hFh,q])
  obtain ⟨st1,hq⟩:=st.overD (T:=lv F e.1) (D5 hF e.1) hkF (Ca hY hYF) hYX hYF hf1 hfy (C0 (Cz hja)) hda hXF hYh hky hes (k:=ka) (N:=Na) hla hFh
  obtain ⟨lz,b,_⟩:=st1.ti
  have h:=st1.sd.finS b (T:=lv (lv F e.1) f.1) (Kb (D5 (D5 hF e.1) f.1) (fun q=>hYF q.symm)) st1.xm hkF hXF (C0 (by simp;exact Cz hla)) hFh (A3 (A3 hlx hyx) hxa.symm) hXh hj2 hda (Pw (lv F e.1) f.1) (fun _=>rfl) (fun _ q=>q) (s.upX t hF hX hkF he hx hXF hla hFh hlx hXh hja hda hrx) st1.x0
  rw [Lb]
  have hq1:=hq f.1
  show Sim _ _ _ _ _ _ (Ap (C5 (Ax (Al (Al A F.h e.1) F.h f.1) F.h f.1 X.h) Y.h) F.h) _
  have hq2:C5 (Ax (Al (Al A F.h e.1) F.h f.1) F.h f.1 X.h) Y.h=Ax (Ex (Al (Al A F.h e.1) F.h f.1) Y.h) F.h f.1 X.h:=hq1
  rw [hq2]
  exact h
section
variable (hky:Y.kind=1) {Ny:ND} (hly:l[ky]?=some (some Ny)) (hry:NdR A Ny Y)
include hky hly hry
theorem Sim.lnkY:Be (Al A F.h e.1) Y.h=Be A Y.h:=by
  have:=Do t.base.nod hF (t.base.nms F hF) he Y.h
  rw [if_neg (show ¬e.2=Y.h from fun q=>hYX (by rw [← q,hx]))] at this
  omega
theorem Sim.mvSF (h0:¬(Ny.links+-1=0∧(Af pn Y.h).getD 0=0)) :
    Sim most ps gs (((l.set ky (some (Ao Ny (-1)))).set ky (some (Ae (Ao Ny (-1))))).set ka (some (Ae Na))) ((ds.set ja { da with es:=Ak da.es e.1 }).set ja { da with es:=Ay (Ak (Ak da.es e.1) f.1) f.1 X.h }) pn (Eu A F.h e.1 F.h f.1 X.h (some Y.h)) ts:=by
  have hfe:=s.fe t hF hX hkF he hx hXF hla hFh hlx hXh hja hda hrx hY hYX hYh hfy hf hYF
  have hlY:=s.lnkY t hF hX hkF he hx hXF hla hFh hlx hXh hja hda hrx hY hYX hYh hfy hf hYF hky hly hry
  have st:=s.stA t hF hX hkF he hx hXF hja hda
  have hf1:f∈(lv F e.1).es:=List.mem_filter.2 ⟨hf,by simpa using hfe⟩
  have hyx:ky≠kx:=fun q=>hYX (by rw [hYh,hXh,q])
  have hya:ky≠ka:=fun q=>hYF (by rw [hYh,hFh,q])
  obtain ⟨st1,hq⟩:=st.overF (T:=lv F e.1) (D5 hF e.1) hkF (Ca hY hYF) hYX hYF hf1 hfy (C0 (Cz hja)) hda hXF hYh hky hly hry hY hlY (s.pin_ t hY hky) h0
  obtain ⟨lz,b,_⟩:=st1.ti
  have h:=st1.sd.finS b (T:=lv (lv F e.1) f.1) (Ca (D5 (D5 hF e.1) f.1) (fun q=>hYF q.symm)) st1.xm hkF hXF (A3 (A3 hla hya) hya) hFh (A3 (A3 hlx hyx) hyx) hXh (C0 (by simp;exact Cz hja)) hda (Pw (lv F e.1) f.1) (fun _=>rfl) (fun _ q=>q) (s.upX t hF hX hkF he hx hXF hla hFh hlx hXh hja hda hrx) st1.x0
  rw [Lb]
  have hq1:=hq f.1 (st.be (T:=lv F e.1) (D5 hF e.1) hkF hf1 hXF)
  show Sim _ _ _ _ _ _ (Ap (C5 (Ax (Al (Al A F.h e.1) F.h f.1) F.h f.1 X.h) Y.h) F.h) _
  have hq2:C5 (Ax (Al (Al A F.h e.1) F.h f.1) F.h f.1 X.h) Y.h=Ax (Ap (Al (Al A F.h e.1) F.h f.1) Y.h) F.h f.1 X.h:=hq1
  rw [hq2]
  simp only [List.set_set] at h ⊢
  exact h
theorem Sim.mvSG (h0:Ny.links+-1=0∧(Af pn Y.h).getD 0=0) :
    Sim most (ps.set ky none) gs ((((l.set ky (some (Ao Ny (-1)))).set ky (some (Ae (Ao Ny (-1))))).set ky none).set ka (some (Ae Na))) ((ds.set ja { da with es:=Ak da.es e.1 }).set ja { da with es:=Ay (Ak (Ak da.es e.1) f.1) f.1 X.h }) pn (Eu A F.h e.1 F.h f.1 X.h (some Y.h)) ts:=by
  have hfe:=s.fe t hF hX hkF he hx hXF hla hFh hlx hXh hja hda hrx hY hYX hYh hfy hf hYF
  have hlY:=s.lnkY t hF hX hkF he hx hXF hla hFh hlx hXh hja hda hrx hY hYX hYh hfy hf hYF hky hly hry
  have st:=s.stA t hF hX hkF he hx hXF hja hda
  have hf1:f∈(lv F e.1).es:=List.mem_filter.2 ⟨hf,by simpa using hfe⟩
  have hyx:ky≠kx:=fun q=>hYX (by rw [hYh,hXh,q])
  have hya:ky≠ka:=fun q=>hYF (by rw [hYh,hFh,q])
  obtain ⟨st1,hq⟩:=st.overG (T:=lv F e.1) (D5 hF e.1) hkF (Ca hY hYF) hYX hYF hf1 hfy (C0 (Cz hja)) hda hXF hYh hky hly hry hY hlY (s.pin_ t hY hky) h0
  obtain ⟨lz,b,_⟩:=st1.ti
  have h:=st1.sd.finS b (T:=lv (lv F e.1) f.1) (Kb (Ca (D5 (D5 hF e.1) f.1) (fun q=>hYF q.symm)) (fun q=>hYF q.symm)) st1.xm hkF hXF (A3 (A3 (A3 hla hya) hya) hya) hFh (A3 (A3 (A3 hlx hyx) hyx) hyx) hXh (C0 (by simp;exact Cz hja)) hda (Pw (lv F e.1) f.1) (fun _=>rfl) (fun _ q=>q) (s.upX t hF hX hkF he hx hXF hla hFh hlx hXh hja hda hrx) st1.x0
  rw [Lb]
  have hq1:=hq f.1 (st.be (T:=lv F e.1) (D5 hF e.1) hkF hf1 hXF)
  show Sim _ _ _ _ _ _ (Ap (C5 (Ax (Al (Al A F.h e.1) F.h f.1) F.h f.1 X.h) Y.h) F.h) _
  have hq2:C5 (Ax (Al (Al A F.h e.1) F.h f.1) F.h f.1 X.h) Y.h=Ax (Ex (Ap (Al (Al A F.h e.1) F.h f.1) Y.h) Y.h) F.h f.1 X.h:=hq1
  rw [hq2]
  simp only [List.set_set] at h ⊢
  exact h
end
end
end
section
variable {T:AN} (hT:T∈A) (hkT:T.kind=2) (hFT:F.h≠T.h) (hXT:X.h≠T.h) {kb jb:Nat} {Nb:ND} {db:DN} (hlb:l[kb]?=some (some Nb)) (hTh:T.h=((kb:Int),Aw ts kb - 1)) (hjb:ds[jb]?=some db) (hdb:db.h=T.h) (hjj:ja≠jb)
include hT hkT hFT hXT hlb hTh hjb hdb hjj
theorem Sim.mvTNF (k1:X.kind=1) {nm:ByteArray} (hno:∀ e∈T.es,e.1≠nm):Sim most ps gs ((l.set ka (some (Ae Na))).set kb (some (Ae Nb))) ((ds.set ja { da with es:=Ak da.es e.1 }).set jb { db with es:=Ay db.es nm X.h }) pn (Eu A F.h e.1 T.h nm X.h none) ts:=by
  have st:=s.stA t hF hX hkF he hx hXF hja hda
  obtain ⟨lz,b,_⟩:=st.ti
  have h:=st.sd.finF b (D5 hF e.1) (Ca hT (fun q=>hFT q.symm)) st.xm hkT hFT hXF hXT hla hFh hlb hTh hlx hXh (A3 hjb hjj) hdb hno (fun _=>rfl) (fun _ q=>q) k1
  rw [Jj A hFT];exact h
theorem Sim.mvTND (k2:X.kind=2) {nm:ByteArray} (hno:∀ e∈T.es,e.1≠nm) {un ug:Int} (hun:T.h=(un,ug)):Sim most ps gs (((((l.set ka (some (Ae Na))).set kb (some (Ae Nb))).set kx (some (keepN Nx Nx.kind (Am Nx) Nx.links un ug))).set ka (some (Ao (Ae Na) (-1)))).set kb (some (Ao (Ae Nb) 1))) ((ds.set ja { da with es:=Ak da.es e.1 }).set jb { db with es:=Ay db.es nm X.h }) pn (Eu A F.h e.1 T.h nm X.h none) ts:=by
  have st:=s.stA t hF hX hkF he hx hXF hja hda
  obtain ⟨lz,b,_⟩:=st.ti
  have h:=st.sd.finD b (D5 hF e.1) (Ca hT (fun q=>hFT q.symm)) st.xm hkT hFT hXF hXT hla hFh hlb hTh hlx hXh (A3 hjb hjj) hdb hno (fun _=>rfl) (fun _ q=>q) k2 (st.x0 k2) hun (Am Nx)
  rw [Jj A hFT,hrx.kind,k2];exact h
section
variable {Y:AN} (hY:Y∈A) (hYX:Y.h≠X.h) {ky:Nat} (hYh:Y.h=((ky:Int),Aw ts ky - 1)) {f:Bj} (hfy:f.2=Y.h) (hf:f∈T.es) (hYF:Y.h≠F.h) (hYT:Y.h≠T.h)
include hY hYX hYh hfy hf hYF hYT
theorem Sim.mvTD (k2:X.kind=2) (hky:Y.kind=2) (hes:Y.es=[]) {un ug:Int} (hun:T.h=(un,ug)) {j2:Nat} (hj2:(((ds.set ja { da with es:=Ak da.es e.1 }).set jb { db with es:=Ak db.es f.1 }).filter fun d=>!(d.h==Y.h))[j2]?=some { db with es:=Ak db.es f.1 }) :
    Sim most (ps.set ky none) gs (((((((l.set ky none).set kb (some (Ao Nb (-1)))).set ka (some (Ae Na))).set kb (some (Ae (Ao Nb (-1))))).set kx (some (keepN Nx Nx.kind (Am Nx) Nx.links un ug))).set ka (some (Ao (Ae Na) (-1)))).set kb (some (Ao (Ae (Ao Nb (-1))) 1))) ((((ds.set ja { da with es:=Ak da.es e.1 }).set jb { db with es:=Ak db.es f.1 }).filter fun d=>!(d.h==Y.h)).set j2 { db with es:=Ay (Ak db.es f.1) f.1 X.h }) pn (Eu A F.h e.1 T.h f.1 X.h (some Y.h)) ts:=by
  have st:=s.stA t hF hX hkF he hx hXF hja hda
  have hyx:ky≠kx:=fun q=>hYX (by rw [hYh,hXh,q])
  have hya:ky≠ka:=fun q=>hYF (by rw [hYh,hFh,q])
  have hxb:kx≠kb:=fun q=>hXT (by rw [hXh,hTh,q])
  have hab:ka≠kb:=fun q=>hFT (by rw [hFh,hTh,q])
  have hTB:T∈Al A F.h e.1:=Ca hT (fun q=>hFT q.symm)
  obtain ⟨st1,hq⟩:=st.overD hTB hkT (Ca hY hYF) hYX hYT hf hfy (A3 hjb hjj) hdb hXT hYh hky hes (k:=kb) (N:=Nb) hlb hTh
  obtain ⟨lz,b,_⟩:=st1.ti
  have h:=st1.sd.finD b (F:=lv F e.1) (T:=lv T f.1) (Kb (Ca (D5 hF e.1) hFT) (fun q=>hYF q.symm)) (Kb (D5 hTB f.1) (fun q=>hYT q.symm)) st1.xm hkT hFT hXF hXT (A3 (A3 hla hya) hab.symm) hFh (C0 (by simp;exact Cz hlb)) hTh (A3 (A3 hlx hyx) hxb.symm) hXh hj2 hdb (Pw T f.1) (fun _=>rfl) (fun _ q=>q) k2 (st1.x0 k2) hun (Am Nx)
  rw [Jj A hFT,hrx.kind,k2]
  have hq2:C5 (Ax (Al (Al A F.h e.1) T.h f.1) T.h f.1 X.h) Y.h=Ax (Ex (Al (Al A F.h e.1) T.h f.1) Y.h) T.h f.1 X.h:=hq f.1
  show Sim _ _ _ _ _ _ (Ap (Ap (C5 (Ax (Al (Al A F.h e.1) T.h f.1) T.h f.1 X.h) Y.h) F.h) T.h) _
  rw [hq2];exact h
section
variable (k1:X.kind=1) (hky:Y.kind=1) {Ny:ND} (hly:l[ky]?=some (some Ny)) (hry:NdR A Ny Y)
include k1 hky hly hry
theorem Sim.lnkY2:Be (Al A F.h e.1) Y.h=Be A Y.h:=by
  have:=Do t.base.nod hF (t.base.nms F hF) he Y.h
  rw [if_neg (show ¬e.2=Y.h from fun q=>hYX (by rw [← q,hx]))] at this
  omega
theorem Sim.mvTF (h0:¬(Ny.links+-1=0∧(Af pn Y.h).getD 0=0)) :
    Sim most ps gs ((((l.set ky (some (Ao Ny (-1)))).set ky (some (Ae (Ao Ny (-1))))).set ka (some (Ae Na))).set kb (some (Ae Nb))) (((ds.set ja { da with es:=Ak da.es e.1 }).set jb { db with es:=Ak db.es f.1 }).set jb { db with es:=Ay (Ak db.es f.1) f.1 X.h }) pn (Eu A F.h e.1 T.h f.1 X.h (some Y.h)) ts:=by
  have hlY:=s.lnkY2 t hF hX hkF he hx hXF hla hFh hlx hXh hja hda hrx hT hkT hFT hXT hlb hTh hjb hdb hjj hY hYX hYh hfy hf hYF hYT k1 hky hly hry
  have st:=s.stA t hF hX hkF he hx hXF hja hda
  have hyx:ky≠kx:=fun q=>hYX (by rw [hYh,hXh,q])
  have hya:ky≠ka:=fun q=>hYF (by rw [hYh,hFh,q])
  have hyb:ky≠kb:=fun q=>hYT (by rw [hYh,hTh,q])
  have hTB:T∈Al A F.h e.1:=Ca hT (fun q=>hFT q.symm)
  obtain ⟨st1,hq⟩:=st.overF hTB hkT (Ca hY hYF) hYX hYT hf hfy (A3 hjb hjj) hdb hXT hYh hky hly hry hY hlY (s.pin_ t hY hky) h0
  obtain ⟨lz,b,_⟩:=st1.ti
  have h:=st1.sd.finF b (F:=lv F e.1) (T:=lv T f.1) (Ca (Ca (D5 hF e.1) hFT) (fun q=>hYF q.symm)) (Ca (D5 hTB f.1) (fun q=>hYT q.symm)) st1.xm hkT hFT hXF hXT (A3 (A3 hla hya) hya) hFh (A3 (A3 hlb hyb) hyb) hTh (A3 (A3 hlx hyx) hyx) hXh (C0 (by simp;exact Cz hjb)) hdb (Pw T f.1) (fun _=>rfl) (fun _ q=>q) k1
  rw [Jj A hFT]
  have hq2:C5 (Ax (Al (Al A F.h e.1) T.h f.1) T.h f.1 X.h) Y.h=Ax (Ap (Al (Al A F.h e.1) T.h f.1) Y.h) T.h f.1 X.h:=hq f.1 (st.be hTB hkT hf hXT)
  show Sim _ _ _ _ _ _ (Ap (Ap (C5 (Ax (Al (Al A F.h e.1) T.h f.1) T.h f.1 X.h) Y.h) F.h) T.h) _
  rw [hq2];exact h
theorem Sim.mvTG (h0:Ny.links+-1=0∧(Af pn Y.h).getD 0=0) :
    Sim most (ps.set ky none) gs (((((l.set ky (some (Ao Ny (-1)))).set ky (some (Ae (Ao Ny (-1))))).set ky none).set ka (some (Ae Na))).set kb (some (Ae Nb))) (((ds.set ja { da with es:=Ak da.es e.1 }).set jb { db with es:=Ak db.es f.1 }).set jb { db with es:=Ay (Ak db.es f.1) f.1 X.h }) pn (Eu A F.h e.1 T.h f.1 X.h (some Y.h)) ts:=by
  have hlY:=s.lnkY2 t hF hX hkF he hx hXF hla hFh hlx hXh hja hda hrx hT hkT hFT hXT hlb hTh hjb hdb hjj hY hYX hYh hfy hf hYF hYT k1 hky hly hry
  have st:=s.stA t hF hX hkF he hx hXF hja hda
  have hyx:ky≠kx:=fun q=>hYX (by rw [hYh,hXh,q])
  have hya:ky≠ka:=fun q=>hYF (by rw [hYh,hFh,q])
  have hyb:ky≠kb:=fun q=>hYT (by rw [hYh,hTh,q])
  have hTB:T∈Al A F.h e.1:=Ca hT (fun q=>hFT q.symm)
  obtain ⟨st1,hq⟩:=st.overG hTB hkT (Ca hY hYF) hYX hYT hf hfy (A3 hjb hjj) hdb hXT hYh hky hly hry hY hlY (s.pin_ t hY hky) h0
  obtain ⟨lz,b,_⟩:=st1.ti
  have h:=st1.sd.finF b (F:=lv F e.1) (T:=lv T f.1) (Kb (Ca (Ca (D5 hF e.1) hFT) (fun q=>hYF q.symm)) (fun q=>hYF q.symm)) (Kb (Ca (D5 hTB f.1) (fun q=>hYT q.symm)) (fun q=>hYT q.symm)) st1.xm hkT hFT hXF hXT (A3 (A3 (A3 hla hya) hya) hya) hFh (A3 (A3 (A3 hlb hyb) hyb) hyb) hTh (A3 (A3 (A3 hlx hyx) hyx) hyx) hXh (C0 (by simp;exact Cz hjb)) hdb (Pw T f.1) (fun _=>rfl) (fun _ q=>q) k1
  rw [Jj A hFT]
  have hq2:C5 (Ax (Al (Al A F.h e.1) T.h f.1) T.h f.1 X.h) Y.h=Ax (Ex (Ap (Al (Al A F.h e.1) T.h f.1) Y.h) Y.h) T.h f.1 X.h:=hq f.1 (st.be hTB hkT hf hXT)
  show Sim _ _ _ _ _ _ (Ap (Ap (C5 (Ax (Al (Al A F.h e.1) T.h f.1) T.h f.1 X.h) Y.h) F.h) T.h) _
  rw [hq2];exact h
end
end
end
end
end
theorem Dl {B:Nat} (ad:Nat→Addr) {most:Nat} {z:PZ} {A:List AN} {ts:List Int} {c:Int} {P:Program} {f:FuncId} {args:Array Value} (s:D6 most z A ts c) (hc:c+3≤1000) (e:Nat) {p:Nat×List AN} (h1:p=(e,A)) (h2:Au P f args (z.core most++[A6 B ad]) (fun u L=>u=Ag ad e∧L=z.core most++[A6 B ad])):Au P f args [rPT most z,A6 B ad] (Ic most z B ad ts (c+3) p.1 p.2):=by
  subst h1
  exact (Au.ptq (M:=[A6 B ad]) (Φ:=fun u=>u=Ag ad e) h2).mono fun u L h=>⟨z,⟨rfl,s.more (by omega) (by omega),h.1⟩,h.2⟩
theorem Fg {B:Nat} (ad:Nat→Addr) {most:Nat} {z:PZ} {ts:List Int} {c:Int} {P:Program} {f:FuncId} {args:Array Value} {A':List AN} {p:Nat×List AN} (h1:p=(0,A')) (h2:Au P f args (z.core most++[A6 B ad]) (fun u L=>∃ z':PZ,(z'.b=z.b∧D6 most z' A' ts c∧u=.nilIface)∧L=z'.core most++[A6 B ad])):Au P f args [rPT most z,A6 B ad] (Ic most z B ad ts c p.1 p.2):=by
  subst h1
  exact (Au.pt (M:=[A6 B ad]) (Φ:=fun u z'=>z'.b=z.b∧D6 most z' A' ts c∧u=.nilIface) h2)
section
variable {B:Nat} (ad:Nat→Addr) {most:Nat} {z:PZ} {A:List AN} {ts:List Int} {c:Int} (s:D6 most z A ts c)
include s
theorem S2 (n g m f:Int) (old nm:ByteArray) (hoz:old.size≤100000) (hnz:nm.size≤100000) (hc:c+3≤1000):Au Tryz.prog 20 #[.pointer (some ⟨z.b,0,none⟩),.agg #[.int .i64 n,.int .i64 g],.string old,.agg #[.int .i64 m,.int .i64 f],.string nm] [rPT most z,A6 B ad] (Ic most z B ad ts (c+3) (tRename A (n,g) old (m,f) nm).1 (tRename A (n,g) old (m,f) nm).2):=by
  have hb:=s.ti.base
  rcases s.dir n g nm with ⟨c',h1,h2⟩|⟨ka,Na,F,ja,da,rfl,a1,a2,a3,a4,a5,a6,a7,ak,a8,a9,a10,akm⟩
  · refine Dl ad s hc (c'+1) ?_ (Abk ad z.b most z.tb z.dm z.pm z.ps z.gs z.vl z.vg z.T z.Sl z.Sg z.l z.ds z.pn s.hl s.hr n g m f old nm c' h1)
    rcases h2 with ⟨rfl,h⟩|⟨rfl,M,h,hk⟩
    · exact Afu h
    · exact Ya h hk
  rcases s.dir m f nm with ⟨c',h1,h2⟩|⟨kb,Nb,T,jb,db,rfl,b1,b2,b3,b4,b5,b6,b7,bk,b8,b9,b10,bkm⟩
  · refine Dl ad s hc (c'+1) ?_ (Adx ad z.b most z.tb z.dm z.pm z.ps z.gs z.vl z.vg z.T z.Sl z.Sg z.l z.ds z.pn s.hl s.hr s.dd ka g Na a1 a2 ja da a8 a9 m f old nm c' h1)
    rcases h2 with ⟨rfl,h⟩|⟨rfl,M,h,hk⟩
    · exact Ahe a3 ak h
    · exact Ab9 a3 ak h hk
  by_cases ho:A0 old
  rotate_left
  · exact Dl ad s hc 4 (Sa a3 ak b3 bk ho) (Y6 ad z.b most z.tb z.dm z.pm z.ps z.gs z.vl z.vg z.T z.Sl z.Sg z.l z.ds z.pn s.hl s.hr s.dd ka g Na a1 a2 ja da a8 a9 kb f Nb b1 b2 jb db b8 b9 old nm (by omega) (by omega) ho)
  by_cases hn:A0 nm
  rotate_left
  · exact Dl ad s hc 4 (Xx a3 ak b3 bk ho hn) (Y9 ad z.b most z.tb z.dm z.pm z.ps z.gs z.vl z.vg z.T z.Sl z.Sg z.l z.ds z.pn s.hl s.hr s.dd ka g Na a1 a2 ja da a8 a9 kb f Nb b1 b2 jb db b8 b9 old nm (by omega) (by omega) ho hn)
  cases hg:Eg F.es old with
  | none=>exact Dl ad s hc 5 (Og a3 ak b3 bk ho hn hg) (Acm ad z.b most z.tb z.dm z.pm z.ps z.gs z.vl z.vg z.T z.Sl z.Sg z.l z.ds z.pn s.hl s.hr s.dd ka g Na a1 a2 ja da a8 a9 kb f Nb b1 b2 jb db b8 b9 old nm (by omega) (by omega) ho hn (by rw [a10.get];exact hg))
  | some x=>
  obtain ⟨e,he,e1,e2⟩:=He hg
  obtain ⟨xa,xb⟩:=x
  rcases s.who xa xb with ⟨q1,_⟩|⟨kx,Nx,X,hxk,hkx,x1,x2,x3,x4,x5,x6,x7,x8⟩
  · obtain ⟨K,hK,hKx⟩:=hb.ent F a4 e he
    have:=C2 hb.nod hK
    rw [hKx,e2] at this
    rw [this] at q1;cases q1
  subst hxk
  have hxx:Af da.es old=some ((kx:Int),xb):=by rw [a10.get];exact hg
  have hax:Bk z.ps z.gs (kx:Int) xb=some Nx.nb:=x2
  have hXx:X.h=((kx:Int),xb):=x5
  have hXe:e.2=X.h:=e2.trans x5.symm
  have hgx:Bs A ((kx:Int),xb)=some X:=x3
  subst e1
  have hXF:X.h≠F.h:=fun q=>by
    have hXF:=hb.same x4 a4 q
    obtain ⟨rk,hr⟩:=s.ti.rank
    have:=hr F a4 e he (by rw [hXe,E2 hb.nod x4];rw [hXF];simpa using ak)
    rw [hXe,q] at this;omega
  have hkxa:kx≠ka:=fun q=>hXF (by rw [x6,a6,q])
  obtain ⟨rk,hrk⟩:=s.ti.climbEnds
  have hdT:∃ M∈A,M.h=(((kb:Int),f):Hdl)∧M.kind=2:=⟨T,b4,b5,bk⟩
  by_cases hcx:X.kind=2∧B8 A ((kx:Int),xb) ((kb:Int),f)
  · rcases x8 with ⟨xk,xk2,xno,_⟩|⟨xk,jx,dx,y1,y2,y3⟩
    · exact absurd hcx.1 xk2
    · exact Dl ad s hc 3 (N8 a3 ak b3 bk ho hn hg hgx hcx.1 hcx.2) (Acg ad z.b most z.tb z.dm z.pm z.ps z.gs z.vl z.vg z.T z.Sl z.Sg z.l z.ds z.pn s.hl s.hr s.dd ka g Na a1 a2 ja da a8 a9 kb f Nb b1 b2 jb db b8 b9 e.1 nm (by omega) (by omega) ho hn kx xb hxx jx dx y1 y2 s.sim s.ti hdT rk hrk hcx.2)
  have hXT:X.h≠T.h:=fun q=>by
    have hXT:=hb.same x4 b4 q
    exact hcx ⟨by rw [hXT];exact bk,0,by show ((kb:Int),f)=((kx:Int),xb);rw [← b5,← q,x5]⟩
  have hkxb:kx≠kb:=fun q=>hXT (by rw [x6,b6,q])
  have hTI:=s.ti.rename ((ka:Int),g) e.1 ((kb:Int),f) nm
  have hSR:=s.srt.rename hb.nod ((ka:Int),g) e.1 ((kb:Int),f) nm
  have hNR:=s.nsz.rename ((ka:Int),g) e.1 ((kb:Int),f) hnz
  have hCR:=s.cnt.rename ((ka:Int),g) e.1 ((kb:Int),f) nm
  have hgo:∀ {A':List AN} {ps l ds},tRename A ((ka:Int),g) e.1 ((kb:Int),f) nm=(0,A')→Sim most ps z.gs l ds z.pn A' ts→D6 most (z.to ps z.gs l ds z.pn) A' ts (c+3):=fun hT hs=>by
    rw [hT] at hTI hSR hCR hNR
    exact s.go hs hTI hSR hNR hCR s.ts3 hc
  have hbl:=b10.len
  have hia:1≤Na.links∧Na.links≤1000000:=⟨by rw [a7.lnk,Eb ak];omega,(s.li a4 a7).2⟩
  have hib:1≤Nb.links∧Nb.links≤1000000:=⟨by rw [b7.lnk,Eb bk];omega,(s.li b4 b7).2⟩
  have hab:¬((ka:Int),g)=((kb:Int),f)→ka≠kb:=fun q1 q2=>q1 (by rw [← a5,← b5,a6,b6,q2])
  have hjj:¬((ka:Int),g)=((kb:Int),f)→ja≠jb:=fun q1 q2=>by
    subst q2;rw [a8] at b8;cases b8;exact q1 (a9.symm.trans b9)
  have hFT:¬((ka:Int),g)=((kb:Int),f)→F.h≠T.h:=fun q1 q2=>q1 (by rw [← a5,← b5];exact q2)
  cases hy:Eg T.es nm with
  | none=>
    have hyy:Af db.es nm=none:=by rw [b10.get];exact hy
    have hno:=Fh hy
    by_cases hne:((ka:Int),g)=((kb:Int),f)
    · have e1:ka=kb:=by have:=congrArg Prod.fst hne;simp only at this;omega
      have e2:g=f:=congrArg Prod.snd hne
      subst e1;subst e2
      have hFT2:F=T:=by rw [a3] at b3;exact Option.some.inj b3
      subst hFT2
      have hyA:Af da.es nm=none:=by rw [a10.get];exact hy
      rcases x8 with ⟨xk,xk2,xno,_⟩|⟨xk,jx,dx,y1,y2,y3⟩
      · have xno2:=xno
        have hTn:=Lw a3 ak b3 bk ho hn hg hgx hcx hy (fun q=>absurd rfl q.2)
        refine Fg ad hTn ?_
        refine (Tr ad z.b most z.tb z.dm z.pm z.ps z.gs z.vl z.vg z.T z.Sl z.Sg z.l z.ds z.pn s.hl s.hr s.dd ka g Na a1 a2 ja da a8 a9 e.1 nm (by omega) (by omega) ho hn kx xb hxx xno2 hkxa (s.ch a4 a7) hyA).mono fun u L h=>?_
        obtain ⟨rfl,rfl⟩:=h
        have hs:=s.sim.mvSN s.ti a4 x4 ak he hXe hXF a1 a6 x1 x6 a8 (a9.trans a5.symm) x7 hno
        rw [a5,x5] at hs;simp only [List.set_set] at hs ⊢
        refine ⟨_,⟨?_,hgo hTn hs,by first|rfl|trivial⟩,?_⟩
        all_goals rfl
      · have hTn:=Lw a3 ak b3 bk ho hn hg hgx hcx hy (fun q=>absurd rfl q.2)
        refine Fg ad hTn ?_
        refine (Vm ad z.b most z.tb z.dm z.pm z.ps z.gs z.vl z.vg z.T z.Sl z.Sg z.l z.ds z.pn s.hl s.hr s.dd ka g Na a1 a2 ja da a8 a9 e.1 nm (by omega) (by omega) ho hn kx xb hxx jx dx y1 y2 s.sim s.ti hdT rk hrk (fun q=>hcx ⟨xk,q⟩) hkxa (s.ch a4 a7) hyA).mono fun u L h=>?_
        obtain ⟨rfl,rfl⟩:=h
        have hs:=s.sim.mvSN s.ti a4 x4 ak he hXe hXF a1 a6 x1 x6 a8 (a9.trans a5.symm) x7 hno
        rw [a5,x5] at hs;simp only [List.set_set] at hs ⊢
        refine ⟨_,⟨?_,hgo hTn hs,by first|rfl|trivial⟩,?_⟩
        all_goals rfl
    · have hkab:=hab hne
      by_cases hfull:60≤T.es.length
      · rcases x8 with ⟨xk,xk2,xno,_⟩|⟨xk,jx,dx,y1,y2,y3⟩
        · have xno2:=xno
          exact Dl ad s hc 9 (Oe a3 ak b3 bk ho hn hg hgx hcx hy ⟨hfull,hne⟩) (Za ad z.b most z.tb z.dm z.pm z.ps z.gs z.vl z.vg z.T z.Sl z.Sg z.l z.ds z.pn s.hl s.hr s.dd ka g Na a1 a2 ja da a8 a9 kb f Nb b1 b2 jb db b8 b9 e.1 nm (by omega) (by omega) ho hn kx xb hxx xno2 hyy (by omega) (by omega))
        · exact Dl ad s hc 9 (Oe a3 ak b3 bk ho hn hg hgx hcx hy ⟨hfull,hne⟩) (Z4 ad z.b most z.tb z.dm z.pm z.ps z.gs z.vl z.vg z.T z.Sl z.Sg z.l z.ds z.pn s.hl s.hr s.dd ka g Na a1 a2 ja da a8 a9 kb f Nb b1 b2 jb db b8 b9 e.1 nm (by omega) (by omega) ho hn kx xb hxx jx dx y1 y2 s.sim s.ti hdT rk hrk (fun q=>hcx ⟨xk,q⟩) hyy (by omega) (by omega))
      · rcases x8 with ⟨xk,xk2,xno,_⟩|⟨xk,jx,dx,y1,y2,y3⟩
        · have xno2:=xno
          have hTn:=Lw a3 ak b3 bk ho hn hg hgx hcx hy (fun q=>absurd q.1 hfull)
          refine Fg ad hTn ?_
          refine (T7 ad z.b most z.tb z.dm z.pm z.ps z.gs z.vl z.vg z.T z.Sl z.Sg z.l z.ds z.pn s.hl s.hr s.dd ka g Na a1 a2 ja da a8 a9 kb f Nb b1 b2 jb db b8 b9 e.1 nm (by omega) (by omega) ho hn kx xb hxx xno2 hkxa hkab hkxb (hjj hne) (s.ch a4 a7) (s.ch b4 b7) hyy (by omega)).mono fun u L h=>?_
          obtain ⟨rfl,rfl⟩:=h
          have hs:=s.sim.mvTNF s.ti a4 x4 ak he hXe hXF a1 a6 x1 x6 a8 (a9.trans a5.symm) x7 b4 bk (hFT hne) hXT b1 b6 b8 (b9.trans b5.symm) (hjj hne) xk hno
          rw [a5,b5,x5] at hs
          refine ⟨_,⟨?_,hgo hTn hs,by first|rfl|trivial⟩,?_⟩
          all_goals rfl
        · have hTn:=Lw a3 ak b3 bk ho hn hg hgx hcx hy (fun q=>absurd q.1 hfull)
          refine Fg ad hTn ?_
          refine (Uu ad z.b most z.tb z.dm z.pm z.ps z.gs z.vl z.vg z.T z.Sl z.Sg z.l z.ds z.pn s.hl s.hr s.dd ka g Na a1 a2 ja da a8 a9 kb f Nb b1 b2 jb db b8 b9 e.1 nm (by omega) (by omega) ho hn kx xb hxx jx dx y1 y2 s.sim s.ti hdT rk hrk (fun q=>hcx ⟨xk,q⟩) hkxa hkab hkxb (hjj hne) (s.ch a4 a7) (s.ch b4 b7) Nx x1 hax hia hib hyy (by omega)).mono fun u L h=>?_
          obtain ⟨rfl,rfl⟩:=h
          have hs:=s.sim.mvTND s.ti a4 x4 ak he hXe hXF a1 a6 x1 x6 a8 (a9.trans a5.symm) x7 b4 bk (hFT hne) hXT b1 b6 b8 (b9.trans b5.symm) (hjj hne) xk hno b5
          rw [a5,b5,x5] at hs
          refine ⟨_,⟨?_,hgo hTn hs,by first|rfl|trivial⟩,?_⟩
          all_goals rfl
  | some y=>
    have hyd:Af db.es nm=some y:=by rw [b10.get];exact hy
    obtain ⟨f1,hf1,hf2,hf3⟩:=He hy
    obtain ⟨ya,yb⟩:=y
    rcases s.who ya yb with ⟨q1,_⟩|⟨ky,Ny,Y,hyk,hky,w1,w2,w3,w4,w5,w6,w7,w8⟩
    · obtain ⟨K,hK,hKx⟩:=hb.ent T b4 f1 hf1
      have:=C2 hb.nod hK
      rw [hKx,hf3] at this
      rw [this] at q1;cases q1
    subst hyk
    have hyy:Af db.es nm=some ((ky:Int),yb):=hyd
    by_cases hyx:((ky:Int),yb)=((kx:Int),xb)
    · have hyq:Af db.es nm=some ((kx:Int),xb):=by rw [hyd,hyx]
      rcases x8 with ⟨xk,xk2,xno,_⟩|⟨xk,jx,dx,y1,y2,y3⟩
      · have xno2:=xno
        exact Dl ad s hc 0 (Mv a3 ak b3 bk ho hn hg hgx hcx hy hyx) (Zz ad z.b most z.tb z.dm z.pm z.ps z.gs z.vl z.vg z.T z.Sl z.Sg z.l z.ds z.pn s.hl s.hr s.dd ka g Na a1 a2 ja da a8 a9 kb f Nb b1 b2 jb db b8 b9 e.1 nm (by omega) (by omega) ho hn kx xb hxx xno2 hyq)
      · exact Dl ad s hc 0 (Mv a3 ak b3 bk ho hn hg hgx hcx hy hyx) (Aav ad z.b most z.tb z.dm z.pm z.ps z.gs z.vl z.vg z.T z.Sl z.Sg z.l z.ds z.pn s.hl s.hr s.dd ka g Na a1 a2 ja da a8 a9 kb f Nb b1 b2 jb db b8 b9 e.1 nm (by omega) (by omega) ho hn kx xb hxx jx dx y1 y2 s.sim s.ti hdT rk hrk (fun q=>hcx ⟨xk,q⟩) hyq)
    have hay:Bk z.ps z.gs (ky:Int) yb=some Ny.nb:=w2
    have hYy:Y.h=((ky:Int),yb):=w5
    have hYf:f1.2=Y.h:=hf3.trans w5.symm
    have hYX:Y.h≠X.h:=fun q=>hyx (by rw [← w5,← x5,q])
    have hkyx:ky≠kx:=fun q=>hYX (by rw [w6,x6,q])
    have hyx2:¬((ky:Int)=(kx:Int)∧yb=xb):=fun q=>hkyx (by omega)
    have hkpy:ky<z.ps.length:=by rw [s.sim.lps];exact hky
    have hgy:Bs A ((ky:Int),yb)=some Y:=w3
    subst hf2
    have hYT:Y.h≠T.h:=fun q=>by
      have hYT:=hb.same w4 b4 q
      obtain ⟨rk,hr⟩:=s.ti.rank
      have:=hr T b4 f1 hf1 (by rw [hYf,E2 hb.nod w4];rw [hYT];simpa using bk)
      rw [hYf,q] at this;omega
    have hkyb:ky≠kb:=fun q=>hYT (by rw [w6,b6,q])
    rcases x8 with ⟨xk,xk2,xno,_⟩|⟨xk,jx,dx,y1,y2,y3⟩
    · have xno2:=xno
      rcases w8 with ⟨yk,yk2,yno,_⟩|⟨yk,jy,dy,v1,v2,v3⟩
      rotate_left
      · exact Dl ad s hc 7 (Th a3 ak b3 bk ho hn hg hgx hcx hy hyx hgy ⟨xk,yk⟩) (Aa9 ad z.b most z.tb z.dm z.pm z.ps z.gs z.vl z.vg z.T z.Sl z.Sg z.l z.ds z.pn s.hl s.hr s.dd ka g Na a1 a2 ja da a8 a9 kb f Nb b1 b2 jb db b8 b9 e.1 f1.1 (by omega) (by omega) ho hn kx xb hxx xno2 ky yb hyy hyx2 jy dy v1 v2)
      have yno2:=yno
      have hes:=hb.file Y w4 yk
      have hYF:Y.h≠F.h:=fun q=>by rw [hb.same w4 a4 q] at yk;omega
      have hkya:ky≠ka:=fun q=>hYF (by rw [w6,a6,q])
      have hTo:=Mr a3 ak b3 bk ho hn hg hgx hcx hy hyx hgy (by omega) (by omega) (by rw [hes];simp)
      by_cases hz:Ny.links+-1=0∧(Af z.pn ((ky:Int),yb)).getD 0=0
      · by_cases hne:((ka:Int),g)=((kb:Int),f)
        · have e1:ka=kb:=by have:=congrArg Prod.fst hne;simp only at this;omega
          have e2:g=f:=congrArg Prod.snd hne
          subst e1;subst e2
          have hFT2:F=T:=by rw [a3] at b3;exact Option.some.inj b3
          subst hFT2
          have hyA:Af da.es f1.1=some ((ky:Int),yb):=by rw [a10.get];exact hy
          have hTn:=hTo
          refine Fg ad hTn ?_
          refine (Tp ad z.b most z.tb z.dm z.pm z.ps z.gs z.vl z.vg z.T z.Sl z.Sg z.l z.ds z.pn s.hl s.hr s.dd ka g Na a1 a2 ja da a8 a9 e.1 f1.1 (by omega) (by omega) ho hn kx xb hxx xno2 hkxa (s.ch a4 a7) ky yb hyA hyx2 hkya hkyx Ny w1 hay hkpy yno2 (s.li w4 w7) (s.ch w4 w7) hz).mono fun u L h=>?_
          obtain ⟨rfl,rfl⟩:=h
          have hs:=s.sim.mvSG s.ti a4 x4 ak he hXe hXF a1 a6 x1 x6 a8 (a9.trans a5.symm) x7 w4 hYX w6 hYf hf1 hYF yk w1 w7 (by rw [hYy];exact hz)
          rw [a5,x5,w5] at hs;simp only [List.set_set] at hs ⊢
          refine ⟨_,⟨?_,hgo hTn hs,by first|rfl|trivial⟩,?_⟩
          all_goals rfl
        · have hkab:=hab hne
          have hTn:=hTo
          refine Fg ad hTn ?_
          refine (Tv ad z.b most z.tb z.dm z.pm z.ps z.gs z.vl z.vg z.T z.Sl z.Sg z.l z.ds z.pn s.hl s.hr s.dd ka g Na a1 a2 ja da a8 a9 kb f Nb b1 b2 jb db b8 b9 e.1 f1.1 (by omega) (by omega) ho hn kx xb hxx xno2 hkxa hkab hkxb (hjj hne) (s.ch a4 a7) (s.ch b4 b7) ky yb hyy hyx2 hkya hkyx hkyb Ny w1 hay hkpy yno2 (s.li w4 w7) (s.ch w4 w7) hz).mono fun u L h=>?_
          obtain ⟨rfl,rfl⟩:=h
          have hs:=s.sim.mvTG s.ti a4 x4 ak he hXe hXF a1 a6 x1 x6 a8 (a9.trans a5.symm) x7 b4 bk (hFT hne) hXT b1 b6 b8 (b9.trans b5.symm) (hjj hne) w4 hYX w6 hYf hf1 hYF hYT xk yk w1 w7 (by rw [hYy];exact hz)
          rw [a5,b5,x5,w5] at hs
          refine ⟨_,⟨?_,hgo hTn hs,by first|rfl|trivial⟩,?_⟩
          all_goals rfl
      · by_cases hne:((ka:Int),g)=((kb:Int),f)
        · have e1:ka=kb:=by have:=congrArg Prod.fst hne;simp only at this;omega
          have e2:g=f:=congrArg Prod.snd hne
          subst e1;subst e2
          have hFT2:F=T:=by rw [a3] at b3;exact Option.some.inj b3
          subst hFT2
          have hyA:Af da.es f1.1=some ((ky:Int),yb):=by rw [a10.get];exact hy
          have hTn:=hTo
          refine Fg ad hTn ?_
          refine (Tm ad z.b most z.tb z.dm z.pm z.ps z.gs z.vl z.vg z.T z.Sl z.Sg z.l z.ds z.pn s.hl s.hr s.dd ka g Na a1 a2 ja da a8 a9 e.1 f1.1 (by omega) (by omega) ho hn kx xb hxx xno2 hkxa (s.ch a4 a7) ky yb hyA hyx2 hkya hkyx Ny w1 hay hkpy yno2 (s.li w4 w7) (s.ch w4 w7) hz).mono fun u L h=>?_
          obtain ⟨rfl,rfl⟩:=h
          have hs:=s.sim.mvSF s.ti a4 x4 ak he hXe hXF a1 a6 x1 x6 a8 (a9.trans a5.symm) x7 w4 hYX w6 hYf hf1 hYF yk w1 w7 (by rw [hYy];exact hz)
          rw [a5,x5,w5] at hs;simp only [List.set_set] at hs ⊢
          refine ⟨_,⟨?_,hgo hTn hs,by first|rfl|trivial⟩,?_⟩
          all_goals rfl
        · have hkab:=hab hne
          have hTn:=hTo
          refine Fg ad hTn ?_
          refine (Vl ad z.b most z.tb z.dm z.pm z.ps z.gs z.vl z.vg z.T z.Sl z.Sg z.l z.ds z.pn s.hl s.hr s.dd ka g Na a1 a2 ja da a8 a9 kb f Nb b1 b2 jb db b8 b9 e.1 f1.1 (by omega) (by omega) ho hn kx xb hxx xno2 hkxa hkab hkxb (hjj hne) (s.ch a4 a7) (s.ch b4 b7) ky yb hyy hyx2 hkya hkyx hkyb Ny w1 hay hkpy yno2 (s.li w4 w7) (s.ch w4 w7) hz).mono fun u L h=>?_
          obtain ⟨rfl,rfl⟩:=h
          have hs:=s.sim.mvTF s.ti a4 x4 ak he hXe hXF a1 a6 x1 x6 a8 (a9.trans a5.symm) x7 b4 bk (hFT hne) hXT b1 b6 b8 (b9.trans b5.symm) (hjj hne) w4 hYX w6 hYf hf1 hYF hYT xk yk w1 w7 (by rw [hYy];exact hz)
          rw [a5,b5,x5,w5] at hs
          refine ⟨_,⟨?_,hgo hTn hs,by first|rfl|trivial⟩,?_⟩
          all_goals rfl
    · rcases w8 with ⟨yk,yk2,yno,_⟩|⟨yk,jy,dy,v1,v2,v3⟩
      · have yno2:=yno
        exact Dl ad s hc 8 (K8 a3 ak b3 bk ho hn hg hgx hcx hy hyx hgy (by omega) ⟨xk,yk⟩) (Adz ad z.b most z.tb z.dm z.pm z.ps z.gs z.vl z.vg z.T z.Sl z.Sg z.l z.ds z.pn s.hl s.hr s.dd ka g Na a1 a2 ja da a8 a9 kb f Nb b1 b2 jb db b8 b9 e.1 f1.1 (by omega) (by omega) ho hn kx xb hxx jx dx y1 y2 s.sim s.ti hdT rk hrk (fun q=>hcx ⟨xk,q⟩) ky yb hyy hyx2 yno2)
      have hyl:=v3.len
      by_cases hful:0<Y.es.length
      · exact Dl ad s hc 11 (Ho a3 ak b3 bk ho hn hg hgx hcx hy hyx hgy (by omega) (by omega) hful) (Aan ad z.b most z.tb z.dm z.pm z.ps z.gs z.vl z.vg z.T z.Sl z.Sg z.l z.ds z.pn s.hl s.hr s.dd ka g Na a1 a2 ja da a8 a9 kb f Nb b1 b2 jb db b8 b9 e.1 f1.1 (by omega) (by omega) ho hn kx xb hxx jx dx y1 y2 s.sim s.ti hdT rk hrk (fun q=>hcx ⟨xk,q⟩) ky yb hyy hyx2 jy dy v1 v2 (by omega))
      have hes:Y.es=[]:=List.eq_nil_of_length_eq_zero (by omega)
      have hYF:Y.h≠F.h:=fun q=>by rw [hb.same w4 a4 q] at hes;rw [hes] at he;cases he
      have hkya:ky≠ka:=fun q=>hYF (by rw [w6,a6,q])
      have hjya:ja≠jy:=fun q=>by subst q;rw [a8] at v1;cases v1;exact hYF (by rw [w5,a5];exact v2.symm.trans a9)
      have hjyb:jb≠jy:=fun q=>by subst q;rw [b8] at v1;cases v1;exact hYT (by rw [w5,b5];exact v2.symm.trans b9)
      have hTo:=Mr a3 ak b3 bk ho hn hg hgx hcx hy hyx hgy (by omega) (by omega) hful
      by_cases hne:((ka:Int),g)=((kb:Int),f)
      · have e1:ka=kb:=by have:=congrArg Prod.fst hne;simp only at this;omega
        have e2:g=f:=congrArg Prod.snd hne
        subst e1;subst e2
        have hFT2:F=T:=by rw [a3] at b3;exact Option.some.inj b3
        subst hFT2
        have hyA:Af da.es f1.1=some ((ky:Int),yb):=by rw [a10.get];exact hy
        have hTn:=hTo
        refine Fg ad hTn ?_
        refine (Ub ad z.b most z.tb z.dm z.pm z.ps z.gs z.vl z.vg z.T z.Sl z.Sg z.l z.ds z.pn s.hl s.hr s.dd ka g Na a1 a2 ja da a8 a9 e.1 f1.1 (by omega) (by omega) ho hn kx xb hxx jx dx y1 y2 s.sim s.ti hdT rk hrk (fun q=>hcx ⟨xk,q⟩) hkxa (s.ch a4 a7) hia ky yb hyA hyx2 hkya hkyx Ny w1 hay hkpy jy dy v1 v2 (by omega) hjya).mono fun u L h=>?_
        obtain ⟨j2,hj2,rfl,rfl⟩:=h
        have hs:=s.sim.mvSD s.ti a4 x4 ak he hXe hXF a1 a6 x1 x6 a8 (a9.trans a5.symm) x7 w4 hYX w6 hYf hf1 hYF yk hes (j2:=j2) (by rw [hYy];exact hj2)
        rw [a5,x5,w5] at hs
        refine ⟨_,⟨?_,hgo hTn hs,by first|rfl|trivial⟩,?_⟩
        all_goals rfl
      · have hkab:=hab hne
        have hTn:=hTo
        refine Fg ad hTn ?_
        refine (Tj ad z.b most z.tb z.dm z.pm z.ps z.gs z.vl z.vg z.T z.Sl z.Sg z.l z.ds z.pn s.hl s.hr s.dd ka g Na a1 a2 ja da a8 a9 kb f Nb b1 b2 jb db b8 b9 e.1 f1.1 (by omega) (by omega) ho hn kx xb hxx jx dx y1 y2 s.sim s.ti hdT rk hrk (fun q=>hcx ⟨xk,q⟩) hkxa hkab hkxb (hjj hne) (s.ch a4 a7) (s.ch b4 b7) Nx x1 hax hia hib ky yb hyy hyx2 hkya hkyx hkyb Ny w1 hay hkpy jy dy v1 v2 (by omega) hjya hjyb).mono fun u L h=>?_
        obtain ⟨j2,hj2,rfl,rfl⟩:=h
        have hs:=s.sim.mvTD s.ti a4 x4 ak he hXe hXF a1 a6 x1 x6 a8 (a9.trans a5.symm) x7 b4 bk (hFT hne) hXT b1 b6 b8 (b9.trans b5.symm) (hjj hne) w4 hYX w6 hYf hf1 hYF hYT xk yk hes b5 (j2:=j2) (by rw [hYy];exact hj2)
        rw [a5,b5,x5,w5] at hs
        refine ⟨_,⟨?_,hgo hTn hs,by first|rfl|trivial⟩,?_⟩
        all_goals rfl
end
end Go.Proofs.YtpojpkhpddnmjaaGreatDoor
namespace Go.Proofs
open Go.Shelf
def Tryz.sortedS_ren:Go.Shelf.Ren:=⟨fun|6=>51|8=>84|9=>85|11=>103|13=>105|12=>104|23=>118|24=>119|14=>109|15=>110|16=>111|17=>112|18=>113|19=>114|20=>115|21=>116|22=>117|25=>120|26=>121|27=>122|28=>123|29=>124|30=>125|31=>126|n=>n,fun|26=>9|28=>116|24=>60|0=>0|3=>3|37=>194|48=>221|50=>223|4=>4|40=>213|39=>212|45=>218|5=>5|9=>9|51=>224|55=>228|57=>230|58=>111|33=>165|n=>n,fun|n=>n⟩
theorem Tryz.sortedS:Go.Proofs.SlLaysZ.n6 Tryz.prog Tryz.sortedS_ren:={
  mixed:=by kernel_rfl
  f6:=⟨Tryz.f51.name,by decide,Tryz.func51.trans (congrArg some (by kernel_rfl))⟩
  f8:=⟨Tryz.f84.name,by decide,Tryz.func84.trans (congrArg some (by kernel_rfl))⟩
  f11:=⟨Tryz.f103.name,by decide,Tryz.func103.trans (congrArg some (by kernel_rfl))⟩
  t0:=Tryz.underlying0
  a0:=Tryz.isAgg0
  z0:=Tryz.sizeOf0
  v0:=Tryz.zeroValue0
  t24:=Tryz.underlying60
  a24:=Tryz.isAgg60
  z24:=Tryz.sizeOf60
  v24:=Tryz.zeroValue60
  t26:=Tryz.underlying9
  a26:=Tryz.isAgg9
  z26:=Tryz.sizeOf9
  v26:=Tryz.zeroValue9
  t28:=Tryz.underlying116
  a28:=Tryz.isAgg116
  z28:=Tryz.sizeOf116
  v28:=Tryz.zeroValue116
  i26:=by kernel_rfl }
def Tryz.keysS_ren:Go.Shelf.Ren:=⟨fun|7=>52|10=>86|n=>n,fun|23=>82|26=>9|3=>34|28=>116|0=>0|27=>115|33=>165|4=>4|n=>n,fun|n=>n⟩
theorem Tryz.keysS:Go.Proofs.SlLaysZ.n7 Tryz.prog Tryz.keysS_ren:={
  mixed:=by kernel_rfl
  f7:=⟨Tryz.f52.name,by decide,Tryz.func52.trans (congrArg some (by kernel_rfl))⟩
  f10:=⟨Tryz.f86.name,by decide,Tryz.func86.trans (congrArg some (by kernel_rfl))⟩
  t0:=Tryz.underlying0
  a0:=Tryz.isAgg0
  z0:=Tryz.sizeOf0
  v0:=Tryz.zeroValue0
  t4:=Tryz.underlying4
  a4:=Tryz.isAgg4
  z4:=Tryz.sizeOf4
  v4:=Tryz.zeroValue4
  t23:=Tryz.underlying82
  a23:=Tryz.isAgg82
  z23:=Tryz.sizeOf82
  v23:=Tryz.zeroValue82
  t26:=Tryz.underlying9
  a26:=Tryz.isAgg9
  z26:=Tryz.sizeOf9
  v26:=Tryz.zeroValue9
  t27:=Tryz.underlying115
  a27:=Tryz.isAgg115
  z27:=Tryz.sizeOf115
  v27:=Tryz.zeroValue115
  t28:=Tryz.underlying116
  a28:=Tryz.isAgg116
  z28:=Tryz.sizeOf116
  v28:=Tryz.zeroValue116
  t33:=Tryz.underlying165
  a33:=Tryz.isAgg165
  z33:=Tryz.sizeOf165
  v33:=Tryz.zeroValue165 }
def Tryz.sortS_ren:Go.Shelf.Ren:=⟨fun|6=>85|8=>105|9=>104|19=>118|20=>119|21=>109|22=>110|23=>111|24=>112|25=>113|26=>114|27=>115|28=>116|29=>117|36=>120|31=>121|32=>122|37=>123|38=>124|39=>125|41=>126|n=>n,fun|27=>60|29=>9|3=>3|32=>194|26=>60|0=>0|44=>221|46=>223|4=>4|36=>213|35=>212|41=>218|5=>5|9=>9|53=>224|57=>228|63=>230|64=>111|n=>n,fun|n=>n⟩
theorem Tryz.sortS:Go.Proofs.SlLaysM.n6 Tryz.prog Tryz.sortS_ren:={
  mixed:=by kernel_rfl
  f6:=⟨Tryz.f85.name,by decide,Tryz.func85.trans (congrArg some (by kernel_rfl))⟩
  f8:=Tryz.func105.trans (congrArg some (by kernel_rfl))
  f9:=⟨Tryz.f104.name,by decide,Tryz.func104.trans (congrArg some (by kernel_rfl))⟩
  f19:=Tryz.func118.trans (congrArg some (by kernel_rfl))
  f20:=Tryz.func119.trans (congrArg some (by kernel_rfl))
  f21:=⟨Tryz.f109.name,by decide,Tryz.func109.trans (congrArg some (by kernel_rfl))⟩
  f22:=⟨Tryz.f110.name,by decide,Tryz.func110.trans (congrArg some (by kernel_rfl))⟩
  f23:=⟨Tryz.f111.name,by decide,Tryz.func111.trans (congrArg some (by kernel_rfl))⟩
  f24:=⟨Tryz.f112.name,by decide,Tryz.func112.trans (congrArg some (by kernel_rfl))⟩
  f25:=⟨Tryz.f113.name,by decide,Tryz.func113.trans (congrArg some (by kernel_rfl))⟩
  f26:=⟨Tryz.f114.name,by decide,Tryz.func114.trans (congrArg some (by kernel_rfl))⟩
  f27:=⟨Tryz.f115.name,by decide,Tryz.func115.trans (congrArg some (by kernel_rfl))⟩
  f28:=⟨Tryz.f116.name,by decide,Tryz.func116.trans (congrArg some (by kernel_rfl))⟩
  f29:=⟨Tryz.f117.name,by decide,Tryz.func117.trans (congrArg some (by kernel_rfl))⟩
  f31:=Tryz.func121.trans (congrArg some (by kernel_rfl))
  f32:=Tryz.func122.trans (congrArg some (by kernel_rfl))
  f36:=⟨Tryz.f120.name,by decide,Tryz.func120.trans (congrArg some (by kernel_rfl))⟩
  f37:=⟨Tryz.f123.name,by decide,Tryz.func123.trans (congrArg some (by kernel_rfl))⟩
  f38:=⟨Tryz.f124.name,by decide,Tryz.func124.trans (congrArg some (by kernel_rfl))⟩
  f39:=⟨Tryz.f125.name,by decide,Tryz.func125.trans (congrArg some (by kernel_rfl))⟩
  f41:=⟨Tryz.f126.name,by decide,Tryz.func126.trans (congrArg some (by kernel_rfl))⟩
  t0:=Tryz.underlying0
  a0:=Tryz.isAgg0
  z0:=Tryz.sizeOf0
  v0:=Tryz.zeroValue0
  t3:=Tryz.underlying3
  a3:=Tryz.isAgg3
  z3:=Tryz.sizeOf3
  v3:=Tryz.zeroValue3
  t4:=Tryz.underlying4
  a4:=Tryz.isAgg4
  z4:=Tryz.sizeOf4
  v4:=Tryz.zeroValue4
  t5:=Tryz.underlying5
  a5:=Tryz.isAgg5
  z5:=Tryz.sizeOf5
  v5:=Tryz.zeroValue5
  t9:=Tryz.underlying9
  a9:=Tryz.isAgg9
  z9:=Tryz.sizeOf9
  v9:=Tryz.zeroValue9
  t26:=Tryz.underlying60
  a26:=Tryz.isAgg60
  z26:=Tryz.sizeOf60
  v26:=Tryz.zeroValue60
  t27:=Tryz.underlying60
  a27:=Tryz.isAgg60
  z27:=Tryz.sizeOf60
  v27:=Tryz.zeroValue60
  t29:=Tryz.underlying9
  a29:=Tryz.isAgg9
  z29:=Tryz.sizeOf9
  v29:=Tryz.zeroValue9
  t32:=Tryz.underlying194
  a32:=Tryz.isAgg194
  z32:=Tryz.sizeOf194
  v32:=Tryz.zeroValue194
  t35:=Tryz.underlying212
  a35:=Tryz.isAgg212
  z35:=Tryz.sizeOf212
  v35:=Tryz.zeroValue212
  t36:=Tryz.underlying213
  a36:=Tryz.isAgg213
  z36:=Tryz.sizeOf213
  v36:=Tryz.zeroValue213
  t41:=Tryz.underlying218
  a41:=Tryz.isAgg218
  z41:=Tryz.sizeOf218
  v41:=Tryz.zeroValue218
  t44:=Tryz.underlying221
  a44:=Tryz.isAgg221
  z44:=Tryz.sizeOf221
  v44:=Tryz.zeroValue221
  t46:=Tryz.underlying223
  a46:=Tryz.isAgg223
  z46:=Tryz.sizeOf223
  v46:=Tryz.zeroValue223
  t53:=Tryz.underlying224
  a53:=Tryz.isAgg224
  z53:=Tryz.sizeOf224
  v53:=Tryz.zeroValue224
  t57:=Tryz.underlying228
  a57:=Tryz.isAgg228
  z57:=Tryz.sizeOf228
  v57:=Tryz.zeroValue228
  t63:=Tryz.underlying230
  a63:=Tryz.isAgg230
  z63:=Tryz.sizeOf230
  v63:=Tryz.zeroValue230
  t64:=Tryz.underlying111
  a64:=Tryz.isAgg111
  z64:=Tryz.sizeOf111
  v64:=Tryz.zeroValue111 }
end Go.Proofs
namespace Go.Proofs.YtpojpkhpddnmjaaGreatDoor
open Go.RowKit
section
open Go.RowKit Go.Maps Go.Sort Go.Shelf
def nmC (s:ByteArray):List Value:=[.string s]
theorem Afc (s:ByteArray):(nmC s).length=1:=rfl
theorem Mn {H:Type} (x:Lit×DataW H):∀ l:List (Lit×DataW H),(DataW.insert x l).Perm (x::l)
  | []=>List.Perm.refl _
  | y::r=>by
    show (if x.1.before y.1 then x::y::r else y::DataW.insert x r).Perm _
    split
    · exact List.Perm.refl _
    · exact ((Mn x r).cons y).trans (List.Perm.swap x y r)
theorem Nm {H:Type}:∀ l:List (Lit×DataW H),(l.foldr DataW.insert []).Perm l
  | []=>List.Perm.refl _
  | x::l=>(Mn x _).trans ((Nm l).cons x)
theorem Agm (m:Nat):AnyZ.SortsIn Tryz.prog Tryz.sortedS_ren Fence.wide m:=
  ⟨fun blk off cap ss W hH hblk hsz=>callsIn_wide.2 (AnyM.slices_Sort_string Tryz.sortS blk off cap ss W hH hblk hsz),
   fun p cap W=>callsIn_wide.2 (AnyM.slices_Sort_string_none Tryz.sortS p cap W)⟩
abbrev Kl:Value→Option (DataW Unit×List MemPlace):=fun _=>some (.nil,[])
theorem U5 {kv:List (ByteArray×Value)} (b kb:Nat) (w:World) (hm:D9 w b sk kv) (hkb:w.heap[kb]?=some (.cells #[.map (some b)] 82 (0,0))) (hlen:kv.length≤1000000) (hr:∀ p∈kv,p.1.size≤maxLen) :
    Calls Tryz.prog 51 #[.func (.func 86) #[] #[.pointer (some ⟨kb,0,none⟩)]] w fun e w'=>∃ (v:Value) (ss:List (List UInt8)),e=.returned v∧ss.Perm (kv.map (·.1.data.toList))∧
      w'.ownsRow w.heap.size 9 1 v ss.length ((ss.mergeSort leB).map encStr)∧Below w.heap.size w w':=by
  obtain ⟨es,clock,hb,he,hst⟩:=hm
  have hkeys:es.toList.map (·.key)=kv.map fun p=>sk p.1:=K9 he
  have hsz:es.size=kv.length:=by have:=congrArg List.length hkeys;simpa using this
  have hK:Tryz.prog.underlying 9=some .string:=Tryz.underlying9
  have hkey:∀ x∈es.toList,∃ z:ByteArray,x.key=.string z∧keyOf Tryz.prog 9 x.key=some (.string z.data.toList):=fun x hx=>by
    have hx':x.key∈kv.map fun p=>sk p.1:=by rw [← hkeys];exact List.mem_map.2 ⟨x,hx,rfl⟩
    obtain ⟨p,hp,e⟩:=List.mem_map.1 hx'
    refine ⟨p.1,e.symm,?_⟩
    rw [← e]
    exact WideMaps.keyOf_string_mk hK (hr p hp)
  have hrd:∀ x∈es.toList,∀ z:ByteArray,x.key=.string z→WideElems.rd Tryz.prog 9 Kl x=some (.string z.data.toList,.nil):=fun x hx z hz=>by
    obtain ⟨z',h1,h2⟩:=hkey x hx
    have:z'=z:=by rw [hz] at h1;cases h1;rfl
    subst this
    simp [WideElems.rd,h2]
  have hF:WideElems.Fit Tryz.prog 9 Kl es clock:=⟨by unfold maxLen;omega,hst,fun x hx=>by
    obtain ⟨z,h1,_⟩:=hkey x hx
    exact ⟨_,hrd x hx z h1⟩⟩
  have hown:w.ownsMap Tryz.prog 9 Kl b es.size (.map ((es.toList.map (WideElems.rg Tryz.prog 9 Kl)).foldr DataW.insert [])):=⟨es,clock,hb,hF,Nat.le_refl _,rfl⟩
  have hperm:(strKeys (.map ((es.toList.map (WideElems.rg Tryz.prog 9 Kl)).foldr DataW.insert []))).Perm (kv.map (·.1.data.toList)):=by
    refine ((Nm _).map _).trans ?_
    have:(es.toList.map (WideElems.rg Tryz.prog 9 Kl)).map (fun p=>Go.strOf p.1)=kv.map (·.1.data.toList):=by
      have h2:es.toList.map (fun x=>(WideElems.rg Tryz.prog 9 Kl x))=es.toList.map (fun x=>((Lit.string (match x.key with|.string a=>a.data.toList|_=>[]),DataW.nil):Lit×DataW Unit)):=by
        refine List.map_congr_left fun x hx=>?_
        obtain ⟨z,h1,_⟩:=hkey x hx
        simp [WideElems.rg,hrd x hx z h1,h1]
      rw [h2,List.map_map]
      have h3:es.toList.map ((fun v=>match v with|Value.string a=>a.data.toList|_=>[])∘(·.key))=kv.map (·.1.data.toList):=by
        rw [← List.map_map,hkeys,List.map_map];rfl
      exact h3
    rw [this]
  have hsz2:Maps.size (.map ((es.toList.map (WideElems.rg Tryz.prog 9 Kl)).foldr DataW.insert []))≤1000000:=by
    have:=hperm.length_eq
    simp [strKeys,Maps.size] at this ⊢
    omega
  refine (callsIn_wide (n:=5)).1 ?_
  have hseq:=AnyZ.keys_gives (ρ:=Tryz.keysS_ren) { Tryz.keysS with } Fence.wide 2 trivial rfl (by omega) kb b es.size _ w (lt_of_block hkb) (by rw [A9 hkb];rfl) hown
  have cS:=AnyZ.sorted_in Tryz.sortedS Fence.wide 5 trivial trivial trivial trivial rfl (by omega) (Agm _) (enters_of Tryz.func85 (by kernel_rfl) rfl) 86 #[.pointer (some ⟨kb,0,none⟩)] trivial (enters_of Tryz.func86 (by kernel_rfl) rfl) _ _ (by unfold maxLen;omega) (by omega) w hseq
  change CallsIn _ _ Tryz.prog 51 _ _ _ at cS
  refine cS.mono ?_
  rintro e w' ⟨v,ss,rfl,hS,hrow,_,hb'⟩
  exact ⟨v,ss,rfl,hS.trans hperm,hrow,hb'⟩
theorem V1 (mb:Nat) (kv:List (ByteArray×Value)):Au Tryz.prog 52 #[.map (some mb)] [Ci true mb sk kv] fun u L=>∃ k,u=.func (.func 86) #[] #[.pointer (some ⟨k,0,none⟩)]∧L=[Bw true k [.map (some mb)] 82,Ci true mb sk kv]:=fun E w0 w ho=>by
  have hK:=(callsIn_wide (n:=5)).1 (AnyZ.keys_in Tryz.keysS Fence.wide 5 trivial rfl (some mb) w)
  refine hK.mono ?_
  rintro e w' ⟨rfl,rfl⟩
  exact ⟨_,_,⟨w.heap.size,rfl,rfl⟩,rfl,ho.push ((Chg.refl Nil w).alloc _) (Bp w _) (fun b hb=>by have:b=w.heap.size:=hb;omega)⟩
theorem Se {ss:List (List UInt8)} {es:List Bj} (hs:Zs es) (hp:ss.Perm (es.map (·.1.data.toList))):ss.mergeSort leB=es.map (·.1.data.toList):=by
  refine List.Perm.eq_of_pairwise (le:=fun a b=>leB a b=true) (fun a b _ _ h1 h2=>?_) (List.pairwise_mergeSort (fun a b c h1 h2=>?_) (fun a b=>?_) ss) ?_ ((List.mergeSort_perm ss leB).trans hp)
  · simp only [leB,decide_eq_true_eq] at h1 h2;exact List.le_antisymm h1 h2
  · simp only [leB,decide_eq_true_eq] at *;exact List.le_trans h1 h2
  · simp only [leB,Bool.or_eq_true,decide_eq_true_eq];exact List.le_total a b
  · rw [List.pairwise_map]
    refine hs.imp fun {a b} h=>?_
    rw [N6] at h
    have h:=of_decide_eq_true h
    rw [ByteArray.toList_eq,ByteArray.toList_eq] at h
    simp only [leB,decide_eq_true_eq]
    exact List.le_of_lt h
theorem Aat (es:List Bj):(es.map (·.1.data.toList)).map encStr=(es.map (·.1)).flatMap nmC:=by
  induction es with
  | nil=>rfl
  | cons a l ih=>simp only [List.map_cons,List.flatMap_cons,ih];rfl
theorem R9 (mb kb:Nat) (des es:List Bj) (hE:ER des es) (hs:Zs es) (hr:∀ e∈es,e.1.size≤1000000) (hl:es.length≤1000000) :
    Au Tryz.prog 51 #[.func (.func 86) #[] #[.pointer (some ⟨kb,0,none⟩)]] [Bw true kb [.map (some mb)] 82,Ci true mb sk (des.map Bd)] fun u L=>∃ v',u=v'∧L=[A8 true v' 9 1 nmC (es.map fun e=>e.1),Bw true kb [.map (some mb)] 82,Ci true mb sk (des.map Bd)]:=fun E w0 w ho=>by
  have hk:(des.map Bd).map (·.1.data.toList)=des.map (·.1.data.toList):=by rw [List.map_map];rfl
  refine (U5 (kv:=des.map Bd) mb kb w (ho.fact 1 rfl) (ho.fact 0 rfl) (by rw [List.length_map,hE.len];exact hl) (fun p hp=>by
    obtain ⟨e,he,rfl⟩:=List.mem_map.1 hp
    have:=hr e (hE.perm.mem_iff.1 he)
    show e.1.size≤maxLen
    unfold maxLen;omega)).mono ?_
  rintro e w' ⟨v,ss,rfl,hp,hrow,hb⟩
  rw [hk] at hp
  have hp2:=hp.trans (hE.perm.map _)
  have hlen:ss.length=(es.map fun e=>e.1).length:=by rw [hp2.length_eq,List.length_map,List.length_map]
  rw [Se hs hp2,hlen,Aat] at hrow
  obtain ⟨s1,s2⟩:=(Bb.of_owns hrow (fun x h1 h2=>⟨h1,h2⟩):Bb w' v 9 1 (es.map fun e=>e.1).length ((es.map fun e=>e.1).flatMap nmC) (fun x=>w.heap.size≤x∧x<w'.heap.size)).own
  have hc:Chg Nil w w':=Chg.of_below hb (fun x a b=>by omega)
  exact ⟨_,_,⟨v,rfl,rfl⟩,rfl,ho.push hc s1 fun b hb=>(s2 b hb).1⟩
end
section
variable {P:Program} {a:Act} {w0:World} {E:Ent} {L:List Res} {dst:Option Tmp} {T ty d:TypeId} {x y:Operand} {pos:String} {after:Array Edge} {g:Option (Nat×Bool)} {v:Value} {n k:Nat} {xs:List Value} {r:Res}
theorem Acz {lo hi:Nat} (hx:(a.eval x,P.underlying T)=(Ma k v lo hi,some (.slice d))) (i:Nat) (hi':L[i]?=some r) (hr:J4 r v n xs) :
    Cl P w0 E L ⟨dst,.call { callee:=.builtin .len,args:=#[x],argTypes:=#[T] },ty,pos,after,g⟩ a (.int .i64 ((hi - lo:Nat):Int)):=fun w h=>by
  simp only [Prod.mk.injEq] at hx
  obtain ⟨h1,h2⟩:=hx
  obtain ⟨⟨ad,cap,e,_⟩,_⟩:=hr w (h.fact i hi')
  rw [e] at h1
  have h1:a.eval x=.slice (if cap=lo then ad else ad.map (·.add (lo*k))) (hi - lo) (cap - lo):=h1
  simp [execOp,resolve,invoke,builtin,Builtin.len_,h1,Sem.run_bind,run_underlying h2,goInt]
theorem Ac2 {lo hi:Nat} (j:Nat) {z:Int} (hz:z=(j:Int)) (hx:(a.eval x,a.eval y,P.underlying T,(P.info? d).map (·.size))=(Ma k v lo hi,.int .i64 z,some (.slice d),some k)) (hj:lo+j<hi) (hn:hi≤n) (i:Nat) (hi':L[i]?=some r) (hr:J4 r v n xs) :
    Cl P w0 E L ⟨dst,.indexAddr T x y,ty,pos,after,g⟩ a (.pointer (some ⟨Dg v,B0 v+(lo+j)*k,none⟩)):=fun w h=>by
  subst hz
  obtain ⟨h1,h2,h3,h4⟩:a.eval x=_∧a.eval y=_∧P.underlying T=_∧(P.info? d).map (·.size)=some k:=by simpa using hx
  obtain ⟨⟨ad,cap,e,hc1,_,hp⟩,_⟩:=hr w (h.fact i hi')
  obtain rfl:=hp 0 (by omega)
  have h1:a.eval x=.slice (some ⟨Dg v,B0 v+lo*k,none⟩) (hi - lo) (cap - lo):=by
    rw [h1]
    obtain ⟨B,hB⟩:∃ B,B=Dg v:=⟨_,rfl⟩
    obtain ⟨O,hO⟩:∃ O,O=B0 v:=⟨_,rfl⟩
    rw [← hB,← hO] at e ⊢
    rw [e]
    show Value.slice (if cap=lo then _ else _) _ _=_
    rw [if_neg (by omega)]
    simp [Addr.add]
  have hz:=Gk (w:=w) h4
  have hi1:(0:Int)≤(j:Int)∧(j:Int)<((hi - lo:Nat):Int):=by omega
  simp only [execOp,Instr.indexAt,h1,h2,asIntOf,Sem.run_bind,Sem.run_pure,Result.andThen_ok,run_underlying h3]
  simp only [Sem.run_ite,hi1,and_self,if_true,Sem.run_bind,hz,Result.andThen_ok,Sem.run_pure,Int.toNat_natCast,Addr.add_lit]
  rw [Nat.add_assoc,← Nat.add_mul]
end
theorem Aax {es:List Bj} {lo k:Nat} {x:Bj} (h:es[lo+k]?=some x):(es.drop lo).take (k+1)=(es.drop lo).take k++[x]:=by
  rw [List.take_add_one,List.getElem?_drop,h];rfl
theorem nm_at {es:List Bj} {i:Nat} {s:ByteArray} (h:(es.map fun e=>e.1)[i]?=some s):∃ e,es[i]?=some e∧s=e.1:=by
  rw [List.getElem?_map] at h
  cases hq:es[i]? with
  | none=>rw [hq] at h;cases h
  | some e=>rw [hq] at h;exact ⟨e,rfl,by simpa using h.symm⟩
theorem en_at {des es:List Bj} (hE:ER des es) {i:Nat} {e:Bj} (h:es[i]?=some e):Af (des.map Bd) e.1=some (hk e.2):=B9 (Yw hE.nd (hE.perm.mem_iff.2 (List.mem_of_getElem? h)))
section
variable {B:Nat} (ad:Nat→Addr) (b most tb dm pm:Nat) (ps:List (Option Nat)) (gs:List Int) (vl vg:Value) (T:TypeId) (Sl Sg:Nat→Prop) (l:List (Option ND)) (ds:List DN) (pn:List ((Int×Int)×Int)) (hl:ps.length=gs.length) (hr:∀ x∈gs,0≤x∧x≤1000000) (n g:Int)
include B ad b most tb dm pm ps gs vl vg T Sl Sg l ds pn hl hr n g
theorem Abi (c:Nat) (hd:On ps gs l ds n g c) (cq mq:Int):Au Tryz.prog 19 #[Pp b,Hg n g,Ii cq,Ii mq] (Ra B ad b tb most dm pm ps gs vl vg T Sl Sg l ds pn) (fun u L=>u=.tuple #[.slice none 0 0,Ii 0,Ag ad (c+1)]∧L=(Ra B ad b tb most dm pm ps gs vl vg T Sl Sg l ds pn)):=by
 refine Zo 63 Tryz.func19 fun E w0 w h=>?_
 exact Qs (ZN [Ii n,Ii g] 34 h fun k1 w h=>ZP (.slice none 0 0) (ZP (Ii 0) (ZP .nilIface (Qm (ZP (Pp b) (ZG h (Gla 0 [Ii n,Ii g] 0) (ZC [1,1,1,1,1,1,1] (K4 ad b most tb dm pm ps gs vl vg T Sl Sg l ds pn hl hr n g c hd) h fun w h=>ZP (.tuple #[.map none,Ag ad (c+1)]) (ZP (.map none) (ZP (Ag ad (c+1)) (ZP (.map none) (ZP (Ag ad (c+1)) (Qu (ZP (Ag ad (c+1)) (ZP (.bool true) (Qg (Qs (ZP (Ag ad (c+1)) (ZP (.slice none 0 0) (ZP (Ii 0) (ZP (Ag ad (c+1)) (Qr (Ar (ZR [.slice none 0 0,Ii 0,Ag ad (c+1)] [0,0,0,0,0,0,0] h ⟨rfl,rfl⟩)))))))))))))))))))))))
theorem Aba (k:Nat) (N:ND) (hlk:l[k]?=some (some N)) (ha:Bk ps gs n g=some N.nb) (j:Nat) (d:DN) (hj:ds[j]?=some d) (hdh:d.h=(n,g)) (hdd:(ds.map (·.h)).Nodup) (cq mq:Int) (hneg:cq<0∨mq<0):Au Tryz.prog 19 #[Pp b,Hg n g,Ii cq,Ii mq] (Ra B ad b tb most dm pm ps gs vl vg T Sl Sg l ds pn) (fun u L=>u=.tuple #[.slice none 0 0,Ii 0,Ag ad 2]∧L=(Ra B ad b tb most dm pm ps gs vl vg T Sl Sg l ds pn)):=by
 refine Zo 63 Tryz.func19 fun E w0 w h=>?_
 have h:=(h.eS [10] 6 rfl).eS [2] 7 rfl
 refine Qs (ZN [Ii n,Ii g] 34 h fun k1 w h=>ZP (.slice none 0 0) (ZP (Ii 0) (ZP .nilIface (Qm (ZP (Pp b) (ZG h (Gla 0 [Ii n,Ii g] 0) (ZC [3,3,3,3,2] (A7 ad b most tb dm pm ps gs vl vg T Sl Sg l ds pn hl hr n g k N hlk ha j d hj hdh hdd) h fun w h=>ZP (.tuple #[.map (some d.mb),.nilIface]) (ZP (.map (some d.mb)) (ZP .nilIface (ZP (.map (some d.mb)) (ZP .nilIface (Qu (ZP .nilIface (ZP (.bool false) (Ft (ZP (Ii cq) ?_))))))))))))))))
 obtain ⟨b2,hb2⟩:=nmB (decide (cq<0))
 refine ZB hb2 (ZP (.bool b2) (ZM0 (v:=Ii mq) b2 h (fun hB=>by subst hB;exact Gp (Ii mq)) ?_))
 obtain ⟨b3,hb3⟩:=nmB (decide (mq<0))
 refine ZM0 (v:=.bool b3) b2 h (fun hB=>by subst hB;exact by subst hb3;exact Az (v:=.bool (decide (mq<0))) fun _=>by kernel_rfl) ?_
 obtain ⟨b4,hb4⟩:=nmB (b2||b3)
 refine ZBc b2 hb4 (Qn (Zi (b4) (fun hc5=>?_) fun hc5=>?_))
 have q6:=hb4.symm.trans hc5
 have q7:((cq<0)∨(mq<0)):=by subst hb3;subst hb2;revert q6;first|(simp;done)|(simp;omega)
 exact Aa (Ds 4 [6] h fun w h=>Dq 0 6 [6] rfl h (Gr 0 (Ag ad 2) 0 rfl (Ff (c:=2) (by decide) rfl)) (Dp 1 1 (.slice none 0 0) [6] h (Dp 2 3 (Ii 0) [6] h (Dp 3 7 (Ag ad 2) [6] h (Dd (Ai (Hv (Ar (ZR [.slice none 0 0,Ii 0,Ag ad 2] [0,0,0,0,3,3,3] h ⟨rfl,rfl⟩)))))))))
 have q8:=hb4.symm.trans hc5
 have q9:=oL q8
 have q10:=oR q8
 have q11:=hb2.symm.trans q9
 have q11:=dcF q11
 have q12:=hb3.symm.trans q10
 have q12:=dcF q12
 exfalso;first|omega|(simp only [List.length_map] at *;omega)|(revert hc5;subst hb4;subst hb3;subst hb2;simp;done)|(revert hc5;subst hb4;subst hb3;subst hb2;simp;omega)
theorem Aeh (k:Nat) (N:ND) (hlk:l[k]?=some (some N)) (ha:Bk ps gs n g=some N.nb) (j:Nat) (d:DN) (hj:ds[j]?=some d) (hdh:d.h=(n,g)) (hdd:(ds.map (·.h)).Nodup) (es:List Bj) (hE:ER d.es es) (hS:Zs es) (hsz:∀ e∈es,e.1.size≤1000000) (hfew:es.length≤60) (cn mn:Nat) (hcn:cn≤9223372036854775807) (hmn:mn≤9223372036854775807):Au Tryz.prog 19 #[Pp b,Hg n g,Ii cn,Ii mn] (Ra B ad b tb most dm pm ps gs vl vg T Sl Sg l ds pn) (fun u L=>∃ v',u=.tuple #[v',Ii (((lsE es (cn:Int) (mn:Int)).2:Nat):Int),.nilIface]∧L=[Rb b tb most dm pm,B1 tb ps gs vl vg T Sl Sg,Cm l,Ci true dm hk (ds.map Bt),Eh ds,Ci true pm hk (pn.map Cw),A6 B ad,A8 true v' 107 3 e3C ((lsE es (cn:Int) (mn:Int)).1)]):=by
 have hml:(es.map fun e=>e.1).length=es.length:=List.length_map _
 refine Zo 63 Tryz.func19 fun E w0 w h=>?_
 have h:=h.eS [10] 6 rfl
 refine Qs (ZN [Ii n,Ii g] 34 h fun k1 w h=>ZP (.slice none 0 0) (ZP (Ii 0) (ZP .nilIface (Qm (ZP (Pp b) (ZG h (Gla 0 [Ii n,Ii g] 0) (ZC [2,2,2,2,1] (A7 ad b most tb dm pm ps gs vl vg T Sl Sg l ds pn hl hr n g k N hlk ha j d hj hdh hdd) h fun w h=>ZP (.tuple #[.map (some d.mb),.nilIface]) (ZP (.map (some d.mb)) (ZP .nilIface (ZP (.map (some d.mb)) (ZP .nilIface (Qu (ZP .nilIface (ZP (.bool false) (Ft (ZP (Ii cn) ?_))))))))))))))))
 obtain ⟨b2,hb2⟩:=nmB (decide ((cn:Int)<0))
 refine ZB hb2 (ZP (.bool b2) (ZM0 (v:=Ii mn) b2 h (fun hB=>by subst hB;exact Gp (Ii mn)) ?_))
 obtain ⟨b3,hb3⟩:=nmB (decide ((mn:Int)<0))
 refine ZM0 (v:=.bool b3) b2 h (fun hB=>by subst hB;exact by subst hb3;exact Az (v:=.bool (decide ((mn:Int)<0))) fun _=>by kernel_rfl) ?_
 obtain ⟨b4,hb4⟩:=nmB (b2||b3)
 refine ZBc b2 hb4 (Qn (Zi (b4) (fun hc5=>?_) fun hc5=>?_))
 have q6:=hb4.symm.trans hc5
 have q7:(((cn:Int)<0)∨((mn:Int)<0)):=by subst hb3;subst hb2;revert q6;first|(simp;done)|(simp;omega)
 exfalso;first|omega|(simp only [List.length_map] at *;omega)|(revert hc5;subst hb4;subst hb3;subst hb2;simp;done)|(revert hc5;subst hb4;subst hb3;subst hb2;simp;omega)
 have q8:=hb4.symm.trans hc5
 have q9:=oL q8
 have q10:=oR q8
 have q11:=hb2.symm.trans q9
 have q11:=dcF q11
 have q12:=hb3.symm.trans q10
 have q12:=dcF q12
 refine Kn (Aa ?_)
 have h:=(h.pkr [6]).dirOpen hj
 refine Ah (ZP (.map (some d.mb)) ?_)
 refine ZD [0] (V1 d.mb _) h ?_;rintro v_ L_ w ⟨p13,rfl,rfl⟩ h
 refine ZD [0,0] (R9 d.mb p13 d.es es hE hS hsz (by omega)) h ?_;rintro v14 L_ w ⟨_,rfl,rfl⟩ h
 refine ZP v14 (Qm (ZP (Ii cn) (ZP v14 (ZG h (Ki (by kernel_rfl) 0 rfl) (ZG h (Abx (u:=(cn:Int)) (v:=((es.map fun e=>e.1).length:Int)) (by kernel_rfl)) (ZP (Ii (min (cn:Int) ((es.map fun e=>e.1).length:Int))) (Qm (ZP (Ii (min (cn:Int) ((es.map fun e=>e.1).length:Int))) (ZP (Ii mn) (ZP v14 (ZG h (Ki (by kernel_rfl) 0 rfl) (ZP (Ii (min (cn:Int) ((es.map fun e=>e.1).length:Int))) (ZG h (Gw (((es.map fun e=>e.1).length:Int) - (min (cn:Int) ((es.map fun e=>e.1).length:Int)))) (ZG h (Abx (u:=(mn:Int)) (v:=((es.map fun e=>e.1).length:Int) - (min (cn:Int) ((es.map fun e=>e.1).length:Int))) (by kernel_rfl)) (ZG h (Gw ((min (cn:Int) ((es.map fun e=>e.1).length:Int))+(min (mn:Int) (((es.map fun e=>e.1).length:Int) - (min (cn:Int) ((es.map fun e=>e.1).length:Int)))))) (ZP (Ii ((min (cn:Int) ((es.map fun e=>e.1).length:Int))+(min (mn:Int) (((es.map fun e=>e.1).length:Int) - (min (cn:Int) ((es.map fun e=>e.1).length:Int)))))) (Qu (ZP v14 (ZP (Ii (min (cn:Int) ((es.map fun e=>e.1).length:Int))) (ZP (Ii ((min (cn:Int) ((es.map fun e=>e.1).length:Int))+(min (mn:Int) (((es.map fun e=>e.1).length:Int) - (min (cn:Int) ((es.map fun e=>e.1).length:Int)))))) ?_))))))))))))))))))))
 obtain ⟨j15,hj15⟩:∃ n:Nat,min (cn:Int) ((es.map fun e=>e.1).length:Int)=(n:Int):=⟨(min (cn:Int) ((es.map fun e=>e.1).length:Int)).toNat,by omega⟩
 obtain ⟨j16,hj16⟩:∃ n:Nat,(min (cn:Int) ((es.map fun e=>e.1).length:Int))+(min (mn:Int) (((es.map fun e=>e.1).length:Int) - (min (cn:Int) ((es.map fun e=>e.1).length:Int))))=(n:Int):=⟨((min (cn:Int) ((es.map fun e=>e.1).length:Int))+(min (mn:Int) (((es.map fun e=>e.1).length:Int) - (min (cn:Int) ((es.map fun e=>e.1).length:Int))))).toNat,by omega⟩
 refine ZG h (Wx (v:=v14) (d:=9) (k:=1) (LV:=(some (Ii (min (cn:Int) ((es.map fun e=>e.1).length:Int))))) (HV:=(some (Ii ((min (cn:Int) ((es.map fun e=>e.1).length:Int))+(min (mn:Int) (((es.map fun e=>e.1).length:Int) - (min (cn:Int) ((es.map fun e=>e.1).length:Int)))))))) j15 j16 (by kernel_rfl) (bnd hj15) (bnd hj16) (by first|omega|(simp;omega)) (by first|omega|(simp;omega)) 0 rfl H4) (ZG h (Acz (v:=v14) (d:=9) (k:=1) (lo:=j15) (hi:=j16) (by kernel_rfl) 0 rfl H4) (ZP (Ii 0) (Qn (Av ?_))))
 have h:=h.nilRows 107 3 e3C
 refine ZL (X:=Nat×List Bj×Value×(Nat→Value)) [(15,15),(53,64)] (fun ⟨k,ls,vo,J0⟩=>[(8,vo),(52,Ii k)]) (fun ⟨k,ls,vo,J0⟩=>J0) (fun ⟨k,ls,vo,J0⟩=>[A8 true vo 107 3 e3C ls,A8 true v14 9 1 nmC (es.map fun e=>e.1),Bw true p13 [.map (some d.mb)] 82,Ci true d.mb sk (d.es.map Bd),Su ds j,Rb b tb most dm pm,B1 tb ps gs vl vg T Sl Sg,Cm l,Ci true dm hk (ds.map Bt),Br B ad [10],Rh k1 n g,Ci true pm hk (pn.map Cw),A6 B ad]) (fun ⟨k,ls,vo,J0⟩=>k≤j16 - j15∧ls=(es.drop j15).take k) (fun ⟨k,ls,vo,J0⟩=>j16 - j15 - k) (fun j=>⟨0,[],(.slice none 0 0),j⟩) ⟨by omega,by simp⟩ [0,0,0,0,0,0,0,0,0,0,0,0,0] h ?_
 rintro ⟨k,ls,vo,J0⟩ w hG h
 obtain ⟨hk1,hls⟩:k≤j16 - j15∧ls=(es.drop j15).take k:=hG
 have hll:ls.length≤60:=by rw [hls,List.length_take,List.length_drop];omega
 refine Qs (ZP (.bool (decide ((k:Int)<((j16 - j15:Nat):Int)))) (Qn (Aa (Zd ((k:Int)<((j16 - j15:Nat):Int)) (fun hc17=>?_) fun hc17=>?_))))
 refine Kn (Aa (Av (Qs ?_)))
 have hi18:j15+k<(es.map fun e=>e.1).length:=by omega
 obtain ⟨x19,hx20⟩:∃ x,(es.map fun e=>e.1)[j15+k]?=some x:=⟨_,List.getElem?_eq_getElem hi18⟩
 obtain ⟨e21,he22,rfl⟩:=nm_at hx20
 refine ZG h (Ac2 (v:=v14) (d:=9) (k:=1) (lo:=j15) (hi:=j16) k rfl (by kernel_rfl) (by omega) (by first|omega|(simp;omega)) 1 rfl H4) (ZG h (Gr (B0 v14+(j15+k)*1) (.string e21.1) 1 rfl (L6 Afc hx20 (by kernel_rfl))) (ZP (.string e21.1) (Qn (Ah (ZP vo (ZP (.string e21.1) (ZP (.map (some d.mb)) (ZP (.string e21.1) (ZG h (A4 (v':=Hg e21.2.1 e21.2.2) (Gks (kv:=d.es.map Bd) false e21.1 3 rfl) (by rw [en_at hE he22];rfl)) (ZP (.agg #[.string e21.1,Ii e21.2.1,Ii e21.2.2]) ?_))))))))))
 refine Gm rfl (fun b=>.slice (some ⟨b,0,none⟩) 1 1) [.string e21.1,Ii e21.2.1,Ii e21.2.2] 107 (fun _=>by kernel_rfl) h ?_;intro k23 w h
 refine Hc (b:=k23) (o:=0) rfl 1 e21 (by kernel_rfl) h 1 rfl 0 rfl (Fb 0 (by kernel_rfl)) (by (try simp only [List.length_append,List.length_cons,List.length_nil,List.length_map]);omega) ?_;intro v24 w h
 refine ZP v24 (Cu ?_)
 refine Cb (Ai ?_)
 refine Ah (ZG h (A4 (v:=Ii (IntKind.i64.wrap ((k:Int)+1))) (v':=Ii ((k+1:Nat):Int)) (Az fun _=>by kernel_rfl) (wr (by omega))) (ZP (Ii ((k+1:Nat):Int)) (Cu ?_)))
 have hQ25:((k+1)≤j16 - j15∧(ls++[e21])=(es.drop j15).take (k+1))∧(j16 - j15 - (k+1))<(j16 - j15 - k):=⟨⟨by omega,by rw [Aax he22,← hls]⟩,by omega⟩
 refine Bn (fun j=>⟨(k+1),ls++[e21],v24,j⟩) hQ25 (by kernel_rfl) [1,1,1,1,1,1,1,1,1,1,1,1,1] (by kernel_rfl) h
 refine C9 (D3 (Ek (Ea (Ai (Qs (ZP vo (ZP (Ii ((min (cn:Int) ((es.map fun e=>e.1).length:Int))+(min (mn:Int) (((es.map fun e=>e.1).length:Int) - (min (cn:Int) ((es.map fun e=>e.1).length:Int)))))) (ZP vo (ZP (Ii ((min (cn:Int) ((es.map fun e=>e.1).length:Int))+(min (mn:Int) (((es.map fun e=>e.1).length:Int) - (min (cn:Int) ((es.map fun e=>e.1).length:Int)))))) (ZP .nilIface (Qr ?_)))))))))))
 have h:=(h.pkr [3,3]).dirBack (d:=d) hj
 refine ZR [vo,Ii ((min (cn:Int) ((es.map fun e=>e.1).length:Int))+(min (mn:Int) (((es.map fun e=>e.1).length:Int) - (min (cn:Int) ((es.map fun e=>e.1).length:Int))))),.nilIface] [4,4,4,4,0,5,5,0] h ?_
 have hT:lsE es (cn:Int) (mn:Int)=(ls,j16):=P6 (k0:=j15) (by omega) (by omega) (by omega) (by omega) (by rw [hls];congr 1;omega) (by omega)
 exact ⟨_,by rw [hT,← hj16];rfl,by rw [hT];rfl⟩
end
theorem Au.ptx {P:Program} {f:FuncId} {args:Array Value} {most:Nat} {z:PZ} {M:List Res} {Φ:Value→List Res→Prop} (h:Au P f args (z.core most++M) fun u L=>∃ X,Φ u X∧L=z.core most++(M++X)):Au P f args (rPT most z::M) fun u L=>∃ X,Φ u X∧L=rPT most z::(M++X):=fun E w0 w ho=>
  (h E w0 w ho.allSplit).mono fun e w' ⟨u,L,⟨X,hu,hL⟩,he,ho'⟩=>⟨u,_,⟨X,hu,rfl⟩,he,by subst hL;exact Own.allJoin _ (z.core_wr most) ho'⟩
def Nc:Option (Option Nat)→Bool
  | some (some _)=>true
  | _=>false
theorem Kk:∀ ps:List (Option Nat),Fj ps=((List.range ps.length).filter fun k=>Nc ps[k]?).length
  | []=>rfl
  | x::r=>by
    rw [List.length_cons,List.range_succ_eq_map,List.filter_cons,List.filter_map]
    have h:((fun k=>Nc (x::r)[k]?)∘Nat.succ)=fun k=>Nc r[k]?:=by
      funext k
      simp [Function.comp]
    rw [h]
    cases x with
    | none=>
      show Fj r=_
      rw [Kk r]
      simp [Nc]
    | some b=>
      show Fj r+1=_
      rw [Kk r]
      simp [Nc]
section
variable {B:Nat} (ad:Nat→Addr) {most:Nat} {z:PZ} {A:List AN} {ts:List Int} {c:Int} (s:D6 most z A ts c)
include s
theorem V8 (n g cq mq:Int) (hcq:cq≤9223372036854775807) (hmq:mq≤9223372036854775807):Au Tryz.prog 19 #[.pointer (some ⟨z.b,0,none⟩),.agg #[.int .i64 n,.int .i64 g],.int .i64 cq,.int .i64 mq] [rPT most z,A6 B ad] fun u L=>∃ v',u=.tuple #[v',.int .i64 (((Cg A (n,g) cq mq).2.1:Nat):Int),Ag ad (Cg A (n,g) cq mq).2.2]∧L=[rPT most z,A6 B ad,A8 true v' 107 3 e3C (Cg A (n,g) cq mq).1]:=by
  have bad:∀ e:Nat,Cg A (n,g) cq mq=([],0,e)→Au Tryz.prog 19 #[.pointer (some ⟨z.b,0,none⟩),.agg #[.int .i64 n,.int .i64 g],.int .i64 cq,.int .i64 mq] (z.core most++[A6 B ad]) (fun u L=>u=.tuple #[.slice none 0 0,.int .i64 0,Ag ad e]∧L=z.core most++[A6 B ad])→Au Tryz.prog 19 #[.pointer (some ⟨z.b,0,none⟩),.agg #[.int .i64 n,.int .i64 g],.int .i64 cq,.int .i64 mq] [rPT most z,A6 B ad] fun u L=>∃ v',u=.tuple #[v',.int .i64 (((Cg A (n,g) cq mq).2.1:Nat):Int),Ag ad (Cg A (n,g) cq mq).2.2]∧L=[rPT most z,A6 B ad,A8 true v' 107 3 e3C (Cg A (n,g) cq mq).1]:=fun e h1 h2=>by
    rw [h1]
    refine (Au.ptq (M:=[A6 B ad]) (Φ:=fun u=>u=.tuple #[.slice none 0 0,.int .i64 0,Ag ad e]) h2).after fun E w0 w u L h ho=>?_
    obtain ⟨rfl,rfl⟩:=h
    exact ⟨_,⟨.slice none 0 0,rfl,rfl⟩,(ho.nilRows 107 3 e3C).pick [1,1,0]⟩
  rcases s.dir n g ⟨#[]⟩ with ⟨c',h1,h2⟩|⟨k,N,M,j,d,rfl,h1,h2,h3,h4,h5,h6,h7,k2,h8,h9,h10,hkm⟩
  · refine bad (c'+1) ?_ (Abi ad z.b most z.tb z.dm z.pm z.ps z.gs z.vl z.vg z.T z.Sl z.Sg z.l z.ds z.pn s.hl s.hr n g c' h1 cq mq)
    rcases h2 with ⟨rfl,h⟩|⟨rfl,M,h,hk⟩
    · exact Sf h
    · exact S7 h hk
  by_cases hneg:cq<0∨mq<0
  · exact bad 2 (P2 h3 k2 hneg) (Aba ad z.b most z.tb z.dm z.pm z.ps z.gs z.vl z.vg z.T z.Sl z.Sg z.l z.ds z.pn s.hl s.hr (k:Int) g k N h1 h2 j d h8 h9 s.dd cq mq hneg)
  · obtain ⟨cn,rfl⟩:∃ cn:Nat,cq=(cn:Int):=⟨cq.toNat,by omega⟩
    obtain ⟨mn,rfl⟩:∃ mn:Nat,mq=(mn:Int):=⟨mq.toNat,by omega⟩
    have hT:=Vn h3 k2 hneg
    rw [hT]
    have hsz:∀ e∈M.es,e.1.size≤1000000:=fun e he=>by have:=s.nsz M h4 e he;omega
    refine (Au.ptx (M:=[A6 B ad]) (Φ:=fun u X=>∃ v',u=.tuple #[v',.int .i64 (((lsE M.es (cn:Int) (mn:Int)).2:Nat):Int),Ag ad 0]∧X=[A8 true v' 107 3 e3C (lsE M.es (cn:Int) (mn:Int)).1]) ((Aeh ad z.b most z.tb z.dm z.pm z.ps z.gs z.vl z.vg z.T z.Sl z.Sg z.l z.ds z.pn s.hl s.hr (k:Int) g k N h1 h2 j d h8 h9 s.dd M.es h10 (s.srt M h4) hsz (s.ti.base.few M h4) cn mn (by omega) (by omega)).mono fun u L h=>?_)).mono fun u L h=>?_
    · obtain ⟨v',rfl,rfl⟩:=h
      exact ⟨_,⟨v',rfl,rfl⟩,rfl⟩
    · obtain ⟨X,⟨v',rfl,rfl⟩,rfl⟩:=h
      exact ⟨v',rfl,rfl⟩
theorem Wt:Au Tryz.prog 13 #[.pointer (some ⟨z.b,0,none⟩)] [rPT most z] fun u L=>u=.agg #[.int .i64 0,.int .i64 0]∧L=[rPT most z]:=by
  refine Au.ptq (M:=[]) (Φ:=fun u=>u=.agg #[.int .i64 0,.int .i64 0]) ?_
  exact ((Zq z.b most z.tb z.dm z.pm).frame _).mono fun u L ⟨L1,⟨h1,h2⟩,h3⟩=>⟨h1,by rw [h3,h2];rfl⟩
theorem D6.count:Fj z.ps=A.length:=by
  have hp:(((List.range most).filter fun k=>Nc z.ps[k]?).map fun k:Nat=>(k:Int)).Perm (A.map (·.h.1)):=by
    refine (List.perm_ext_iff_of_nodup ?_ s.ti.base.num).2 fun x=>?_
    · rw [List.nodup_iff_pairwise_ne,List.pairwise_map]
      have:=List.nodup_range (n:=most)
      exact (List.Pairwise.filter _ (List.nodup_iff_pairwise_ne.1 this)).imp fun {a b} h=>by omega
    · rw [List.mem_map,List.mem_map]
      constructor
      · rintro ⟨k,hk,rfl⟩
        obtain ⟨h1,h2⟩:=List.mem_filter.1 hk
        have hk:=List.mem_range.1 h1
        rcases s.sim.nd k hk with ⟨a,_⟩|⟨N,M,_,_,c,d,_⟩
        · rw [a] at h2;cases h2
        · exact ⟨M,c,by rw [d]⟩
      · rintro ⟨M,hM,rfl⟩
        obtain ⟨k,hk,e⟩:=s.ti.base.gen M hM
        refine ⟨k,List.mem_filter.2 ⟨List.mem_range.2 hk,?_⟩,by rw [e]⟩
        rcases s.sim.nd k hk with ⟨_,_,c⟩|⟨N,M',a,_⟩
        · exact absurd (by rw [e]) (c M hM)
        · rw [a];rfl
  have h1:=hp.length_eq
  rw [List.length_map,List.length_map] at h1
  rw [Kk,s.sim.lps];exact h1
theorem Tn:Au Tryz.prog 15 #[.pointer (some ⟨z.b,0,none⟩)] [rPT most z] fun u L=>u=.int .i64 (A.length:Int)∧L=[rPT most z]:=by
  refine Au.ptq (M:=[]) (Φ:=fun u=>u=.int .i64 (A.length:Int)) ?_
  have hps:z.ps.length≤300:=by rw [s.sim.lps];exact s.m3
  refine ((W4 z.b most z.tb z.dm z.pm z.ps z.gs z.vl z.vg z.T z.Sl z.Sg hps).frame _).mono fun u L ⟨L1,⟨h1,h2⟩,h3⟩=>⟨?_,by rw [h3,h2];rfl⟩
  rw [h1,s.count]
end
theorem Aby {m:Nat} (h1:1≤m):F2 (List.replicate m none)=some 0:=by
  obtain ⟨c,rfl⟩:∃ c,m=c+1:=⟨m - 1,by omega⟩
  rfl
theorem Afp {m:Nat} (h1:1≤m):(List.replicate m (0:Int))[0]?=some 0:=by rw [List.getElem?_replicate,if_pos (by omega)]
theorem Aek {m:Nat} {x:Option ND} (h1:1≤m):((List.replicate m (none:Option ND)).set 0 x)[0]?=some x:=List.getElem?_set_self (by simp;omega)
theorem Afd (m:Nat):∀ x∈(List.replicate m (0:Int)).set 0 (0+1),0≤x∧x≤1000000:=fun x hx=>by
  rcases List.mem_or_eq_of_mem_set hx with hx|rfl
  · rw [(List.mem_replicate.1 hx).2];decide
  · decide
theorem Agw (nb:Nat) {m:Nat} (h1:1≤m):Bk ((List.replicate m none).set 0 (some nb)) ((List.replicate m (0:Int)).set 0 (0+1)) 0 0=some nb:=by
  have h:=Hp (ps:=(List.replicate m none).set 0 (some nb)) (gs:=(List.replicate m (0:Int)).set 0 (0+1)) (k:=0) (g:=0) (p:=some nb) (x:=0+1) (List.getElem?_set_self (by simp;omega)) (List.getElem?_set_self (by simp;omega))
  exact h
theorem Aak {B:Nat} (ad:Nat→Addr) (m:Nat) (h1:1≤m) (h2:m≤300)  : Au Tryz.prog 9 #[Ii m] [A6 B ad] (fun u L=>∃ b tb dm pm vl vg T Sl Sg nb mb,u=.tuple #[Pp b,.nilIface]∧L=[Bw true b [Pp tb,Ii m,Ii 0,Ii 0,.map (some dm),.map (some pm)] 80,B1 tb ((List.replicate m none).set 0 (some nb)) ((List.replicate m 0).set 0 (0+1)) vl vg T Sl Sg,Cm (((List.replicate m none).set 0 (some (Cs nb 2 none))).set 0 (some (keepN (Cs nb 2 none) 2 0 2 0 0))),Ci true dm hk ([(⟨(0,0),mb,[]⟩:DN)].map Bt),Eh [(⟨(0,0),mb,[]⟩:DN)],Ci true pm hk (([]:List ((Int×Int)×Int)).map Cw),A6 B ad]):=by
 refine Zo 49 Tryz.func9 fun E w0 w h=>?_
 have h:=h.eS [10] 0 rfl
 refine Qs (ZP (.pointer none) (ZP .nilIface (Qm (ZP (Ii m) ?_))))
 refine ZD [] (Va m h1 h2) h ?_;rintro v_ L_ w ⟨tb,vl,vg,T,Sl,Sg,rfl,rfl⟩ h
 refine ZP (.tuple #[Pp tb,.nilIface]) (ZP (Pp tb) (ZP .nilIface (ZP (Pp tb) (ZP .nilIface (Qu (ZP .nilIface (ZP (.bool false) (Fs (ZP (Pp tb) (ZP (Ii m) ?_))))))))))
 refine X7 rfl hk (fun _=>by kernel_rfl) h ?_;intro k1 w h
 refine X7 rfl hk (fun _=>by kernel_rfl) h ?_;intro k2 w h
 refine ZP (.agg #[Pp tb,Ii m,Ii 0,Ii 0,.map (some k1),.map (some k2)]) (ZN [Pp tb,Ii m,Ii 0,Ii 0,.map (some k1),.map (some k2)] 80 h fun k3 w h=>ZP (Pp k3) (Qm (ZP (Pp k3) (ZP (Pp tb) ?_))))
 refine ZD [3,3] (Mt tb 0 0 (List.replicate m none) (List.replicate m 0) vl vg T Sl Sg (List.replicate m none) (by simp;omega) (by simp) (Aby h1) (Afp h1) (by decide)) h ?_;rintro v_ L_ w ⟨nb,rfl,rfl⟩ h
 refine ZP (.tuple #[Hg 0 0,.nilIface]) (ZP (Hg 0 0) (ZP .nilIface (ZP (Pp k3) (ZP (Pt k3 2) (ZS 2 [Ii 0,Ii 0] [Pp tb,Ii m,Ii 0,Ii 0,.map (some k1),.map (some k2)] 2 rfl h fun w h=>Qn (Aa (Ds 10 [2] h fun w h=>Dp 0 496 (Pp k3) [2] h (Dp 1 497 (Pp k3) [2] h (Dp 2 499 (Pt k3 4) [2] h (Dq 3 503 [2] rfl h (Gl 4 (.map (some k1)) 0) (Dp 4 271 (Pp k3) [2] h (Dp 5 287 (Pp k3) [2] h (Dp 6 319 (Pt k3 2) [2] h (Dq 7 383 [2] rfl h (Gla 2 [Ii 0,Ii 0] 0) ?_))))))))))))))
 refine A1 [8] (by kernel_rfl) rfl ?_
 refine Yn [3] rfl (by kernel_rfl) sk (fun _=>by kernel_rfl) h ?_ ?_
 intro k4 w h;refine ⟨by kernel_rfl,?_⟩
 refine A1 [9] (by kernel_rfl) rfl ?_
 refine Yf [3] rfl (by kernel_rfl) (K:=34) (E:=82) Dk (0,0) (.map (some k4)) (by kernel_rfl) h 5 rfl ?_ ?_
 intro w h;refine ⟨by kernel_rfl,?_⟩
 refine Dd (Ai (Aa (Ds 11 [3] h fun w h=>Dp 0 1022 (Pp tb) [3] h (Dp 1 993 (Pp k3) [3] h (Dp 2 995 (Pp k3) [3] h (Dp 3 999 (Pt k3 2) [3] h (Dq 4 1007 [3] rfl h (Gla 2 [Ii 0,Ii 0] 0) (Dp 5 31 (Pp k3) [3] h (Dp 6 63 (Pp k3) [3] h (Dp 7 127 (Pt k3 2) [3] h (Dq 8 255 [3] rfl h (Gla 2 [Ii 0,Ii 0] 0) (Dp 9 511 (.agg #[Ii 2,Ii 0,Ii 2,Ii 0,Ii 0,Ii 0]) [3] h ?_))))))))))))
 refine Ad 10 [1,1,4] [4] (Gs ad tb ((List.replicate m none).set 0 (some nb)) ((List.replicate m 0).set 0 (0+1)) vl vg T Sl Sg ((List.replicate m none).set 0 (some (Cs nb 2 none))) (by simp) (Afd m) 0 0 0 (Cs nb 2 none) (Aek h1) (Agw nb h1) 2 0 2 0 0 0) h ?_
 rintro _ L_ w rfl h
 refine ⟨by kernel_rfl,?_⟩
 refine Dd (Ai (Qs (ZP (Pp k3) (ZP (Pp k3) (ZP .nilIface (Qr ?_))))))
 have h:=Own.dirAdd (ds:=[]) ⟨(0,0),k4,[]⟩ ((h.allNil).pkr [4])
 exact ZR [Pp k3,.nilIface] [4,1,1,3,0,1,1] h ⟨_,_,_,_,_,_,_,_,_,_,_,rfl,rfl⟩
 exact Ba
 exact Ba
theorem Aah (mo:Nat) (hmo:1≤mo∧mo≤300)  : Au Tryz.prog 10 #[Ii mo] [] (fun u L'=>∃ (b:Nat) (v vt:Value) (L:List RN),L.map RN.a=[C8 (0,0) 2]∧u=Pp b∧L'=[Rt b mo v vt,A8 true vt 3 1 inC ((List.replicate mo (0:Int)).set 0 1),rRL v L]):=by
 refine Zo 25 Tryz.func10 fun E w0 w h=>?_
 refine Qs (ZP (.pointer none) (Qm (ZP (Ii mo) (ZP (Ii mo) ?_))))
 refine Agz rfl (enc:=inC) (E:=3) (bytes:=8) (0:Int) mo rfl (by kernel_rfl) rfl (by omega) (by omega) h ?_;intro v1 w h
 have hsh2:=h.shape 0 rfl H4
 refine ZG h (Az (v:=.agg #[Ii mo,.slice none 0 0,v1]) fun _=>by obtain ⟨_,_,ehsh2⟩:=hsh2;rw [ehsh2];kernel_rfl) (ZN [Ii mo,.slice none 0 0,v1] 87 h fun k3 w h=>ZP (Pp k3) (Qm (ZP (Pp k3) (ZP (Pp k3) (ZP (Pt k3 2) (ZG h (Gl 2 (v1) 0) ?_))))))
 have hi4:0<(List.replicate mo (0:Int)).length:=by (rw [List.length_replicate];omega)
 obtain ⟨x5,hx6⟩:∃ x,(List.replicate mo (0:Int))[0]?=some x:=⟨_,List.getElem?_eq_getElem hi4⟩
 refine ZG h (Lk 0 (by kernel_rfl) hi4 1 rfl) ?_
 refine Fc rfl (b:=Dg v1) (B0 v1+0*1) [Ii 1] h 1 rfl (by kernel_rfl) (Ym Of hx6 0 1 (by kernel_rfl) (by kernel_rfl)) ?_;intro w h
 refine Qm ?_
 have h:=h.nilRows 88 1 ptB
 refine ZP (Pp k3) (ZP (Pp k3) (ZP (Pp k3) (ZP (Pt k3 1) (ZG h (Gl 1 (.slice none 0 0) 1) (ZP (.agg #[Ii 0,Ii 0,Ii 2,Ii 0,.string (⟨#[]⟩:ByteArray),.slice none 0 0,.slice none 0 0,Ii 0]) (ZN [Ii 0,Ii 0,Ii 2,Ii 0,.string (⟨#[]⟩:ByteArray),.slice none 0 0,.slice none 0 0,Ii 0] 93 h fun k7 w h=>?_))))))
 refine Gm rfl (fun b=>.slice (some ⟨b,0,none⟩) 1 1) [Pp k7] 88 (fun _=>by kernel_rfl) h ?_;intro k8 w h
 refine Hc (b:=k8) (o:=0) rfl 1 k7 (by kernel_rfl) h 2 rfl 0 rfl (Fb 0 (by kernel_rfl)) (by (try simp only [List.length_append,List.length_cons,List.length_nil,List.length_map]);omega) ?_;intro v9 w h
 refine ZP (Pp k3) (ZP (Pt k3 1) ?_)
 refine Jh rfl (h.slv 2 rfl) 1 [Ii mo,v9,v1] h 3 rfl (by kernel_rfl) ?_;intro w h
 refine Qm (ZP (Pp k3) (ZP (Pp k3) (Qr ?_)))
 have h:=Own.rlAdd (L:=[]) (⟨k7,.slice none 0 0,.slice none 0 0,C8 (0,0) 2⟩:RN) ((((h.nilRows 107 3 e3C).nilRows 4 1 hlC).rnNil).pkr [4,1,1,0,1])
 exact ZR [Pp k3] [2,2,0] h ⟨k3,v9,v1,[(⟨k7,.slice none 0 0,.slice none 0 0,C8 (0,0) 2⟩:RN)],rfl,rfl,rfl⟩
structure PB (most b:Nat) (z:PZ) (A:List AN) (ts:List Int) (c:Int):Prop where
  s:D6 most z A ts c
  e:z.b=b
theorem PB.more {most b:Nat} {z:PZ} {A:List AN} {ts:List Int} {c d:Int} (h:PB most b z A ts c) (hc:c≤d) (hd:d≤1000):PB most b z A ts d:=⟨h.s.more hc hd,h.e⟩
section
variable {B:Nat} (ad:Nat→Addr) {most b:Nat} {z:PZ} {A:List AN} {ts:List Int} {c:Int} (h:PB most b z A ts c)
include h
omit h in
theorem Jb {e:Nat} {A':List AN} {u:Value} {L:List Res} {c':Int} (h:Ic most z B ad ts c' e A' u L):∃ z',PB most z.b z' A' ts c'∧u=Ag ad e∧L=[rPT most z',A6 B ad]:=by
  obtain ⟨z',⟨h1,h2,h3⟩,h4⟩:=h
  exact ⟨z',⟨h2,h1⟩,h3,h4⟩
theorem Vp (n g:Int) (nm:ByteArray) (hnz:nm.size≤100000):Au Tryz.prog 17 #[.pointer (some ⟨b,0,none⟩),.agg #[.int .i64 n,.int .i64 g],.string nm] [rPT most z,A6 B ad] fun u L=>u=.tuple #[.agg #[.int .i64 (Ab A (n,g) nm).1.1,.int .i64 (Ab A (n,g) nm).1.2],Ag ad (Ab A (n,g) nm).2]∧L=[rPT most z,A6 B ad]:=by
  obtain ⟨s,rfl⟩:=h;exact Sp ad s n g nm hnz
theorem Uf (n g:Int) (nm:ByteArray) (hnz:nm.size≤100000) (kind:Int) (hc:c+3≤1000):Au Tryz.prog 28 #[.pointer (some ⟨b,0,none⟩),.agg #[.int .i64 n,.int .i64 g],.string nm,.int .i64 kind] [rPT most z,A6 B ad] fun u L=>
    (∃ e:Nat,By most A (n,g) nm kind=(none,e+1)∧u=.tuple #[.agg #[.int .i64 0,.int .i64 0],Ag ad (e+1)]∧L=[rPT most z,A6 B ad])∨
    (∃ (z':PZ) (k:Nat),By most A (n,g) nm kind=(some k,0)∧PB most b z' (Gd A ts (n,g) nm kind k) (ts.set k (Aw ts k+1)) (c+3)∧u=.tuple #[.agg #[.int .i64 (k:Int),.int .i64 (Aw ts k)],.nilIface]∧L=[rPT most z',A6 B ad]):=by
  obtain ⟨s,rfl⟩:=h
  refine (Td ad s n g nm hnz kind hc).mono fun u L h=>?_
  obtain ⟨z',⟨h1,⟨e,h2,rfl,h3⟩|⟨k,h2,h3,h4⟩⟩,h5⟩:=h
  · exact .inl ⟨e,h2,h3,h5⟩
  · exact .inr ⟨z',k,h2,⟨h3,h1⟩,h4,h5⟩
theorem Agg (m f n g:Int) (nm:ByteArray) (hnz:nm.size≤100000) (hc:c+3≤1000):Au Tryz.prog 33 #[.pointer (some ⟨b,0,none⟩),.agg #[.int .i64 m,.int .i64 f],.agg #[.int .i64 n,.int .i64 g],.string nm] [rPT most z,A6 B ad] fun u L=>∃ z',PB most b z' (if Cy A (m,f) (n,g) nm=0 then Lo A (m,f) (n,g) nm else A) ts (c+3)∧u=Ag ad (Cy A (m,f) (n,g) nm)∧L=[rPT most z',A6 B ad]:=by
  obtain ⟨s,rfl⟩:=h;exact (Wl ad s m f n g nm hnz hc).mono fun u L h=>Jb ad h
theorem Adr (n g:Int) (nm:ByteArray) (hnz:nm.size≤100000) (hc:c+3≤1000):Au Tryz.prog 35 #[.pointer (some ⟨b,0,none⟩),.agg #[.int .i64 n,.int .i64 g],.string nm] [rPT most z,A6 B ad] fun u L=>∃ z',PB most b z' (if Cf A (n,g) nm=0 then Dz A (n,g) nm else A) ts (c+3)∧u=Ag ad (Cf A (n,g) nm)∧L=[rPT most z',A6 B ad]:=by
  obtain ⟨s,rfl⟩:=h;exact (Tg ad s n g nm hnz hc).mono fun u L h=>Jb ad h
theorem Aea (n g m f:Int) (old nm:ByteArray) (hoz:old.size≤100000) (hnz:nm.size≤100000) (hc:c+3≤1000):Au Tryz.prog 20 #[.pointer (some ⟨b,0,none⟩),.agg #[.int .i64 n,.int .i64 g],.string old,.agg #[.int .i64 m,.int .i64 f],.string nm] [rPT most z,A6 B ad] fun u L=>∃ z',PB most b z' (tRename A (n,g) old (m,f) nm).2 ts (c+3)∧u=Ag ad (tRename A (n,g) old (m,f) nm).1∧L=[rPT most z',A6 B ad]:=by
  obtain ⟨s,rfl⟩:=h;exact (S2 ad s n g m f old nm hoz hnz hc).mono fun u L h=>Jb ad h
theorem Aem (n g p:Int) (t:ByteArray) (hc:c+3≤1000):Au Tryz.prog 38 #[.pointer (some ⟨b,0,none⟩),.agg #[.int .i64 n,.int .i64 g],.int .i64 p,.string t] [rPT most z,A6 B ad] fun u L=>∃ z',PB most b z' (Fd A (n,g) p t) ts (c+3)∧u=Ag ad (Ep A (n,g) p t)∧L=[rPT most z',A6 B ad]:=by
  obtain ⟨s,rfl⟩:=h;exact (Tx ad s n g p t hc).mono fun u L h=>Jb ad h
theorem Abo (n g p:Int) (hc:c+3≤1000):Au Tryz.prog 40 #[.pointer (some ⟨b,0,none⟩),.agg #[.int .i64 n,.int .i64 g],.int .i64 p] [rPT most z,A6 B ad] fun u L=>∃ z',PB most b z' (Ec A (n,g) p) ts (c+3)∧u=Ag ad (D4 A (n,g) p)∧L=[rPT most z',A6 B ad]:=by
  obtain ⟨s,rfl⟩:=h;exact (Sc ad s n g p hc).mono fun u L h=>Jb ad h
theorem pin_b (n g:Int) (hc:c+3≤1000):Au Tryz.prog 42 #[.pointer (some ⟨b,0,none⟩),.agg #[.int .i64 n,.int .i64 g]] [rPT most z,A6 B ad] fun u L=>∃ z',PB most b z' (if El A (n,g)=0 then G4 A (n,g) 1 else A) ts (c+3)∧u=Ag ad (El A (n,g))∧L=[rPT most z',A6 B ad]:=by
  obtain ⟨s,rfl⟩:=h;exact (Aau ad s n g hc).mono fun u L h=>Jb ad h
theorem Ae9 (n g:Int) (hc:c+3≤1000):Au Tryz.prog 44 #[.pointer (some ⟨b,0,none⟩),.agg #[.int .i64 n,.int .i64 g]] [rPT most z,A6 B ad] fun u L=>∃ z',PB most b z' (if Cj A (n,g)=0 then Gj (G4 A (n,g) (-1)) else A) ts (c+3)∧u=Ag ad (Cj A (n,g))∧L=[rPT most z',A6 B ad]:=by
  obtain ⟨s,rfl⟩:=h;exact (V0 ad s n g hc).mono fun u L h=>Jb ad h
theorem Ag6 (n g cq mq:Int) (hcq:cq≤9223372036854775807) (hmq:mq≤9223372036854775807):Au Tryz.prog 19 #[.pointer (some ⟨b,0,none⟩),.agg #[.int .i64 n,.int .i64 g],.int .i64 cq,.int .i64 mq] [rPT most z,A6 B ad] fun u L=>∃ v',u=.tuple #[v',.int .i64 (((Cg A (n,g) cq mq).2.1:Nat):Int),Ag ad (Cg A (n,g) cq mq).2.2]∧L=[rPT most z,A6 B ad,A8 true v' 107 3 e3C (Cg A (n,g) cq mq).1]:=by
  obtain ⟨s,rfl⟩:=h;exact V8 ad s n g cq mq hcq hmq
theorem Agi:Au Tryz.prog 13 #[.pointer (some ⟨b,0,none⟩)] [rPT most z] fun u L=>u=.agg #[.int .i64 0,.int .i64 0]∧L=[rPT most z]:=by
  obtain ⟨s,rfl⟩:=h;exact Wt s
theorem Aev:Au Tryz.prog 15 #[.pointer (some ⟨b,0,none⟩)] [rPT most z] fun u L=>u=.int .i64 (A.length:Int)∧L=[rPT most z]:=by
  obtain ⟨s,rfl⟩:=h;exact Tn s
end
theorem Sim.new_ (m:Nat) (h1:1≤m) (nb mb:Nat):Sim m ((List.replicate m none).set 0 (some nb)) ((List.replicate m (0:Int)).set 0 (0+1)) (((List.replicate m (none:Option ND)).set 0 (some (Cs nb 2 none))).set 0 (some (keepN (Cs nb 2 none) 2 0 2 0 0))) [(⟨(0,0),mb,[]⟩:DN)] [] [C8 (0,0) 2] ((List.replicate m (0:Int)).set 0 1):=by
  have hl0:Be [C8 (0,0) 2] (0,0)=0:=rfl
  refine ⟨by simp,by simp,by simp,rfl,fun k hk=>?_,by simp,fun d hd=>?_,fun M hM hk=>?_,by simp,fun p hp=>(by cases hp),fun M hM hk hp=>?_⟩
  · by_cases c:k=0
    · subst c
      have e1:((List.replicate m (0:Int)).set 0 1)[0]?=some 1:=List.getElem?_set_self (by simp;omega)
      refine .inr ⟨keepN (Cs nb 2 none) 2 0 2 0 0,C8 (0,0) 2,List.getElem?_set_self (by simp;omega),List.getElem?_set_self (by simp;omega),by simp,by rw [Iq e1];rfl,⟨rfl,rfl,rfl,fun _=>⟨rfl,?_,?_⟩,fun q=>absurd (show (2:Int)=1 from q) (by decide)⟩⟩
      · rw [show (C8 (0,0) 2).h=(0,0) from rfl,Oh hl0];rfl
      · rw [show (C8 (0,0) 2).h=(0,0) from rfl,Oh hl0];rfl
    · refine .inl ⟨?_,?_,fun M hM e=>?_⟩
      · rw [List.getElem?_set_ne (by omega),List.getElem?_replicate,if_pos hk]
      · rw [List.getElem?_set_ne (by omega),List.getElem?_set_ne (by omega),List.getElem?_replicate,if_pos hk]
      · rw [List.mem_singleton.1 hM] at e
        have:(0:Int)=(k:Int):=e
        omega
  · rw [List.mem_singleton.1 hd]
    exact ⟨C8 (0,0) 2,by simp,rfl,rfl,by simp,List.Perm.refl _⟩
  · rw [List.mem_singleton.1 hM]
    exact ⟨⟨(0,0),mb,[]⟩,List.mem_singleton.2 rfl,rfl⟩
  · rw [List.mem_singleton.1 hM] at hk
    exact absurd (show (2:Int)=1 from hk) (by decide)
theorem Aeg {B:Nat} (ad:Nat→Addr) (m:Nat) (h1:1≤m) (h2:m≤300):Au Tryz.prog 9 #[.int .i64 (m:Int)] [A6 B ad] fun u L=>∃ (b:Nat) (z:PZ),PB m b z [C8 (0,0) 2] ((List.replicate m (0:Int)).set 0 1) 1∧u=.tuple #[.pointer (some ⟨b,0,none⟩),.nilIface]∧L=[rPT m z,A6 B ad]:=by
  refine (Aak ad m h1 h2).after fun E w0 w u L h ho=>?_
  obtain ⟨b,tb,dm,pm,vl,vg,T,Sl,Sg,nb,mb,rfl,rfl⟩:=h
  have hs:=Sim.new_ m h1 nb mb
  refine ⟨_,⟨b,⟨b,tb,dm,pm,_,_,vl,vg,T,Sl,Sg,_,[⟨(0,0),mb,[]⟩],[]⟩,⟨⟨hs,TI.new h1,Srt.new,fun M hM e he=>?_,fun M hM=>?_,fun x hx=>?_,by decide,h1,h2⟩,rfl⟩,rfl,rfl⟩,?_⟩
  · rw [List.mem_singleton.1 hM] at he;cases he
  · rw [List.mem_singleton.1 hM];show (0:Int)≤0∧(0:Int)≤1∧(0:Int)≤1;decide
  · rcases List.mem_or_eq_of_mem_set hx with hx|rfl
    · rw [(List.mem_replicate.1 hx).2];decide
    · decide
  · exact Own.allJoin (M:=[A6 B ad]) _ (PZ.core_wr m ⟨b,tb,dm,pm,_,_,vl,vg,T,Sl,Sg,_,[⟨(0,0),mb,[]⟩],[]⟩) ho
theorem M7 (A:List AN) (h:Hdl) (nm:ByteArray):(Ab A h nm).2≤15:=by
  unfold Ab;(repeat' split)<;>simp
theorem Zk {most:Nat} {A:List AN} {h:Hdl} {nm:ByteArray} {kind:Int}:(By most A h nm kind).2≤15:=by
  unfold By;(repeat' split)<;>simp
theorem Afw (A:List AN) (x d:Hdl) (nm:ByteArray):Cy A x d nm≤15:=by
  unfold Cy;(repeat' split)<;>simp
theorem Aad (A:List AN) (d:Hdl) (nm:ByteArray):Cf A d nm≤15:=by
  have:=M7 A d nm
  unfold Cf;(repeat' split)<;>omega
theorem Aab (A:List AN) (a:Hdl) (old:ByteArray) (b:Hdl) (nm:ByteArray):(tRename A a old b nm).1≤15:=by
  unfold tRename;(repeat' split)<;>simp
theorem Adu (A:List AN) (h:Hdl) (p:Int) (t:ByteArray):Ep A h p t≤15:=by
  unfold Ep atF Bh;(repeat' split)<;>simp
theorem Z1 (A:List AN) (h:Hdl) (p:Int):D4 A h p≤15:=by
  unfold D4 atF Bc;(repeat' split)<;>(try simp)<;>(repeat' split)<;>simp
theorem Afx (A:List AN) (h:Hdl) (p m:Int):(Cg A h p m).2.2≤15:=by
  unfold Cg;(repeat' split)<;>simp
theorem Afh (A:List AN) (h:Hdl):El A h≤15:=by
  unfold El;(repeat' split)<;>simp
theorem Abc (A:List AN) (h:Hdl):Cj A h≤15:=by
  unfold Cj;(repeat' split)<;>simp
def Cv (A:List AN):Prop:=∀ M∈A,M.pins=0
section
variable {A:List AN} (h:Cv A)
include h
theorem Cv.upd (d:Hdl) (f:AN→AN) (hf:∀ M,(f M).pins=M.pins):Cv (Cx A d f):=fun M hM=>by
  obtain ⟨K,hK,rfl⟩:=B4 hM
  by_cases c:K.h=d
  · rw [if_pos c,hf];exact h K hK
  · rw [if_neg c];exact h K hK
theorem Cv.touch (d:Hdl):Cv (Ap A d):=h.upd d _ fun _=>rfl
theorem Cv.leave (d:Hdl) (nm:ByteArray):Cv (Al A d nm):=h.upd d _ fun _=>rfl
theorem Cv.enter (d:Hdl) (nm:ByteArray) (x:Hdl):Cv (Ax A d nm x):=h.upd d _ fun _=>rfl
theorem Cv.filter (p:AN→Bool):Cv (A.filter p):=fun M hM=>h M (List.mem_filter.1 hM).1
theorem Cv.app {N:AN} (hN:N.pins=0):Cv (A++[N]):=fun M hM=>by
  rcases List.mem_append.1 hM with hM|hM
  · exact h M hM
  · rw [List.mem_singleton.1 hM];exact hN
theorem Cv.lose (x:Hdl):Cv (C5 A x):=by
  unfold C5
  split
  · split
    · exact h.filter _
    · exact (h.touch _).filter _
  · exact h
theorem Cv.create (ts:List Int) (d:Hdl) (nm:ByteArray) (kind:Int) (k:Nat):Cv (Gd A ts d nm kind k):=((h.app rfl).enter d nm _).touch _
theorem Cv.link (x d:Hdl) (nm:ByteArray):Cv (Lo A x d nm):=((h.enter d nm x).touch _).touch _
theorem Cv.remove (d:Hdl) (nm:ByteArray):Cv (Dz A d nm):=((h.leave d nm).touch _).lose _
theorem Cv.wr (d:Hdl) (p:Int) (t:ByteArray):Cv (Fd A d p t):=by
  unfold Fd atF
  split
  · exact h
  · split
    · exact h.upd d _ fun _=>rfl
    · exact h
theorem Cv.rz (d:Hdl) (p:Int):Cv (Ec A d p):=by
  unfold Ec atF
  split
  · exact h
  · split
    · exact h.upd d _ fun _=>rfl
    · exact h
theorem Cv.unpin (d:Hdl):Cv (if Cj A d=0 then Gj (G4 A d (-1)) else A):=by
  rw [if_neg]
  · exact h
  · intro q
    obtain ⟨D,hD,_,_,hp,_⟩:=R2 q
    exact hp (h D hD)
theorem Cv.rename (a:Hdl) (old:ByteArray) (b:Hdl) (nm:ByteArray):Cv (tRename A a old b nm).2:=by
  have key:∀ B:List AN,Cv B→Cv (if a=b then Ap B a else Ap (Ap B a) b):=fun B hB=>by
    split
    · exact hB.touch _
    · exact (hB.touch _).touch _
  have hm:∀ x y,Cv (Eu A a old b nm x y):=fun x y=>by
    cases y with
    | none=>exact key _ ((h.leave _ _).enter _ _ _)
    | some y=>exact key _ ((((h.leave _ _).leave _ _).enter _ _ _).lose _)
  rcases G2 A a old b nm with q|⟨F,T,x,X,_,_,_,_,_,_,_,⟨_,_,q⟩|⟨y,Y,_,_,_,_,_,_,q⟩⟩
  · rw [q];exact h
  · rw [q];exact hm x none
  · rw [q];exact hm x (some y)
end
end Go.Proofs.YtpojpkhpddnmjaaGreatDoor
