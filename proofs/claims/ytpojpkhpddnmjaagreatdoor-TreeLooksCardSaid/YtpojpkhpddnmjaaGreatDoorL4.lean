/- Lemmas: part 4. -/
import Derived.Test.YtpojpkhpddnmjaaGreatDoorL3
import Derived.WideKeyEntry
set_option linter.all false
set_option maxRecDepth 100000
set_option maxHeartbeats 20000000
namespace Go.Proofs.YtpojpkhpddnmjaaGreatDoor
open Go.RowKit
section
variable {B:Nat} (ad:Nat→Addr) (b most tb dm pm:Nat) (ps:List (Option Nat)) (gs:List Int) (vl vg:Value) (T:TypeId) (Sl Sg:Nat→Prop) (l:List (Option ND)) (ds:List DN) (pn:List ((Int×Int)×Int)) (hl:ps.length=gs.length) (hr:∀ x∈gs,0≤x∧x≤1000000) (n g:Int)
include B ad b most tb dm pm ps gs vl vg T Sl Sg l ds pn hl hr n g
theorem Aa4 (s:ByteArray) (hs:s.size≤9223372036854775807) (kind:Int) (c:Nat) (hd:On ps gs l ds n g c):Au Tryz.prog 28 #[Pp b,Hg n g,.string s,Ii kind] (Ra B ad b tb most dm pm ps gs vl vg T Sl Sg l ds pn) (fun u L=>u=.tuple #[Hg 0 0,Ag ad (c+1)]∧L=(Ra B ad b tb most dm pm ps gs vl vg T Sl Sg l ds pn)):=by
 refine Zo 94 Tryz.func28 fun E w0 w h=>?_
 refine Qs (ZN [Ii n,Ii g] 34 h fun k1 w h=>ZN [Ii 0,Ii 0] 34 h fun k2 w h=>ZP .nilIface (Qm (ZP (Pp b) (ZG h (Gla 0 [Ii n,Ii g] 1) (ZP (.string s) (ZC [2,2,2,2,2,2,2] (Ix ad b most tb dm pm ps gs vl vg T Sl Sg l ds pn hl hr n g s hs c hd) h fun w h=>ZP (.tuple #[.map none,Ag ad (c+1)]) (ZP (.map none) (ZP (Ag ad (c+1)) (ZP (.map none) (ZP (Ag ad (c+1)) (Qm (ZP (.map none) (ZP (.string s) (ZG h (A4 (v':=.tuple #[Hg 0 0,.bool false]) (Sw (K:=9) (E:=34) (z:=(Hg 0 0)) (ok:=true) (Co (by kernel_rfl)) s (by kernel_rfl) (fun _=>by kernel_rfl)) rfl) (ZP (.tuple #[Hg 0 0,.bool false]) (ZP (Hg 0 0) (ZP (.bool false) (ZN [Ii 0,Ii 0] 34 h fun k3 w h=>ZSs [Ii 0,Ii 0] 0 rfl h fun w h=>ZP (.bool false) (Qn (Aa (Av (Qs (ZP (Ag ad (c+1)) (ZP (.bool true) (ZP (.bool true) (Qg (Qs (ZP (Hg 0 0) (ZP (Ag ad (c+1)) (ZSs [Ii 0,Ii 0] 8 rfl h fun w h=>ZP (Ag ad (c+1)) (Qr (B7 (Ar ?_)))))))))))))))))))))))))))))))))
 refine B5 [Hg 0 0,Ag ad (c+1)] [1,1,1,1,1,1,1] h (by kernel_rfl) (Du 0 [Ii 0,Ii 0] (Hg 0 0) 8 rfl (by kernel_rfl) (Ei (by kernel_rfl) Dr)) ?_
 exact ⟨rfl,rfl⟩
theorem Ad2 (k:Nat) (N:ND) (hlk:l[k]?=some (some N)) (ha:Bk ps gs n g=some N.nb) (j:Nat) (d:DN) (hj:ds[j]?=some d) (hdh:d.h=(n,g)) (hdd:(ds.map (·.h)).Nodup) (s:ByteArray) (hs:s.size≤9223372036854775807) (kind:Int) (hbad:¬A0 s):Au Tryz.prog 28 #[Pp b,Hg n g,.string s,Ii kind] (Ra B ad b tb most dm pm ps gs vl vg T Sl Sg l ds pn) (fun u L=>u=.tuple #[Hg 0 0,Ag ad 4]∧L=(Ra B ad b tb most dm pm ps gs vl vg T Sl Sg l ds pn)):=by
 refine Zo 94 Tryz.func28 fun E w0 w h=>?_
 refine Qs (ZN [Ii n,Ii g] 34 h fun k1 w h=>ZN [Ii 0,Ii 0] 34 h fun k2 w h=>ZP .nilIface (Qm (ZP (Pp b) (ZG h (Gla 0 [Ii n,Ii g] 1) (ZP (.string s) (ZC [2,2,2,2,2,2,2] (In ad b most tb dm pm ps gs vl vg T Sl Sg l ds pn hl hr n g k N hlk ha j d hj hdh hdd s hs hbad) h fun w h=>?_))))))
 have h:=(h.pkr [4]).dirOpen hj
 refine ZP (.tuple #[.map (some d.mb),Ag ad 4]) (ZP (.map (some d.mb)) (ZP (Ag ad 4) (ZP (.map (some d.mb)) (ZP (Ag ad 4) (Qm (ZP (.map (some d.mb)) (ZP (.string s) (ZG h (A4 (v':=.tuple #[.agg #[Ii (((Af d.es s).getD (0,0)).1),Ii (((Af d.es s).getD (0,0)).2)],.bool ((Af d.es s).isSome)]) (Gks (kv:=d.es.map Bd) true s 0 rfl) (by rw [Ja];cases Af d.es s<;>rfl)) (ZP (.tuple #[.agg #[Ii (((Af d.es s).getD (0,0)).1),Ii (((Af d.es s).getD (0,0)).2)],.bool ((Af d.es s).isSome)]) (ZP (.agg #[Ii (((Af d.es s).getD (0,0)).1),Ii (((Af d.es s).getD (0,0)).2)]) (ZP (.bool ((Af d.es s).isSome)) (ZN [Ii 0,Ii 0] 34 h fun k3 w h=>ZSs [Ii (((Af d.es s).getD (0,0)).1),Ii (((Af d.es s).getD (0,0)).2)] 0 rfl h fun w h=>ZP (.bool ((Af d.es s).isSome)) (Qn (Aa (Av (Qs (ZP (Ag ad 4) (ZP (.bool true) (ZP (.bool true) (Qg (Qs (ZP (Hg 0 0) (ZP (Ag ad 4) (ZSs [Ii 0,Ii 0] 9 rfl h fun w h=>ZP (Ag ad 4) (Qr (B7 (Ar ?_)))))))))))))))))))))))))))
 have h:=(h.pkr [1,1]).dirBack (d:=d) hj
 refine B5 [Hg 0 0,Ag ad 4] [2,2,2,2,0,1,1] h (by kernel_rfl) (Du 0 [Ii 0,Ii 0] (Hg 0 0) 8 rfl (by kernel_rfl) (Ei (by kernel_rfl) Dr)) ?_
 exact ⟨rfl,rfl⟩
theorem Ade (k:Nat) (N:ND) (hlk:l[k]?=some (some N)) (ha:Bk ps gs n g=some N.nb) (j:Nat) (d:DN) (hj:ds[j]?=some d) (hdh:d.h=(n,g)) (hdd:(ds.map (·.h)).Nodup) (s:ByteArray) (hs:s.size≤9223372036854775807) (hok:A0 s) (kind:Int) (hki:¬(kind=1∨kind=2)):Au Tryz.prog 28 #[Pp b,Hg n g,.string s,Ii kind] (Ra B ad b tb most dm pm ps gs vl vg T Sl Sg l ds pn) (fun u L=>u=.tuple #[Hg 0 0,Ag ad 3]∧L=(Ra B ad b tb most dm pm ps gs vl vg T Sl Sg l ds pn)):=by
 refine Zo 94 Tryz.func28 fun E w0 w h=>?_
 have h:=((h.eS [10] 6 rfl).eS [4] 7 rfl).eS [3] 8 rfl
 refine Qs (ZN [Ii n,Ii g] 34 h fun k1 w h=>ZN [Ii 0,Ii 0] 34 h fun k2 w h=>ZP .nilIface (Qm (ZP (Pp b) (ZG h (Gla 0 [Ii n,Ii g] 1) (ZP (.string s) (ZC [5,5,5,5,4,3] (Cd ad b most tb dm pm ps gs vl vg T Sl Sg l ds pn hl hr n g k N hlk ha j d hj hdh hdd s hs hok) h fun w h=>?_))))))
 have h:=(h.pkr [9]).dirOpen hj
 refine ZP (.tuple #[.map (some d.mb),.nilIface]) (ZP (.map (some d.mb)) (ZP .nilIface (ZP (.map (some d.mb)) (ZP .nilIface (Qm (ZP (.map (some d.mb)) (ZP (.string s) (ZG h (A4 (v':=.tuple #[.agg #[Ii (((Af d.es s).getD (0,0)).1),Ii (((Af d.es s).getD (0,0)).2)],.bool ((Af d.es s).isSome)]) (Gks (kv:=d.es.map Bd) true s 0 rfl) (by rw [Ja];cases Af d.es s<;>rfl)) (ZP (.tuple #[.agg #[Ii (((Af d.es s).getD (0,0)).1),Ii (((Af d.es s).getD (0,0)).2)],.bool ((Af d.es s).isSome)]) (ZP (.agg #[Ii (((Af d.es s).getD (0,0)).1),Ii (((Af d.es s).getD (0,0)).2)]) (ZP (.bool ((Af d.es s).isSome)) (ZN [Ii 0,Ii 0] 34 h fun k3 w h=>ZSs [Ii (((Af d.es s).getD (0,0)).1),Ii (((Af d.es s).getD (0,0)).2)] 0 rfl h fun w h=>ZP (.bool ((Af d.es s).isSome)) (Qn (Aa (Av (Qs (ZP .nilIface (ZP (.bool false) (ZP (.bool false) (Qf (Qs (ZP (Ii kind) ?_))))))))))))))))))))))
 obtain ⟨b4,hb4⟩:=nmB (!(decide (kind=1)))
 refine ZB hb4 (ZP (.bool b4) (ZM1 (v:=Ii kind) b4 h (fun hB=>by subst hB;exact Gp (Ii kind)) ?_))
 obtain ⟨b5,hb5⟩:=nmB (!(decide (kind=2)))
 refine ZM1 (v:=.bool b5) b4 h (fun hB=>by subst hB;exact by subst hb5;exact Az (v:=.bool (!(decide (kind=2)))) fun _=>by kernel_rfl) ?_
 obtain ⟨b6,hb6⟩:=nmB (b4&&b5)
 refine ZBc b4 hb6 (ZP (.bool b6) (Qn (Zi (b6) (fun hc7=>?_) fun hc7=>?_)))
 have q8:=hb6.symm.trans hc7
 have q9:=aL q8
 have q10:=aR q8
 have q11:=hb4.symm.trans q9
 have q12:(decide (kind=1))=false:=by simpa using q11
 have q12:=dcF q12
 have q13:=hb5.symm.trans q10
 have q14:(decide (kind=2))=false:=by simpa using q13
 have q14:=dcF q14
 refine Aa (Ds 4 [11] h fun w h=>Dp 0 2 (Hg 0 0) [11] h (Dq 1 5 [11] rfl h (Gr 0 (Ag ad 3) 0 rfl (Ff (c:=3) (by decide) rfl)) (As 2 [11] 0 [Ii 0,Ii 0] [Ii 0,Ii 0] 9 rfl h fun w h=>Dp 3 7 (Ag ad 3) [11] h (Dd (Ai (Hv (B7 (Ar ?_))))))))
 have h:=(h.pkr [1,1]).dirBack (d:=d) hj
 refine B5 [Hg 0 0,Ag ad 3] [2,2,2,2,0,6,6] h (by kernel_rfl) (Du 0 [Ii 0,Ii 0] (Hg 0 0) 8 rfl (by kernel_rfl) (Ei (by kernel_rfl) Dr)) ?_
 exact ⟨rfl,rfl⟩
 have q15:=hb6.symm.trans hc7
 exfalso;first|omega|(simp only [List.length_map] at *;omega)|(revert hc7;subst hb6;subst hb5;subst hb4;simp;done)|(revert hc7;subst hb6;subst hb5;subst hb4;simp;omega)
theorem Ad8 (k:Nat) (N:ND) (hlk:l[k]?=some (some N)) (ha:Bk ps gs n g=some N.nb) (j:Nat) (d:DN) (hj:ds[j]?=some d) (hdh:d.h=(n,g)) (hdd:(ds.map (·.h)).Nodup) (s:ByteArray) (hs:s.size≤9223372036854775807) (hok:A0 s) (kind:Int) (hki:kind=1∨kind=2) (x:Int×Int) (hx:Af d.es s=some x):Au Tryz.prog 28 #[Pp b,Hg n g,.string s,Ii kind] (Ra B ad b tb most dm pm ps gs vl vg T Sl Sg l ds pn) (fun u L=>u=.tuple #[Hg 0 0,Ag ad 6]∧L=(Ra B ad b tb most dm pm ps gs vl vg T Sl Sg l ds pn)):=by
 refine Zo 94 Tryz.func28 fun E w0 w h=>?_
 have h:=((h.eS [10] 6 rfl).eS [4] 7 rfl).eS [6] 8 rfl
 refine Qs (ZN [Ii n,Ii g] 34 h fun k1 w h=>ZN [Ii 0,Ii 0] 34 h fun k2 w h=>ZP .nilIface (Qm (ZP (Pp b) (ZG h (Gla 0 [Ii n,Ii g] 1) (ZP (.string s) (ZC [5,5,5,5,4,3] (Cd ad b most tb dm pm ps gs vl vg T Sl Sg l ds pn hl hr n g k N hlk ha j d hj hdh hdd s hs hok) h fun w h=>?_))))))
 have h:=(h.pkr [9]).dirOpen hj
 refine ZP (.tuple #[.map (some d.mb),.nilIface]) (ZP (.map (some d.mb)) (ZP .nilIface (ZP (.map (some d.mb)) (ZP .nilIface (Qm (ZP (.map (some d.mb)) (ZP (.string s) (ZG h (A4 (v':=.tuple #[Hg x.1 x.2,.bool true]) (Gks (kv:=d.es.map Bd) true s 0 rfl) (by rw [B9 hx];rfl)) (ZP (.tuple #[Hg x.1 x.2,.bool true]) (ZP (Hg x.1 x.2) (ZP (.bool true) (ZN [Ii 0,Ii 0] 34 h fun k3 w h=>ZSs [Ii x.1,Ii x.2] 0 rfl h fun w h=>ZP (.bool true) (Qn (Aa (Av (Qs (ZP .nilIface (ZP (.bool false) (ZP (.bool false) (Qf (Qs (ZP (Ii kind) ?_))))))))))))))))))))))
 obtain ⟨b4,hb4⟩:=nmB (!(decide (kind=1)))
 refine ZB hb4 (ZP (.bool b4) (ZM1 (v:=Ii kind) b4 h (fun hB=>by subst hB;exact Gp (Ii kind)) ?_))
 obtain ⟨b5,hb5⟩:=nmB (!(decide (kind=2)))
 refine ZM1 (v:=.bool b5) b4 h (fun hB=>by subst hB;exact by subst hb5;exact Az (v:=.bool (!(decide (kind=2)))) fun _=>by kernel_rfl) ?_
 obtain ⟨b6,hb6⟩:=nmB (b4&&b5)
 refine ZBc b4 hb6 (ZP (.bool b6) (Qn (Zi (b6) (fun hc7=>?_) fun hc7=>?_)))
 have q8:=hb6.symm.trans hc7
 have q9:=aL q8
 have q10:=aR q8
 have q11:=hb4.symm.trans q9
 have q12:(decide (kind=1))=false:=by simpa using q11
 have q12:=dcF q12
 have q13:=hb5.symm.trans q10
 have q14:(decide (kind=2))=false:=by simpa using q13
 have q14:=dcF q14
 exfalso;first|omega|(simp only [List.length_map] at *;omega)|(revert hc7;subst hb6;subst hb5;subst hb4;simp;done)|(revert hc7;subst hb6;subst hb5;subst hb4;simp;omega)
 have q15:=hb6.symm.trans hc7
 refine Qs (ZP (.bool true) (ZP (.bool true) (Qg (Aa (Ds 4 [11] h fun w h=>Dp 0 2 (Hg 0 0) [11] h (Dq 1 5 [11] rfl h (Gr 0 (Ag ad 6) 0 rfl (Ff (c:=6) (by decide) rfl)) (As 2 [11] 0 [Ii 0,Ii 0] [Ii 0,Ii 0] 9 rfl h fun w h=>Dp 3 7 (Ag ad 6) [11] h (Dd (Ai (Hv (B7 (Ar ?_))))))))))))
 have h:=(h.pkr [1,1]).dirBack (d:=d) hj
 refine B5 [Hg 0 0,Ag ad 6] [2,2,2,2,0,6,6] h (by kernel_rfl) (Du 0 [Ii 0,Ii 0] (Hg 0 0) 8 rfl (by kernel_rfl) (Ei (by kernel_rfl) Dr)) ?_
 exact ⟨rfl,rfl⟩
theorem Aa6 (k:Nat) (N:ND) (hlk:l[k]?=some (some N)) (ha:Bk ps gs n g=some N.nb) (j:Nat) (d:DN) (hj:ds[j]?=some d) (hdh:d.h=(n,g)) (hdd:(ds.map (·.h)).Nodup) (s:ByteArray) (hs:s.size≤9223372036854775807) (hok:A0 s) (kind:Int) (hki:kind=1∨kind=2) (hx:Af d.es s=none) (hfew:d.es.length<60) (hlen:ps.length≤300) (hfr:F2 ps=none):Au Tryz.prog 28 #[Pp b,Hg n g,.string s,Ii kind] (Ra B ad b tb most dm pm ps gs vl vg T Sl Sg l ds pn) (fun u L=>u=.tuple #[Hg 0 0,Ag ad 9]∧L=(Ra B ad b tb most dm pm ps gs vl vg T Sl Sg l ds pn)):=by
 refine Zo 94 Tryz.func28 fun E w0 w h=>?_
 have h:=((h.eS [10] 6 rfl).eS [4] 7 rfl).eS [9] 8 rfl
 refine Qs (ZN [Ii n,Ii g] 34 h fun k1 w h=>ZN [Ii 0,Ii 0] 34 h fun k2 w h=>ZP .nilIface (Qm (ZP (Pp b) (ZG h (Gla 0 [Ii n,Ii g] 1) (ZP (.string s) (ZC [5,5,5,5,4,3] (Cd ad b most tb dm pm ps gs vl vg T Sl Sg l ds pn hl hr n g k N hlk ha j d hj hdh hdd s hs hok) h fun w h=>?_))))))
 have h:=(h.pkr [9]).dirOpen hj
 refine ZP (.tuple #[.map (some d.mb),.nilIface]) (ZP (.map (some d.mb)) (ZP .nilIface (ZP (.map (some d.mb)) (ZP .nilIface (Qm (ZP (.map (some d.mb)) (ZP (.string s) (ZG h (A4 (v':=.tuple #[Hg 0 0,.bool false]) (Gks (kv:=d.es.map Bd) true s 0 rfl) (by rw [Ed hx];rfl)) (ZP (.tuple #[Hg 0 0,.bool false]) (ZP (Hg 0 0) (ZP (.bool false) (ZN [Ii 0,Ii 0] 34 h fun k3 w h=>ZSs [Ii 0,Ii 0] 0 rfl h fun w h=>ZP (.bool false) (Qn (Aa (Av (Qs (ZP .nilIface (ZP (.bool false) (ZP (.bool false) (Qf (Qs (ZP (Ii kind) ?_))))))))))))))))))))))
 obtain ⟨b4,hb4⟩:=nmB (!(decide (kind=1)))
 refine ZB hb4 (ZP (.bool b4) (ZM1 (v:=Ii kind) b4 h (fun hB=>by subst hB;exact Gp (Ii kind)) ?_))
 obtain ⟨b5,hb5⟩:=nmB (!(decide (kind=2)))
 refine ZM1 (v:=.bool b5) b4 h (fun hB=>by subst hB;exact by subst hb5;exact Az (v:=.bool (!(decide (kind=2)))) fun _=>by kernel_rfl) ?_
 obtain ⟨b6,hb6⟩:=nmB (b4&&b5)
 refine ZBc b4 hb6 (ZP (.bool b6) (Qn (Zi (b6) (fun hc7=>?_) fun hc7=>?_)))
 have q8:=hb6.symm.trans hc7
 have q9:=aL q8
 have q10:=aR q8
 have q11:=hb4.symm.trans q9
 have q12:(decide (kind=1))=false:=by simpa using q11
 have q12:=dcF q12
 have q13:=hb5.symm.trans q10
 have q14:(decide (kind=2))=false:=by simpa using q13
 have q14:=dcF q14
 exfalso;first|omega|(simp only [List.length_map] at *;omega)|(revert hc7;subst hb6;subst hb5;subst hb4;simp;done)|(revert hc7;subst hb6;subst hb5;subst hb4;simp;omega)
 have q15:=hb6.symm.trans hc7
 refine Qs (ZP (.bool false) (ZP (.bool false) (Qf (Qs (ZP (.map (some d.mb)) (ZG h (E3 (K:=9) (E:=34) (by kernel_rfl) 1 rfl) (ZP (.bool (decide (((d.es.map Bd).length:Int)≥60))) (ZP (.bool (decide (((d.es.map Bd).length:Int)≥60))) (Qn (Zd (((d.es.map Bd).length:Int)≥60) (fun hc16=>?_) fun hc16=>?_))))))))))
 exfalso;first|omega|(simp only [List.length_map] at *;omega)|(revert hc16;simp;done)|(revert hc16;simp;omega)
 refine B6 ?_
 refine Cb (Ai ?_)
 refine Qs (ZP (Pp b) (ZP (Pp b) (ZP (Pp b) (ZG h (Gl 0 (Pp tb) 3) (ZP (Ii kind) (ZC [4,10] (R8 ad tb kind ps gs vl vg T Sl Sg hki hlen hfr) h fun w h=>ZP (.tuple #[Hg 0 0,Ag ad 9]) (ZP (Hg 0 0) (ZP (Ag ad 9) (ZN [Ii 0,Ii 0] 34 h fun k17 w h=>ZSs [Ii 0,Ii 0] 0 rfl h fun w h=>ZP (Ag ad 9) (Qu (ZP (Ag ad 9) (ZP (.bool true) (Qg (Qs (ZP (Hg 0 0) (ZP (Ag ad 9) (ZSs [Ii 0,Ii 0] 11 rfl h fun w h=>ZP (Ag ad 9) (Qr (Ar ?_)))))))))))))))))))
 have h:=(h.pkr [4,4]).dirBack (d:=d) hj
 refine B5 [Hg 0 0,Ag ad 9] [5,2,4,4,0,7,7] h (by kernel_rfl) (Du 0 [Ii 0,Ii 0] (Hg 0 0) 10 rfl (by kernel_rfl) (Ei (by kernel_rfl) Dr)) ?_
 exact ⟨rfl,rfl⟩
theorem Aa0 (s:ByteArray) (ni gi:Int) (hai:Bk ps gs ni gi=none):Au Tryz.prog 33 #[Pp b,Hg ni gi,Hg n g,.string s] (Ra B ad b tb most dm pm ps gs vl vg T Sl Sg l ds pn) (fun u L=>u=Ag ad 10∧L=(Ra B ad b tb most dm pm ps gs vl vg T Sl Sg l ds pn)):=by
 refine Zo 75 Tryz.func33 fun E w0 w h=>?_
 have h:=h.eS [10] 6 rfl
 refine Qs (ZN [Ii ni,Ii gi] 34 h fun k1 w h=>ZN [Ii n,Ii g] 34 h fun k2 w h=>ZP .nilIface (Qn (Aa (Ds 12 [1,2] h fun w h=>Dp 0 528 (Pp b) [1,2] h (Dp 1 529 (Pp b) [1,2] h (Dp 2 531 (Pp b) [1,2] h (Dq 3 535 [1,2] rfl h (Gl 0 (Pp tb) 1) (Dq 4 527 [1,2] rfl h (Gla 0 [Ii ni,Ii gi] 0) ?_))))))))
 refine A1 [5,9] (by kernel_rfl) rfl ?_
 refine Di #[Pp tb,Hg ni gi] [4,4,2] [4,4] rfl (by kernel_rfl) (I9 ad tb ps gs vl vg T Sl Sg l hl hr ni gi hai) (fun _=>by kernel_rfl) h ?_ ?_
 rintro v_ L_ w ⟨rfl,rfl⟩ h
 refine ⟨by kernel_rfl,?_⟩
 refine Dp 6 575 (.tuple #[.agg #[Ii 0,Ii 0,Ii 0,Ii 0,Ii 0,Ii 0],Ag ad 10]) [4,4] h (Dp 7 895 (.agg #[Ii 0,Ii 0,Ii 0,Ii 0,Ii 0,Ii 0]) [4,4] h (Dp 8 1791 (Ag ad 10) [4,4] h ?_))
 refine A1 [9] (by kernel_rfl) rfl ?_
 refine Ch [5,5] rfl (by kernel_rfl) (fun b=>Pp b) [Ii 0,Ii 0,Ii 0,Ii 0,Ii 0,Ii 0] 46 (fun _=>by kernel_rfl) h ?_ ?_
 intro k3 w h;refine ⟨by kernel_rfl,?_⟩
 exact As 10 [5,5] 0 [Ii 0,Ii 0,Ii 0,Ii 0,Ii 0,Ii 0] [Ii 0,Ii 0,Ii 0,Ii 0,Ii 0,Ii 0] 0 rfl h fun w h=>Dp 11 2047 (Ag ad 10) [5,5] h (Dd (Ai (Qt (ZP (Ag ad 10) (ZP (.bool true) (Qg (Qs (ZP (Ag ad 10) (ZP (Ag ad 10) (Qr (Ar (ZR [Ag ad 10] [6,1,1,4,4,4,4] h ⟨rfl,rfl⟩))))))))))))
 exact Ba
 refine Ch [2,3] rfl (by kernel_rfl) (fun b=>Pp b) [Ii 0,Ii 0,Ii 0,Ii 0,Ii 0,Ii 0] 46 (fun _=>by kernel_rfl) h ?_ ?_
 intro k4 w h;refine ⟨by kernel_rfl,?_⟩
 refine Ad 5 [5,5,3] [5,5] (I9 ad tb ps gs vl vg T Sl Sg l hl hr ni gi hai) h ?_
 rintro v_ L_ w ⟨rfl,rfl⟩ h
 refine ⟨by kernel_rfl,?_⟩
 exact Dp 6 575 (.tuple #[.agg #[Ii 0,Ii 0,Ii 0,Ii 0,Ii 0,Ii 0],Ag ad 10]) [5,5] h (Dp 7 895 (.agg #[Ii 0,Ii 0,Ii 0,Ii 0,Ii 0,Ii 0]) [5,5] h (Dp 8 1791 (Ag ad 10) [5,5] h (As 10 [5,5] 0 [Ii 0,Ii 0,Ii 0,Ii 0,Ii 0,Ii 0] [Ii 0,Ii 0,Ii 0,Ii 0,Ii 0,Ii 0] 3 rfl h fun w h=>Dp 11 2047 (Ag ad 10) [5,5] h (Dd (Ai (Qt (ZP (Ag ad 10) (ZP (.bool true) (Qg (Qs (ZP (Ag ad 10) (ZP (Ag ad 10) (Qr (Ar (ZR [Ag ad 10] [6,0,0,4,4,4,4] h ⟨rfl,rfl⟩)))))))))))))))
 exact Ba
theorem Adq (s:ByteArray) (hs:s.size≤9223372036854775807) (ni gi:Int) (ki:Nat) (Ni:ND) (hlki:l[ki]?=some (some Ni)) (hai:Bk ps gs ni gi=some Ni.nb) (c:Nat) (hd:On ps gs l ds n g c):Au Tryz.prog 33 #[Pp b,Hg ni gi,Hg n g,.string s] (Ra B ad b tb most dm pm ps gs vl vg T Sl Sg l ds pn) (fun u L=>u=Ag ad (c+1)∧L=(Ra B ad b tb most dm pm ps gs vl vg T Sl Sg l ds pn)):=by
 refine Zo 75 Tryz.func33 fun E w0 w h=>?_
 have h:=h.eS [10] 6 rfl
 refine Qs (ZN [Ii ni,Ii gi] 34 h fun k1 w h=>ZN [Ii n,Ii g] 34 h fun k2 w h=>ZP .nilIface (Qn (Aa (Ds 12 [1,2] h fun w h=>Dp 0 528 (Pp b) [1,2] h (Dp 1 529 (Pp b) [1,2] h (Dp 2 531 (Pp b) [1,2] h (Dq 3 535 [1,2] rfl h (Gl 0 (Pp tb) 1) (Dq 4 527 [1,2] rfl h (Gla 0 [Ii ni,Ii gi] 0) ?_))))))))
 refine A1 [5,9] (by kernel_rfl) rfl ?_
 refine Di #[Pp tb,Hg ni gi] [4,4,2] [4,4] rfl (by kernel_rfl) (Bm ad tb ps gs vl vg T Sl Sg l hl hr ni gi ki Ni hlki hai) (fun _=>by kernel_rfl) h ?_ ?_
 rintro v_ L_ w ⟨rfl,rfl⟩ h
 refine ⟨by kernel_rfl,?_⟩
 refine Dp 6 575 (.tuple #[.agg #[Ii Ni.kind,Ii (Am Ni),Ii Ni.links,Ii Ni.change,Ii Ni.upn,Ii Ni.upg],.nilIface]) [4,4] h (Dp 7 895 (.agg #[Ii Ni.kind,Ii (Am Ni),Ii Ni.links,Ii Ni.change,Ii Ni.upn,Ii Ni.upg]) [4,4] h (Dp 8 1791 .nilIface [4,4] h ?_))
 refine A1 [9] (by kernel_rfl) rfl ?_
 refine Ch [5,5] rfl (by kernel_rfl) (fun b=>Pp b) [Ii 0,Ii 0,Ii 0,Ii 0,Ii 0,Ii 0] 46 (fun _=>by kernel_rfl) h ?_ ?_
 intro k3 w h;refine ⟨by kernel_rfl,?_⟩
 exact As 10 [5,5] 0 [Ii Ni.kind,Ii (Am Ni),Ii Ni.links,Ii Ni.change,Ii Ni.upn,Ii Ni.upg] [Ii Ni.kind,Ii (Am Ni),Ii Ni.links,Ii Ni.change,Ii Ni.upn,Ii Ni.upg] 0 rfl h fun w h=>Dp 11 2047 .nilIface [5,5] h (Dd (Ai (Qt (ZP .nilIface (ZP (.bool false) (Fs (ZP (Pp b) (ZG h (Gla 0 [Ii n,Ii g] 4) (ZP (.string s) (ZC [6,1,1,4,4,4,4] (Ix ad b most tb dm pm ps gs vl vg T Sl Sg l ds pn hl hr n g s hs c hd) h fun w h=>ZP (.tuple #[.map none,Ag ad (c+1)]) (ZP (.map none) (ZP (Ag ad (c+1)) (ZP (.map none) (ZP (Ag ad (c+1)) (Qm (ZP (.map none) (ZP (.string s) (ZG h (A4 (v':=.tuple #[Hg 0 0,.bool false]) (Sw (K:=9) (E:=34) (z:=(Hg 0 0)) (ok:=true) (Co (by kernel_rfl)) s (by kernel_rfl) (fun _=>by kernel_rfl)) rfl) (ZP (.tuple #[Hg 0 0,.bool false]) (ZP (Hg 0 0) (ZP (.bool false) (ZN [Ii 0,Ii 0] 34 h fun k4 w h=>ZSs [Ii 0,Ii 0] 0 rfl h fun w h=>ZP (.bool false) (Qn (Aa (Av (Qs (ZP (Ag ad (c+1)) (ZP (.bool true) (ZP (.bool true) (Qg (Qs (ZP (Ag ad (c+1)) (ZP (Ag ad (c+1)) (Qr (B7 (Ar (ZR [Ag ad (c+1)] [1,1,1,1,1,1,1] h ⟨rfl,rfl⟩)))))))))))))))))))))))))))))))))))))
 exact Ba
 refine Ch [2,3] rfl (by kernel_rfl) (fun b=>Pp b) [Ii 0,Ii 0,Ii 0,Ii 0,Ii 0,Ii 0] 46 (fun _=>by kernel_rfl) h ?_ ?_
 intro k5 w h;refine ⟨by kernel_rfl,?_⟩
 refine Ad 5 [5,5,3] [5,5] (Bm ad tb ps gs vl vg T Sl Sg l hl hr ni gi ki Ni hlki hai) h ?_
 rintro v_ L_ w ⟨rfl,rfl⟩ h
 refine ⟨by kernel_rfl,?_⟩
 exact Dp 6 575 (.tuple #[.agg #[Ii Ni.kind,Ii (Am Ni),Ii Ni.links,Ii Ni.change,Ii Ni.upn,Ii Ni.upg],.nilIface]) [5,5] h (Dp 7 895 (.agg #[Ii Ni.kind,Ii (Am Ni),Ii Ni.links,Ii Ni.change,Ii Ni.upn,Ii Ni.upg]) [5,5] h (Dp 8 1791 .nilIface [5,5] h (As 10 [5,5] 0 [Ii Ni.kind,Ii (Am Ni),Ii Ni.links,Ii Ni.change,Ii Ni.upn,Ii Ni.upg] [Ii Ni.kind,Ii (Am Ni),Ii Ni.links,Ii Ni.change,Ii Ni.upn,Ii Ni.upg] 3 rfl h fun w h=>Dp 11 2047 .nilIface [5,5] h (Dd (Ai (Qt (ZP .nilIface (ZP (.bool false) (Fs (ZP (Pp b) (ZG h (Gla 0 [Ii n,Ii g] 4) (ZP (.string s) (ZC [6,0,0,4,4,4,4] (Ix ad b most tb dm pm ps gs vl vg T Sl Sg l ds pn hl hr n g s hs c hd) h fun w h=>ZP (.tuple #[.map none,Ag ad (c+1)]) (ZP (.map none) (ZP (Ag ad (c+1)) (ZP (.map none) (ZP (Ag ad (c+1)) (Qm (ZP (.map none) (ZP (.string s) (ZG h (A4 (v':=.tuple #[Hg 0 0,.bool false]) (Sw (K:=9) (E:=34) (z:=(Hg 0 0)) (ok:=true) (Co (by kernel_rfl)) s (by kernel_rfl) (fun _=>by kernel_rfl)) rfl) (ZP (.tuple #[Hg 0 0,.bool false]) (ZP (Hg 0 0) (ZP (.bool false) (ZN [Ii 0,Ii 0] 34 h fun k6 w h=>ZSs [Ii 0,Ii 0] 0 rfl h fun w h=>ZP (.bool false) (Qn (Aa (Av (Qs (ZP (Ag ad (c+1)) (ZP (.bool true) (ZP (.bool true) (Qg (Qs (ZP (Ag ad (c+1)) (ZP (Ag ad (c+1)) (Qr (B7 (Ar (ZR [Ag ad (c+1)] [1,1,1,1,1,1,1] h ⟨rfl,rfl⟩))))))))))))))))))))))))))))))))))))))))
 exact Ba
theorem Ac5 (k:Nat) (N:ND) (hlk:l[k]?=some (some N)) (ha:Bk ps gs n g=some N.nb) (j:Nat) (d:DN) (hj:ds[j]?=some d) (hdh:d.h=(n,g)) (hdd:(ds.map (·.h)).Nodup) (s:ByteArray) (hs:s.size≤9223372036854775807) (ni gi:Int) (ki:Nat) (Ni:ND) (hlki:l[ki]?=some (some Ni)) (hai:Bk ps gs ni gi=some Ni.nb) (hbad:¬A0 s):Au Tryz.prog 33 #[Pp b,Hg ni gi,Hg n g,.string s] (Ra B ad b tb most dm pm ps gs vl vg T Sl Sg l ds pn) (fun u L=>u=Ag ad 4∧L=(Ra B ad b tb most dm pm ps gs vl vg T Sl Sg l ds pn)):=by
 refine Zo 75 Tryz.func33 fun E w0 w h=>?_
 have h:=h.eS [10] 6 rfl
 refine Qs (ZN [Ii ni,Ii gi] 34 h fun k1 w h=>ZN [Ii n,Ii g] 34 h fun k2 w h=>ZP .nilIface (Qn (Aa (Ds 12 [1,2] h fun w h=>Dp 0 528 (Pp b) [1,2] h (Dp 1 529 (Pp b) [1,2] h (Dp 2 531 (Pp b) [1,2] h (Dq 3 535 [1,2] rfl h (Gl 0 (Pp tb) 1) (Dq 4 527 [1,2] rfl h (Gla 0 [Ii ni,Ii gi] 0) ?_))))))))
 refine A1 [5,9] (by kernel_rfl) rfl ?_
 refine Di #[Pp tb,Hg ni gi] [4,4,2] [4,4] rfl (by kernel_rfl) (Bm ad tb ps gs vl vg T Sl Sg l hl hr ni gi ki Ni hlki hai) (fun _=>by kernel_rfl) h ?_ ?_
 rintro v_ L_ w ⟨rfl,rfl⟩ h
 refine ⟨by kernel_rfl,?_⟩
 refine Dp 6 575 (.tuple #[.agg #[Ii Ni.kind,Ii (Am Ni),Ii Ni.links,Ii Ni.change,Ii Ni.upn,Ii Ni.upg],.nilIface]) [4,4] h (Dp 7 895 (.agg #[Ii Ni.kind,Ii (Am Ni),Ii Ni.links,Ii Ni.change,Ii Ni.upn,Ii Ni.upg]) [4,4] h (Dp 8 1791 .nilIface [4,4] h ?_))
 refine A1 [9] (by kernel_rfl) rfl ?_
 refine Ch [5,5] rfl (by kernel_rfl) (fun b=>Pp b) [Ii 0,Ii 0,Ii 0,Ii 0,Ii 0,Ii 0] 46 (fun _=>by kernel_rfl) h ?_ ?_
 intro k3 w h;refine ⟨by kernel_rfl,?_⟩
 refine As 10 [5,5] 0 [Ii Ni.kind,Ii (Am Ni),Ii Ni.links,Ii Ni.change,Ii Ni.upn,Ii Ni.upg] [Ii Ni.kind,Ii (Am Ni),Ii Ni.links,Ii Ni.change,Ii Ni.upn,Ii Ni.upg] 0 rfl h fun w h=>Dp 11 2047 .nilIface [5,5] h (Dd (Ai (Qt (ZP .nilIface (ZP (.bool false) (Fs (ZP (Pp b) (ZG h (Gla 0 [Ii n,Ii g] 4) (ZP (.string s) (ZC [6,1,1,4,4,4,4] (In ad b most tb dm pm ps gs vl vg T Sl Sg l ds pn hl hr n g k N hlk ha j d hj hdh hdd s hs hbad) h fun w h=>?_))))))))))
 have h:=(h.pkr [4]).dirOpen hj
 refine ZP (.tuple #[.map (some d.mb),Ag ad 4]) (ZP (.map (some d.mb)) (ZP (Ag ad 4) (ZP (.map (some d.mb)) (ZP (Ag ad 4) (Qm (ZP (.map (some d.mb)) (ZP (.string s) (ZG h (A4 (v':=.tuple #[.agg #[Ii (((Af d.es s).getD (0,0)).1),Ii (((Af d.es s).getD (0,0)).2)],.bool ((Af d.es s).isSome)]) (Gks (kv:=d.es.map Bd) true s 0 rfl) (by rw [Ja];cases Af d.es s<;>rfl)) (ZP (.tuple #[.agg #[Ii (((Af d.es s).getD (0,0)).1),Ii (((Af d.es s).getD (0,0)).2)],.bool ((Af d.es s).isSome)]) (ZP (.agg #[Ii (((Af d.es s).getD (0,0)).1),Ii (((Af d.es s).getD (0,0)).2)]) (ZP (.bool ((Af d.es s).isSome)) (ZN [Ii 0,Ii 0] 34 h fun k4 w h=>ZSs [Ii (((Af d.es s).getD (0,0)).1),Ii (((Af d.es s).getD (0,0)).2)] 0 rfl h fun w h=>ZP (.bool ((Af d.es s).isSome)) (Qn (Aa (Av (Qs (ZP (Ag ad 4) (ZP (.bool true) (ZP (.bool true) (Qg (Qs (ZP (Ag ad 4) (ZP (Ag ad 4) (Qr (B7 (Ar ?_))))))))))))))))))))))))))
 have h:=(h.pkr [1,1]).dirBack (d:=d) hj
 exact ZR [Ag ad 4] [2,2,2,2,0,1,1] h ⟨rfl,rfl⟩
 exact Ba
 refine Ch [2,3] rfl (by kernel_rfl) (fun b=>Pp b) [Ii 0,Ii 0,Ii 0,Ii 0,Ii 0,Ii 0] 46 (fun _=>by kernel_rfl) h ?_ ?_
 intro k5 w h;refine ⟨by kernel_rfl,?_⟩
 refine Ad 5 [5,5,3] [5,5] (Bm ad tb ps gs vl vg T Sl Sg l hl hr ni gi ki Ni hlki hai) h ?_
 rintro v_ L_ w ⟨rfl,rfl⟩ h
 refine ⟨by kernel_rfl,?_⟩
 refine Dp 6 575 (.tuple #[.agg #[Ii Ni.kind,Ii (Am Ni),Ii Ni.links,Ii Ni.change,Ii Ni.upn,Ii Ni.upg],.nilIface]) [5,5] h (Dp 7 895 (.agg #[Ii Ni.kind,Ii (Am Ni),Ii Ni.links,Ii Ni.change,Ii Ni.upn,Ii Ni.upg]) [5,5] h (Dp 8 1791 .nilIface [5,5] h (As 10 [5,5] 0 [Ii Ni.kind,Ii (Am Ni),Ii Ni.links,Ii Ni.change,Ii Ni.upn,Ii Ni.upg] [Ii Ni.kind,Ii (Am Ni),Ii Ni.links,Ii Ni.change,Ii Ni.upn,Ii Ni.upg] 3 rfl h fun w h=>Dp 11 2047 .nilIface [5,5] h (Dd (Ai (Qt (ZP .nilIface (ZP (.bool false) (Fs (ZP (Pp b) (ZG h (Gla 0 [Ii n,Ii g] 4) (ZP (.string s) (ZC [6,0,0,4,4,4,4] (In ad b most tb dm pm ps gs vl vg T Sl Sg l ds pn hl hr n g k N hlk ha j d hj hdh hdd s hs hbad) h fun w h=>?_)))))))))))))
 have h:=(h.pkr [4]).dirOpen hj
 refine ZP (.tuple #[.map (some d.mb),Ag ad 4]) (ZP (.map (some d.mb)) (ZP (Ag ad 4) (ZP (.map (some d.mb)) (ZP (Ag ad 4) (Qm (ZP (.map (some d.mb)) (ZP (.string s) (ZG h (A4 (v':=.tuple #[.agg #[Ii (((Af d.es s).getD (0,0)).1),Ii (((Af d.es s).getD (0,0)).2)],.bool ((Af d.es s).isSome)]) (Gks (kv:=d.es.map Bd) true s 0 rfl) (by rw [Ja];cases Af d.es s<;>rfl)) (ZP (.tuple #[.agg #[Ii (((Af d.es s).getD (0,0)).1),Ii (((Af d.es s).getD (0,0)).2)],.bool ((Af d.es s).isSome)]) (ZP (.agg #[Ii (((Af d.es s).getD (0,0)).1),Ii (((Af d.es s).getD (0,0)).2)]) (ZP (.bool ((Af d.es s).isSome)) (ZN [Ii 0,Ii 0] 34 h fun k6 w h=>ZSs [Ii (((Af d.es s).getD (0,0)).1),Ii (((Af d.es s).getD (0,0)).2)] 0 rfl h fun w h=>ZP (.bool ((Af d.es s).isSome)) (Qn (Aa (Av (Qs (ZP (Ag ad 4) (ZP (.bool true) (ZP (.bool true) (Qg (Qs (ZP (Ag ad 4) (ZP (Ag ad 4) (Qr (B7 (Ar ?_))))))))))))))))))))))))))
 have h:=(h.pkr [1,1]).dirBack (d:=d) hj
 exact ZR [Ag ad 4] [2,2,2,2,0,1,1] h ⟨rfl,rfl⟩
 exact Ba
theorem Ab0 (k:Nat) (N:ND) (hlk:l[k]?=some (some N)) (ha:Bk ps gs n g=some N.nb) (j:Nat) (d:DN) (hj:ds[j]?=some d) (hdh:d.h=(n,g)) (hdd:(ds.map (·.h)).Nodup) (s:ByteArray) (hs:s.size≤9223372036854775807) (hok:A0 s) (ni gi:Int) (ki:Nat) (Ni:ND) (hlki:l[ki]?=some (some Ni)) (hai:Bk ps gs ni gi=some Ni.nb) (hkd:Ni.kind=2):Au Tryz.prog 33 #[Pp b,Hg ni gi,Hg n g,.string s] (Ra B ad b tb most dm pm ps gs vl vg T Sl Sg l ds pn) (fun u L=>u=Ag ad 8∧L=(Ra B ad b tb most dm pm ps gs vl vg T Sl Sg l ds pn)):=by
 refine Zo 75 Tryz.func33 fun E w0 w h=>?_
 have h:=((h.eS [10] 6 rfl).eS [4] 7 rfl).eS [8] 8 rfl
 refine Qs (ZN [Ii ni,Ii gi] 34 h fun k1 w h=>ZN [Ii n,Ii g] 34 h fun k2 w h=>ZP .nilIface (Qn (Aa (Ds 12 [1,4] h fun w h=>Dp 0 528 (Pp b) [1,4] h (Dp 1 529 (Pp b) [1,4] h (Dp 2 531 (Pp b) [1,4] h (Dq 3 535 [1,4] rfl h (Gl 0 (Pp tb) 1) (Dq 4 527 [1,4] rfl h (Gla 0 [Ii ni,Ii gi] 0) ?_))))))))
 refine A1 [5,9] (by kernel_rfl) rfl ?_
 refine Di #[Pp tb,Hg ni gi] [6,6,4] [4,6] rfl (by kernel_rfl) (Bm ad tb ps gs vl vg T Sl Sg l hl hr ni gi ki Ni hlki hai) (fun _=>by kernel_rfl) h ?_ ?_
 rintro v_ L_ w ⟨rfl,rfl⟩ h
 refine ⟨by kernel_rfl,?_⟩
 refine Dp 6 575 (.tuple #[.agg #[Ii Ni.kind,Ii (Am Ni),Ii Ni.links,Ii Ni.change,Ii Ni.upn,Ii Ni.upg],.nilIface]) [4,6] h (Dp 7 895 (.agg #[Ii Ni.kind,Ii (Am Ni),Ii Ni.links,Ii Ni.change,Ii Ni.upn,Ii Ni.upg]) [4,6] h (Dp 8 1791 .nilIface [4,6] h ?_))
 refine A1 [9] (by kernel_rfl) rfl ?_
 refine Ch [5,7] rfl (by kernel_rfl) (fun b=>Pp b) [Ii 0,Ii 0,Ii 0,Ii 0,Ii 0,Ii 0] 46 (fun _=>by kernel_rfl) h ?_ ?_
 intro k3 w h;refine ⟨by kernel_rfl,?_⟩
 refine As 10 [5,7] 0 [Ii Ni.kind,Ii (Am Ni),Ii Ni.links,Ii Ni.change,Ii Ni.upn,Ii Ni.upg] [Ii Ni.kind,Ii (Am Ni),Ii Ni.links,Ii Ni.change,Ii Ni.upn,Ii Ni.upg] 0 rfl h fun w h=>Dp 11 2047 .nilIface [5,7] h (Dd (Ai (Qt (ZP .nilIface (ZP (.bool false) (Fs (ZP (Pp b) (ZG h (Gla 0 [Ii n,Ii g] 4) (ZP (.string s) (ZC [8,1,1,6,1,4] (Cd ad b most tb dm pm ps gs vl vg T Sl Sg l ds pn hl hr n g k N hlk ha j d hj hdh hdd s hs hok) h fun w h=>?_))))))))))
 have h:=(h.pkr [10]).dirOpen hj
 refine ZP (.tuple #[.map (some d.mb),.nilIface]) (ZP (.map (some d.mb)) (ZP .nilIface (ZP (.map (some d.mb)) (ZP .nilIface (Qm (ZP (.map (some d.mb)) (ZP (.string s) (ZG h (A4 (v':=.tuple #[.agg #[Ii (((Af d.es s).getD (0,0)).1),Ii (((Af d.es s).getD (0,0)).2)],.bool ((Af d.es s).isSome)]) (Gks (kv:=d.es.map Bd) true s 0 rfl) (by rw [Ja];cases Af d.es s<;>rfl)) (ZP (.tuple #[.agg #[Ii (((Af d.es s).getD (0,0)).1),Ii (((Af d.es s).getD (0,0)).2)],.bool ((Af d.es s).isSome)]) (ZP (.agg #[Ii (((Af d.es s).getD (0,0)).1),Ii (((Af d.es s).getD (0,0)).2)]) (ZP (.bool ((Af d.es s).isSome)) (ZN [Ii 0,Ii 0] 34 h fun k4 w h=>ZSs [Ii (((Af d.es s).getD (0,0)).1),Ii (((Af d.es s).getD (0,0)).2)] 0 rfl h fun w h=>ZP (.bool ((Af d.es s).isSome)) (Qn (Aa (Av (Qs (ZP .nilIface (ZP (.bool false) (ZP (.bool false) (Qf (Qs (ZP (Pp k3) (ZG h (Gl 0 (Ii Ni.kind) 9) (ZP (.bool (decide (Ni.kind=2))) (ZP (.bool (decide (Ni.kind=2))) (Qn (Zd (Ni.kind=2) (fun hc5=>?_) fun hc5=>?_)))))))))))))))))))))))))))
 refine Qs (ZG h (Gr 0 (Ag ad 8) 12 rfl (Ff (c:=8) (by decide) rfl)) (ZP (Ag ad 8) (Qr (B7 (Ar ?_)))))
 have h:=(h.pkr [1,1]).dirBack (d:=d) hj
 exact ZR [Ag ad 8] [2,2,2,2,0,7,7] h ⟨rfl,rfl⟩
 exfalso;first|omega|(simp only [List.length_map] at *;omega)|(revert hc5;simp;done)|(revert hc5;simp;omega)
 exact Ba
 refine Ch [2,5] rfl (by kernel_rfl) (fun b=>Pp b) [Ii 0,Ii 0,Ii 0,Ii 0,Ii 0,Ii 0] 46 (fun _=>by kernel_rfl) h ?_ ?_
 intro k6 w h;refine ⟨by kernel_rfl,?_⟩
 refine Ad 5 [7,7,5] [5,7] (Bm ad tb ps gs vl vg T Sl Sg l hl hr ni gi ki Ni hlki hai) h ?_
 rintro v_ L_ w ⟨rfl,rfl⟩ h
 refine ⟨by kernel_rfl,?_⟩
 refine Dp 6 575 (.tuple #[.agg #[Ii Ni.kind,Ii (Am Ni),Ii Ni.links,Ii Ni.change,Ii Ni.upn,Ii Ni.upg],.nilIface]) [5,7] h (Dp 7 895 (.agg #[Ii Ni.kind,Ii (Am Ni),Ii Ni.links,Ii Ni.change,Ii Ni.upn,Ii Ni.upg]) [5,7] h (Dp 8 1791 .nilIface [5,7] h (As 10 [5,7] 0 [Ii Ni.kind,Ii (Am Ni),Ii Ni.links,Ii Ni.change,Ii Ni.upn,Ii Ni.upg] [Ii Ni.kind,Ii (Am Ni),Ii Ni.links,Ii Ni.change,Ii Ni.upn,Ii Ni.upg] 3 rfl h fun w h=>Dp 11 2047 .nilIface [5,7] h (Dd (Ai (Qt (ZP .nilIface (ZP (.bool false) (Fs (ZP (Pp b) (ZG h (Gla 0 [Ii n,Ii g] 4) (ZP (.string s) (ZC [8,0,0,6,0,4] (Cd ad b most tb dm pm ps gs vl vg T Sl Sg l ds pn hl hr n g k N hlk ha j d hj hdh hdd s hs hok) h fun w h=>?_)))))))))))))
 have h:=(h.pkr [10]).dirOpen hj
 refine ZP (.tuple #[.map (some d.mb),.nilIface]) (ZP (.map (some d.mb)) (ZP .nilIface (ZP (.map (some d.mb)) (ZP .nilIface (Qm (ZP (.map (some d.mb)) (ZP (.string s) (ZG h (A4 (v':=.tuple #[.agg #[Ii (((Af d.es s).getD (0,0)).1),Ii (((Af d.es s).getD (0,0)).2)],.bool ((Af d.es s).isSome)]) (Gks (kv:=d.es.map Bd) true s 0 rfl) (by rw [Ja];cases Af d.es s<;>rfl)) (ZP (.tuple #[.agg #[Ii (((Af d.es s).getD (0,0)).1),Ii (((Af d.es s).getD (0,0)).2)],.bool ((Af d.es s).isSome)]) (ZP (.agg #[Ii (((Af d.es s).getD (0,0)).1),Ii (((Af d.es s).getD (0,0)).2)]) (ZP (.bool ((Af d.es s).isSome)) (ZN [Ii 0,Ii 0] 34 h fun k7 w h=>ZSs [Ii (((Af d.es s).getD (0,0)).1),Ii (((Af d.es s).getD (0,0)).2)] 0 rfl h fun w h=>ZP (.bool ((Af d.es s).isSome)) (Qn (Aa (Av (Qs (ZP .nilIface (ZP (.bool false) (ZP (.bool false) (Qf (Qs (ZP (Pp k6) (ZG h (Gl 0 (Ii Ni.kind) 9) (ZP (.bool (decide (Ni.kind=2))) (ZP (.bool (decide (Ni.kind=2))) (Qn (Zd (Ni.kind=2) (fun hc8=>?_) fun hc8=>?_)))))))))))))))))))))))))))
 refine Qs (ZG h (Gr 0 (Ag ad 8) 12 rfl (Ff (c:=8) (by decide) rfl)) (ZP (Ag ad 8) (Qr (B7 (Ar ?_)))))
 have h:=(h.pkr [1,1]).dirBack (d:=d) hj
 exact ZR [Ag ad 8] [2,2,2,2,0,7,7] h ⟨rfl,rfl⟩
 exfalso;first|omega|(simp only [List.length_map] at *;omega)|(revert hc8;simp;done)|(revert hc8;simp;omega)
 exact Ba
theorem Ack (k:Nat) (N:ND) (hlk:l[k]?=some (some N)) (ha:Bk ps gs n g=some N.nb) (j:Nat) (d:DN) (hj:ds[j]?=some d) (hdh:d.h=(n,g)) (hdd:(ds.map (·.h)).Nodup) (s:ByteArray) (hs:s.size≤9223372036854775807) (hok:A0 s) (ni gi:Int) (ki:Nat) (Ni:ND) (hlki:l[ki]?=some (some Ni)) (hai:Bk ps gs ni gi=some Ni.nb) (hkd:Ni.kind=1) (x:Int×Int) (hx:Af d.es s=some x):Au Tryz.prog 33 #[Pp b,Hg ni gi,Hg n g,.string s] (Ra B ad b tb most dm pm ps gs vl vg T Sl Sg l ds pn) (fun u L=>u=Ag ad 6∧L=(Ra B ad b tb most dm pm ps gs vl vg T Sl Sg l ds pn)):=by
 refine Zo 75 Tryz.func33 fun E w0 w h=>?_
 have h:=((h.eS [10] 6 rfl).eS [4] 7 rfl).eS [6] 8 rfl
 refine Qs (ZN [Ii ni,Ii gi] 34 h fun k1 w h=>ZN [Ii n,Ii g] 34 h fun k2 w h=>ZP .nilIface (Qn (Aa (Ds 12 [1,4] h fun w h=>Dp 0 528 (Pp b) [1,4] h (Dp 1 529 (Pp b) [1,4] h (Dp 2 531 (Pp b) [1,4] h (Dq 3 535 [1,4] rfl h (Gl 0 (Pp tb) 1) (Dq 4 527 [1,4] rfl h (Gla 0 [Ii ni,Ii gi] 0) ?_))))))))
 refine A1 [5,9] (by kernel_rfl) rfl ?_
 refine Di #[Pp tb,Hg ni gi] [6,6,4] [4,6] rfl (by kernel_rfl) (Bm ad tb ps gs vl vg T Sl Sg l hl hr ni gi ki Ni hlki hai) (fun _=>by kernel_rfl) h ?_ ?_
 rintro v_ L_ w ⟨rfl,rfl⟩ h
 refine ⟨by kernel_rfl,?_⟩
 refine Dp 6 575 (.tuple #[.agg #[Ii Ni.kind,Ii (Am Ni),Ii Ni.links,Ii Ni.change,Ii Ni.upn,Ii Ni.upg],.nilIface]) [4,6] h (Dp 7 895 (.agg #[Ii Ni.kind,Ii (Am Ni),Ii Ni.links,Ii Ni.change,Ii Ni.upn,Ii Ni.upg]) [4,6] h (Dp 8 1791 .nilIface [4,6] h ?_))
 refine A1 [9] (by kernel_rfl) rfl ?_
 refine Ch [5,7] rfl (by kernel_rfl) (fun b=>Pp b) [Ii 0,Ii 0,Ii 0,Ii 0,Ii 0,Ii 0] 46 (fun _=>by kernel_rfl) h ?_ ?_
 intro k3 w h;refine ⟨by kernel_rfl,?_⟩
 refine As 10 [5,7] 0 [Ii Ni.kind,Ii (Am Ni),Ii Ni.links,Ii Ni.change,Ii Ni.upn,Ii Ni.upg] [Ii Ni.kind,Ii (Am Ni),Ii Ni.links,Ii Ni.change,Ii Ni.upn,Ii Ni.upg] 0 rfl h fun w h=>Dp 11 2047 .nilIface [5,7] h (Dd (Ai (Qt (ZP .nilIface (ZP (.bool false) (Fs (ZP (Pp b) (ZG h (Gla 0 [Ii n,Ii g] 4) (ZP (.string s) (ZC [8,1,1,6,1,4] (Cd ad b most tb dm pm ps gs vl vg T Sl Sg l ds pn hl hr n g k N hlk ha j d hj hdh hdd s hs hok) h fun w h=>?_))))))))))
 have h:=(h.pkr [10]).dirOpen hj
 refine ZP (.tuple #[.map (some d.mb),.nilIface]) (ZP (.map (some d.mb)) (ZP .nilIface (ZP (.map (some d.mb)) (ZP .nilIface (Qm (ZP (.map (some d.mb)) (ZP (.string s) (ZG h (A4 (v':=.tuple #[Hg x.1 x.2,.bool true]) (Gks (kv:=d.es.map Bd) true s 0 rfl) (by rw [B9 hx];rfl)) (ZP (.tuple #[Hg x.1 x.2,.bool true]) (ZP (Hg x.1 x.2) (ZP (.bool true) (ZN [Ii 0,Ii 0] 34 h fun k4 w h=>ZSs [Ii x.1,Ii x.2] 0 rfl h fun w h=>ZP (.bool true) (Qn (Aa (Av (Qs (ZP .nilIface (ZP (.bool false) (ZP (.bool false) (Qf (Qs (ZP (Pp k3) (ZG h (Gl 0 (Ii Ni.kind) 9) (ZP (.bool (decide (Ni.kind=2))) (ZP (.bool (decide (Ni.kind=2))) (Qn (Zd (Ni.kind=2) (fun hc5=>?_) fun hc5=>?_)))))))))))))))))))))))))))
 exfalso;first|omega|(simp only [List.length_map] at *;omega)|(revert hc5;simp;done)|(revert hc5;simp;omega)
 refine Qs (ZP (.bool true) (ZP (.bool true) (Qg (Qs (ZG h (Gr 0 (Ag ad 6) 12 rfl (Ff (c:=6) (by decide) rfl)) (ZP (Ag ad 6) (Qr (B7 (Ar ?_)))))))))
 have h:=(h.pkr [1,1]).dirBack (d:=d) hj
 exact ZR [Ag ad 6] [2,2,2,2,0,7,7] h ⟨rfl,rfl⟩
 exact Ba
 refine Ch [2,5] rfl (by kernel_rfl) (fun b=>Pp b) [Ii 0,Ii 0,Ii 0,Ii 0,Ii 0,Ii 0] 46 (fun _=>by kernel_rfl) h ?_ ?_
 intro k6 w h;refine ⟨by kernel_rfl,?_⟩
 refine Ad 5 [7,7,5] [5,7] (Bm ad tb ps gs vl vg T Sl Sg l hl hr ni gi ki Ni hlki hai) h ?_
 rintro v_ L_ w ⟨rfl,rfl⟩ h
 refine ⟨by kernel_rfl,?_⟩
 refine Dp 6 575 (.tuple #[.agg #[Ii Ni.kind,Ii (Am Ni),Ii Ni.links,Ii Ni.change,Ii Ni.upn,Ii Ni.upg],.nilIface]) [5,7] h (Dp 7 895 (.agg #[Ii Ni.kind,Ii (Am Ni),Ii Ni.links,Ii Ni.change,Ii Ni.upn,Ii Ni.upg]) [5,7] h (Dp 8 1791 .nilIface [5,7] h (As 10 [5,7] 0 [Ii Ni.kind,Ii (Am Ni),Ii Ni.links,Ii Ni.change,Ii Ni.upn,Ii Ni.upg] [Ii Ni.kind,Ii (Am Ni),Ii Ni.links,Ii Ni.change,Ii Ni.upn,Ii Ni.upg] 3 rfl h fun w h=>Dp 11 2047 .nilIface [5,7] h (Dd (Ai (Qt (ZP .nilIface (ZP (.bool false) (Fs (ZP (Pp b) (ZG h (Gla 0 [Ii n,Ii g] 4) (ZP (.string s) (ZC [8,0,0,6,0,4] (Cd ad b most tb dm pm ps gs vl vg T Sl Sg l ds pn hl hr n g k N hlk ha j d hj hdh hdd s hs hok) h fun w h=>?_)))))))))))))
 have h:=(h.pkr [10]).dirOpen hj
 refine ZP (.tuple #[.map (some d.mb),.nilIface]) (ZP (.map (some d.mb)) (ZP .nilIface (ZP (.map (some d.mb)) (ZP .nilIface (Qm (ZP (.map (some d.mb)) (ZP (.string s) (ZG h (A4 (v':=.tuple #[Hg x.1 x.2,.bool true]) (Gks (kv:=d.es.map Bd) true s 0 rfl) (by rw [B9 hx];rfl)) (ZP (.tuple #[Hg x.1 x.2,.bool true]) (ZP (Hg x.1 x.2) (ZP (.bool true) (ZN [Ii 0,Ii 0] 34 h fun k7 w h=>ZSs [Ii x.1,Ii x.2] 0 rfl h fun w h=>ZP (.bool true) (Qn (Aa (Av (Qs (ZP .nilIface (ZP (.bool false) (ZP (.bool false) (Qf (Qs (ZP (Pp k6) (ZG h (Gl 0 (Ii Ni.kind) 9) (ZP (.bool (decide (Ni.kind=2))) (ZP (.bool (decide (Ni.kind=2))) (Qn (Zd (Ni.kind=2) (fun hc8=>?_) fun hc8=>?_)))))))))))))))))))))))))))
 exfalso;first|omega|(simp only [List.length_map] at *;omega)|(revert hc8;simp;done)|(revert hc8;simp;omega)
 refine Qs (ZP (.bool true) (ZP (.bool true) (Qg (Qs (ZG h (Gr 0 (Ag ad 6) 12 rfl (Ff (c:=6) (by decide) rfl)) (ZP (Ag ad 6) (Qr (B7 (Ar ?_)))))))))
 have h:=(h.pkr [1,1]).dirBack (d:=d) hj
 exact ZR [Ag ad 6] [2,2,2,2,0,7,7] h ⟨rfl,rfl⟩
 exact Ba
theorem Adl (k:Nat) (N:ND) (hlk:l[k]?=some (some N)) (ha:Bk ps gs n g=some N.nb) (j:Nat) (d:DN) (hj:ds[j]?=some d) (hdh:d.h=(n,g)) (hdd:(ds.map (·.h)).Nodup) (s:ByteArray) (hs:s.size≤9223372036854775807) (hok:A0 s) (ni gi:Int) (ki:Nat) (Ni:ND) (hlki:l[ki]?=some (some Ni)) (hai:Bk ps gs ni gi=some Ni.nb) (hkd:Ni.kind=1) (hx:Af d.es s=none) (hfull:60≤d.es.length):Au Tryz.prog 33 #[Pp b,Hg ni gi,Hg n g,.string s] (Ra B ad b tb most dm pm ps gs vl vg T Sl Sg l ds pn) (fun u L=>u=Ag ad 9∧L=(Ra B ad b tb most dm pm ps gs vl vg T Sl Sg l ds pn)):=by
 refine Zo 75 Tryz.func33 fun E w0 w h=>?_
 have h:=((h.eS [10] 6 rfl).eS [4] 7 rfl).eS [9] 8 rfl
 refine Qs (ZN [Ii ni,Ii gi] 34 h fun k1 w h=>ZN [Ii n,Ii g] 34 h fun k2 w h=>ZP .nilIface (Qn (Aa (Ds 12 [1,4] h fun w h=>Dp 0 528 (Pp b) [1,4] h (Dp 1 529 (Pp b) [1,4] h (Dp 2 531 (Pp b) [1,4] h (Dq 3 535 [1,4] rfl h (Gl 0 (Pp tb) 1) (Dq 4 527 [1,4] rfl h (Gla 0 [Ii ni,Ii gi] 0) ?_))))))))
 refine A1 [5,9] (by kernel_rfl) rfl ?_
 refine Di #[Pp tb,Hg ni gi] [6,6,4] [4,6] rfl (by kernel_rfl) (Bm ad tb ps gs vl vg T Sl Sg l hl hr ni gi ki Ni hlki hai) (fun _=>by kernel_rfl) h ?_ ?_
 rintro v_ L_ w ⟨rfl,rfl⟩ h
 refine ⟨by kernel_rfl,?_⟩
 refine Dp 6 575 (.tuple #[.agg #[Ii Ni.kind,Ii (Am Ni),Ii Ni.links,Ii Ni.change,Ii Ni.upn,Ii Ni.upg],.nilIface]) [4,6] h (Dp 7 895 (.agg #[Ii Ni.kind,Ii (Am Ni),Ii Ni.links,Ii Ni.change,Ii Ni.upn,Ii Ni.upg]) [4,6] h (Dp 8 1791 .nilIface [4,6] h ?_))
 refine A1 [9] (by kernel_rfl) rfl ?_
 refine Ch [5,7] rfl (by kernel_rfl) (fun b=>Pp b) [Ii 0,Ii 0,Ii 0,Ii 0,Ii 0,Ii 0] 46 (fun _=>by kernel_rfl) h ?_ ?_
 intro k3 w h;refine ⟨by kernel_rfl,?_⟩
 refine As 10 [5,7] 0 [Ii Ni.kind,Ii (Am Ni),Ii Ni.links,Ii Ni.change,Ii Ni.upn,Ii Ni.upg] [Ii Ni.kind,Ii (Am Ni),Ii Ni.links,Ii Ni.change,Ii Ni.upn,Ii Ni.upg] 0 rfl h fun w h=>Dp 11 2047 .nilIface [5,7] h (Dd (Ai (Qt (ZP .nilIface (ZP (.bool false) (Fs (ZP (Pp b) (ZG h (Gla 0 [Ii n,Ii g] 4) (ZP (.string s) (ZC [8,1,1,6,1,4] (Cd ad b most tb dm pm ps gs vl vg T Sl Sg l ds pn hl hr n g k N hlk ha j d hj hdh hdd s hs hok) h fun w h=>?_))))))))))
 have h:=(h.pkr [10]).dirOpen hj
 refine ZP (.tuple #[.map (some d.mb),.nilIface]) (ZP (.map (some d.mb)) (ZP .nilIface (ZP (.map (some d.mb)) (ZP .nilIface (Qm (ZP (.map (some d.mb)) (ZP (.string s) (ZG h (A4 (v':=.tuple #[Hg 0 0,.bool false]) (Gks (kv:=d.es.map Bd) true s 0 rfl) (by rw [Ed hx];rfl)) (ZP (.tuple #[Hg 0 0,.bool false]) (ZP (Hg 0 0) (ZP (.bool false) (ZN [Ii 0,Ii 0] 34 h fun k4 w h=>ZSs [Ii 0,Ii 0] 0 rfl h fun w h=>ZP (.bool false) (Qn (Aa (Av (Qs (ZP .nilIface (ZP (.bool false) (ZP (.bool false) (Qf (Qs (ZP (Pp k3) (ZG h (Gl 0 (Ii Ni.kind) 9) (ZP (.bool (decide (Ni.kind=2))) (ZP (.bool (decide (Ni.kind=2))) (Qn (Zd (Ni.kind=2) (fun hc5=>?_) fun hc5=>?_)))))))))))))))))))))))))))
 exfalso;first|omega|(simp only [List.length_map] at *;omega)|(revert hc5;simp;done)|(revert hc5;simp;omega)
 refine Qs (ZP (.bool false) (ZP (.bool false) (Qf (Qs (ZP (.map (some d.mb)) (ZG h (E3 (K:=9) (E:=34) (by kernel_rfl) 1 rfl) ?_))))))
 obtain ⟨b6,hb6⟩:=nmB (decide (((d.es.map Bd).length:Int)≥60))
 refine ZB hb6 (ZP (.bool b6) (ZM0 (v:=Pt k3 2) b6 h (fun hB=>by subst hB;exact Gp (Pt k3 2)) (ZM0 (v:=Ii Ni.links) b6 h (fun hB=>by subst hB;exact Gl 2 (Ii Ni.links) 9) ?_)))
 obtain ⟨b7,hb7⟩:=nmB (decide (Ni.links≥8))
 refine ZM0 (v:=.bool b7) b6 h (fun hB=>by subst hB;exact by subst hb7;exact Az (v:=.bool (decide (Ni.links≥8))) fun _=>by kernel_rfl) ?_
 obtain ⟨b8,hb8⟩:=nmB (b6||b7)
 refine ZBc b6 hb8 (ZP (.bool b8) (Qn (Zi (b8) (fun hc9=>?_) fun hc9=>?_)))
 have q10:=hb8.symm.trans hc9
 have q11:((((d.es.map Bd).length:Int)≥60)∨(Ni.links≥8)):=by subst hb7;subst hb6;revert q10;first|(simp;done)|(simp;omega)
 refine Qs (ZG h (Gr 0 (Ag ad 9) 12 rfl (Ff (c:=9) (by decide) rfl)) (ZP (Ag ad 9) (Qr (B7 (Ar ?_)))))
 have h:=(h.pkr [1,1]).dirBack (d:=d) hj
 exact ZR [Ag ad 9] [2,2,2,2,0,7,7] h ⟨rfl,rfl⟩
 have q12:=hb8.symm.trans hc9
 have q13:=oL q12
 have q14:=oR q12
 have q15:=hb6.symm.trans q13
 have q15:=dcF q15
 have q16:=hb7.symm.trans q14
 have q16:=dcF q16
 exfalso;first|omega|(simp only [List.length_map] at *;omega)|(revert hc9;subst hb8;subst hb7;subst hb6;simp;done)|(revert hc9;subst hb8;subst hb7;subst hb6;simp;omega)
 exact Ba
 refine Ch [2,5] rfl (by kernel_rfl) (fun b=>Pp b) [Ii 0,Ii 0,Ii 0,Ii 0,Ii 0,Ii 0] 46 (fun _=>by kernel_rfl) h ?_ ?_
 intro k17 w h;refine ⟨by kernel_rfl,?_⟩
 refine Ad 5 [7,7,5] [5,7] (Bm ad tb ps gs vl vg T Sl Sg l hl hr ni gi ki Ni hlki hai) h ?_
 rintro v_ L_ w ⟨rfl,rfl⟩ h
 refine ⟨by kernel_rfl,?_⟩
 refine Dp 6 575 (.tuple #[.agg #[Ii Ni.kind,Ii (Am Ni),Ii Ni.links,Ii Ni.change,Ii Ni.upn,Ii Ni.upg],.nilIface]) [5,7] h (Dp 7 895 (.agg #[Ii Ni.kind,Ii (Am Ni),Ii Ni.links,Ii Ni.change,Ii Ni.upn,Ii Ni.upg]) [5,7] h (Dp 8 1791 .nilIface [5,7] h (As 10 [5,7] 0 [Ii Ni.kind,Ii (Am Ni),Ii Ni.links,Ii Ni.change,Ii Ni.upn,Ii Ni.upg] [Ii Ni.kind,Ii (Am Ni),Ii Ni.links,Ii Ni.change,Ii Ni.upn,Ii Ni.upg] 3 rfl h fun w h=>Dp 11 2047 .nilIface [5,7] h (Dd (Ai (Qt (ZP .nilIface (ZP (.bool false) (Fs (ZP (Pp b) (ZG h (Gla 0 [Ii n,Ii g] 4) (ZP (.string s) (ZC [8,0,0,6,0,4] (Cd ad b most tb dm pm ps gs vl vg T Sl Sg l ds pn hl hr n g k N hlk ha j d hj hdh hdd s hs hok) h fun w h=>?_)))))))))))))
 have h:=(h.pkr [10]).dirOpen hj
 refine ZP (.tuple #[.map (some d.mb),.nilIface]) (ZP (.map (some d.mb)) (ZP .nilIface (ZP (.map (some d.mb)) (ZP .nilIface (Qm (ZP (.map (some d.mb)) (ZP (.string s) (ZG h (A4 (v':=.tuple #[Hg 0 0,.bool false]) (Gks (kv:=d.es.map Bd) true s 0 rfl) (by rw [Ed hx];rfl)) (ZP (.tuple #[Hg 0 0,.bool false]) (ZP (Hg 0 0) (ZP (.bool false) (ZN [Ii 0,Ii 0] 34 h fun k18 w h=>ZSs [Ii 0,Ii 0] 0 rfl h fun w h=>ZP (.bool false) (Qn (Aa (Av (Qs (ZP .nilIface (ZP (.bool false) (ZP (.bool false) (Qf (Qs (ZP (Pp k17) (ZG h (Gl 0 (Ii Ni.kind) 9) (ZP (.bool (decide (Ni.kind=2))) (ZP (.bool (decide (Ni.kind=2))) (Qn (Zd (Ni.kind=2) (fun hc19=>?_) fun hc19=>?_)))))))))))))))))))))))))))
 exfalso;first|omega|(simp only [List.length_map] at *;omega)|(revert hc19;simp;done)|(revert hc19;simp;omega)
 refine Qs (ZP (.bool false) (ZP (.bool false) (Qf (Qs (ZP (.map (some d.mb)) (ZG h (E3 (K:=9) (E:=34) (by kernel_rfl) 1 rfl) ?_))))))
 obtain ⟨b20,hb20⟩:=nmB (decide (((d.es.map Bd).length:Int)≥60))
 refine ZB hb20 (ZP (.bool b20) (ZM0 (v:=Pt k17 2) b20 h (fun hB=>by subst hB;exact Gp (Pt k17 2)) (ZM0 (v:=Ii Ni.links) b20 h (fun hB=>by subst hB;exact Gl 2 (Ii Ni.links) 9) ?_)))
 obtain ⟨b21,hb21⟩:=nmB (decide (Ni.links≥8))
 refine ZM0 (v:=.bool b21) b20 h (fun hB=>by subst hB;exact by subst hb21;exact Az (v:=.bool (decide (Ni.links≥8))) fun _=>by kernel_rfl) ?_
 obtain ⟨b22,hb22⟩:=nmB (b20||b21)
 refine ZBc b20 hb22 (ZP (.bool b22) (Qn (Zi (b22) (fun hc23=>?_) fun hc23=>?_)))
 have q24:=hb22.symm.trans hc23
 have q25:((((d.es.map Bd).length:Int)≥60)∨(Ni.links≥8)):=by subst hb21;subst hb20;revert q24;first|(simp;done)|(simp;omega)
 refine Qs (ZG h (Gr 0 (Ag ad 9) 12 rfl (Ff (c:=9) (by decide) rfl)) (ZP (Ag ad 9) (Qr (B7 (Ar ?_)))))
 have h:=(h.pkr [1,1]).dirBack (d:=d) hj
 exact ZR [Ag ad 9] [2,2,2,2,0,7,7] h ⟨rfl,rfl⟩
 have q26:=hb22.symm.trans hc23
 have q27:=oL q26
 have q28:=oR q26
 have q29:=hb20.symm.trans q27
 have q29:=dcF q29
 have q30:=hb21.symm.trans q28
 have q30:=dcF q30
 exfalso;first|omega|(simp only [List.length_map] at *;omega)|(revert hc23;subst hb22;subst hb21;subst hb20;simp;done)|(revert hc23;subst hb22;subst hb21;subst hb20;simp;omega)
 exact Ba
end
section
variable {most:Nat} {ps:List (Option Nat)} {gs:List Int} {l:List (Option ND)} {ds:List DN} {pn:List ((Int×Int)×Int)} {A:List AN} {ts:List Int} {lz:Hdl→Nat}
theorem TI0.enterNod (b:TI0 most ts lz A) (d:Hdl) (nm:ByteArray) (x:Hdl):((Ax A d nm x).map (·.h)).Nodup:=by
  exact Z8 b.nod d nm x
section
variable (s:Sim most ps gs l ds pn A ts) (t:TI most ts A)
include s t
theorem Sim.createF {D:AN} (hD:D∈A) (hk:D.kind=2) {k j kf:Nat} {N:ND} {d:DN} (hlk:l[k]?=some (some N)) (hDh:D.h=((k:Int),Aw ts k - 1)) (hj:ds[j]?=some d) (hdh:d.h=D.h) {nm:ByteArray} (hno:∀ e∈D.es,e.1≠nm) (hlt:D.es.length<60) (hkf:kf<most) (hu:Ey A kf=false) (nb db:Nat) :
    Sim most (ps.set kf (some nb)) (gs.set kf (Aw ts kf+1)) (((l.set kf (some (Cs nb 1 (some (Hs db))))).set kf (some (Ao (Cs nb 1 (some (Hs db))) 1))).set k (some (Ae N))) (ds.set j { d with es:=Ay d.es nm ((kf:Int),Aw ts kf) }) pn (Gd A ts D.h nm 1 kf) (ts.set kf (Aw ts kf+1)):=by
  have b:=t.base
  have s0:=SD.of_ s
  have hlen:ts.length=most:=by rw [← s.gts];exact s.lgs
  have hne:kf≠k:=fun e=>Fv hu hD (by rw [hDh,e])
  have hKn:∀ M∈A,M.h≠((kf:Int),Aw ts kf):=fun M hM e=>Fv hu hM (by rw [e])
  have bK:=b.app (kind:=1) hkf hlen hu (.inl rfl) lz0 (fun _ _=>rfl) (fun q=>absurd q (by decide))
  have hK:C8 ((kf:Int),Aw ts kf) 1∈A++[C8 ((kf:Int),Aw ts kf) 1]:=by simp
  have hD1:D∈A++[C8 ((kf:Int),Aw ts kf) 1]:=List.mem_append_left _ hD
  have htk:Aw (ts.set kf (Aw ts kf+1)) kf=Aw ts kf+1:=T8 (by omega) _
  have hKh:(C8 ((kf:Int),Aw ts kf) 1).h=((kf:Int),Aw (ts.set kf (Aw ts kf+1)) kf - 1):=Prod.ext rfl (by rw [htk];show Aw ts kf=Aw ts kf+1 - 1;omega)
  have hDk:D.h=((k:Int),Aw (ts.set kf (Aw ts kf+1)) k - 1):=by rw [Vf hne];exact hDh
  have t1:=s0.T.app b hkf hu (N:=Cs nb 1 (some (Hs db))) (K:=C8 ((kf:Int),Aw ts kf) 1) (dl':=fun _=>0) (ud':=fun _=>False) rfl rfl (fun _ _=>rfl) (fun _ _ h=>h)
    ⟨rfl,rfl,by rw [De (N:=C8 ((kf:Int),Aw ts kf) 1) (show ¬(1:Int)=2 by decide),Le A _ rfl];show (0:Int)=(Be A ((kf:Int),Aw ts kf):Int)+0;rw [Ur b hKn];rfl,fun q=>absurd (show (1:Int)=2 from q) (by decide),fun _=>⟨rfl,rfl,Hs db,rfl,Zu⟩⟩
  have s1:SD most (fun _=>0) (fun _=>False) (ps.set kf (some nb)) (gs.set kf (Aw ts kf+1)) (l.set kf (some (Cs nb 1 (some (Hs db))))) ds pn (A++[C8 ((kf:Int),Aw ts kf) 1]) (ts.set kf (Aw ts kf+1)):=⟨t1,s0.E.addF (N:=C8 ((kf:Int),Aw ts kf) 1) (show ¬(1:Int)=2 by decide),s0.P.app rfl⟩
  have s2:=s1.links bK (k:=kf) (C0 (by rw [s.ll];exact hkf)) hK hKh 1
  have s3:=s2.enter bK hD1 hK hk hj hdh hno
  have hn3:=bK.enterNod D.h nm (C8 ((kf:Int),Aw ts kf) 1).h
  have hD3:=G6 (f:=fun N=>⟨N.h,N.kind,N.change,N.s,N.holes,Bi nm (C8 ((kf:Int),Aw ts kf) 1).h N.es,N.pins⟩) hD1
  have s4:SD _ _ _ _ _ _ _ _ _ _:=⟨s3.T.touch hn3 (k:=k) (N:=N) (A3 (A3 hlk hne) hne) hD3 hDk,s3.E.shp (Bl _ _),s3.P.touch _⟩
  refine s4.fin (fun M hM=>?_) fun M hM k2 q=>?_
  · show ((0:Int)+(if M.h=((kf:Int),Aw ts kf) then (1:Int) else 0)) - (if M.h=D.h∧(1:Int)=2 then 1 else 0) - (if M.h=((kf:Int),Aw ts kf)∧(1:Int)=1 then 1 else 0)=0
    by_cases c:M.h=((kf:Int),Aw ts kf)<;>simp [c]
  · rcases q with q|q
    · exact q
    · exact absurd (show (1:Int)=2 from q.2) (by decide)
theorem Sim.createD {D:AN} (hD:D∈A) (hk:D.kind=2) {k j kf:Nat} {N:ND} {d:DN} {n g:Int} (hlk:l[k]?=some (some N)) (hDh:D.h=((k:Int),Aw ts k - 1)) (hng:D.h=(n,g)) (hj:ds[j]?=some d) (hdh:d.h=D.h) {nm:ByteArray} (hno:∀ e∈D.es,e.1≠nm) (hlt:D.es.length<60) (hkf:kf<most) (hu:Ey A kf=false) (nb mb:Nat) :
    Sim most (ps.set kf (some nb)) (gs.set kf (Aw ts kf+1)) ((((l.set kf (some (Cs nb 2 none))).set kf (some (keepN (Cs nb 2 none) 2 0 2 n g))).set k (some (Ao N 1))).set k (some (Ae (Ao N 1)))) (ds.set j { d with es:=Ay d.es nm ((kf:Int),Aw ts kf) }++[(⟨((kf:Int),Aw ts kf),mb,[]⟩:DN)]) pn (Gd A ts D.h nm 2 kf) (ts.set kf (Aw ts kf+1)):=by
  have b:=t.base
  have s0:=SD.of_ s
  have hlen:ts.length=most:=by rw [← s.gts];exact s.lgs
  have hne:kf≠k:=fun e=>Fv hu hD (by rw [hDh,e])
  have hKn:∀ M∈A,M.h≠((kf:Int),Aw ts kf):=fun M hM e=>Fv hu hM (by rw [e])
  have bK:=b.app (kind:=2) hkf hlen hu (.inr rfl) (fun h=>if h=((kf:Int),Aw ts kf) then 1 else 0) (fun M hM=>if_neg (hKn M hM)) (fun _=>if_pos rfl)
  have hK:C8 ((kf:Int),Aw ts kf) 2∈A++[C8 ((kf:Int),Aw ts kf) 2]:=by simp
  have hD1:D∈A++[C8 ((kf:Int),Aw ts kf) 2]:=List.mem_append_left _ hD
  have htk:Aw (ts.set kf (Aw ts kf+1)) kf=Aw ts kf+1:=T8 (by omega) _
  have hKh:(C8 ((kf:Int),Aw ts kf) 2).h=((kf:Int),Aw (ts.set kf (Aw ts kf+1)) kf - 1):=Prod.ext rfl (by rw [htk];show Aw ts kf=Aw ts kf+1 - 1;omega)
  have hDk:D.h=((k:Int),Aw (ts.set kf (Aw ts kf+1)) k - 1):=by rw [Vf hne];exact hDh
  have hDK:D.h≠((kf:Int),Aw ts kf):=hKn D hD
  have t1:=s0.T.app b hkf hu (N:=Cs nb 2 none) (K:=C8 ((kf:Int),Aw ts kf) 2) (dl':=fun h=>if h=((kf:Int),Aw ts kf) then -2 else 0) (ud':=fun h=>h=((kf:Int),Aw ts kf)) rfl rfl (fun M hM=>if_neg (hKn M hM)) (fun _ _ h=>h.elim)
    ⟨rfl,rfl,by rw [Eb (N:=C8 ((kf:Int),Aw ts kf) 2) rfl];show (0:Int)=2+((([]:List Bj).countP _:Nat):Int)+(if ((kf:Int),Aw ts kf)=((kf:Int),Aw ts kf) then -2 else 0);rw [if_pos rfl];rfl,fun q=>⟨rfl,fun w=>absurd rfl w⟩,fun q=>absurd (show (2:Int)=1 from q) (by decide)⟩
  have s1:SD most (fun h=>if h=((kf:Int),Aw ts kf) then -2 else 0) (fun h=>h=((kf:Int),Aw ts kf)) (ps.set kf (some nb)) (gs.set kf (Aw ts kf+1)) (l.set kf (some (Cs nb 2 none))) (ds++[(⟨((kf:Int),Aw ts kf),mb,[]⟩:DN)]) pn (A++[C8 ((kf:Int),Aw ts kf) 2]) (ts.set kf (Aw ts kf+1)):=
    ⟨t1,s0.E.add (N:=C8 ((kf:Int),Aw ts kf) 2) rfl rfl hKn mb,s0.P.app rfl⟩
  have hjl:=Cz hj
  have s3:=s1.enter bK hD1 hK hk (j:=j) (d:=d) (by rw [List.getElem?_append_left hjl];exact hj) hdh hno
  rw [List.set_append_left _ _ hjl] at s3
  have hn3:=bK.enterNod D.h nm (C8 ((kf:Int),Aw ts kf) 2).h
  have hD3:=G6 (f:=fun N=>⟨N.h,N.kind,N.change,N.s,N.holes,Bi nm (C8 ((kf:Int),Aw ts kf) 2).h N.es,N.pins⟩) hD1
  have hK3:C8 ((kf:Int),Aw ts kf) 2∈Ax (A++[C8 ((kf:Int),Aw ts kf) 2]) D.h nm (C8 ((kf:Int),Aw ts kf) 2).h:=Ca hK (fun e=>hDK e.symm)
  have hup:upA (Ax (A++[C8 ((kf:Int),Aw ts kf) 2]) D.h nm (C8 ((kf:Int),Aw ts kf) 2).h) (C8 ((kf:Int),Aw ts kf) 2).h=(n,g):=by
    rw [← hng]
    refine Ng (M:=⟨D.h,D.kind,D.change,D.s,D.holes,Bi nm (C8 ((kf:Int),Aw ts kf) 2).h D.es,D.pins⟩) ?_ hD3 (e:=(nm,(C8 ((kf:Int),Aw ts kf) 2).h)) ((E6 _ _ _).mem_iff.2 (by simp)) rfl
    rw [Ha bK.nod hD1,Le A _ rfl,if_pos rfl]
    show Be A ((kf:Int),Aw ts kf)+1≤1
    rw [Ur b hKn];exact Nat.le_refl _
  have t4:=s3.T.keepUp hn3 (k:=kf) (N:=Cs nb 2 none) (C0 (by rw [s.ll];exact hkf)) hK3 hKh rfl 0 2 hup
  have t5:=t4.links hn3 (k:=k) (N:=N) (A3 (A3 hlk hne) hne) hD3 hDk 1
  have t6:=t5.touch hn3 (k:=k) (N:=Ao N 1) (C0 (by simp;exact Cz hlk)) hD3 hDk
  have s6:SD _ _ _ _ _ _ _ _ _ _:=⟨t6,s3.E.shp (Bl _ _),s3.P.touch _⟩
  refine s6.fin (fun M hM=>?_) fun M hM k2 q=>?_
  · show ((((if M.h=((kf:Int),Aw ts kf) then (-2:Int) else 0) - (if M.h=D.h∧(2:Int)=2 then 1 else 0) - (if M.h=((kf:Int),Aw ts kf)∧(2:Int)=1 then 1 else 0))+(if M.h=((kf:Int),Aw ts kf) then (2:Int) - 0 else 0))+(if M.h=D.h then 1 else 0))=0
    by_cases c:M.h=((kf:Int),Aw ts kf)
    · have c2:¬((kf:Int),Aw ts kf)=D.h:=fun e=>hDK e.symm
      simp [c,c2]
    · by_cases c2:M.h=D.h<;>simp [c,c2]
      simp [hDK]
  · exact q.2 (by
      rcases q.1 with q|q
      · exact q
      · exact q.1)
theorem Sim.link {D X:AN} (hD:D∈A) (hX:X∈A) (hk:D.kind=2) (hkx:X.kind=1) {k kx j:Nat} {N Nx:ND} {d:DN} (hlk:l[k]?=some (some N)) (hDh:D.h=((k:Int),Aw ts k - 1)) (hlx:l[kx]?=some (some Nx)) (hXh:X.h=((kx:Int),Aw ts kx - 1)) (hj:ds[j]?=some d) (hdh:d.h=D.h) {nm:ByteArray} (hno:∀ e∈D.es,e.1≠nm) :
    Sim most ps gs (((l.set kx (some (Ao Nx 1))).set kx (some (Ae (Ao Nx 1)))).set k (some (Ae N))) (ds.set j { d with es:=Ay d.es nm X.h }) pn (Lo A X.h D.h nm) ts:=by
  have b:=t.base
  have hne:X.h≠D.h:=fun e=>by rw [b.same hX hD e] at hkx;omega
  have hnk:kx≠k:=fun e=>hne (by rw [hXh,hDh,e])
  have s1:=(SD.of_ s).enter b hD hX hk hj hdh hno
  have hn1:=b.enterNod D.h nm X.h
  have hX1:X∈Ax A D.h nm X.h:=Ca hX hne
  have hD1:=G6 (f:=fun N=>⟨N.h,N.kind,N.change,N.s,N.holes,Bi nm X.h N.es,N.pins⟩) hD
  have t2:=s1.T.links hn1 (k:=kx) (N:=Nx) hlx hX1 hXh 1
  have t3:=t2.touch hn1 (k:=kx) (N:=Ao Nx 1) (C0 (Cz hlx)) hX1 hXh
  have hn3:((Ap (Ax A D.h nm X.h) X.h).map (·.h)).Nodup:=Lh hn1 _
  have hD3:(⟨D.h,D.kind,D.change,D.s,D.holes,Bi nm X.h D.es,D.pins⟩:AN)∈Ap (Ax A D.h nm X.h) X.h:=Ca hD1 (fun e=>hne e.symm)
  have t4:=t3.touch hn3 (k:=k) (N:=N) (A3 (A3 hlk hnk) hnk) hD3 hDh
  have s4:SD _ _ _ _ _ _ _ _ _ _:=⟨t4,(s1.E.shp (Bl _ _)).shp (Bl _ _),(s1.P.touch _).touch _⟩
  have e:Lo A X.h D.h nm=Ap (Ap (Ax A D.h nm X.h) X.h) D.h:=Mx _ (fun e=>hne e.symm) _ _ (fun _=>rfl) fun _=>rfl
  rw [e]
  refine s4.fin (fun M hM=>?_) fun M hM k2 q=>?_
  · show (0 - (if M.h=D.h∧X.kind=2 then (1:Int) else 0) - (if M.h=X.h∧X.kind=1 then 1 else 0))+(if M.h=X.h then 1 else 0)=0
    have h2:¬X.kind=2:=by omega
    by_cases c:M.h=X.h<;>simp [c,hkx]
  · rcases q with q|q
    · exact q
    · have:=q.2;omega
theorem Sim.removeD {D X:AN} (hD:D∈A) (hX:X∈A) (hk:D.kind=2) (hkx:X.kind=2) (hes:X.es=[]) {e:Bj} (he:e∈D.es) (hx:e.2=X.h) (hlook:(Ab A D.h e.1).1=X.h) {k kx j:Nat} {N Nx:ND} {d:DN} (hlk:l[k]?=some (some N)) (hDh:D.h=((k:Int),Aw ts k - 1)) (hXh:X.h=((kx:Int),Aw ts kx - 1)) (hj:ds[j]?=some d) (hdh:d.h=D.h) :
    Sim most (ps.set kx none) gs (((l.set kx none).set k (some (Ao N (-1)))).set k (some (Ae (Ao N (-1))))) ((ds.set j { d with es:=Ak d.es e.1 }).filter fun d=>!(d.h==X.h)) pn (Dz A D.h e.1) ts:=by
  have b:=t.base
  have hne:X.h≠D.h:=fun q=>by rw [b.same hX hD q] at hes;rw [hes] at he;cases he
  have hnk:kx≠k:=fun q=>hne (by rw [hXh,hDh,q])
  have s1:=(SD.of_ s).leave b hD hX hk he hx hj hdh
  have b1:=b.leave hD hk he (fun h=>0+if e.2=h then 1 else 0) (fun _ _ _=>rfl)
  have hX1:X∈Al A D.h e.1:=Ca hX hne
  have hD1:=G6 (f:=fun N=>⟨N.h,N.kind,N.change,N.s,N.holes,N.es.filter fun x=>!decide (x.1=e.1),N.pins⟩) hD
  have h0:Be (Al A D.h e.1) X.h=0:=by
    have h1:=Do b.nod hD (b.nms D hD) he X.h
    rw [if_pos hx] at h1
    have:=b.lnk_dir hX hkx
    omega
  have hr:=b.noroot hD hX he hx
  have s2:=s1.goneD b1 (k:=kx) hX1 hXh hes h0 hkx
  have b2:=b1.gone hX1 hes h0 hr
  have hD2:(⟨D.h,D.kind,D.change,D.s,D.holes,D.es.filter fun x=>!decide (x.1=e.1),D.pins⟩:AN)∈Ex (Al A D.h e.1) X.h:=Kb hD1 (fun q=>hne q.symm)
  have s3:=s2.links b2 (k:=k) (N:=N) (A3 hlk hnk) hD2 hDh (-1)
  have s4:=s3.touch b2 (k:=k) (N:=Ao N (-1)) (C0 (by simp;exact Cz hlk)) hD2 hDh
  have e1:Dz A D.h e.1=Ap (Ex (Al A D.h e.1) X.h) D.h:=by
    unfold Dz C5
    have hX2:X∈Ap (Al A D.h e.1) D.h:=Ca hX1 hne
    rw [hlook,C2 (b1.touch hD1).nod hX2]
    simp only [if_pos hkx]
    exact My _ _ _ _ fun _=>rfl
  rw [e1]
  refine s4.fin (fun M hM=>?_) fun M hM k2 q=>?_
  · show ((0+(if M.h=D.h∧X.kind=2 then (1:Int) else 0))+(if M.h=X.h∧X.kind=1 then 1 else 0))+(if M.h=D.h then -1 else 0)=0
    by_cases c:M.h=D.h<;>simp [c,hkx]
  · rcases q with q|q
    · exact q
    · obtain ⟨K,hK,rfl⟩:=B4 hM
      have hn:K.h≠X.h:=by have:=(List.mem_filter.1 hK).2;simpa using this
      refine hn ?_
      rw [← q.1]
      split<;>rfl
end
end
theorem Ia {A:List AN} {x:Hdl} (h:∀ M∈A,M.kind=1→M.h≠x→0<M.pins∨0<Be A M.h) (d:Hdl):∀ M∈Ap A d,M.kind=1→M.h≠x→0<M.pins∨0<Be (Ap A d) M.h:=fun M hM hk hne=>by
  rw [D1 (Bl A d)]
  obtain ⟨K,hK,rfl⟩:=B4 hM
  by_cases c:K.h=d
  · rw [if_pos c] at hk hne ⊢;exact h K hK hk hne
  · rw [if_neg c] at hk hne ⊢;exact h K hK hk hne
section
variable {most:Nat} {ps:List (Option Nat)} {gs:List Int} {l:List (Option ND)} {ds:List DN} {pn:List ((Int×Int)×Int)} {A:List AN} {ts:List Int} {lz:Hdl→Nat}
variable (s:Sim most ps gs l ds pn A ts) (t:TI most ts A)
include s t
section
variable {D X:AN} (hD:D∈A) (hX:X∈A) (hk:D.kind=2) (hkx:X.kind=1) {e:Bj} (he:e∈D.es) (hx:e.2=X.h) {k kx j:Nat} {N Nx:ND} {d:DN} (hlk:l[k]?=some (some N)) (hDh:D.h=((k:Int),Aw ts k - 1)) (hlx:l[kx]?=some (some Nx)) (hXh:X.h=((kx:Int),Aw ts kx - 1)) (hr:NdR A Nx X) (hj:ds[j]?=some d) (hdh:d.h=D.h)
include hD hX hk hkx he hx hlk hDh hlx hXh hr hj hdh
theorem Sim.leftF:SD most (fun h=>(fun h=>0+(if h=D.h∧X.kind=2 then (1:Int) else 0)+(if h=X.h∧X.kind=1 then 1 else 0)) h+if h=X.h then -1 else 0) (fun h=>False∨(h=X.h∧X.kind=2)) ps gs ((l.set kx (some (Ao Nx (-1)))).set kx (some (Ae (Ao Nx (-1))))) (ds.set j { d with es:=Ak d.es e.1 }) pn (Ap (Al A D.h e.1) X.h) ts∧
    TI0 most ts (fun h=>0+if e.2=h then 1 else 0) (Ap (Al A D.h e.1) X.h)∧X.h≠D.h∧kx≠k∧Nx.links=(Be (Al A D.h e.1) X.h:Int)+1∧
    (∀ M∈Al A D.h e.1,M.kind=1→M.h≠X.h→0<M.pins∨0<Be (Al A D.h e.1) M.h):=by
  have b:=t.base
  have hne:X.h≠D.h:=fun q=>by rw [b.same hX hD q] at hkx;omega
  have hnk:kx≠k:=fun q=>hne (by rw [hXh,hDh,q])
  have s1:=(SD.of_ s).leave b hD hX hk he hx hj hdh
  have b1:=b.leave hD hk he (fun h=>0+if e.2=h then 1 else 0) (fun _ _ _=>rfl)
  have hX1:X∈Al A D.h e.1:=Ca hX hne
  have s2:=s1.links b1 (k:=kx) (N:=Nx) hlx hX1 hXh (-1)
  have s3:=s2.touch b1 (k:=kx) (N:=Ao Nx (-1)) (C0 (Cz hlx)) hX1 hXh
  refine ⟨s3,b1.touch hX1,hne,hnk,?_,fun M hM hk1 hne1=>?_⟩
  · have h1:=Do b.nod hD (b.nms D hD) he X.h
    rw [if_pos hx] at h1
    rw [hr.lnk,De (by omega),← h1]
    simp
  · exact Jq b hD he (P:=fun _=>True) (fun M hM k1 _=>t.held M hM k1) M hM hk1 ⟨trivial,by rw [hx];exact hne1⟩
theorem Sim.removeF (hlook:(Ab A D.h e.1).1=X.h) (h0:¬(Nx.links+-1=0∧(Af pn X.h).getD 0=0)) :
    Sim most ps gs (((l.set kx (some (Ao Nx (-1)))).set kx (some (Ae (Ao Nx (-1))))).set k (some (Ae N))) (ds.set j { d with es:=Ak d.es e.1 }) pn (Dz A D.h e.1) ts:=by
  obtain ⟨s3,b3,hne,hnk,hli,hh⟩:=s.leftF t hD hX hk hkx he hx hlk hDh hlx hXh hr hj hdh
  have hX1:X∈Al A D.h e.1:=Ca hX hne
  have hD1:=G6 (f:=fun N=>⟨N.h,N.kind,N.change,N.s,N.holes,N.es.filter fun x=>!decide (x.1=e.1),N.pins⟩) hD
  have hD3:(⟨D.h,D.kind,D.change,D.s,D.holes,D.es.filter fun x=>!decide (x.1=e.1),D.pins⟩:AN)∈Ap (Al A D.h e.1) X.h:=Ca hD1 fun q=>hne q.symm
  have s4:=s3.touch b3 (k:=k) (N:=N) (A3 (A3 hlk hnk) hnk) hD3 hDh
  have b4:=b3.touch hD3
  have e1:Dz A D.h e.1=Ap (Ap (Al A D.h e.1) X.h) D.h:=by
    unfold Dz C5
    have hX2:X∈Ap (Al A D.h e.1) D.h:=Ca hX1 hne
    have bn:=t.base.leave hD hk he (fun h=>0+if e.2=h then 1 else 0) (fun _ _ _=>rfl)
    rw [hlook,C2 (bn.touch hD1).nod hX2]
    have k2:¬X.kind=2:=by omega
    simp only [if_neg k2]
    have hc:Ap (Ap (Al A D.h e.1) D.h) X.h=Ap (Ap (Al A D.h e.1) X.h) D.h:=Mx _ (fun q=>hne q.symm) _ _ (fun _=>rfl) fun _=>rfl
    rw [hc]
    have hX3:(⟨X.h,X.kind,X.change+1,X.s,X.holes,X.es,X.pins⟩:AN)∈Ap (Ap (Al A D.h e.1) X.h) D.h:=Ca (G6 (f:=fun N=>⟨N.h,N.kind,N.change+1,N.s,N.holes,N.es,N.pins⟩) hX1) hne
    rw [H5 b4 hX3 hkx (Ia (Ia hh _) _)]
    refine if_pos ?_
    rw [D1 (Bl _ _),D1 (Bl _ _)]
    show 0<X.pins∨0<Be (Al A D.h e.1) X.h
    rw [s.pin_ t hX hkx] at h0
    have:=t.base.pos X hX
    by_cases c:0<X.pins
    · exact .inl c
    · refine .inr ?_
      have hp:X.pins=0:=by omega
      have:¬Nx.links+-1=0:=fun q=>h0 ⟨q,hp⟩
      omega
  rw [e1]
  refine s4.fin (fun M hM=>?_) fun M hM k2 q=>?_
  · show ((0+(if M.h=D.h∧X.kind=2 then (1:Int) else 0))+(if M.h=X.h∧X.kind=1 then 1 else 0))+(if M.h=X.h then -1 else 0)=0
    have k2:¬X.kind=2:=by omega
    by_cases c:M.h=X.h<;>simp [c,hkx]
  · rcases q with q|q
    · exact q
    · have:=q.2;omega
theorem Sim.removeG (hlook:(Ab A D.h e.1).1=X.h) (h0:Nx.links+-1=0∧(Af pn X.h).getD 0=0) :
    Sim most (ps.set kx none) gs ((((l.set kx (some (Ao Nx (-1)))).set kx (some (Ae (Ao Nx (-1))))).set kx none).set k (some (Ae N))) (ds.set j { d with es:=Ak d.es e.1 }) pn (Dz A D.h e.1) ts:=by
  obtain ⟨s3,b3,hne,hnk,hli,hh⟩:=s.leftF t hD hX hk hkx he hx hlk hDh hlx hXh hr hj hdh
  have hp:X.pins=0:=by rw [← s.pin_ t hX hkx];exact h0.2
  have hl0:Be (Al A D.h e.1) X.h=0:=by have:=h0.1;omega
  have hX1:X∈Al A D.h e.1:=Ca hX hne
  have hD1:=G6 (f:=fun N=>⟨N.h,N.kind,N.change,N.s,N.holes,N.es.filter fun x=>!decide (x.1=e.1),N.pins⟩) hD
  have hXt:(⟨X.h,X.kind,X.change+1,X.s,X.holes,X.es,X.pins⟩:AN)∈Ap (Al A D.h e.1) X.h:=G6 (f:=fun N=>⟨N.h,N.kind,N.change+1,N.s,N.holes,N.es,N.pins⟩) hX1
  have hl3:Be (Ap (Al A D.h e.1) X.h) X.h=0:=by rw [D1 (Bl _ _)];exact hl0
  have s4:=s3.goneF b3 (k:=kx) hXt hXh hkx hp hl3
  have hrt:X.h≠(0,0):=t.base.noroot hD hX he hx
  have b4:=b3.gone hXt (t.base.file X hX hkx) hl3 hrt
  have hD4:(⟨D.h,D.kind,D.change,D.s,D.holes,D.es.filter fun x=>!decide (x.1=e.1),D.pins⟩:AN)∈Ex (Ap (Al A D.h e.1) X.h) X.h:=Kb (Ca hD1 fun q=>hne q.symm) fun q=>hne q.symm
  have s5:=s4.touch b4 (k:=k) (N:=N) (A3 (A3 (A3 hlk hnk) hnk) hnk) hD4 hDh
  have e1:Dz A D.h e.1=Ap (Ex (Ap (Al A D.h e.1) X.h) X.h) D.h:=by
    unfold Dz C5
    have hX2:X∈Ap (Al A D.h e.1) D.h:=Ca hX1 hne
    have bn:=t.base.leave hD hk he (fun h=>0+if e.2=h then 1 else 0) (fun _ _ _=>rfl)
    rw [hlook,C2 (bn.touch hD1).nod hX2]
    have k2:¬X.kind=2:=by omega
    simp only [if_neg k2]
    have hc:Ap (Ap (Al A D.h e.1) D.h) X.h=Ap (Ap (Al A D.h e.1) X.h) D.h:=Mx _ (fun q=>hne q.symm) _ _ (fun _=>rfl) fun _=>rfl
    rw [hc]
    have hD3:(⟨D.h,D.kind,D.change,D.s,D.holes,D.es.filter fun x=>!decide (x.1=e.1),D.pins⟩:AN)∈Ap (Al A D.h e.1) X.h:=Ca hD1 fun q=>hne q.symm
    have hX3:(⟨X.h,X.kind,X.change+1,X.s,X.holes,X.es,X.pins⟩:AN)∈Ap (Ap (Al A D.h e.1) X.h) D.h:=Ca hXt hne
    rw [H5 (b3.touch hD3) hX3 hkx (Ia (Ia hh _) _),if_neg]
    · exact My _ _ _ _ fun _=>rfl
    · rw [D1 (Bl _ _),D1 (Bl _ _)]
      show ¬(0<X.pins∨0<Be (Al A D.h e.1) X.h)
      omega
  rw [e1]
  refine s5.fin (fun M hM=>?_) fun M hM k2 q=>?_
  · show ((0+(if M.h=D.h∧X.kind=2 then (1:Int) else 0))+(if M.h=X.h∧X.kind=1 then 1 else 0))+(if M.h=X.h then -1 else 0)=0
    have k2:¬X.kind=2:=by omega
    by_cases c:M.h=X.h<;>simp [c,hkx]
  · rcases q with q|q
    · exact q
    · have:=q.2;omega
end
section
variable {X:AN} (hX:X∈A) (hkx:X.kind=1)
include hX hkx
theorem Sim.pin:Sim most ps gs l ds (Ay pn X.h (X.pins+1)) (G4 A X.h 1) ts:=by
  have b:=t.base
  have s0:=SD.of_ s
  have:=b.pos X hX
  exact Sim.of (s0.T.same b _ fun _=>⟨rfl,rfl,rfl,rfl,rfl,rfl⟩) (s0.E.shp (Hm _ _ _)) (s0.P.put b hX hkx (x:=1) (by omega))
theorem Sim.heldP:∀ M∈G4 A X.h (-1),M.kind=1→M.h≠X.h→0<M.pins∨0<Be (G4 A X.h (-1)) M.h:=fun M hM hk1 hne=>by
  rw [D1 (Hm A X.h (-1))]
  obtain ⟨K,hK,rfl⟩:=B4 hM
  by_cases c:K.h=X.h
  · rw [if_pos c] at hne;exact absurd c hne
  · rw [if_neg c] at hk1 hne ⊢;exact t.held K hK hk1
theorem Sim.tiP (hp:1≤X.pins):TI0 most ts (fun _=>0) (G4 A X.h (-1))∧(⟨X.h,X.kind,X.change,X.s,X.holes,X.es,X.pins+-1⟩:AN)∈G4 A X.h (-1):=by
  have b:=t.base
  refine ⟨b.num1 hX _ (fun _=>⟨rfl,rfl,rfl⟩) (fun q=>by omega) (b.txt X hX) (by show 0≤X.pins+-1;omega),G6 (f:=fun N=>⟨N.h,N.kind,N.change,N.s,N.holes,N.es,N.pins+-1⟩) hX⟩
theorem Sim.unpin1 (hp:1<X.pins):Sim most ps gs l ds (Ay pn X.h (X.pins+-1)) (Gj (G4 A X.h (-1))) ts:=by
  have b:=t.base
  have s0:=SD.of_ s
  obtain ⟨b1,hX1⟩:=s.tiP t hX hkx (by omega)
  rw [H5 b1 hX1 hkx (s.heldP t hX hkx),if_pos (.inl (show 0<X.pins+-1 by omega))]
  exact Sim.of (s0.T.same b _ fun _=>⟨rfl,rfl,rfl,rfl,rfl,rfl⟩) (s0.E.shp (Hm _ _ _)) (s0.P.put b hX hkx (x:=-1) (by omega))
theorem Sim.unpinS (hp:X.pins=1) {kx:Nat} {Nx:ND} (hr:NdR A Nx X) (h0:¬Nx.links=0):Sim most ps gs l ds (Ak pn X.h) (Gj (G4 A X.h (-1))) ts:=by
  have b:=t.base
  have s0:=SD.of_ s
  obtain ⟨b1,hX1⟩:=s.tiP t hX hkx (by omega)
  have hl:=hr.lnk
  rw [De (by omega)] at hl
  rw [H5 b1 hX1 hkx (s.heldP t hX hkx),if_pos (.inr (by rw [D1 (Hm _ _ _)];show 0<Be A X.h;omega))]
  exact Sim.of (s0.T.same b _ fun _=>⟨rfl,rfl,rfl,rfl,rfl,rfl⟩) (s0.E.shp (Hm _ _ _)) (s0.P.del b hX (x:=-1) (by omega))
theorem Sim.unpinG (hp:X.pins=1) {kx:Nat} {Nx:ND} (hXh:X.h=((kx:Int),Aw ts kx - 1)) (hr:NdR A Nx X) (h0:Nx.links=0):Sim most (ps.set kx none) gs (l.set kx none) ds (Ak pn X.h) (Gj (G4 A X.h (-1))) ts:=by
  have b:=t.base
  have s0:=SD.of_ s
  obtain ⟨b1,hX1⟩:=s.tiP t hX hkx (by omega)
  have hl:=hr.lnk
  rw [De (by omega)] at hl
  have hl0:Be (G4 A X.h (-1)) X.h=0:=by rw [D1 (Hm _ _ _)];omega
  rw [H5 b1 hX1 hkx (s.heldP t hX hkx),if_neg (by show ¬(0<X.pins+-1∨0<Be (G4 A X.h (-1)) X.h);omega)]
  have s1:SD most (fun _=>0) (fun _=>False) ps gs l ds (Ak pn X.h) (G4 A X.h (-1)) ts:=⟨s0.T.same b _ fun _=>⟨rfl,rfl,rfl,rfl,rfl,rfl⟩,s0.E.shp (Hm A X.h (-1)),s0.P.del b hX (x:=-1) (by omega)⟩
  exact (s1.goneF b1 (k:=kx) hX1 hXh hkx (show X.pins+-1=0 by omega) hl0).fin (fun _ _=>rfl) fun _ _ _ q=>q
theorem Sim.file1 {kx:Nat} {Nx:ND} (hlx:l[kx]?=some (some Nx)) (hXh:X.h=((kx:Int),Aw ts kx - 1)) {N':ND} (hb:N'.nb=Nx.nb) (f:AN→AN) (hf:∀ M,(f M).h=M.h∧(f M).kind=M.kind∧(f M).es=M.es) (hfp:∀ M,(f M).pins=M.pins) (hr:N'.kind=Nx.kind∧N'.links=Nx.links∧N'.change=(f X).change∧N'.upn=Nx.upn∧N'.upg=Nx.upg∧∃ q,N'.dq=some q∧G5 q.d (f X).s (f X).holes):Sim most ps gs (l.set kx (some N')) ds pn (Cx A X.h f) ts:=by
  have b:=t.base
  have s0:=SD.of_ s
  refine Sim.of (s0.T.file b hlx hX hXh hb f hf fun r=>?_) (s0.E.shp (H1 _ _ _ hf)) (s0.P.updK _ _ fun M=>⟨(hf M).1,(hf M).2.1,hfp M⟩)
  obtain ⟨h1,h2,h3,h4,h5,h6⟩:=hr
  exact ⟨h1,h2,h3,h4,h5,hkx,h6⟩
end
end
section
variable {most:Nat} {ps:List (Option Nat)} {gs:List Int} {l:List (Option ND)} {ds:List DN} {pn:List ((Int×Int)×Int)} {B:List AN} {ts:List Int} {lz:Hdl→Nat} {dl:Hdl→Int} {ud:Hdl→Prop}
theorem Ul (b:TI0 most ts lz B) {T:AN} (hT:T∈B) {nm:ByteArray} {x:Hdl} (h0:Be B x=0):upA (Ax B T.h nm x) x=T.h:=by
  refine Ng (M:=⟨T.h,T.kind,T.change,T.s,T.holes,Bi nm x T.es,T.pins⟩) ?_ (G6 (f:=fun N=>⟨N.h,N.kind,N.change,N.s,N.holes,Bi nm x N.es,N.pins⟩) hT) (e:=(nm,x)) ((E6 _ _ _).mem_iff.2 (by simp)) rfl
  rw [Ha b.nod hT,if_pos rfl,h0];exact Nat.le_refl _
theorem SD.finS (s:SD most dl ud ps gs l ds pn B ts) (b:TI0 most ts lz B) {T X:AN} (hT:T∈B) (hX:X∈B) (hk:T.kind=2) (hXT:X.h≠T.h) {k kx j:Nat} {N Nx:ND} {d:DN} (hlk:l[k]?=some (some N)) (hTh:T.h=((k:Int),Aw ts k - 1)) (hlx:l[kx]?=some (some Nx)) (hXh:X.h=((kx:Int),Aw ts kx - 1)) (hj:ds[j]?=some d) (hdh:d.h=T.h) {nm:ByteArray} (hno:∀ e∈T.es,e.1≠nm)
    (hdl:∀ h,dl h=(if h=T.h∧X.kind=2 then 1 else 0)+(if h=X.h∧X.kind=1 then 1 else 0)) (hud:∀ h,ud h→h=X.h∧X.kind=2) (hup:X.kind=2→T.h=(Nx.upn,Nx.upg)) (h0:X.kind=2→Be B X.h=0) :
    Sim most ps gs (l.set k (some (Ae N))) (ds.set j { d with es:=Ay d.es nm X.h }) pn (Ap (Ax B T.h nm X.h) T.h) ts:=by
  have s1:=s.enter b hT hX hk hj hdh hno
  have hn1:=b.enterNod T.h nm X.h
  have hX1:X∈Ax B T.h nm X.h:=Ca hX hXT
  have hT1:=G6 (f:=fun N=>⟨N.h,N.kind,N.change,N.s,N.holes,Bi nm X.h N.es,N.pins⟩) hT
  have e1:=s1.E.shp (Bl (Ax B T.h nm X.h) T.h)
  have p1:=s1.P.updK T.h (fun N=>⟨N.h,N.kind,N.change+1,N.s,N.holes,N.es,N.pins⟩) fun _=>⟨rfl,rfl,rfl⟩
  have hz:∀ h,(dl h - (if h=T.h∧X.kind=2 then 1 else 0) - (if h=X.h∧X.kind=1 then 1 else 0))=0:=fun h=>by rw [hdl];omega
  by_cases k2:X.kind=2
  · have t2:=s1.T.upOk hn1 hlx hX1 hXh (by rw [Ul b hT (h0 k2)];exact hup k2)
    have t3:=t2.touch hn1 (k:=k) (N:=N) hlk hT1 hTh
    refine SD.fin ⟨t3,e1,p1⟩ (fun M hM=>hz _) fun M hM _ q=>q.2 ?_
    rcases q.1 with q|q
    · exact (hud _ q).1
    · exact q.1
  · have t3:=s1.T.touch hn1 (k:=k) (N:=N) hlk hT1 hTh
    refine SD.fin ⟨t3,e1,p1⟩ (fun M hM=>hz _) fun M hM _ q=>?_
    rcases q with q|q
    · exact k2 (hud _ q).2
    · exact k2 q.2
section
variable (s:SD most dl ud ps gs l ds pn B ts) (b:TI0 most ts lz B) {F T X:AN} (hF:F∈B) (hT:T∈B) (hX:X∈B) (hk:T.kind=2) (hFT:F.h≠T.h) (hXF:X.h≠F.h) (hXT:X.h≠T.h) {ka k kx j:Nat} {Na N Nx:ND} {d:DN} (hla:l[ka]?=some (some Na)) (hFh:F.h=((ka:Int),Aw ts ka - 1)) (hlk:l[k]?=some (some N)) (hTh:T.h=((k:Int),Aw ts k - 1)) (hlx:l[kx]?=some (some Nx)) (hXh:X.h=((kx:Int),Aw ts kx - 1)) (hj:ds[j]?=some d) (hdh:d.h=T.h) {nm:ByteArray} (hno:∀ e∈T.es,e.1≠nm)
    (hdl:∀ h,dl h=(if h=F.h∧X.kind=2 then 1 else 0)+(if h=X.h∧X.kind=1 then 1 else 0)) (hud:∀ h,ud h→h=X.h∧X.kind=2)
include s b hF hT hX hk hFT hXF hXT hla hFh hlk hTh hlx hXh hj hdh hno hdl hud
theorem SD.mv2:SD most (fun h=>dl h - (if h=T.h∧X.kind=2 then 1 else 0) - (if h=X.h∧X.kind=1 then 1 else 0)) (fun h=>ud h∨(h=X.h∧X.kind=2)) ps gs ((l.set ka (some (Ae Na))).set k (some (Ae N))) (ds.set j { d with es:=Ay d.es nm X.h }) pn (Ap (Ap (Ax B T.h nm X.h) F.h) T.h) ts∧
    ((Ap (Ap (Ax B T.h nm X.h) F.h) T.h).map (·.h)).Nodup∧ka≠k∧kx≠k∧kx≠ka:=by
  have hak:ka≠k:=fun q=>hFT (by rw [hFh,hTh,q])
  have hxk:kx≠k:=fun q=>hXT (by rw [hXh,hTh,q])
  have hxa:kx≠ka:=fun q=>hXF (by rw [hXh,hFh,q])
  have s1:=s.enter b hT hX hk hj hdh hno
  have hn1:=b.enterNod T.h nm X.h
  have hF1:F∈Ax B T.h nm X.h:=Ca hF hFT
  have hT1:=G6 (f:=fun N=>⟨N.h,N.kind,N.change,N.s,N.holes,Bi nm X.h N.es,N.pins⟩) hT
  have t2:=s1.T.touch hn1 (k:=ka) (N:=Na) hla hF1 hFh
  have hn2:((Ap (Ax B T.h nm X.h) F.h).map (·.h)).Nodup:=Lh hn1 _
  have hT2:(⟨T.h,T.kind,T.change,T.s,T.holes,Bi nm X.h T.es,T.pins⟩:AN)∈Ap (Ax B T.h nm X.h) F.h:=Ca hT1 fun q=>hFT q.symm
  have t3:=t2.touch hn2 (k:=k) (N:=N) (A3 hlk hak) hT2 hTh
  refine ⟨⟨t3,(s1.E.shp (Bl _ _)).shp (Bl _ _),(s1.P.touch _).touch _⟩,?_,hak,hxk,hxa⟩
  exact Lh (Lh hn1 _) _
theorem SD.finF (k1:X.kind=1):Sim most ps gs ((l.set ka (some (Ae Na))).set k (some (Ae N))) (ds.set j { d with es:=Ay d.es nm X.h }) pn (Ap (Ap (Ax B T.h nm X.h) F.h) T.h) ts:=by
  obtain ⟨s3,_⟩:=s.mv2 b hF hT hX hk hFT hXF hXT hla hFh hlk hTh hlx hXh hj hdh hno hdl hud
  refine s3.fin (fun M hM=>?_) fun M hM _ q=>?_
  · show dl M.h - (if M.h=T.h∧X.kind=2 then 1 else 0) - (if M.h=X.h∧X.kind=1 then 1 else 0)=0
    have k2:¬X.kind=2:=by omega
    rw [hdl];simp [k1]
  · rcases q with q|q
    · have:=(hud _ q).2;omega
    · have:=q.2;omega
theorem SD.finD (k2:X.kind=2) (h0:Be B X.h=0) {un ug:Int} (hup:T.h=(un,ug)) (z:Int):Sim most ps gs (((((l.set ka (some (Ae Na))).set k (some (Ae N))).set kx (some (keepN Nx 2 z Nx.links un ug))).set ka (some (Ao (Ae Na) (-1)))).set k (some (Ao (Ae N) 1))) (ds.set j { d with es:=Ay d.es nm X.h }) pn (Ap (Ap (Ax B T.h nm X.h) F.h) T.h) ts:=by
  obtain ⟨s3,hn3,hak,hxk,hxa⟩:=s.mv2 b hF hT hX hk hFT hXF hXT hla hFh hlk hTh hlx hXh hj hdh hno hdl hud
  have hX3:X∈Ap (Ap (Ax B T.h nm X.h) F.h) T.h:=Ca (Ca (Ca hX hXT) hXF) hXT
  have hF3:(⟨F.h,F.kind,F.change+1,F.s,F.holes,F.es,F.pins⟩:AN)∈Ap (Ap (Ax B T.h nm X.h) F.h) T.h:=Ca (G6 (f:=fun N=>⟨N.h,N.kind,N.change+1,N.s,N.holes,N.es,N.pins⟩) (Ca hF hFT)) hFT
  have hT2:(⟨T.h,T.kind,T.change,T.s,T.holes,Bi nm X.h T.es,T.pins⟩:AN)∈Ap (Ax B T.h nm X.h) F.h:=Ca (G6 (f:=fun N=>⟨N.h,N.kind,N.change,N.s,N.holes,Bi nm X.h N.es,N.pins⟩) hT) fun q=>hFT q.symm
  have hT3:(⟨T.h,T.kind,T.change+1,T.s,T.holes,Bi nm X.h T.es,T.pins⟩:AN)∈Ap (Ap (Ax B T.h nm X.h) F.h) T.h:=G6 (f:=fun N=>⟨N.h,N.kind,N.change+1,N.s,N.holes,N.es,N.pins⟩) hT2
  have hupB:upA (Ap (Ap (Ax B T.h nm X.h) F.h) T.h) X.h=(un,ug):=by
    rw [Ta (Bl _ _),Ta (Bl _ _),Ul b hT h0,hup]
  have hkx:((l.set ka (some (Ae Na))).set k (some (Ae N)))[kx]?=some (some Nx):=A3 (A3 hlx hxa.symm) hxk.symm
  have t4:=s3.T.keepUp hn3 hkx hX3 hXh k2 z Nx.links hupB
  have t5:=t4.links hn3 (k:=ka) (N:=Ae Na) (A3 (A3 (C0 (Cz hla)) hak.symm) hxa) hF3 hFh (-1)
  have t6:=t5.links hn3 (k:=k) (N:=Ae N) (A3 (A3 (C0 (by simp;exact Cz hlk)) hxk) hak) hT3 hTh 1
  refine SD.fin ⟨t6,s3.E,s3.P⟩ (fun M hM=>?_) fun M hM _ q=>?_
  · show (((dl M.h - (if M.h=T.h∧X.kind=2 then 1 else 0) - (if M.h=X.h∧X.kind=1 then 1 else 0))+(if M.h=X.h then Nx.links - Nx.links else 0))+(if M.h=F.h then -1 else 0))+(if M.h=T.h then 1 else 0)=0
    have k1:¬X.kind=1:=by omega
    rw [hdl]
    by_cases c:M.h=F.h
    · have c2:¬M.h=T.h:=fun q=>hFT (c.symm.trans q)
      have c3:¬M.h=X.h:=fun q=>hXF (q.symm.trans c)
      simp [c2,c3,k1,k2,if_pos c]
    · by_cases c2:M.h=T.h
      · have c3:¬M.h=X.h:=fun q=>hXT (q.symm.trans c2)
        simp [c,c3,k1,k2,if_pos c2]
      · simp [c,c2,k1,k2]
  · refine q.2 ?_
    rcases q.1 with q|q
    · exact (hud _ q).1
    · exact q.1
end
theorem Adc (b:TI0 most ts lz B) {Y:AN} (hY:Y∈B) (hk:Y.kind=2) {d:Hdl} (hd:Y.h≠d) (nm:ByteArray) (x:Hdl):C5 (Ax B d nm x) Y.h=Ax (Ex B Y.h) d nm x:=by
  unfold C5
  have hY2:Y∈Ax B d nm x:=Ca hY hd
  rw [C2 (b.enterNod d nm x) hY2]
  simp only [if_pos hk]
  exact My _ _ _ _ fun _=>rfl
theorem Q3 (b:TI0 most ts lz B) (b2:TI0 most ts lz B) {Y T X:AN} (hY:Y∈B) (hT:T∈B) (hX:X∈B) (hk:Y.kind=1) (hkT:T.kind=2) (hd:Y.h≠T.h) {nm:ByteArray} (hYX:Y.h≠X.h) (be:∃ lz',TI0 most ts lz' (Ax B T.h nm X.h)) (hh:∀ M∈B,M.kind=1→M.h≠Y.h→M.h≠X.h→0<M.pins∨0<Be B M.h) :
    C5 (Ax B T.h nm X.h) Y.h=Ax (if 0<Y.pins∨0<Be B Y.h then Ap B Y.h else Ex (Ap B Y.h) Y.h) T.h nm X.h:=by
  obtain ⟨lz',be⟩:=be
  unfold C5
  have hY2:Y∈Ax B T.h nm X.h:=Ca hY hd
  rw [C2 be.nod hY2]
  have k2:¬Y.kind=2:=by omega
  simp only [if_neg k2]
  have hle:∀ h,Be (Ax B T.h nm X.h) h=Be B h+if X.h=h then 1 else 0:=Ha b.nod hT nm X.h
  have hh2:∀ M∈Ax B T.h nm X.h,M.kind=1→M.h≠Y.h→0<M.pins∨0<Be (Ax B T.h nm X.h) M.h:=fun M hM k1 hne=>by
    rw [hle]
    obtain ⟨K,hK,rfl⟩:=B4 hM
    by_cases c:K.h=T.h
    · rw [if_pos c] at k1
      have:K.kind=1:=k1
      rw [b.same hK hT c] at this;omega
    · rw [if_neg c] at k1 hne ⊢
      by_cases c2:X.h=K.h
      · rw [if_pos c2];exact .inr (by omega)
      · rcases hh K hK k1 hne (fun q=>c2 q.symm) with q|q
        · exact .inl q
        · exact .inr (by omega)
  have hY3:(⟨Y.h,Y.kind,Y.change+1,Y.s,Y.holes,Y.es,Y.pins⟩:AN)∈Ap (Ax B T.h nm X.h) Y.h:=G6 (f:=fun N=>⟨N.h,N.kind,N.change+1,N.s,N.holes,N.es,N.pins⟩) hY2
  rw [H5 (be.touch hY2) hY3 hk (Ia hh2 _)]
  have hc:Ap (Ax B T.h nm X.h) Y.h=Ax (Ap B Y.h) T.h nm X.h:=Mx _ (fun q=>hd q.symm) _ _ (fun _=>rfl) fun _=>rfl
  have hl:Be (Ap (Ax B T.h nm X.h) Y.h) Y.h=Be B Y.h:=by rw [D1 (Bl _ _),hle,if_neg (fun q=>hYX q.symm)];rfl
  show (if 0<Y.pins∨0<Be (Ap (Ax B T.h nm X.h) Y.h) Y.h then _ else _)=_
  rw [hl]
  by_cases c:0<Y.pins∨0<Be B Y.h
  · rw [if_pos c,if_pos c,hc]
  · rw [if_neg c,if_neg c,hc]
    exact My _ _ _ _ fun _=>rfl
end
section
variable {B:Nat} (ad:Nat→Addr) {most:Nat} {z:PZ} {A:List AN} {ts:List Int} {c:Int} (s:D6 most z A ts c) (n g:Int)
include s
theorem D6.look (nm:ByteArray):(∃ c':Nat,Ab A (n,g) nm=((0,0),c'+1)∧LkE z.ps z.gs z.l z.ds n g nm c')∨∃ (k:Nat) (N:ND) (M:AN) (j:Nat) (d:DN) (x:Hdl),n=(k:Int)∧z.l[k]?=some (some N)∧Bk z.ps z.gs n g=some N.nb∧Bs A (n,g)=some M∧M∈A∧M.h=(n,g)∧M.h=((k:Int),Aw ts k - 1)∧NdR A N M∧M.kind=2∧z.ds[j]?=some d∧d.h=(n,g)∧ER d.es M.es∧A0 nm∧Eg M.es nm=some x∧Af d.es nm=some x∧Ab A (n,g) nm=(x,0):=by
  rcases s.who n g with ⟨h1,h2,h3⟩|⟨k,N,M,rfl,hk,h1,h2,h3,h4,h5,h6,h7,⟨k1,k2,_,h8⟩|⟨k2,j,d,h8,h9,h10⟩⟩
  · exact .inl ⟨9,by unfold Ab;rw [h1],.inl ⟨none,.inl ⟨h3,rfl⟩⟩⟩
  · exact .inl ⟨6,by unfold Ab;rw [h3];exact if_neg k2,.inl ⟨none,.inl ⟨h8,rfl⟩⟩⟩
  · by_cases ho:A0 nm
    · cases hg:Eg M.es nm with
      | none=>
        refine .inl ⟨4,?_,.inr ⟨rfl,ho,k,N,j,d,h1,h2,h8,h9,by rw [h10.get];exact hg⟩⟩
        unfold Ab;rw [h3];simp only [if_pos k2];rw [Bf ho,hg];rfl
      | some x=>
        refine .inr ⟨k,N,M,j,d,x,rfl,h1,h2,h3,h4,h5,h6,h7,k2,h8,h9,h10,ho,hg,by rw [h10.get];exact hg,?_⟩
        unfold Ab;rw [h3];simp only [if_pos k2];rw [Bf ho,hg];rfl
    · refine .inl ⟨3,?_,.inl ⟨some d.mb,.inr ⟨rfl,ho,k,N,j,d,h1,h2,h8,h9,rfl⟩⟩⟩
      unfold Ab;rw [h3];simp only [if_pos k2];rw [C3 ho];rfl
theorem Sp (nm:ByteArray) (hnz:nm.size≤100000):Au Tryz.prog 17 #[.pointer (some ⟨z.b,0,none⟩),.agg #[.int .i64 n,.int .i64 g],.string nm] [rPT most z,A6 B ad] fun u L=>u=.tuple #[.agg #[.int .i64 (Ab A (n,g) nm).1.1,.int .i64 (Ab A (n,g) nm).1.2],Ag ad (Ab A (n,g) nm).2]∧L=[rPT most z,A6 B ad]:=by
  refine Au.ptq (Φ:=fun u=>u=.tuple #[.agg #[.int .i64 (Ab A (n,g) nm).1.1,.int .i64 (Ab A (n,g) nm).1.2],Ag ad (Ab A (n,g) nm).2]) ?_
  rcases s.look n g nm with ⟨c',h1,h2⟩|⟨k,N,M,j,d,x,rfl,h1,h2,h3,h4,h5,h6,h7,k2,h8,h9,h10,ho,hg,ha,hT⟩
  · rw [h1]
    exact Ps ad z.b most z.tb z.dm z.pm z.ps z.gs z.vl z.vg z.T z.Sl z.Sg z.l z.ds z.pn s.hl s.hr n g s.dd nm (by omega) c' h2
  · rw [hT]
    have h:=Gx (B:=B) ad z.b most z.tb z.dm z.pm z.ps z.gs z.vl z.vg z.T z.Sl z.Sg z.l z.ds z.pn s.hl s.hr (k:Int) g k N h1 h2 j d h8 h9 s.dd nm (by omega) ho x ha
    have hw:=Au.wide (B:=B) (ad:=ad) (P:=Tryz.prog) ((z.core most).take 5) [Ci true z.pm hk (z.pn.map Cw)] [[10],[4]] (Φ:=fun u M'=>u=.tuple #[.agg #[.int .i64 x.1,.int .i64 x.2],Ag ad 0]∧M'=(z.core most).take 5) (by decide) (h.mono fun u L q=>⟨_,⟨q.1,rfl⟩,q.2⟩)
    refine hw.mono fun u L q=>?_
    obtain ⟨M',⟨q1,rfl⟩,q2⟩:=q
    exact ⟨q1,q2⟩
end
def PZ.to (z:PZ) (ps:List (Option Nat)) (gs:List Int) (l:List (Option ND)) (ds:List DN) (pn:List ((Int×Int)×Int)):PZ:=⟨z.b,z.tb,z.dm,z.pm,ps,gs,z.vl,z.vg,z.T,z.Sl,z.Sg,l,ds,pn⟩
section
variable {P:Program} {f:FuncId} {args:Array Value} {most:Nat} {z:PZ} {B:Nat} {ad:Nat→Addr}
theorem Au.pt5 {Ψ:Value→PZ→Prop} (css:List (List Nat)) (hcs:∀ cs∈css,∀ c∈cs,c∈Cp) (h:Au P f args ((z.core most).take 5++css.map (Br B ad)) fun u L=>∃ z',Ψ u z'∧z'.pm=z.pm∧z'.pn=z.pn∧L=(z'.core most).take 5++css.map (Br B ad)):Au P f args [rPT most z,A6 B ad] fun u L=>∃ z',Ψ u z'∧L=[rPT most z',A6 B ad]:=by
  refine Au.pt (M:=[A6 B ad]) ?_
  have hw:=Au.wide (B:=B) (ad:=ad) (P:=P) ((z.core most).take 5) [Ci true z.pm hk (z.pn.map Cw)] css (Φ:=fun u M'=>∃ z':PZ,Ψ u z'∧z'.pm=z.pm∧z'.pn=z.pn∧M'=(z'.core most).take 5) hcs (h.mono fun u L ⟨z',h1,h2,h3,h4⟩=>⟨_,⟨z',h1,h2,h3,rfl⟩,h4⟩)
  refine hw.mono fun u L ⟨M',⟨z',h1,h2,h3,e1⟩,e2⟩=>⟨z',h1,?_⟩
  subst e1;rw [e2,← h2,← h3];rfl
end
section
variable {B:Nat} (ad:Nat→Addr) {most:Nat} {z:PZ} {A:List AN} {ts:List Int} {c:Int} (s:D6 most z A ts c)
include s
theorem D6.used {q:Nat} (hq:q<most) (h:Ey A q=true):∃ b,z.ps[q]?=some (some b):=by
  obtain ⟨M,hM,e⟩:=List.any_eq_true.1 h
  rcases s.sim.nd q hq with ⟨_,_,h3⟩|⟨N,M',h1,_⟩
  · exact absurd (of_decide_eq_true e) (h3 M hM)
  · exact ⟨_,h1⟩
theorem D6.unused {q:Nat} (hq:q<most) (h:Ey A q=false):z.ps[q]?=some none:=by
  rcases s.sim.nd q hq with ⟨h1,_⟩|⟨N,M',_,_,h3,h4,_⟩
  · exact h1
  · exact absurd (by rw [h4]) (Fv h h3)
theorem D6.free:(Ig most A=none∧F2 z.ps=none)∨∃ kf,Ig most A=some kf∧kf<most∧Ey A kf=false∧F2 z.ps=some kf:=by
  cases c:Ig most A with
  | none=>
    refine .inl ⟨rfl,Ly _ fun j hj=>?_⟩
    rw [s.sim.lps] at hj
    unfold Ig at c
    have:=List.find?_range_eq_none.1 c j hj
    exact s.used hj (by simpa using this)
  | some kf=>
    obtain ⟨h1,h2⟩:=L7 c
    refine .inr ⟨kf,rfl,h1,h2,O7 _ kf (fun j hj=>?_) (s.unused h1 h2)⟩
    unfold Ig at c
    have:=(List.find?_range_eq_some.1 c).2.2 j hj
    exact s.used (by omega) (by simpa using this)
variable (n g:Int)
theorem D6.dir (nm:ByteArray):(∃ c':Nat,On z.ps z.gs z.l z.ds n g c'∧((c'=9∧Bs A (n,g)=none)∨(c'=6∧∃ M,Bs A (n,g)=some M∧¬M.kind=2)))∨∃ (k:Nat) (N:ND) (M:AN) (j:Nat) (d:DN),n=(k:Int)∧z.l[k]?=some (some N)∧Bk z.ps z.gs n g=some N.nb∧Bs A (n,g)=some M∧M∈A∧M.h=(n,g)∧M.h=((k:Int),Aw ts k - 1)∧NdR A N M∧M.kind=2∧z.ds[j]?=some d∧d.h=(n,g)∧ER d.es M.es∧k<most:=by
  rcases s.who n g with ⟨h1,h2,h3⟩|⟨k,N,M,rfl,hk,h1,h2,h3,h4,h5,h6,h7,⟨k1,k2,_,h8⟩|⟨k2,j,d,h8,h9,h10⟩⟩
  · exact .inl ⟨9,h3,.inl ⟨rfl,h1⟩⟩
  · exact .inl ⟨6,h8,.inr ⟨rfl,M,h3,k2⟩⟩
  · exact .inr ⟨k,N,M,j,d,rfl,h1,h2,h3,h4,h5,h6,h7,k2,h8,h9,h10,hk⟩
theorem D6.tsk {kf:Nat} (hkf:kf<most):z.gs[kf]?=some (Aw ts kf)∧0≤Aw ts kf∧Aw ts kf≤c:=by
  have hl:=s.hlen
  have h1:ts[kf]?=some (Aw ts kf):=by
    have:kf<ts.length:=by omega
    rw [List.getElem?_eq_getElem this]
    exact congrArg some (Iq (List.getElem?_eq_getElem this)).symm
  exact ⟨by rw [s.sim.gts];exact h1,s.tmr _ (List.mem_of_getElem? h1)⟩
theorem D6.go {ps:List (Option Nat)} {gs:List Int} {l:List (Option ND)} {ds:List DN} {pn:List ((Int×Int)×Int)} {A':List AN} {ts':List Int} (h1:Sim most ps gs l ds pn A' ts') (h2:TI most ts' A') (h3:Srt A') (h3n:NSz A') (h4:Cnt A' (c+3)) (h5:∀ x∈ts',0≤x∧x≤c+3) (hc:c+3≤1000):D6 most (z.to ps gs l ds pn) A' ts' (c+3):=⟨h1,h2,h3,h3n,h4,h5,by have:=s.c0;omega,s.m1,s.m3⟩
theorem D6.ts3:∀ x∈ts,0≤x∧x≤c+3:=fun x hx=>by have:=s.tmr x hx;omega
theorem Td (nm:ByteArray) (hnz:nm.size≤100000) (kind:Int) (hc:c+3≤1000):Au Tryz.prog 28 #[.pointer (some ⟨z.b,0,none⟩),.agg #[.int .i64 n,.int .i64 g],.string nm,.int .i64 kind] [rPT most z,A6 B ad] fun u L=>∃ z':PZ,(z'.b=z.b∧
    ((∃ e:Nat,By most A (n,g) nm kind=(none,e+1)∧z'=z∧u=.tuple #[.agg #[.int .i64 0,.int .i64 0],Ag ad (e+1)])∨
     (∃ k:Nat,By most A (n,g) nm kind=(some k,0)∧D6 most z' (Gd A ts (n,g) nm kind k) (ts.set k (Aw ts k+1)) (c+3)∧u=.tuple #[.agg #[.int .i64 (k:Int),.int .i64 (Aw ts k)],.nilIface])))∧L=[rPT most z',A6 B ad]:=by
  have bad:∀ e:Nat,By most A (n,g) nm kind=(none,e+1)→Au Tryz.prog 28 #[.pointer (some ⟨z.b,0,none⟩),.agg #[.int .i64 n,.int .i64 g],.string nm,.int .i64 kind] (z.core most++[A6 B ad]) (fun u L=>u=.tuple #[.agg #[.int .i64 0,.int .i64 0],Ag ad (e+1)]∧L=z.core most++[A6 B ad])→Au Tryz.prog 28 #[.pointer (some ⟨z.b,0,none⟩),.agg #[.int .i64 n,.int .i64 g],.string nm,.int .i64 kind] [rPT most z,A6 B ad] fun u L=>∃ z':PZ,(z'.b=z.b∧
    ((∃ e:Nat,By most A (n,g) nm kind=(none,e+1)∧z'=z∧u=.tuple #[.agg #[.int .i64 0,.int .i64 0],Ag ad (e+1)])∨
     (∃ k:Nat,By most A (n,g) nm kind=(some k,0)∧D6 most z' (Gd A ts (n,g) nm kind k) (ts.set k (Aw ts k+1)) (c+3)∧u=.tuple #[.agg #[.int .i64 (k:Int),.int .i64 (Aw ts k)],.nilIface])))∧L=[rPT most z',A6 B ad]:=fun e h1 h2=>
    (Au.ptq (M:=[A6 B ad]) (Φ:=fun u=>u=.tuple #[.agg #[.int .i64 0,.int .i64 0],Ag ad (e+1)]) h2).mono fun u L h=>⟨z,⟨rfl,.inl ⟨e,h1,rfl,h.1⟩⟩,h.2⟩
  rcases s.dir n g nm with ⟨c',h1,h2⟩|⟨k,N,M,j,d,rfl,h1,h2,h3,h4,h5,h6,h7,k2,h8,h9,h10,hkm⟩
  · refine bad c' ?_ (Aa4 ad z.b most z.tb z.dm z.pm z.ps z.gs z.vl z.vg z.T z.Sl z.Sg z.l z.ds z.pn s.hl s.hr n g nm (by omega) kind c' h1)
    rcases h2 with ⟨rfl,h⟩|⟨rfl,M,h,hk⟩
    · exact Ys h
    · exact Yz h hk
  by_cases ho:A0 nm
  rotate_left
  · exact bad 3 (X5 h3 k2 ho) (Ad2 ad z.b most z.tb z.dm z.pm z.ps z.gs z.vl z.vg z.T z.Sl z.Sg z.l z.ds z.pn s.hl s.hr (k:Int) g k N h1 h2 j d h8 h9 s.dd nm (by omega) kind ho)
  by_cases hki:kind=1∨kind=2
  rotate_left
  · exact bad 2 (Yg h3 k2 ho hki) (Ade ad z.b most z.tb z.dm z.pm z.ps z.gs z.vl z.vg z.T z.Sl z.Sg z.l z.ds z.pn s.hl s.hr (k:Int) g k N h1 h2 j d h8 h9 s.dd nm (by omega) ho kind hki)
  cases hg:Eg M.es nm with
  | some x=>exact bad 5 (Agb h3 k2 ho hki hg) (Ad8 ad z.b most z.tb z.dm z.pm z.ps z.gs z.vl z.vg z.T z.Sl z.Sg z.l z.ds z.pn s.hl s.hr (k:Int) g k N h1 h2 j d h8 h9 s.dd nm (by omega) ho kind hki x (by rw [h10.get];exact hg))
  | none=>
    have hx:Af d.es nm=none:=by rw [h10.get];exact hg
    have hlen:=h10.len
    by_cases hf:60≤M.es.length
    · refine Au.pt5 [[10],[4],[9]] (by decide) ?_
      refine (N1 ad z.b most z.tb z.dm z.pm z.ps z.gs z.vl z.vg z.T z.Sl z.Sg z.l z.ds z.pn s.hl s.hr (k:Int) g k N h1 h2 j d h8 h9 s.dd nm (by omega) ho hx kind hki (by omega)).mono fun u L h=>?_
      exact ⟨z,⟨rfl,.inl ⟨8,Yk h3 k2 ho hki hg hf,rfl,h.1⟩⟩,rfl,rfl,h.2⟩
    · have hps:z.ps.length≤300:=by rw [s.sim.lps];exact s.m3
      have hll:z.l.length=z.ps.length:=by rw [s.sim.ll,s.sim.lps]
      rcases s.free with ⟨f1,f2⟩|⟨kf,f1,f2,f3,f4⟩
      · exact bad 8 (Ad3 h3 k2 ho hki hg hf f1) (Aa6 ad z.b most z.tb z.dm z.pm z.ps z.gs z.vl z.vg z.T z.Sl z.Sg z.l z.ds z.pn s.hl s.hr (k:Int) g k N h1 h2 j d h8 h9 s.dd nm (by omega) ho kind hki hx (by omega) hps f2)
      · have hT:=Adv h3 k2 ho hki hg hf f1
        obtain ⟨g1,g2,g3⟩:=s.tsk f2
        have hcc:=s.c0
        have hne:kf≠k:=fun e=>Fv f3 h4 (by rw [h6,e])
        have hno:=Fh hg
        have hD:=s.ti.create s.hlen hT
        have hS:=s.srt.create hT s.ti.base.nod (ts:=ts)
        have hC:Cnt (Gd A ts ((k:Int),g) nm kind kf) (c+3):=(s.cnt.create hcc.1 ts ((k:Int),g) nm kind kf).mono (by omega)
        have hts:∀ x∈ts.set kf (Aw ts kf+1),0≤x∧x≤c+3:=fun x hx=>by
          rcases List.mem_or_eq_of_mem_set hx with hx|rfl
          · exact s.ts3 x hx
          · omega
        have hh:M.h=((k:Int),g):=h5
        rcases hki with rfl|rfl
        · refine Au.pt5 [[10],[4]] (by decide) ?_
          refine (Sr ad z.b most z.tb z.dm z.pm z.ps z.gs z.vl z.vg z.T z.Sl z.Sg z.l z.ds z.pn s.hl s.hr (k:Int) g k N h1 h2 j d h8 h9 s.dd nm (by omega) ho hx (by omega) rfl kf (Aw ts kf) f4 g1 (by omega) hps hll hne (s.ch h4 h7)).mono fun u L h=>?_
          obtain ⟨nb,db,rfl,rfl⟩:=h
          have hs:=s.sim.createF s.ti h4 k2 h1 h6 h8 (h9.trans hh.symm) hno (by omega) f2 f3 nb db
          rw [hh] at hs
          refine ⟨_,⟨?_,.inr ⟨kf,hT,s.go hs hD hS (s.nsz.create ts _ hnz _ _) hC hts hc,rfl⟩⟩,?_,?_,?_⟩
          all_goals rfl
        · refine Au.pt5 [[10],[4]] (by decide) ?_
          refine (S3 ad z.b most z.tb z.dm z.pm z.ps z.gs z.vl z.vg z.T z.Sl z.Sg z.l z.ds z.pn s.hl s.hr (k:Int) g k N h1 h2 j d h8 h9 s.dd nm (by omega) ho hx (by omega) rfl kf (Aw ts kf) f4 g1 (by omega) hps hll hne (s.ch h4 h7) (s.sim.nodir s.ti fun K hK q=>absurd (by rw [q]) (Fv f3 hK)) (s.li h4 h7)).mono fun u L h=>?_
          obtain ⟨nb,mb2,rfl,rfl⟩:=h
          have hs:=s.sim.createD s.ti h4 k2 h1 h6 hh h8 (h9.trans hh.symm) hno (by omega) f2 f3 nb mb2
          rw [hh] at hs
          refine ⟨_,⟨?_,.inr ⟨kf,hT,s.go hs hD hS (s.nsz.create ts _ hnz _ _) hC hts hc,rfl⟩⟩,?_,?_,?_⟩
          all_goals rfl
end
theorem Tf {P:Program} {a:Act} {w0:World} {En:Ent} {L:List Res} {dst:Option Tmp} {x:Operand} {T ty K E:TypeId} {pos:String} {after:Array Edge} {g:Option (Nat×Bool)} (hx:(a.eval x,P.underlying T)=(.map none,some (.map K E))) :
    Cl P w0 En L ⟨dst,.call { callee:=.builtin .len,args:=#[x],argTypes:=#[T] },ty,pos,after,g⟩ a (.int .i64 0):=fun w ho=>by
  simp only [Prod.mk.injEq] at hx
  have hr:=J7.run_len (P:=P) (w:=w) (f:=ik) (kv:=[]) (mv:=.map none) (ty:=ty) hx.2 (.inl ⟨rfl,rfl⟩)
  simp [execOp,resolve,invoke,builtin,hx.1,hr,Result.andThen]
section
variable {B:Nat} (ad:Nat→Addr) (b most tb dm pm:Nat) (ps:List (Option Nat)) (gs:List Int) (vl vg:Value) (T:TypeId) (Sl Sg:Nat→Prop) (l:List (Option ND)) (ds:List DN) (pn:List ((Int×Int)×Int)) (hl:ps.length=gs.length) (hr:∀ x∈gs,0≤x∧x≤1000000)
include B ad b most tb dm pm ps gs vl vg T Sl Sg l ds pn hl hr
theorem Ado (n g:Int) (hdd:(ds.map (·.h)).Nodup) (s:ByteArray) (hs:s.size≤9223372036854775807) (c:Nat) (hd:LkE ps gs l ds n g s c):Au Tryz.prog 35 #[Pp b,Hg n g,.string s] (Ra B ad b tb most dm pm ps gs vl vg T Sl Sg l ds pn) (fun u L=>u=Ag ad (c+1)∧L=(Ra B ad b tb most dm pm ps gs vl vg T Sl Sg l ds pn)):=by
 refine Zo 42 Tryz.func35 fun E w0 w h=>?_
 exact Qs (ZN [Ii n,Ii g] 34 h fun k1 w h=>ZP .nilIface (Qm (ZP (Pp b) (ZG h (Gla 0 [Ii n,Ii g] 0) (ZP (.string s) (ZC [1,1,1,1,1,1,1] (Ps ad b most tb dm pm ps gs vl vg T Sl Sg l ds pn hl hr n g hdd s hs c hd) h fun w h=>ZP (.tuple #[Hg 0 0,Ag ad (c+1)]) (ZP (Hg 0 0) (ZP (Ag ad (c+1)) (ZN [Ii 0,Ii 0] 34 h fun k2 w h=>ZSs [Ii 0,Ii 0] 0 rfl h fun w h=>ZP (Ag ad (c+1)) (Qu (ZP (Ag ad (c+1)) (ZP (.bool true) (Qg (Qs (ZP (Ag ad (c+1)) (ZP (Ag ad (c+1)) (Qr (Ar (ZR [Ag ad (c+1)] [1,1,1,1,1,1,1] h ⟨rfl,rfl⟩)))))))))))))))))))
theorem Aay (kd:Nat) (gd:Int) (Nd:ND) (hlkd:l[kd]?=some (some Nd)) (had:Bk ps gs (kd:Int) gd=some Nd.nb) (j:Nat) (d:DN) (hj:ds[j]?=some d) (hdh:d.h=((kd:Int),gd)) (hdd:(ds.map (·.h)).Nodup) (s:ByteArray) (hs:s.size≤9223372036854775807) (hok:A0 s) (k:Nat) (g:Int) (hx:Af d.es s=some ((k:Int),g)) (j2:Nat) (d2:DN) (hj2:ds[j2]?=some d2) (hdh2:d2.h=((k:Int),g)) (hfull:0<d2.es.length):Au Tryz.prog 35 #[Pp b,Hg kd gd,.string s] (Ra B ad b tb most dm pm ps gs vl vg T Sl Sg l ds pn) (fun u L=>u=Ag ad 11∧L=(Ra B ad b tb most dm pm ps gs vl vg T Sl Sg l ds pn)):=by
 refine Zo 42 Tryz.func35 fun E w0 w h=>?_
 have h:=((h.eS [10] 6 rfl).eS [4] 7 rfl).eS [11] 8 rfl
 refine Qs (ZN [Ii kd,Ii gd] 34 h fun k1 w h=>ZP .nilIface (Qm (ZP (Pp b) (ZG h (Gla 0 [Ii kd,Ii gd] 0) (ZP (.string s) (ZC [4,4,4,4,4,3,2] (Gx ad b most tb dm pm ps gs vl vg T Sl Sg l ds pn hl hr (kd:Int) gd kd Nd hlkd had j d hj hdh hdd s hs hok ((k:Int),g) hx) h fun w h=>ZP (.tuple #[Hg k g,.nilIface]) (ZP (Hg k g) (ZP .nilIface (ZN [Ii 0,Ii 0] 34 h fun k2 w h=>ZSs [Ii k,Ii g] 0 rfl h fun w h=>ZP .nilIface (Qu (ZP .nilIface (ZP (.bool false) (Qf (Kn (Aa (Aa ?_))))))))))))))))
 have h:=(h.pkr [5]).dirOpen hj2
 refine Ds 8 [0,1,1,3] h fun w h=>Dp 0 16 (Pp b) [0,1,1,3] h (Dp 1 17 (Pp b) [0,1,1,3] h (Dp 2 19 (Pt b 4) [0,1,1,3] h (Dq 3 23 [0,1,1,3] rfl h (Gl 4 (.map (some dm)) 2) (Dq 4 15 [0,1,1,3] rfl h (Gla 0 [Ii k,Ii g] 1) (Dq 5 31 [0,1,1,3] rfl h (A4 (v':=.map (some d2.mb)) (Gkd (kv:=ds.map Bt) false ((k:Int),g) 3 rfl) (by rw [show Af (ds.map Bt) ((k:Int),g)=_ from hdh2▸C1 hdd hj2];rfl)) (Dq (v:=Ii ((d2.es.map Bd).length:Int)) 6 63 [0,1,1,3] rfl h (E3 (K:=9) (E:=34) (by kernel_rfl) 0 rfl) (Dp 7 127 (.bool (decide (((d2.es.map Bd).length:Int)>0))) [0,1,1,3] h (Dd (Ai (Zd (((d2.es.map Bd).length:Int)>0) (fun hc3=>?_) fun hc3=>?_))))))))))
 refine Qs (ZG h (Gr 0 (Ag ad 11) 10 rfl (Ff (c:=11) (by decide) rfl)) (ZP (Ag ad 11) (Qr (Ar ?_))))
 have h:=h.dirBack (d:=d2) hj2
 exact ZR [Ag ad 11] [2,2,2,2,0,5,5] h ⟨rfl,rfl⟩
 exfalso;first|omega|(simp only [List.length_map] at *;omega)|(revert hc3;simp;done)|(revert hc3;simp;omega)
end
theorem E4 (s:ByteArray):∀ es:List (ByteArray×(Int×Int)),Ak (es.map Bd) s=(Ak es s).map Bd
  | []=>rfl
  | p::r=>by
    simp only [List.map_cons,Ak]
    by_cases c:s=p.1
    · rw [if_pos (show s=(Bd p).1 from c),if_pos c]
    · rw [if_neg (show ¬s=(Bd p).1 from c),if_neg c,List.map_cons,E4 s r]
theorem Ux {ds:List DN} {j:Nat} {d:DN} {es:List (ByteArray×(Int×Int))} (hj:ds[j]?=some d):(ds.set j { d with es:=es }).map (·.h)=ds.map (·.h):=by
  rw [List.map_set];exact Kj _ j _ (by rw [List.getElem?_map,hj];rfl)
theorem F6 {ds:List DN} {j:Nat} {d:DN} {es:List (ByteArray×(Int×Int))} {x:Int×Int} (hj:ds[j]?=some d) (hno:∀ d∈ds,d.h≠x):∀ d'∈ds.set j { d with es:=es },d'.h≠x:=fun d' hd=>by
  rcases List.mem_or_eq_of_mem_set hd with hd|rfl
  · exact hno d' hd
  · exact hno d (List.mem_of_getElem? hj)
section
variable {B:Nat} (ad:Nat→Addr) (b most tb dm pm:Nat) (ps:List (Option Nat)) (gs:List Int) (vl vg:Value) (T:TypeId) (Sl Sg:Nat→Prop) (l:List (Option ND)) (ds:List DN) (pn:List ((Int×Int)×Int)) (hl:ps.length=gs.length) (hr:∀ x∈gs,0≤x∧x≤1000000) (kd:Nat) (gd:Int) (Nd:ND) (hlkd:l[kd]?=some (some Nd)) (had:Bk ps gs (kd:Int) gd=some Nd.nb) (j:Nat) (d:DN) (hj:ds[j]?=some d) (hdh:d.h=((kd:Int),gd)) (hdd:(ds.map (·.h)).Nodup) (s:ByteArray) (hs:s.size≤9223372036854775807) (hok:A0 s) (k:Nat) (g:Int) (hx:Af d.es s=some ((k:Int),g)) (N:ND) (hlk:l[k]?=some (some N)) (ha:Bk ps gs (k:Int) g=some N.nb) (hne:k≠kd) (hkp:k<ps.length) (hcd:0≤Nd.change∧Nd.change≤1000000)
include B ad b most tb dm pm ps gs vl vg T Sl Sg l ds pn hl hr kd gd Nd hlkd had j d hj hdh hdd s hs hok k g hx N hlk ha hne hkp hcd
theorem Ac3 (j2:Nat) (d2:DN) (hj2:ds[j2]?=some d2) (hdh2:d2.h=((k:Int),g)) (hjj:j≠j2) (hemp:d2.es=[]) (hli:0≤Nd.links∧Nd.links≤1000000):Au Tryz.prog 35 #[Pp b,Hg kd gd,.string s] (Ra B ad b tb most dm pm ps gs vl vg T Sl Sg l ds pn) (fun u L=>u=.nilIface∧L=(Ra B ad b tb most dm pm (ps.set k none) gs vl vg T Sl Sg (((l.set k none).set kd (some (Ao Nd (-1)))).set kd (some (Ae (Ao Nd (-1))))) ((ds.set j { d with es:=Ak d.es s }).filter fun d=>!(d.h==((k:Int),g))) pn)):=by
 have hemp0:d2.es.length=0:=by rw [hemp];rfl
 refine Zo 42 Tryz.func35 fun E w0 w h=>?_
 have h:=(h.eS [10] 6 rfl).eS [4] 7 rfl
 refine Qs (ZN [Ii kd,Ii gd] 34 h fun k1 w h=>ZP .nilIface (Qm (ZP (Pp b) (ZG h (Gla 0 [Ii kd,Ii gd] 0) (ZP (.string s) (ZC [3,3,3,3,3,2,1] (Gx ad b most tb dm pm ps gs vl vg T Sl Sg l ds pn hl hr (kd:Int) gd kd Nd hlkd had j d hj hdh hdd s hs hok ((k:Int),g) hx) h fun w h=>ZP (.tuple #[Hg k g,.nilIface]) (ZP (Hg k g) (ZP .nilIface (ZN [Ii 0,Ii 0] 34 h fun k2 w h=>ZSs [Ii k,Ii g] 0 rfl h fun w h=>ZP .nilIface (Qu (ZP .nilIface (ZP (.bool false) (Qf (Kn (Aa (Aa ?_))))))))))))))))
 have h:=(h.pkr [5]).dirOpen hj2
 refine Ds 8 [0,1,1,3] h fun w h=>Dp 0 16 (Pp b) [0,1,1,3] h (Dp 1 17 (Pp b) [0,1,1,3] h (Dp 2 19 (Pt b 4) [0,1,1,3] h (Dq 3 23 [0,1,1,3] rfl h (Gl 4 (.map (some dm)) 2) (Dq 4 15 [0,1,1,3] rfl h (Gla 0 [Ii k,Ii g] 1) (Dq 5 31 [0,1,1,3] rfl h (A4 (v':=.map (some d2.mb)) (Gkd (kv:=ds.map Bt) false ((k:Int),g) 3 rfl) (by rw [show Af (ds.map Bt) ((k:Int),g)=_ from hdh2▸C1 hdd hj2];rfl)) (Dq (v:=Ii ((d2.es.map Bd).length:Int)) 6 63 [0,1,1,3] rfl h (E3 (K:=9) (E:=34) (by kernel_rfl) 0 rfl) (Dp 7 127 (.bool (decide (((d2.es.map Bd).length:Int)>0))) [0,1,1,3] h (Dd (Ai (Zd (((d2.es.map Bd).length:Int)>0) (fun hc3=>?_) fun hc3=>?_))))))))))
 exfalso;first|omega|(simp only [List.length_map] at *;omega)|(revert hc3;simp;done)|(revert hc3;simp;omega)
 refine Kn (Aa ?_)
 have h:=(h.dirBack (d:=d2) hj2).dirOpen hj
 refine Ds 8 [3,5,7] h fun w h=>Dp 0 80 (Pp b) [3,5,7] h (Dp 1 81 (Pp b) [3,5,7] h (Dp 2 83 (Pt b 4) [3,5,7] h (Dq 3 87 [3,5,7] rfl h (Gl 4 (.map (some dm)) 0) (Dq 4 79 [3,5,7] rfl h (Gla 0 [Ii kd,Ii gd] 2) (Dq 5 95 [3,5,7] rfl h (A4 (v':=.map (some d.mb)) (Gkd (kv:=ds.map Bt) false ((kd:Int),gd) 1 rfl) (by rw [show Af (ds.map Bt) ((kd:Int),gd)=_ from hdh▸C1 hdd hj];rfl)) (Dp 6 63 (.string s) [3,5,7] h ?_))))))
 refine A1 [7] (by kernel_rfl) rfl ?_
 refine Iy [3,5,7] rfl (by kernel_rfl) (K:=9) (E:=34) (Co (by kernel_rfl)) s (by kernel_rfl) h 0 rfl ?_ ?_
 intro w h;refine ⟨by kernel_rfl,?_⟩
 refine Dd (Ai (Qs (ZP (Pp b) (ZG h (Gla 0 [Ii k,Ii g] 2) (ZG h (Gla 0 [Ii kd,Ii gd] 9) ?_)))))
 rw [E4 s d.es] at h
 have h:=h.dirClose { d with es:=Ak d.es s }
 try unfold Ra at h
 rw [← Bx (d':={ d with es:=Ak d.es s }) hj rfl rfl] at h
 refine ZD [2,2,2,2,0,4,1] (L9 ad b most tb dm pm ps gs vl vg T Sl Sg l (ds.set j { d with es:=Ak d.es s }) pn hl hr k g N hlk ha kd gd Nd hlkd had hne hkp (by rw [Ux hj];exact hdd) j2 d2 (A3 hj2 hjj) hdh2 hli) h ?_;rintro _ L_ w rfl h
 refine Qn (Aa (Ds 6 [0,8] h fun w h=>Dp 0 16 (Pp b) [0,8] h (Dp 1 17 (Pp b) [0,8] h (Dp 2 19 (Pp b) [0,8] h (Dq 3 23 [0,8] rfl h (Gl 0 (Pp tb) 0) (Dq 4 15 [0,8] rfl h (Gla 0 [Ii kd,Ii gd] 1) ?_))))))
 refine Ad 5 [1,1,4] [3,8] (Bq ad tb (ps.set k none) gs vl vg T Sl Sg ((l.set k none).set kd (some (Ao Nd (-1)))) (by rw [List.length_set];exact hl) hr (kd:Int) gd kd (Ao Nd (-1)) (C0 (by simp;exact Cz hlkd)) (Dc had hne) hcd) h ?_
 rintro v_ L_ w ⟨rfl,rfl⟩ h
 refine ⟨by kernel_rfl,?_⟩
 exact Dd (Ai (Qs (ZP .nilIface (Qr (ZR [.nilIface] [3,0,0,1,1,1,4] h ⟨rfl,rfl⟩)))))
 exact Ba
theorem Adm (hno:∀ d∈ds,d.h≠((k:Int),g)) (hli:0≤N.links∧N.links≤1000000) (hch:0≤N.change∧N.change≤1000000) (h0:¬(N.links+-1=0∧(Af pn ((k:Int),g)).getD 0=0)):Au Tryz.prog 35 #[Pp b,Hg kd gd,.string s] (Ra B ad b tb most dm pm ps gs vl vg T Sl Sg l ds pn) (fun u L=>u=.nilIface∧L=(Ra B ad b tb most dm pm ps gs vl vg T Sl Sg (((l.set k (some (Ao N (-1)))).set k (some (Ae (Ao N (-1))))).set kd (some (Ae Nd))) (ds.set j { d with es:=Ak d.es s }) pn)):=by
 refine Zo 42 Tryz.func35 fun E w0 w h=>?_
 have h:=(h.eS [10] 6 rfl).eS [4] 7 rfl
 refine Qs (ZN [Ii kd,Ii gd] 34 h fun k1 w h=>ZP .nilIface (Qm (ZP (Pp b) (ZG h (Gla 0 [Ii kd,Ii gd] 0) (ZP (.string s) (ZC [3,3,3,3,3,2,1] (Gx ad b most tb dm pm ps gs vl vg T Sl Sg l ds pn hl hr (kd:Int) gd kd Nd hlkd had j d hj hdh hdd s hs hok ((k:Int),g) hx) h fun w h=>ZP (.tuple #[Hg k g,.nilIface]) (ZP (Hg k g) (ZP .nilIface (ZN [Ii 0,Ii 0] 34 h fun k2 w h=>ZSs [Ii k,Ii g] 0 rfl h fun w h=>ZP .nilIface (Qu (ZP .nilIface (ZP (.bool false) (Qf (Kn (Aa (Aa (Ds 8 [0,0,2] h fun w h=>Dp 0 16 (Pp b) [0,0,2] h (Dp 1 17 (Pp b) [0,0,2] h (Dp 2 19 (Pt b 4) [0,0,2] h (Dq 3 23 [0,0,2] rfl h (Gl 4 (.map (some dm)) 1) (Dq 4 15 [0,0,2] rfl h (Gla 0 [Ii k,Ii g] 0) (Dq 5 31 [0,0,2] rfl h (A4 (v':=.map none) (Gkd (kv:=ds.map Bt) false ((k:Int),g) 2 rfl) (by rw [C4 hno];rfl)) (Dq (v:=Ii 0) 6 63 [0,0,2] rfl h (Tf (K:=9) (E:=34) (by kernel_rfl)) (Dp 7 127 (.bool false) [0,0,2] h (Dd (Ai (Zf (Kn (Aa ?_)))))))))))))))))))))))))))))
 have h:=(h.pkr [5]).dirOpen hj
 refine Ds 8 [3,5,7] h fun w h=>Dp 0 80 (Pp b) [3,5,7] h (Dp 1 81 (Pp b) [3,5,7] h (Dp 2 83 (Pt b 4) [3,5,7] h (Dq 3 87 [3,5,7] rfl h (Gl 4 (.map (some dm)) 0) (Dq 4 79 [3,5,7] rfl h (Gla 0 [Ii kd,Ii gd] 2) (Dq 5 95 [3,5,7] rfl h (A4 (v':=.map (some d.mb)) (Gkd (kv:=ds.map Bt) false ((kd:Int),gd) 1 rfl) (by rw [show Af (ds.map Bt) ((kd:Int),gd)=_ from hdh▸C1 hdd hj];rfl)) (Dp 6 63 (.string s) [3,5,7] h ?_))))))
 refine A1 [7] (by kernel_rfl) rfl ?_
 refine Iy [3,5,7] rfl (by kernel_rfl) (K:=9) (E:=34) (Co (by kernel_rfl)) s (by kernel_rfl) h 0 rfl ?_ ?_
 intro w h;refine ⟨by kernel_rfl,?_⟩
 refine Dd (Ai (Qs (ZP (Pp b) (ZG h (Gla 0 [Ii k,Ii g] 2) (ZG h (Gla 0 [Ii kd,Ii gd] 9) ?_)))))
 rw [E4 s d.es] at h
 have h:=h.dirClose { d with es:=Ak d.es s }
 try unfold Ra at h
 rw [← Bx (d':={ d with es:=Ak d.es s }) hj rfl rfl] at h
 refine ZD [2,2,2,2,0,4,1] (L4 ad b most tb dm pm ps gs vl vg T Sl Sg l (ds.set j { d with es:=Ak d.es s }) pn hl hr k g N hlk ha (kd:Int) gd hkp (F6 hj hno) hli hch h0) h ?_;rintro _ L_ w rfl h
 refine Qn (Aa (Ds 6 [0,8] h fun w h=>Dp 0 16 (Pp b) [0,8] h (Dp 1 17 (Pp b) [0,8] h (Dp 2 19 (Pp b) [0,8] h (Dq 3 23 [0,8] rfl h (Gl 0 (Pp tb) 0) (Dq 4 15 [0,8] rfl h (Gla 0 [Ii kd,Ii gd] 1) ?_))))))
 refine Ad 5 [1,1,4] [3,8] (Bq ad tb ps gs vl vg T Sl Sg ((l.set k (some (Ao N (-1)))).set k (some (Ae (Ao N (-1))))) hl hr (kd:Int) gd kd Nd (A3 (A3 hlkd hne) hne) had hcd) h ?_
 rintro v_ L_ w ⟨rfl,rfl⟩ h
 refine ⟨by kernel_rfl,?_⟩
 exact Dd (Ai (Qs (ZP .nilIface (Qr (ZR [.nilIface] [3,0,0,1,1,1,4] h ⟨rfl,rfl⟩)))))
 exact Ba
theorem Abq (hno:∀ d∈ds,d.h≠((k:Int),g)) (hli:0≤N.links∧N.links≤1000000) (hch:0≤N.change∧N.change≤1000000) (h0:N.links+-1=0∧(Af pn ((k:Int),g)).getD 0=0):Au Tryz.prog 35 #[Pp b,Hg kd gd,.string s] (Ra B ad b tb most dm pm ps gs vl vg T Sl Sg l ds pn) (fun u L=>u=.nilIface∧L=(Ra B ad b tb most dm pm (ps.set k none) gs vl vg T Sl Sg ((((l.set k (some (Ao N (-1)))).set k (some (Ae (Ao N (-1))))).set k none).set kd (some (Ae Nd))) (ds.set j { d with es:=Ak d.es s }) pn)):=by
 refine Zo 42 Tryz.func35 fun E w0 w h=>?_
 have h:=(h.eS [10] 6 rfl).eS [4] 7 rfl
 refine Qs (ZN [Ii kd,Ii gd] 34 h fun k1 w h=>ZP .nilIface (Qm (ZP (Pp b) (ZG h (Gla 0 [Ii kd,Ii gd] 0) (ZP (.string s) (ZC [3,3,3,3,3,2,1] (Gx ad b most tb dm pm ps gs vl vg T Sl Sg l ds pn hl hr (kd:Int) gd kd Nd hlkd had j d hj hdh hdd s hs hok ((k:Int),g) hx) h fun w h=>ZP (.tuple #[Hg k g,.nilIface]) (ZP (Hg k g) (ZP .nilIface (ZN [Ii 0,Ii 0] 34 h fun k2 w h=>ZSs [Ii k,Ii g] 0 rfl h fun w h=>ZP .nilIface (Qu (ZP .nilIface (ZP (.bool false) (Qf (Kn (Aa (Aa (Ds 8 [0,0,2] h fun w h=>Dp 0 16 (Pp b) [0,0,2] h (Dp 1 17 (Pp b) [0,0,2] h (Dp 2 19 (Pt b 4) [0,0,2] h (Dq 3 23 [0,0,2] rfl h (Gl 4 (.map (some dm)) 1) (Dq 4 15 [0,0,2] rfl h (Gla 0 [Ii k,Ii g] 0) (Dq 5 31 [0,0,2] rfl h (A4 (v':=.map none) (Gkd (kv:=ds.map Bt) false ((k:Int),g) 2 rfl) (by rw [C4 hno];rfl)) (Dq (v:=Ii 0) 6 63 [0,0,2] rfl h (Tf (K:=9) (E:=34) (by kernel_rfl)) (Dp 7 127 (.bool false) [0,0,2] h (Dd (Ai (Zf (Kn (Aa ?_)))))))))))))))))))))))))))))
 have h:=(h.pkr [5]).dirOpen hj
 refine Ds 8 [3,5,7] h fun w h=>Dp 0 80 (Pp b) [3,5,7] h (Dp 1 81 (Pp b) [3,5,7] h (Dp 2 83 (Pt b 4) [3,5,7] h (Dq 3 87 [3,5,7] rfl h (Gl 4 (.map (some dm)) 0) (Dq 4 79 [3,5,7] rfl h (Gla 0 [Ii kd,Ii gd] 2) (Dq 5 95 [3,5,7] rfl h (A4 (v':=.map (some d.mb)) (Gkd (kv:=ds.map Bt) false ((kd:Int),gd) 1 rfl) (by rw [show Af (ds.map Bt) ((kd:Int),gd)=_ from hdh▸C1 hdd hj];rfl)) (Dp 6 63 (.string s) [3,5,7] h ?_))))))
 refine A1 [7] (by kernel_rfl) rfl ?_
 refine Iy [3,5,7] rfl (by kernel_rfl) (K:=9) (E:=34) (Co (by kernel_rfl)) s (by kernel_rfl) h 0 rfl ?_ ?_
 intro w h;refine ⟨by kernel_rfl,?_⟩
 refine Dd (Ai (Qs (ZP (Pp b) (ZG h (Gla 0 [Ii k,Ii g] 2) (ZG h (Gla 0 [Ii kd,Ii gd] 9) ?_)))))
 rw [E4 s d.es] at h
 have h:=h.dirClose { d with es:=Ak d.es s }
 try unfold Ra at h
 rw [← Bx (d':={ d with es:=Ak d.es s }) hj rfl rfl] at h
 refine ZD [2,2,2,2,0,4,1] (L8 ad b most tb dm pm ps gs vl vg T Sl Sg l (ds.set j { d with es:=Ak d.es s }) pn hl hr k g N hlk ha (kd:Int) gd hkp (F6 hj hno) hli hch h0) h ?_;rintro _ L_ w rfl h
 refine Qn (Aa (Ds 6 [0,8] h fun w h=>Dp 0 16 (Pp b) [0,8] h (Dp 1 17 (Pp b) [0,8] h (Dp 2 19 (Pp b) [0,8] h (Dq 3 23 [0,8] rfl h (Gl 0 (Pp tb) 0) (Dq 4 15 [0,8] rfl h (Gla 0 [Ii kd,Ii gd] 1) ?_))))))
 refine Ad 5 [1,1,4] [3,8] (Bq ad tb (ps.set k none) gs vl vg T Sl Sg (((l.set k (some (Ao N (-1)))).set k (some (Ae (Ao N (-1))))).set k none) (by rw [List.length_set];exact hl) hr (kd:Int) gd kd Nd (A3 (A3 (A3 hlkd hne) hne) hne) (Dc had hne) hcd) h ?_
 rintro v_ L_ w ⟨rfl,rfl⟩ h
 refine ⟨by kernel_rfl,?_⟩
 exact Dd (Ai (Qs (ZP .nilIface (Qr (ZR [.nilIface] [3,0,0,1,1,1,4] h ⟨rfl,rfl⟩)))))
 exact Ba
end
section
variable {B:Nat} (ad:Nat→Addr) {most:Nat} {z:PZ} {A:List AN} {ts:List Int} {c:Int} (s:D6 most z A ts c)
include s
def Ic (most:Nat) (z:PZ) (B:Nat) (ad:Nat→Addr) (ts:List Int) (c:Int) (e:Nat) (A':List AN) (u:Value) (L:List Res):Prop:=∃ z':PZ,(z'.b=z.b∧D6 most z' A' ts c∧u=Ag ad e)∧L=[rPT most z',A6 B ad]
omit s in
theorem E7 {P:Program} {f:FuncId} {args:Array Value} (s:D6 most z A ts c) (hc:c+3≤1000) (e:Nat) {A':List AN} {code:Nat} (h1:code=e+1) (h2:Au P f args (z.core most++[A6 B ad]) (fun u L=>u=Ag ad (e+1)∧L=z.core most++[A6 B ad])):Au P f args [rPT most z,A6 B ad] (Ic most z B ad ts (c+3) code (if code=0 then A' else A)):=
  (Au.ptq (M:=[A6 B ad]) (Φ:=fun u=>u=Ag ad (e+1)) h2).mono fun u L h=>⟨z,⟨rfl,by rw [if_neg (by omega)];exact s.more (by omega) (by omega),by rw [h1];exact h.1⟩,h.2⟩
omit s in
theorem Kh {P:Program} {f:FuncId} {args:Array Value} {A':List AN} {code:Nat} (h1:code=0) (h2:Au P f args (z.core most++[A6 B ad]) (fun u L=>∃ z':PZ,(z'.b=z.b∧D6 most z' A' ts c∧u=.nilIface)∧L=z'.core most++[A6 B ad])):Au P f args [rPT most z,A6 B ad] (Ic most z B ad ts c code (if code=0 then A' else A)):=
  (Au.pt (M:=[A6 B ad]) (Φ:=fun u z'=>z'.b=z.b∧D6 most z' A' ts c∧u=.nilIface) h2).mono fun u L ⟨z',⟨a,b,d⟩,h⟩=>⟨z',⟨a,by rw [if_pos h1];exact b,by rw [h1];exact d⟩,h⟩
omit s in
theorem Ze {P:Program} {f:FuncId} {args:Array Value} {A':List AN} {code:Nat} (h1:code=0) (css:List (List Nat)) (hcs:∀ cs∈css,∀ c∈cs,c∈Cp) (h2:Au P f args ((z.core most).take 5++css.map (Br B ad)) (fun u L=>∃ z':PZ,(z'.b=z.b∧D6 most z' A' ts c∧u=.nilIface)∧z'.pm=z.pm∧z'.pn=z.pn∧L=(z'.core most).take 5++css.map (Br B ad))):Au P f args [rPT most z,A6 B ad] (Ic most z B ad ts c code (if code=0 then A' else A)):=
  (Au.pt5 (Ψ:=fun u z'=>z'.b=z.b∧D6 most z' A' ts c∧u=.nilIface) css hcs h2).mono fun u L ⟨z',⟨a,b,d⟩,h⟩=>⟨z',⟨a,by rw [if_pos h1];exact b,by rw [h1];exact d⟩,h⟩
theorem Wl (m f n g:Int) (nm:ByteArray) (hnz:nm.size≤100000) (hc:c+3≤1000):Au Tryz.prog 33 #[.pointer (some ⟨z.b,0,none⟩),.agg #[.int .i64 m,.int .i64 f],.agg #[.int .i64 n,.int .i64 g],.string nm] [rPT most z,A6 B ad] (Ic most z B ad ts (c+3) (Cy A (m,f) (n,g) nm) (if Cy A (m,f) (n,g) nm=0 then Lo A (m,f) (n,g) nm else A)):=by
  rcases s.who m f with ⟨h1,h2,h3⟩|⟨kx,Nx,X,rfl,_,x1,x2,x3,x4,x5,x6,x7,x8⟩
  · exact E7 ad s hc 9 (tK_x h1) (Aa0 ad z.b most z.tb z.dm z.pm z.ps z.gs z.vl z.vg z.T z.Sl z.Sg z.l z.ds z.pn s.hl s.hr n g nm m f h2)
  rcases s.dir n g nm with ⟨c',h1,h2⟩|⟨k,N,M,j,d,rfl,h1,h2,h3,h4,h5,h6,h7,k2,h8,h9,h10,hkm⟩
  · refine E7 ad s hc c' ?_ (Adq ad z.b most z.tb z.dm z.pm z.ps z.gs z.vl z.vg z.T z.Sl z.Sg z.l z.ds z.pn s.hl s.hr n g nm (by omega) (kx:Int) f kx Nx x1 x2 c' h1)
    rcases h2 with ⟨rfl,h⟩|⟨rfl,M,h,hk⟩
    · exact tK_d x3 h
    · exact Y3 x3 h hk
  by_cases ho:A0 nm
  rotate_left
  · exact E7 ad s hc 3 (Xv x3 h3 k2 ho) (Ac5 ad z.b most z.tb z.dm z.pm z.ps z.gs z.vl z.vg z.T z.Sl z.Sg z.l z.ds z.pn s.hl s.hr (k:Int) g k N h1 h2 j d h8 h9 s.dd nm (by omega) (kx:Int) f kx Nx x1 x2 ho)
  rcases x8 with ⟨xk,xk2,xno,_⟩|⟨xk,_⟩
  rotate_left
  · exact E7 ad s hc 7 (Adj x3 h3 k2 ho xk) (Ab0 ad z.b most z.tb z.dm z.pm z.ps z.gs z.vl z.vg z.T z.Sl z.Sg z.l z.ds z.pn s.hl s.hr (k:Int) g k N h1 h2 j d h8 h9 s.dd nm (by omega) ho (kx:Int) f kx Nx x1 x2 (x7.kind.trans xk))
  have hkd:Nx.kind=1:=x7.kind.trans xk
  cases hg:Eg M.es nm with
  | some y=>exact E7 ad s hc 5 (Af4 x3 h3 k2 ho xk2 hg) (Ack ad z.b most z.tb z.dm z.pm z.ps z.gs z.vl z.vg z.T z.Sl z.Sg z.l z.ds z.pn s.hl s.hr (k:Int) g k N h1 h2 j d h8 h9 s.dd nm (by omega) ho (kx:Int) f kx Nx x1 x2 hkd y (by rw [h10.get];exact hg))
  | none=>
    have hx:Af d.es nm=none:=by rw [h10.get];exact hg
    have hlen:=h10.len
    have hli:=s.li x4 x7
    have hlk:=x7.lnk
    by_cases hf:60≤M.es.length
    · exact E7 ad s hc 8 (Od x3 h3 k2 ho xk2 hg (.inl hf)) (Adl ad z.b most z.tb z.dm z.pm z.ps z.gs z.vl z.vg z.T z.Sl z.Sg z.l z.ds z.pn s.hl s.hr (k:Int) g k N h1 h2 j d h8 h9 s.dd nm (by omega) ho (kx:Int) f kx Nx x1 x2 hkd hx (by omega))
    by_cases h8l:8≤Dv A X
    · have hT:=Od x3 h3 k2 ho xk2 hg (.inr h8l)
      refine (Au.pt5 (Ψ:=fun u z'=>z'=z∧u=Ag ad 9) [[10],[4],[9]] (by decide) ((Qw ad z.b most z.tb z.dm z.pm z.ps z.gs z.vl z.vg z.T z.Sl z.Sg z.l z.ds z.pn s.hl s.hr (k:Int) g k N h1 h2 j d h8 h9 s.dd nm (by omega) ho hx (kx:Int) f kx Nx x1 x2 hkd (by omega)).mono fun u L h=>⟨z,⟨rfl,h.1⟩,rfl,rfl,h.2⟩)).mono fun u L h=>?_
      obtain ⟨z',⟨rfl,hu⟩,hL⟩:=h
      exact ⟨z',⟨rfl,by rw [if_neg (by omega)];exact s.more (by omega) (by omega),by rw [hT];exact hu⟩,hL⟩
    · have hT:=Afz x3 h3 k2 ho xk2 hg (by omega)
      have hnk:kx≠k:=fun e=>by
        have:X=M:=s.ti.base.same x4 h4 (by rw [x6,h6,e])
        rw [this] at xk;omega
      refine Ze ad hT [[10],[4]] (by decide) ?_
      refine (Wq ad z.b most z.tb z.dm z.pm z.ps z.gs z.vl z.vg z.T z.Sl z.Sg z.l z.ds z.pn s.hl s.hr (k:Int) g k N h1 h2 j d h8 h9 s.dd nm (by omega) ho hx (kx:Int) f kx Nx x1 x2 hkd (by omega) (by omega) hnk (s.ch h4 h7) (s.ch x4 x7)).mono fun u L h=>?_
      obtain ⟨rfl,rfl⟩:=h
      have hs:=s.sim.link s.ti h4 x4 k2 xk h1 h6 x1 x6 h8 (h9.trans h5.symm) (Fh hg)
      rw [h5,x5] at hs
      refine ⟨_,⟨?_,s.go hs (s.ti.link hT) (s.srt.link hT s.ti.base.nod) (s.nsz.link _ _ hnz) (s.cnt.link _ _ _) s.ts3 hc,rfl⟩,?_,?_,?_⟩
      all_goals rfl
end
section
variable {B:Nat} (ad:Nat→Addr) {most:Nat} {z:PZ} {A:List AN} {ts:List Int} {c:Int} (s:D6 most z A ts c)
include s
theorem Tg (n g:Int) (nm:ByteArray) (hnz:nm.size≤100000) (hc:c+3≤1000):Au Tryz.prog 35 #[.pointer (some ⟨z.b,0,none⟩),.agg #[.int .i64 n,.int .i64 g],.string nm] [rPT most z,A6 B ad] (Ic most z B ad ts (c+3) (Cf A (n,g) nm) (if Cf A (n,g) nm=0 then Dz A (n,g) nm else A)):=by
  rcases s.look n g nm with ⟨c',h1,h2⟩|⟨k,N,M,j,d,x,rfl,h1,h2,h3,h4,h5,h6,h7,k2,h8,h9,h10,ho,hg,ha,hT⟩
  · exact E7 ad s hc c' (by unfold Cf;rw [h1];exact if_neg (by simp)) (Ado ad z.b most z.tb z.dm z.pm z.ps z.gs z.vl z.vg z.T z.Sl z.Sg z.l z.ds z.pn s.hl s.hr n g s.dd nm (by omega) c' h2)
  obtain ⟨e,he,e1,e2⟩:=He hg
  subst e1
  have hT1:(Ab A ((k:Int),g) e.1).1=x:=by rw [hT]
  have hT2:(Ab A ((k:Int),g) e.1).2=0:=by rw [hT]
  have hb:=s.ti.base
  rcases s.who x.1 x.2 with ⟨q1,_⟩|⟨kx,Nx,X,hxk,hkx,x1,x2,x3,x4,x5,x6,x7,x8⟩
  · obtain ⟨K,hK,hKx⟩:=hb.ent M h4 e he
    have:=C2 hb.nod hK
    rw [hKx,e2] at this
    rw [this] at q1;cases q1
  have hx:x=((kx:Int),x.2):=Prod.ext hxk rfl
  have hXe:e.2=X.h:=e2.trans x5.symm
  have hE:Cf A ((k:Int),g) e.1=if 0<X.es.length then 11 else 0:=by
    unfold Cf;rw [if_pos hT2,hT1,x3]
  have hlook:(Ab A M.h e.1).1=X.h:=by rw [h5,hT1,x5]
  have ha':Af d.es e.1=some ((kx:Int),x.2):=by rw [ha];exact congrArg some hx
  have hax:Bk z.ps z.gs (kx:Int) x.2=some Nx.nb:=by rw [← hxk];exact x2
  have hkp:kx<z.ps.length:=by rw [s.sim.lps];exact hkx
  have hneM:X.es=[]→kx≠k:=fun q1 q2=>by
    have:X=M:=hb.same x4 h4 (by rw [x6,h6,q2])
    rw [← this,q1] at he;cases he
  have hfin:∀ {ps l ds pn},Cf A ((k:Int),g) e.1=0→Sim most ps z.gs l ds pn (Dz A ((k:Int),g) e.1) ts→D6 most (z.to ps z.gs l ds pn) (Dz A ((k:Int),g) e.1) ts (c+3):=fun h0 hs=>s.go hs (s.ti.remove h0) (s.srt.remove _ _) (s.nsz.remove _ _) (s.cnt.remove _ _) s.ts3 hc
  have hxh:(x.1,x.2)=((kx:Int),x.2):=hx
  rcases x8 with ⟨xk,xk2,xno,_⟩|⟨xk,j2,d2,y1,y2,y3⟩
  · have hes:=hb.file X x4 xk
    have h0:Cf A ((k:Int),g) e.1=0:=by rw [hE,hes];rfl
    have hno:∀ d∈z.ds,d.h≠((kx:Int),x.2):=by rw [← hxh];exact xno
    have hXh2:X.h=((kx:Int),x.2):=x5.trans hxh
    by_cases hz:Nx.links+-1=0∧(Af z.pn ((kx:Int),x.2)).getD 0=0
    · refine Kh ad h0 ?_
      refine (Abq ad z.b most z.tb z.dm z.pm z.ps z.gs z.vl z.vg z.T z.Sl z.Sg z.l z.ds z.pn s.hl s.hr k g N h1 h2 j d h8 h9 s.dd e.1 (by omega) ho kx x.2 ha' Nx x1 hax (hneM hes) hkp (s.ch h4 h7) hno (s.li x4 x7) (s.ch x4 x7) hz).mono fun u L h=>?_
      obtain ⟨rfl,rfl⟩:=h
      have hs:=s.sim.removeG s.ti h4 x4 k2 xk he hXe h1 h6 x1 x6 x7 h8 (h9.trans h5.symm) hlook (by rw [hXh2];exact hz)
      rw [h5] at hs
      refine ⟨_,⟨?_,hfin h0 hs,rfl⟩,?_⟩
      all_goals rfl
    · refine Kh ad h0 ?_
      refine (Adm ad z.b most z.tb z.dm z.pm z.ps z.gs z.vl z.vg z.T z.Sl z.Sg z.l z.ds z.pn s.hl s.hr k g N h1 h2 j d h8 h9 s.dd e.1 (by omega) ho kx x.2 ha' Nx x1 hax (hneM hes) hkp (s.ch h4 h7) hno (s.li x4 x7) (s.ch x4 x7) hz).mono fun u L h=>?_
      obtain ⟨rfl,rfl⟩:=h
      have hs:=s.sim.removeF s.ti h4 x4 k2 xk he hXe h1 h6 x1 x6 x7 h8 (h9.trans h5.symm) hlook (by rw [hXh2];exact hz)
      rw [h5] at hs
      refine ⟨_,⟨?_,hfin h0 hs,rfl⟩,?_⟩
      all_goals rfl
  · have hlen:=y3.len
    have hh2:d2.h=((kx:Int),x.2):=y2.trans hxh
    by_cases hfull:0<X.es.length
    · exact E7 ad s hc 10 (by rw [hE,if_pos hfull]) (Aay ad z.b most z.tb z.dm z.pm z.ps z.gs z.vl z.vg z.T z.Sl z.Sg z.l z.ds z.pn s.hl s.hr k g N h1 h2 j d h8 h9 s.dd e.1 (by omega) ho kx x.2 ha' j2 d2 y1 hh2 (by omega))
    · have hes:X.es=[]:=List.eq_nil_of_length_eq_zero (by omega)
      have hes2:d2.es=[]:=List.eq_nil_of_length_eq_zero (by omega)
      have h0:Cf A ((k:Int),g) e.1=0:=by rw [hE,if_neg hfull]
      have hjj:j≠j2:=fun q=>by
        subst q;rw [h8] at y1;cases y1
        exact hneM hes (by have:=congrArg Prod.fst (hh2.symm.trans h9);simp only at this;omega)
      refine Kh ad h0 ?_
      refine (Ac3 ad z.b most z.tb z.dm z.pm z.ps z.gs z.vl z.vg z.T z.Sl z.Sg z.l z.ds z.pn s.hl s.hr k g N h1 h2 j d h8 h9 s.dd e.1 (by omega) ho kx x.2 ha' Nx x1 hax (hneM hes) hkp (s.ch h4 h7) j2 d2 y1 hh2 hjj hes2 (s.li h4 h7)).mono fun u L h=>?_
      obtain ⟨rfl,rfl⟩:=h
      have hs:=s.sim.removeD (Nx:=Nx) s.ti h4 x4 k2 xk hes he hXe hlook h1 h6 x6 h8 (h9.trans h5.symm)
      rw [h5,x5,hxh] at hs
      refine ⟨_,⟨?_,hfin h0 hs,rfl⟩,?_⟩
      all_goals rfl
end
theorem Mz {B:Nat} (ad:Nat→Addr) (q:DQ) (n:Int):Au Tryz.prog 77 #[.pointer (some ⟨q.db,0,none⟩),.int .i64 n] [Fi (some q),Br B ad [2]] fun u L=>∃ S',u=Ag ad (B2 q.d n).2∧L=[Fi (some ⟨q.db,(B2 q.d n).1,S'⟩),Br B ad [2]]:=fun E w0 w ho=>
  (Uj ad q.db n q.d q.S w (ho.fact 1 rfl) (ho.fact 0 rfl)).mono fun e w' ⟨he,hc,S',h1,h2⟩=>⟨_,_,⟨S',rfl,rfl⟩,he,Own.upd ho 0 (r:=Ve q) (r':=Ve ⟨q.db,(B2 q.d n).1,S'⟩) rfl rfl hc h1 fun b hb=>(h2 b hb).imp id fun q=>q.1⟩
section
open Go.RowKit Go.MapKept
def T9 {α:Type} (w:World) (r:Nat) (f:α→Value) (kv:List (α×Value)) (k:α) (st:Nat):Prop:=
  ∃ (es:Array MapEntry) (clock i:Nat) (e:MapEntry),w.heap[r]?=some (.map es clock)∧es.toList.map (fun e=>(e.key,e.val))=kv.map (fun p=>(f p.1,p.2))∧Stamped es clock∧es[i]?=some e∧e.key=f k∧e.born=st
theorem T9.map {α:Type} {w:World} {r:Nat} {f:α→Value} {kv:List (α×Value)} {k:α} {st:Nat} (h:T9 w r f kv k st):D9 w r f kv:=by
  obtain ⟨es,clock,i,e,h1,h2,h3,_⟩:=h
  exact ⟨es,clock,h1,h2,h3⟩
def Ry {α:Type} (r:Nat) (f:α→Value) (kv:List (α×Value)) (k:α) (st:Nat):Res:=
  ⟨true,(·=r),fun w=>T9 w r f kv k st,fun w w' h _ hb=>by
    obtain ⟨es,clock,i,e,h1,h2⟩:=h
    exact ⟨es,clock,i,e,(hb r rfl).trans h1,h2⟩,fun w b h e=>by
    have:b=r:=e
    obtain ⟨es,clock,i,e,h1,h2⟩:=h
    rw [this];exact lt_of_block h1⟩
section
variable {α:Type} [DecidableEq α] {P:Program} {a:Act} {w w0:World} {En:Ent} {L M:List Res} {Ka:Act→World→Prop} {Q:Exit→Act→World→Prop} {ops:Array Oper} {rest:List Oper} {K E:TypeId} {f:α→Value} {kv:List (α×Value)}
variable {dst:Option Tmp} {m x v s:Operand} {T ty:TypeId} {pos:String} {after:Array Edge} {g:Option (Nat×Bool)} {r:Nat} {z:Value}
theorem D9.run_entry (F:Ew P K f) (ht:P.underlying T=some (.map K E)) (hz:(zeroValue E).run P w=.ok z w) (h:D9 w r f kv) (k:α) :
    ∃ w' st,(Instr.mapEntry T (.map (some r)) (f k)).run P w=.ok (.tuple #[(Af kv k).getD z,.int .i64 ((st:Nat):Int)]) w'∧T9 w' r f (Ay kv k ((Af kv k).getD z)) k st∧Chg (·=r) w w':=by
  obtain ⟨es,clock,hb,he,hs⟩:=h
  have hch:∀ o:Obj,Chg (·=r) w { w with heap:=w.heap.setIfInBounds r o }:=fun o=>
    ⟨rfl,rfl,rfl,by simp,fun k _ hk=>(heap_set (o':=o) hb).2 k hk⟩
  cases hf:Hr kv k 0 with
  | none=>
    obtain ⟨h1,h2,_,h4⟩:=Gh hf
    have hr:(Instr.mapEntry T (.map (some r)) (f k)).run P w=.ok (.tuple #[z,.int .i64 (clock:Int)]) { w with heap:=w.heap.setIfInBounds r (.map (es.push { key:=f k,val:=z,born:=clock }) (clock+1)) }:=by
      simp only [Instr.mapEntry,Sem.run_bind,run_underlying ht,Result.andThen_ok,MapKept.run_getObj_map hb,F.chk,F.find k es.toList kv w he,hf,hz]
      rw [MapKept.run_setObj_map _ hb];rfl
    rw [h1]
    refine ⟨_,clock,hr,⟨_,_,es.size,_,(heap_set hb).1,?_,stamped_push hs ?_,Array.getElem?_push_size,rfl,rfl⟩,hch _⟩
    · rw [h2];simp [he]
    · intro x hx e
      have:x.key∈es.toList.map (·.key):=List.mem_map.2 ⟨x,hx,rfl⟩
      rw [K9 he] at this
      obtain ⟨p,hp,e2⟩:=List.mem_map.1 this
      exact h4 p hp (F.inj _ _ (e2.trans e))
  | some p=>
    obtain ⟨j,u⟩:=p
    obtain ⟨n,e0,h1,h2,h3,_⟩:=Gf hf
    have e0':j=n:=by omega
    subst e0'
    have hkey:es[j]?.map (·.key)=some (f k):=by
      have:=congrArg (fun l=>l[j]?) (K9 he)
      simpa [h1] using this
    obtain ⟨en,hen,henk⟩:∃ en,es[j]?=some en∧en.key=f k:=by
      cases hq:es[j]? with
      | none=>rw [hq] at hkey;cases hkey
      | some en=>rw [hq] at hkey;exact ⟨en,rfl,by simpa using hkey⟩
    have hr:(Instr.mapEntry T (.map (some r)) (f k)).run P w=.ok (.tuple #[u,.int .i64 (en.born:Int)]) { w with heap:=w.heap.setIfInBounds r (.map (es.modify j fun e=>{ e with key:=f k }) clock) }:=by
      simp only [Instr.mapEntry,Sem.run_bind,run_underlying ht,Result.andThen_ok,MapKept.run_getObj_map hb,F.chk,F.find k es.toList kv w he,hf]
      simp only [hen,Option.map_some,Option.getD_some,henk,F.keep,Result.andThen_ok,Sem.run_bind]
      rw [MapKept.run_setObj_map _ hb];rfl
    rw [h2,Option.getD_some]
    refine ⟨_,en.born,hr,⟨_,_,j,{ en with key:=f k },(heap_set hb).1,?_,?_,?_,rfl,rfl⟩,hch _⟩
    · rw [h3]
      apply List.ext_getElem?
      intro i
      have hi:=congrArg (fun l=>l[i]?) he
      simp only [List.getElem?_map,Array.getElem?_toList,Array.getElem?_modify,List.getElem?_set] at hi ⊢
      by_cases c:j=i
      · subst c
        have hjl:j<kv.length:=(List.getElem?_eq_some_iff.1 h1).1
        rw [hen,h1] at hi
        simp only [Option.map_some,Option.some.injEq,Prod.mk.injEq] at hi
        simp [hen,hjl,hi.2]
      · simpa [c] using hi
    · refine stamped_modify hs j _ (fun e _=>rfl) (fun e _ he'=>?_)
      have:e=en:=by rw [hen] at he';exact (Option.some.inj he').symm
      subst this
      exact henk.symm
    · rw [Array.getElem?_modify,if_pos rfl,hen];rfl
theorem T9.run_store (F:Ew P K f) {k:α} {st:Nat} (h:T9 w r f kv k st) (u:Value) :
    ∃ w',(Instr.entryStore T (.map (some r)) (.int .i64 ((st:Nat):Int)) u).run P w=.ok () w'∧D9 w' r f (Ay kv k u)∧Chg (·=r) w w':=by
  obtain ⟨es,clock,i,e,hb,he,hs,hi,hk,rfl⟩:=h
  have hch:∀ o:Obj,Chg (·=r) w { w with heap:=w.heap.setIfInBounds r o }:=fun o=>
    ⟨rfl,rfl,rfl,by simp,fun k _ hk=>(heap_set (o':=o) hb).2 k hk⟩
  have hidx:es.findIdx? (fun e'=>((e'.born:Nat):Int)==((e.born:Nat):Int))=some i:=by
    rw [WideElems.findIdx_arr]
    exact WideElems.findIdx_born hs.2.1 (by rw [Array.getElem?_toList];exact hi)
  have hr:(Instr.entryStore T (.map (some r)) (.int .i64 ((e.born:Nat):Int)) u).run P w=.ok () { w with heap:=w.heap.setIfInBounds r (.map (es.modify i fun e=>{ e with val:=u }) clock) }:=by
    simp [Instr.entryStore,MapKept.run_getObj_map hb,asInt,asIntOf,hidx,MapKept.run_setObj_map _ hb,Result.andThen]
  have hkvi:∃ u0,kv[i]?=some (k,u0):=by
    have h2:=congrArg (fun l=>l[i]?) he
    simp only [List.getElem?_map,Array.getElem?_toList,hi,Option.map_some] at h2
    cases hq:kv[i]? with
    | none=>rw [hq] at h2;cases h2
    | some p=>
      rw [hq] at h2
      simp only [Option.map_some,Option.some.injEq,Prod.mk.injEq] at h2
      exact ⟨p.2,by rw [F.inj _ _ (hk.symm.trans h2.1)]⟩
  obtain ⟨u0,hu0⟩:=hkvi
  have hnd:(kv.map (·.1)).Nodup:=D9.nodup (w:=w) (r:=r) (f:=f) ⟨es,clock,hb,he,hs⟩
  have hset:Ay kv k u=kv.set i (k,u):=by
    cases hf:Hr kv k 0 with
    | none=>exact absurd rfl ((Gh hf).2.2.2 _ (List.mem_of_getElem? hu0))
    | some p=>
      obtain ⟨j,u1⟩:=p
      obtain ⟨n,e0,h1,_,h3,_⟩:=Gf hf
      have:n=i:=by
        have a1:(kv.map (·.1))[n]?=some k:=by rw [List.getElem?_map,h1];rfl
        have a2:(kv.map (·.1))[i]?=some k:=by rw [List.getElem?_map,hu0];rfl
        exact (List.getElem?_inj (List.getElem?_eq_some_iff.1 a1).1 hnd).1 (a1.trans a2.symm)
      rw [h3,this]
  refine ⟨_,hr,⟨_,_,(heap_set hb).1,?_,?_⟩,hch _⟩
  · rw [hset]
    apply List.ext_getElem?
    intro q
    have hq:=congrArg (fun l=>l[q]?) he
    simp only [List.getElem?_map,Array.getElem?_toList,Array.getElem?_modify,List.getElem?_set] at hq ⊢
    by_cases c:i=q
    · subst c
      have hjl:i<kv.length:=(List.getElem?_eq_some_iff.1 hu0).1
      simp [hi,hjl,hk]
    · simpa [c] using hq
  · exact stamped_modify hs i _ (fun e _=>rfl) (fun e _ he'=>rfl)
theorem Oc {ok:Bool} {k0:α} {st:Nat} (F:Ew P K f) (k:α) (hx:(a.eval m,a.eval x,P.underlying T)=(.map (some r),f k,some (.map K E))) (hz:∀ w,(zeroValue E).run P w=.ok z w) (i:Nat) (hi:L[i]?=some (Ry r f kv k0 st)) :
    Cl P w0 En L ⟨dst,.lookup T m x ok,ty,pos,after,g⟩ a (if ok then .tuple #[(Af kv k).getD z,.bool (Af kv k).isSome] else (Af kv k).getD z):=fun w ho=>by
  simp only [Prod.mk.injEq] at hx
  have h:D9 w r f kv:=(ho.fact i hi:T9 w r f kv k0 st).map
  simp [execOp,hx.1,hx.2.1,h.run_lookup F hx.2.2 (hz w) k ok,Result.andThen]
theorem Afl (F:Ew P K f) (k:α) (hx:(a.eval m,a.eval x,P.underlying T)=(.map (some r),f k,some (.map K E))) (hz:∀ w,(zeroValue E).run P w=.ok z w) (h:Own w0 En L w) (i:Nat) (hi:L[i]?=some (Ci true r f kv))
    (hK:∀ st w',Own w0 En (L.set i (Ry r f (Ay kv k ((Af kv k).getD z)) k st)) w'→Ka (a.put dst (.tuple #[(Af kv k).getD z,.int .i64 ((st:Nat):Int)])) w'):Oper.wp P ⟨dst,.mapEntry T m x,ty,pos,after,g⟩ a w Ka Q:=by
  simp only [Prod.mk.injEq] at hx
  have hm:D9 w r f kv:=h.fact i hi
  obtain ⟨w',st,hr,h1,h2⟩:=hm.run_entry F hx.2.2 (hz w) k
  unfold Oper.wp
  simp [execOp,hx.1,hx.2.1,hr,Result.andThen,Oper.upon]
  exact hK _ _ (h.upd i hi rfl h2 h1 fun b hb=>.inl hb)
theorem Aej {k:α} {st:Nat} (F:Ew P K f) (u:Value) (hx:(a.eval m,a.eval s,a.eval v)=(.map (some r),.int .i64 ((st:Nat):Int),u)) (h:Own w0 En L w) (i:Nat) (hi:L[i]?=some (Ry r f kv k st))
    (hK:∀ w',Own w0 En (L.set i (Ci true r f (Ay kv k u))) w'→Ka (a.put dst undef) w'):Oper.wp P ⟨dst,.entryStore T m s v,ty,pos,after,g⟩ a w Ka Q:=by
  simp only [Prod.mk.injEq] at hx
  have hm:T9 w r f kv k st:=h.fact i hi
  obtain ⟨w',hr,h1,h2⟩:=hm.run_store (T:=T) F u
  unfold Oper.wp
  simp [execOp,hx.1,hx.2.1,hx.2.2,hr,Result.andThen,Oper.upon]
  exact hK _ (h.upd i hi rfl h2 h1 fun b hb=>.inl hb)
variable {br:Nat→Bool} {fuel i:Nat} {listed:Array Bool} {is:List Nat}
theorem Is (js:List Nat) (hi:ops[i]?=some ⟨dst,.mapEntry T m x,ty,pos,after,g⟩) (hb:(br i,Region.wanted ⟨dst,.mapEntry T m x,ty,pos,after,g⟩ (yielded ops a.tmps))=(false,true)) (F:Ew P K f) (k:α) (hx:(a.eval m,a.eval x,P.underlying T)=(.map (some r),f k,some (.map K E))) (hz:∀ w,(zeroValue E).run P w=.ok z w) (h:Own w0 En M w) (j:Nat) (hj:M[j]?=some (Ci true r f kv))
    (hK:∀ st w',Own w0 En (M.set j (Ry r f (Ay kv k ((Af kv k).getD z)) k st)) w'→pk js (M.set j (Ry r f (Ay kv k ((Af kv k).getD z)) k st))=L∧DW P ops Q w0 En br fuel (listed.setIfInBounds i true) L (a.put dst (.tuple #[(Af kv k).getD z,.int .i64 ((st:Nat):Int)])) w') (hs:Il P ops Q w0 En br fuel listed L a w is):Il P ops Q w0 En br fuel listed L a w (i::is):=by
  simp only [Prod.mk.injEq] at hb
  exact ⟨Iz.cons hi hb.1 hb.2 (Afl F k hx hz h j hj fun st w' h'=>⟨h'.sub js (hK st w' h').1,(hK st w' h').2.out⟩) hs.out⟩
theorem It {k:α} {st:Nat} (js:List Nat) (hi:ops[i]?=some ⟨dst,.entryStore T m s v,ty,pos,after,g⟩) (hb:(br i,Region.wanted ⟨dst,.entryStore T m s v,ty,pos,after,g⟩ (yielded ops a.tmps))=(false,true)) (F:Ew P K f) (u:Value) (hx:(a.eval m,a.eval s,a.eval v)=(.map (some r),.int .i64 ((st:Nat):Int),u)) (h:Own w0 En M w) (j:Nat) (hj:M[j]?=some (Ry r f kv k st))
    (hK:∀ w',Own w0 En (M.set j (Ci true r f (Ay kv k u))) w'→pk js (M.set j (Ci true r f (Ay kv k u)))=L∧DW P ops Q w0 En br fuel (listed.setIfInBounds i true) L (a.put dst undef) w') (hs:Il P ops Q w0 En br fuel listed L a w is):Il P ops Q w0 En br fuel listed L a w (i::is):=by
  simp only [Prod.mk.injEq] at hb
  exact ⟨Iz.cons hi hb.1 hb.2 (Aej F u hx h j hj fun w' h'=>⟨h'.sub js (hK w' h').1,(hK w' h').2.out⟩) hs.out⟩
end
end
def Zw (ps:List (Option Nat)) (gs:List Int) (l:List (Option ND)) (n g:Int) (c:Nat):Prop:=(c=9∧Bk ps gs n g=none)∨(c=7∧∃ (k:Nat) (N:ND),l[k]?=some (some N)∧Bk ps gs n g=some N.nb∧N.dq=none)
theorem Jl {B:Nat} (ad:Nat→Addr) (b most tb dm pm:Nat) (ps:List (Option Nat)) (gs:List Int) (vl vg:Value) (T:TypeId) (Sl Sg:Nat→Prop) (l:List (Option ND)) (ds:List DN) (pn:List ((Int×Int)×Int)) (hl:ps.length=gs.length) (hr:∀ x∈gs,0≤x∧x≤1000000) (n g:Int) (c:Nat) (hd:Zw ps gs l n g c):Au Tryz.prog 73 #[Pp tb,Hg n g] [B1 tb ps gs vl vg T Sl Sg,Cm l,Br B ad [10],Br B ad [8]] fun u L=>u=.tuple #[.pointer none,Ag ad (c+1)]∧L=[B1 tb ps gs vl vg T Sl Sg,Cm l,Br B ad [10],Br B ad [8]]:=by
  rcases hd with ⟨rfl,h⟩|⟨rfl,k,N,h1,h2,h3⟩
  · refine ((Xm ad tb ps gs vl vg T Sl Sg l hl hr n g h).frame [Br B ad [8]]).mono ?_
    rintro u L ⟨L1,⟨rfl,rfl⟩,rfl⟩
    exact ⟨rfl,rfl⟩
  · obtain ⟨nb,ki,si,li,ch,un,ug,dq⟩:=N
    simp only at h3;subst h3
    exact Xk ad tb ps gs vl vg T Sl Sg l hl hr n g k nb ki si li ch un ug h1 h2
theorem Abf (h:Int×Int) (v:Int):∀ pn:List ((Int×Int)×Int),Ay (pn.map Cw) h (Ii v)=(Ay pn h v).map Cw
  | []=>rfl
  | p::r=>by
    simp only [List.map_cons,Ay]
    by_cases c:h=p.1
    · rw [if_pos (show h=(Cw p).1 from c),if_pos c];rfl
    · rw [if_neg (show ¬h=(Cw p).1 from c),if_neg c,List.map_cons,Abf h v r]
theorem Ad9 (h:Int×Int):∀ pn:List ((Int×Int)×Int),Ak (pn.map Cw) h=(Ak pn h).map Cw
  | []=>rfl
  | p::r=>by
    simp only [List.map_cons,Ak]
    by_cases c:h=p.1
    · rw [if_pos (show h=(Cw p).1 from c),if_pos c]
    · rw [if_neg (show ¬h=(Cw p).1 from c),if_neg c,List.map_cons,Ad9 h r]
section
variable {B:Nat} (ad:Nat→Addr) (b most tb dm pm:Nat) (ps:List (Option Nat)) (gs:List Int) (vl vg:Value) (T:TypeId) (Sl Sg:Nat→Prop) (l:List (Option ND)) (ds:List DN) (pn:List ((Int×Int)×Int)) (hl:ps.length=gs.length) (hr:∀ x∈gs,0≤x∧x≤1000000) (n g:Int)
include B ad b most tb dm pm ps gs vl vg T Sl Sg l ds pn hl hr n g
theorem Abz (c:Nat) (hd:Zw ps gs l n g c):Au Tryz.prog 42 #[Pp b,Hg n g] (Ra B ad b tb most dm pm ps gs vl vg T Sl Sg l ds pn) (fun u L=>u=Ag ad (c+1)∧L=(Ra B ad b tb most dm pm ps gs vl vg T Sl Sg l ds pn)):=by
 refine Zo 26 Tryz.func42 fun E w0 w h=>?_
 have h:=(h.eS [10] 6 rfl).eS [8] 7 rfl
 refine Qs (ZN [Ii n,Ii g] 34 h fun k1 w h=>ZP .nilIface (Qn (Aa (Aa (Ds 11 [0,2] h fun w h=>Dp 0 16 (Pp b) [0,2] h (Dp 1 17 (Pp b) [0,2] h (Dp 2 19 (Pp b) [0,2] h (Dq 3 23 [0,2] rfl h (Gl 0 (Pp tb) 1) (Dq 4 15 [0,2] rfl h (Gla 0 [Ii n,Ii g] 0) ?_)))))))))
 refine Ad 5 [4,4,2,1] [4,4] (Jl ad b most tb dm pm ps gs vl vg T Sl Sg l ds pn hl hr n g c hd) h ?_
 rintro v_ L_ w ⟨rfl,rfl⟩ h
 refine ⟨by kernel_rfl,?_⟩
 exact Dp 6 63 (.tuple #[.pointer none,Ag ad (c+1)]) [4,4] h (Dp 7 383 (.pointer none) [4,4] h (Dp 8 767 (Ag ad (c+1)) [4,4] h (Dp 9 511 (.pointer none) [4,4] h (Dp 10 1023 (Ag ad (c+1)) [4,4] h (Dd (Ai (Qs (ZP (Ag ad (c+1)) (ZP (.bool true) (Qg (Qs (ZP (Ag ad (c+1)) (ZP (Ag ad (c+1)) (Qr (Ar (ZR [Ag ad (c+1)] [5,0,0,3,3,3,3] h ⟨rfl,rfl⟩))))))))))))))))
theorem Ab4 (c:Nat) (hd:Zw ps gs l n g c):Au Tryz.prog 44 #[Pp b,Hg n g] (Ra B ad b tb most dm pm ps gs vl vg T Sl Sg l ds pn) (fun u L=>u=Ag ad (c+1)∧L=(Ra B ad b tb most dm pm ps gs vl vg T Sl Sg l ds pn)):=by
 refine Zo 49 Tryz.func44 fun E w0 w h=>?_
 have h:=(h.eS [10] 6 rfl).eS [8] 7 rfl
 refine Qs (ZN [Ii n,Ii g] 34 h fun k1 w h=>ZP .nilIface (Qn (Aa (Aa (Ds 11 [0,2] h fun w h=>Dp 0 16 (Pp b) [0,2] h (Dp 1 17 (Pp b) [0,2] h (Dp 2 19 (Pp b) [0,2] h (Dq 3 23 [0,2] rfl h (Gl 0 (Pp tb) 1) (Dq 4 15 [0,2] rfl h (Gla 0 [Ii n,Ii g] 0) ?_)))))))))
 refine Ad 5 [4,4,2,1] [4,4] (Jl ad b most tb dm pm ps gs vl vg T Sl Sg l ds pn hl hr n g c hd) h ?_
 rintro v_ L_ w ⟨rfl,rfl⟩ h
 refine ⟨by kernel_rfl,?_⟩
 exact Dp 6 63 (.tuple #[.pointer none,Ag ad (c+1)]) [4,4] h (Dp 7 383 (.pointer none) [4,4] h (Dp 8 767 (Ag ad (c+1)) [4,4] h (Dp 9 511 (.pointer none) [4,4] h (Dp 10 1023 (Ag ad (c+1)) [4,4] h (Dd (Ai (Qs (ZP (Ag ad (c+1)) (ZP (.bool true) (Qg (Qs (ZP (Ag ad (c+1)) (ZP (Ag ad (c+1)) (Qr (Ar (ZR [Ag ad (c+1)] [5,0,0,3,3,3,3] h ⟨rfl,rfl⟩))))))))))))))))
theorem Acc (c:Nat) (hd:Zw ps gs l n g c) (p:Int) (s:ByteArray):Au Tryz.prog 38 #[Pp b,Hg n g,Ii p,.string s] (Ra B ad b tb most dm pm ps gs vl vg T Sl Sg l ds pn) (fun u L=>u=Ag ad (c+1)∧L=(Ra B ad b tb most dm pm ps gs vl vg T Sl Sg l ds pn)):=by
 refine Zo 35 Tryz.func38 fun E w0 w h=>?_
 have h:=(h.eS [10] 6 rfl).eS [8] 7 rfl
 refine Qs (ZN [Ii n,Ii g] 34 h fun k1 w h=>ZP .nilIface (Qn (Aa (Ds 11 [0,2] h fun w h=>Dp 0 16 (Pp b) [0,2] h (Dp 1 17 (Pp b) [0,2] h (Dp 2 19 (Pp b) [0,2] h (Dq 3 23 [0,2] rfl h (Gl 0 (Pp tb) 1) (Dq 4 15 [0,2] rfl h (Gla 0 [Ii n,Ii g] 0) ?_))))))))
 refine Ad 5 [4,4,2,1] [4,4] (Jl ad b most tb dm pm ps gs vl vg T Sl Sg l ds pn hl hr n g c hd) h ?_
 rintro v_ L_ w ⟨rfl,rfl⟩ h
 refine ⟨by kernel_rfl,?_⟩
 exact Dp 6 63 (.tuple #[.pointer none,Ag ad (c+1)]) [4,4] h (Dp 7 383 (.pointer none) [4,4] h (Dp 8 767 (Ag ad (c+1)) [4,4] h (Dp 9 511 (.pointer none) [4,4] h (Dp 10 1023 (Ag ad (c+1)) [4,4] h (Dd (Ai (Qt (ZP (Ag ad (c+1)) (ZP (.bool false) (Ft (ZP (Ag ad (c+1)) (ZP (.bool false) (ZP (.bool false) (Zx (Zx (ZP (.bool false) (Fs (ZP (Ag ad (c+1)) (ZP (Ag ad (c+1)) (Qr (ZR [Ag ad (c+1)] [5,0,0,3,3,3,3] h ⟨rfl,rfl⟩)))))))))))))))))))))
theorem Ac7 (c:Nat) (hd:Zw ps gs l n g c) (p:Int):Au Tryz.prog 40 #[Pp b,Hg n g,Ii p] (Ra B ad b tb most dm pm ps gs vl vg T Sl Sg l ds pn) (fun u L=>u=Ag ad (c+1)∧L=(Ra B ad b tb most dm pm ps gs vl vg T Sl Sg l ds pn)):=by
 refine Zo 29 Tryz.func40 fun E w0 w h=>?_
 have h:=(h.eS [10] 6 rfl).eS [8] 7 rfl
 refine Qs (ZN [Ii n,Ii g] 34 h fun k1 w h=>ZP .nilIface (Qn (Aa (Ds 11 [0,2] h fun w h=>Dp 0 16 (Pp b) [0,2] h (Dp 1 17 (Pp b) [0,2] h (Dp 2 19 (Pp b) [0,2] h (Dq 3 23 [0,2] rfl h (Gl 0 (Pp tb) 1) (Dq 4 15 [0,2] rfl h (Gla 0 [Ii n,Ii g] 0) ?_))))))))
 refine Ad 5 [4,4,2,1] [4,4] (Jl ad b most tb dm pm ps gs vl vg T Sl Sg l ds pn hl hr n g c hd) h ?_
 rintro v_ L_ w ⟨rfl,rfl⟩ h
 refine ⟨by kernel_rfl,?_⟩
 exact Dp 6 63 (.tuple #[.pointer none,Ag ad (c+1)]) [4,4] h (Dp 7 383 (.pointer none) [4,4] h (Dp 8 767 (Ag ad (c+1)) [4,4] h (Dp 9 511 (.pointer none) [4,4] h (Dp 10 1023 (Ag ad (c+1)) [4,4] h (Dd (Ai (Qt (ZP (Ag ad (c+1)) (ZP (.bool false) (Ft (ZP (Ag ad (c+1)) (ZP (.bool false) (Fs (ZP (Ag ad (c+1)) (ZP (Ag ad (c+1)) (Qr (ZR [Ag ad (c+1)] [5,0,0,3,3,3,3] h ⟨rfl,rfl⟩)))))))))))))))))
theorem Acy (k nb:Nat) (kd si li ch un ug:Int) (q:DQ) (hlk:l[k]?=some (some (⟨nb,kd,si,li,ch,un,ug,some q⟩:ND))) (ha:Bk ps gs n g=some nb) (p:Int) (s:ByteArray) (hch:0≤ch∧ch≤1000000) (c:Nat) (hc:(Ck q.d p s).2=c+1):Au Tryz.prog 38 #[Pp b,Hg n g,Ii p,.string s] (Ra B ad b tb most dm pm ps gs vl vg T Sl Sg l ds pn) (fun u L=>∃ S0,u=Ag ad (c+1)∧L=(Ra B ad b tb most dm pm ps gs vl vg T Sl Sg (l.set k (some (⟨nb,kd,si,li,ch,un,ug,some ⟨q.db,(Ck q.d p s).1,S0⟩⟩:ND))) ds pn)):=by
 refine Zo 35 Tryz.func38 fun E w0 w h=>?_
 have h:=(h.eS [10] 6 rfl).eS [2] 7 rfl
 refine Qs (ZN [Ii n,Ii g] 34 h fun k1 w h=>ZP .nilIface (Qn (Aa (Ds 11 [0,2] h fun w h=>Dp 0 16 (Pp b) [0,2] h (Dp 1 17 (Pp b) [0,2] h (Dp 2 19 (Pp b) [0,2] h (Dq 3 23 [0,2] rfl h (Gl 0 (Pp tb) 1) (Dq 4 15 [0,2] rfl h (Gla 0 [Ii n,Ii g] 0) ?_))))))))
 refine Ad 5 [4,4,2] [3,4] (Es ad tb ps gs vl vg T Sl Sg l hl hr n g k nb kd si li ch un ug q hlk ha) h ?_
 rintro v_ L_ w ⟨rfl,rfl⟩ h
 refine ⟨by kernel_rfl,?_⟩
 refine Dp 6 63 (.tuple #[Pp q.db,.nilIface]) [3,4] h (Dp 7 383 (Pp q.db) [3,4] h (Dp 8 767 .nilIface [3,4] h (Dp 9 511 (Pp q.db) [3,4] h (Dp 10 1023 .nilIface [3,4] h (Dd (Ai (Qt (ZP .nilIface (ZP (.bool true) (Qg (Ah (ZP (Pp q.db) (ZP (Ii p) (ZP (.string s) ?_))))))))))))))
 have h:=(h.pkr [1]).ndOpen hlk
 refine ZD [1,5] (Kf ad q p s) h ?_;rintro v_ L_ w ⟨S0,rfl,rfl⟩ h
 rw [hc]
 have h:=(h.pkr [2,0,1]).ndClose (⟨nb,kd,si,li,ch,un,ug,some ⟨q.db,(Ck q.d p s).1,S0⟩⟩:ND)
 exact ZP (Ag ad (c+1)) (Qu (ZP (Ag ad (c+1)) (ZP (.bool false) (ZP (.bool false) (Zx (Zx (ZP (.bool false) (Fs (ZP (Ag ad (c+1)) (ZP (Ag ad (c+1)) (Qr (ZR [Ag ad (c+1)] [5,2,0,3,3,3,3] h ⟨S0,rfl,rfl⟩))))))))))))
theorem Ab1 (k nb:Nat) (kd si li ch un ug:Int) (q:DQ) (hlk:l[k]?=some (some (⟨nb,kd,si,li,ch,un,ug,some q⟩:ND))) (ha:Bk ps gs n g=some nb) (p:Int) (s:ByteArray) (hch:0≤ch∧ch≤1000000) (hc:(Ck q.d p s).2=0) (hs0:¬s=(⟨#[]⟩:ByteArray)):Au Tryz.prog 38 #[Pp b,Hg n g,Ii p,.string s] (Ra B ad b tb most dm pm ps gs vl vg T Sl Sg l ds pn) (fun u L=>∃ S0,u=.nilIface∧L=(Ra B ad b tb most dm pm ps gs vl vg T Sl Sg ((l.set k (some (⟨nb,kd,si,li,ch,un,ug,some ⟨q.db,(Ck q.d p s).1,S0⟩⟩:ND))).set k (some (Ae (⟨nb,kd,si,li,ch,un,ug,some ⟨q.db,(Ck q.d p s).1,S0⟩⟩:ND)))) ds pn)):=by
 refine Zo 35 Tryz.func38 fun E w0 w h=>?_
 have h:=(h.eS [10] 6 rfl).eS [2] 7 rfl
 refine Qs (ZN [Ii n,Ii g] 34 h fun k1 w h=>ZP .nilIface (Qn (Aa (Ds 11 [0,2] h fun w h=>Dp 0 16 (Pp b) [0,2] h (Dp 1 17 (Pp b) [0,2] h (Dp 2 19 (Pp b) [0,2] h (Dq 3 23 [0,2] rfl h (Gl 0 (Pp tb) 1) (Dq 4 15 [0,2] rfl h (Gla 0 [Ii n,Ii g] 0) ?_))))))))
 refine Ad 5 [4,4,2] [3,4] (Es ad tb ps gs vl vg T Sl Sg l hl hr n g k nb kd si li ch un ug q hlk ha) h ?_
 rintro v_ L_ w ⟨rfl,rfl⟩ h
 refine ⟨by kernel_rfl,?_⟩
 refine Dp 6 63 (.tuple #[Pp q.db,.nilIface]) [3,4] h (Dp 7 383 (Pp q.db) [3,4] h (Dp 8 767 .nilIface [3,4] h (Dp 9 511 (Pp q.db) [3,4] h (Dp 10 1023 .nilIface [3,4] h (Dd (Ai (Qt (ZP .nilIface (ZP (.bool true) (Qg (Ah (ZP (Pp q.db) (ZP (Ii p) (ZP (.string s) ?_))))))))))))))
 have h:=(h.pkr [1]).ndOpen hlk
 refine ZD [1,5] (Kf ad q p s) h ?_;rintro v_ L_ w ⟨S0,rfl,rfl⟩ h
 rw [hc]
 have h:=(h.pkr [2,0,1]).ndClose (⟨nb,kd,si,li,ch,un,ug,some ⟨q.db,(Ck q.d p s).1,S0⟩⟩:ND)
 refine ZP .nilIface (Qu (ZP .nilIface (ZP (.bool true) (ZP (.bool true) (ZP (.string s) ?_)))))
 obtain ⟨b2,hb2⟩:=nmB (!(decide (s=(⟨#[]⟩:ByteArray))))
 refine Kc (v:=.bool b2) (by kernel_rfl) h (by subst hb2;exact A4 (v:=.bool !(s.toList==(⟨#[]⟩:ByteArray).toList)) (v':=.bool (!(decide (s=(⟨#[]⟩:ByteArray))))) (Az fun _=>by kernel_rfl) Ag4) ?_
 refine ZP (.bool b2) (Qn (Zi (b2) (fun hc3=>?_) fun hc3=>?_))
 have q4:=hb2.symm.trans hc3
 have q5:(decide (s=(⟨#[]⟩:ByteArray)))=false:=by simpa using q4
 have q5:=dcF q5
 refine Ds 7 [4,4] h fun w h=>Dp 0 16 (Pp b) [4,4] h (Dp 1 17 (Pp b) [4,4] h (Dp 2 19 (Pp b) [4,4] h (Dq 3 23 [4,4] rfl h (Gl 0 (Pp tb) 1) (Dq 4 15 [4,4] rfl h (Gla 0 [Ii n,Ii g] 0) ?_))))
 refine Ad 5 [2,0,1] [4,4] (Bq ad tb ps gs vl vg T Sl Sg (l.set k (some (⟨nb,kd,si,li,ch,un,ug,some ⟨q.db,(Ck q.d p s).1,S0⟩⟩:ND))) hl hr n g k (⟨nb,kd,si,li,ch,un,ug,some ⟨q.db,(Ck q.d p s).1,S0⟩⟩:ND) (C0 (Cz hlk)) ha hch) h ?_
 rintro v_ L_ w ⟨rfl,rfl⟩ h
 refine ⟨by kernel_rfl,?_⟩
 exact Dp 6 63 .nilIface [4,4] h (Dd (Ai (Qs (ZP .nilIface (ZP .nilIface (Qr (ZR [.nilIface] [5,0,0,3,3,3,3] h ⟨S0,rfl,rfl⟩)))))))
 have q6:=hb2.symm.trans hc3
 have q7:(decide (s=(⟨#[]⟩:ByteArray)))=true:=by simpa using q6
 have q7:=dcT q7
 exfalso;first|omega|(simp only [List.length_map] at *;omega)|(revert hc3;subst hb2;simp;done)|(revert hc3;subst hb2;simp;omega)
theorem Abp (k nb:Nat) (kd si li ch un ug:Int) (q:DQ) (hlk:l[k]?=some (some (⟨nb,kd,si,li,ch,un,ug,some q⟩:ND))) (ha:Bk ps gs n g=some nb) (p:Int) (s:ByteArray) (hch:0≤ch∧ch≤1000000) (hc:(Ck q.d p s).2=0) (hs0:s=(⟨#[]⟩:ByteArray)):Au Tryz.prog 38 #[Pp b,Hg n g,Ii p,.string s] (Ra B ad b tb most dm pm ps gs vl vg T Sl Sg l ds pn) (fun u L=>∃ S0,u=.nilIface∧L=(Ra B ad b tb most dm pm ps gs vl vg T Sl Sg (l.set k (some (⟨nb,kd,si,li,ch,un,ug,some ⟨q.db,(Ck q.d p s).1,S0⟩⟩:ND))) ds pn)):=by
 refine Zo 35 Tryz.func38 fun E w0 w h=>?_
 have h:=(h.eS [10] 6 rfl).eS [2] 7 rfl
 refine Qs (ZN [Ii n,Ii g] 34 h fun k1 w h=>ZP .nilIface (Qn (Aa (Ds 11 [0,2] h fun w h=>Dp 0 16 (Pp b) [0,2] h (Dp 1 17 (Pp b) [0,2] h (Dp 2 19 (Pp b) [0,2] h (Dq 3 23 [0,2] rfl h (Gl 0 (Pp tb) 1) (Dq 4 15 [0,2] rfl h (Gla 0 [Ii n,Ii g] 0) ?_))))))))
 refine Ad 5 [4,4,2] [3,4] (Es ad tb ps gs vl vg T Sl Sg l hl hr n g k nb kd si li ch un ug q hlk ha) h ?_
 rintro v_ L_ w ⟨rfl,rfl⟩ h
 refine ⟨by kernel_rfl,?_⟩
 refine Dp 6 63 (.tuple #[Pp q.db,.nilIface]) [3,4] h (Dp 7 383 (Pp q.db) [3,4] h (Dp 8 767 .nilIface [3,4] h (Dp 9 511 (Pp q.db) [3,4] h (Dp 10 1023 .nilIface [3,4] h (Dd (Ai (Qt (ZP .nilIface (ZP (.bool true) (Qg (Ah (ZP (Pp q.db) (ZP (Ii p) (ZP (.string s) ?_))))))))))))))
 have h:=(h.pkr [1]).ndOpen hlk
 refine ZD [1,5] (Kf ad q p s) h ?_;rintro v_ L_ w ⟨S0,rfl,rfl⟩ h
 rw [hc]
 have h:=(h.pkr [2,0,1]).ndClose (⟨nb,kd,si,li,ch,un,ug,some ⟨q.db,(Ck q.d p s).1,S0⟩⟩:ND)
 refine ZP .nilIface (Qu (ZP .nilIface (ZP (.bool true) (ZP (.bool true) (ZP (.string s) ?_)))))
 obtain ⟨b2,hb2⟩:=nmB (!(decide (s=(⟨#[]⟩:ByteArray))))
 refine Kc (v:=.bool b2) (by kernel_rfl) h (by subst hb2;exact A4 (v:=.bool !(s.toList==(⟨#[]⟩:ByteArray).toList)) (v':=.bool (!(decide (s=(⟨#[]⟩:ByteArray))))) (Az fun _=>by kernel_rfl) Ag4) ?_
 refine ZP (.bool b2) (Qn (Zi (b2) (fun hc3=>?_) fun hc3=>?_))
 have q4:=hb2.symm.trans hc3
 have q5:(decide (s=(⟨#[]⟩:ByteArray)))=false:=by simpa using q4
 have q5:=dcF q5
 exfalso;first|omega|(simp only [List.length_map] at *;omega)|(revert hc3;subst hb2;simp;done)|(revert hc3;subst hb2;simp;omega)
 have q6:=hb2.symm.trans hc3
 have q7:(decide (s=(⟨#[]⟩:ByteArray)))=true:=by simpa using q6
 have q7:=dcT q7
 exact Ks (ZP .nilIface (ZP .nilIface (Qr (ZR [.nilIface] [5,2,0,3,3,3,3] h ⟨S0,rfl,rfl⟩))))
theorem Abu (k nb:Nat) (kd si li ch un ug:Int) (q:DQ) (hlk:l[k]?=some (some (⟨nb,kd,si,li,ch,un,ug,some q⟩:ND))) (ha:Bk ps gs n g=some nb) (p:Int) (hch:0≤ch∧ch≤1000000) (c:Nat) (hc:(B2 q.d p).2=c+1):Au Tryz.prog 40 #[Pp b,Hg n g,Ii p] (Ra B ad b tb most dm pm ps gs vl vg T Sl Sg l ds pn) (fun u L=>∃ S0,u=Ag ad (c+1)∧L=(Ra B ad b tb most dm pm ps gs vl vg T Sl Sg (l.set k (some (⟨nb,kd,si,li,ch,un,ug,some ⟨q.db,(B2 q.d p).1,S0⟩⟩:ND))) ds pn)):=by
 refine Zo 29 Tryz.func40 fun E w0 w h=>?_
 have h:=(h.eS [10] 6 rfl).eS [2] 7 rfl
 refine Qs (ZN [Ii n,Ii g] 34 h fun k1 w h=>ZP .nilIface (Qn (Aa (Ds 11 [0,2] h fun w h=>Dp 0 16 (Pp b) [0,2] h (Dp 1 17 (Pp b) [0,2] h (Dp 2 19 (Pp b) [0,2] h (Dq 3 23 [0,2] rfl h (Gl 0 (Pp tb) 1) (Dq 4 15 [0,2] rfl h (Gla 0 [Ii n,Ii g] 0) ?_))))))))
 refine Ad 5 [4,4,2] [3,4] (Es ad tb ps gs vl vg T Sl Sg l hl hr n g k nb kd si li ch un ug q hlk ha) h ?_
 rintro v_ L_ w ⟨rfl,rfl⟩ h
 refine ⟨by kernel_rfl,?_⟩
 refine Dp 6 63 (.tuple #[Pp q.db,.nilIface]) [3,4] h (Dp 7 383 (Pp q.db) [3,4] h (Dp 8 767 .nilIface [3,4] h (Dp 9 511 (Pp q.db) [3,4] h (Dp 10 1023 .nilIface [3,4] h (Dd (Ai (Qt (ZP .nilIface (ZP (.bool true) (Qg (Ah (ZP (Pp q.db) (ZP (Ii p) ?_)))))))))))))
 have h:=(h.pkr [1]).ndOpen hlk
 refine ZD [1,5] (Mz ad q p) h ?_;rintro v_ L_ w ⟨S0,rfl,rfl⟩ h
 rw [hc]
 have h:=(h.pkr [2,0,1]).ndClose (⟨nb,kd,si,li,ch,un,ug,some ⟨q.db,(B2 q.d p).1,S0⟩⟩:ND)
 exact ZP (Ag ad (c+1)) (Qu (ZP (Ag ad (c+1)) (ZP (.bool false) (Fs (ZP (Ag ad (c+1)) (ZP (Ag ad (c+1)) (Qr (ZR [Ag ad (c+1)] [5,2,0,3,3,3,3] h ⟨S0,rfl,rfl⟩))))))))
theorem Ac1 (k nb:Nat) (kd si li ch un ug:Int) (q:DQ) (hlk:l[k]?=some (some (⟨nb,kd,si,li,ch,un,ug,some q⟩:ND))) (ha:Bk ps gs n g=some nb) (p:Int) (hch:0≤ch∧ch≤1000000) (hc:(B2 q.d p).2=0):Au Tryz.prog 40 #[Pp b,Hg n g,Ii p] (Ra B ad b tb most dm pm ps gs vl vg T Sl Sg l ds pn) (fun u L=>∃ S0,u=.nilIface∧L=(Ra B ad b tb most dm pm ps gs vl vg T Sl Sg ((l.set k (some (⟨nb,kd,si,li,ch,un,ug,some ⟨q.db,(B2 q.d p).1,S0⟩⟩:ND))).set k (some (Ae (⟨nb,kd,si,li,ch,un,ug,some ⟨q.db,(B2 q.d p).1,S0⟩⟩:ND)))) ds pn)):=by
 refine Zo 29 Tryz.func40 fun E w0 w h=>?_
 have h:=(h.eS [10] 6 rfl).eS [2] 7 rfl
 refine Qs (ZN [Ii n,Ii g] 34 h fun k1 w h=>ZP .nilIface (Qn (Aa (Ds 11 [0,2] h fun w h=>Dp 0 16 (Pp b) [0,2] h (Dp 1 17 (Pp b) [0,2] h (Dp 2 19 (Pp b) [0,2] h (Dq 3 23 [0,2] rfl h (Gl 0 (Pp tb) 1) (Dq 4 15 [0,2] rfl h (Gla 0 [Ii n,Ii g] 0) ?_))))))))
 refine Ad 5 [4,4,2] [3,4] (Es ad tb ps gs vl vg T Sl Sg l hl hr n g k nb kd si li ch un ug q hlk ha) h ?_
 rintro v_ L_ w ⟨rfl,rfl⟩ h
 refine ⟨by kernel_rfl,?_⟩
 refine Dp 6 63 (.tuple #[Pp q.db,.nilIface]) [3,4] h (Dp 7 383 (Pp q.db) [3,4] h (Dp 8 767 .nilIface [3,4] h (Dp 9 511 (Pp q.db) [3,4] h (Dp 10 1023 .nilIface [3,4] h (Dd (Ai (Qt (ZP .nilIface (ZP (.bool true) (Qg (Ah (ZP (Pp q.db) (ZP (Ii p) ?_)))))))))))))
 have h:=(h.pkr [1]).ndOpen hlk
 refine ZD [1,5] (Mz ad q p) h ?_;rintro v_ L_ w ⟨S0,rfl,rfl⟩ h
 rw [hc]
 have h:=(h.pkr [2,0,1]).ndClose (⟨nb,kd,si,li,ch,un,ug,some ⟨q.db,(B2 q.d p).1,S0⟩⟩:ND)
 refine ZP .nilIface (Qu (ZP .nilIface (ZP (.bool true) (Qg (Ds 7 [4,4] h fun w h=>Dp 0 16 (Pp b) [4,4] h (Dp 1 17 (Pp b) [4,4] h (Dp 2 19 (Pp b) [4,4] h (Dq 3 23 [4,4] rfl h (Gl 0 (Pp tb) 1) (Dq 4 15 [4,4] rfl h (Gla 0 [Ii n,Ii g] 0) ?_)))))))))
 refine Ad 5 [2,0,1] [4,4] (Bq ad tb ps gs vl vg T Sl Sg (l.set k (some (⟨nb,kd,si,li,ch,un,ug,some ⟨q.db,(B2 q.d p).1,S0⟩⟩:ND))) hl hr n g k (⟨nb,kd,si,li,ch,un,ug,some ⟨q.db,(B2 q.d p).1,S0⟩⟩:ND) (C0 (Cz hlk)) ha hch) h ?_
 rintro v_ L_ w ⟨rfl,rfl⟩ h
 refine ⟨by kernel_rfl,?_⟩
 exact Dp 6 63 .nilIface [4,4] h (Dd (Ai (Qs (ZP .nilIface (ZP .nilIface (Qr (ZR [.nilIface] [5,0,0,3,3,3,3] h ⟨S0,rfl,rfl⟩)))))))
end
theorem O3 {α β:Type} [DecidableEq α] (k:α) (u v:β):∀ kv:List (α×β),Ay (Ay kv k u) k v=Ay kv k v
  | []=>by simp [Ay]
  | (a,b)::r=>by
    by_cases c:k=a
    · subst c;simp [Ay]
    · simp [Ay,c,O3 k u v r]
theorem Fw {α β:Type} [DecidableEq α] (k:α) (v:β):∀ kv:List (α×β),Af (Ay kv k v) k=some v
  | []=>by simp [Ay,Af]
  | (a,b)::r=>by
    by_cases c:k=a
    · subst c;simp [Ay,Af]
    · simp [Ay,Af,c,Fw k v r]
theorem Uy {α β:Type} [DecidableEq α] (k:α) (v:β):∀ kv:List (α×β),(kv.map (·.1)).Nodup→Ak (Ay kv k v) k=Ak kv k
  | [],_=>by simp [Ay,Ak]
  | (a,b)::r,hn=>by
    rw [List.map_cons,List.nodup_cons] at hn
    by_cases c:k=a
    · subst c;simp [Ay,Ak]
    · simp [Ay,Ak,c,Uy k v r hn.2]
theorem Pa {α β:Type} [DecidableEq α] (k:α):∀ kv:List (α×β),(kv.map (·.1)).Nodup→Af (Ak kv k) k=none
  | [],_=>rfl
  | q::r,hn=>by
    rw [List.map_cons,List.nodup_cons] at hn
    unfold Ak
    by_cases c:k=q.1
    · rw [if_pos c]
      exact Ac6 fun v hv=>hn.1 (by rw [← c];exact List.mem_map.2 ⟨(k,v),hv,rfl⟩)
    · rw [if_neg c];unfold Af;rw [if_neg c];exact Pa k r hn.2
theorem N7 (h:Int×Int) (u:Value) (v:Int) (pn:List ((Int×Int)×Int)):Ay (Ay (pn.map Cw) h u) h (Ii v)=(Ay pn h v).map Cw:=by rw [O3,Abf]
theorem Mw (h:Int×Int) (u v:Value) (pn:List ((Int×Int)×Int)) (hn:(pn.map (·.1)).Nodup):Ak (Ay (Ay (pn.map Cw) h u) h v) h=(Ak pn h).map Cw:=by
  rw [O3,Uy _ _ _ (by rw [List.map_map];exact hn),Ad9]
section
variable {B:Nat} (ad:Nat→Addr) (b most tb dm pm:Nat) (ps:List (Option Nat)) (gs:List Int) (vl vg:Value) (T:TypeId) (Sl Sg:Nat→Prop) (l:List (Option ND)) (ds:List DN) (pn:List ((Int×Int)×Int)) (hl:ps.length=gs.length) (hr:∀ x∈gs,0≤x∧x≤1000000) (k nb:Nat) (g:Int) (kd si li ch un ug:Int) (q:DQ) (hlk:l[k]?=some (some (⟨nb,kd,si,li,ch,un,ug,some q⟩:ND))) (ha:Bk ps gs (k:Int) g=some nb)
include B ad b most tb dm pm ps gs vl vg T Sl Sg l ds pn hl hr k nb g kd si li ch un ug q hlk ha
theorem Aet (hpv:0≤(Af pn ((k:Int),g)).getD 0∧(Af pn ((k:Int),g)).getD 0≤1000000):Au Tryz.prog 42 #[Pp b,Hg k g] (Ra B ad b tb most dm pm ps gs vl vg T Sl Sg l ds pn) (fun u L=>u=.nilIface∧L=(Ra B ad b tb most dm pm ps gs vl vg T Sl Sg l ds (Ay pn ((k:Int),g) ((Af pn ((k:Int),g)).getD 0+1)))):=by
 refine Zo 26 Tryz.func42 fun E w0 w h=>?_
 have h:=h.eS [10] 6 rfl
 refine Qs (ZN [Ii k,Ii g] 34 h fun k1 w h=>ZP .nilIface (Qn (Aa (Aa (Ds 11 [0,1] h fun w h=>Dp 0 16 (Pp b) [0,1] h (Dp 1 17 (Pp b) [0,1] h (Dp 2 19 (Pp b) [0,1] h (Dq 3 23 [0,1] rfl h (Gl 0 (Pp tb) 1) (Dq 4 15 [0,1] rfl h (Gla 0 [Ii k,Ii g] 0) ?_)))))))))
 refine Ad 5 [3,3,1] [3,3] (Es ad tb ps gs vl vg T Sl Sg l hl hr (k:Int) g k nb kd si li ch un ug q hlk ha) h ?_
 rintro v_ L_ w ⟨rfl,rfl⟩ h
 refine ⟨by kernel_rfl,?_⟩
 refine Dp 6 63 (.tuple #[Pp q.db,.nilIface]) [3,3] h (Dp 7 383 (Pp q.db) [3,3] h (Dp 8 767 .nilIface [3,3] h (Dp 9 511 (Pp q.db) [3,3] h (Dp 10 1023 .nilIface [3,3] h (Dd (Ai (Qs (ZP .nilIface (ZP (.bool false) (Qf (Kn (Aa (Ds 10 [3,3] h fun w h=>Dp 0 16 (Pp b) [3,3] h (Dp 1 17 (Pp b) [3,3] h (Dp 2 19 (Pt b 5) [3,3] h (Dq 3 23 [3,3] rfl h (Gl 5 (.map (some pm)) 1) (Dq 4 15 [3,3] rfl h (Gla 0 [Ii k,Ii g] 0) ?_)))))))))))))))))
 refine A1 [5,7] (by kernel_rfl) rfl ?_
 refine O0 [3,3] rfl (by kernel_rfl) (v:=Ii ((Af pn ((k:Int),g)).getD 0)) (A4 (v':=Ii ((Af pn ((k:Int),g)).getD 0)) (H7 (K:=34) (E:=3) (z:=(Ii 0)) (kv:=(pn.map Cw)) (ok:=false) Dk ((k:Int),g) (by kernel_rfl) (fun _=>by kernel_rfl) 7 rfl) (by rw [Fu];cases Af pn ((k:Int),g)<;>rfl)) h (by kernel_rfl) ?_ ?_
 refine Dq 6 447 [3,3] rfl h (Gw (((Af pn ((k:Int),g)).getD 0)+1)) ?_
 refine A1 [7] (by kernel_rfl) rfl ?_
 refine Is [3,3] rfl (by kernel_rfl) (K:=34) (E:=3) (z:=(Ii 0)) Dk ((k:Int),g) (by kernel_rfl) (fun _=>by kernel_rfl) h 7 rfl ?_ ?_
 intro st2 w h;refine ⟨by kernel_rfl,?_⟩
 refine Dp 8 255 (Ii ((st2:Nat):Int)) [3,3] h ?_
 refine A1 [9] (by kernel_rfl) rfl ?_
 refine It [3,3] rfl (by kernel_rfl) (P:=Tryz.prog) (K:=34) Dk (Ii (((Af pn ((k:Int),g)).getD 0)+1)) (by kernel_rfl) h 7 rfl ?_ ?_
 intro w h;refine ⟨by kernel_rfl,?_⟩
 refine Dd (Ai (Qs (ZP .nilIface (Qr ?_))))
 rw [N7] at h
 exact ZR [.nilIface] [4,0,0,2,2,2,2] h ⟨rfl,rfl⟩
 exact Ba
 exact Ba
 refine Is [3,3] rfl (by kernel_rfl) (K:=34) (E:=3) (z:=(Ii 0)) Dk ((k:Int),g) (by kernel_rfl) (fun _=>by kernel_rfl) h 7 rfl ?_ ?_
 intro st3 w h;refine ⟨by kernel_rfl,?_⟩
 refine Dp 8 255 (Ii ((st3:Nat):Int)) [3,3] h (Aq (v:=Ii ((Af pn ((k:Int),g)).getD 0)) 5 [3,3] rfl h (A4 (v':=Ii ((Af pn ((k:Int),g)).getD 0)) (Oc (K:=34) (E:=3) (z:=(Ii 0)) (kv:=(Ay (pn.map Cw) ((k:Int),g) ((Af (pn.map Cw) ((k:Int),g)).getD (Ii 0)))) (ok:=false) Dk ((k:Int),g) (by kernel_rfl) (fun _=>by kernel_rfl) 7 rfl) (by rw [Fw];show (Af (pn.map Cw) ((k:Int),g)).getD _=_;rw [Fu];cases Af pn ((k:Int),g)<;>rfl)) (Dq 6 447 [3,3] rfl h (Gw (((Af pn ((k:Int),g)).getD 0)+1)) ?_))
 refine A1 [9] (by kernel_rfl) rfl ?_
 refine It [3,3] rfl (by kernel_rfl) (P:=Tryz.prog) (K:=34) Dk (Ii (((Af pn ((k:Int),g)).getD 0)+1)) (by kernel_rfl) h 7 rfl ?_ ?_
 intro w h;refine ⟨by kernel_rfl,?_⟩
 refine Dd (Ai (Qs (ZP .nilIface (Qr ?_))))
 rw [N7] at h
 exact ZR [.nilIface] [4,0,0,2,2,2,2] h ⟨rfl,rfl⟩
 exact Ba
 exact Ba
theorem Ach (hpv:(Af pn ((k:Int),g)).getD 0=0):Au Tryz.prog 44 #[Pp b,Hg k g] (Ra B ad b tb most dm pm ps gs vl vg T Sl Sg l ds pn) (fun u L=>u=Ag ad 5∧L=(Ra B ad b tb most dm pm ps gs vl vg T Sl Sg l ds pn)):=by
 refine Zo 49 Tryz.func44 fun E w0 w h=>?_
 have h:=(h.eS [10] 6 rfl).eS [5] 7 rfl
 refine Qs (ZN [Ii k,Ii g] 34 h fun k1 w h=>ZP .nilIface (Qn (Aa (Aa (Ds 11 [0,2] h fun w h=>Dp 0 16 (Pp b) [0,2] h (Dp 1 17 (Pp b) [0,2] h (Dp 2 19 (Pp b) [0,2] h (Dq 3 23 [0,2] rfl h (Gl 0 (Pp tb) 1) (Dq 4 15 [0,2] rfl h (Gla 0 [Ii k,Ii g] 0) ?_)))))))))
 refine Ad 5 [4,4,2] [3,4] (Es ad tb ps gs vl vg T Sl Sg l hl hr (k:Int) g k nb kd si li ch un ug q hlk ha) h ?_
 rintro v_ L_ w ⟨rfl,rfl⟩ h
 refine ⟨by kernel_rfl,?_⟩
 refine Dp 6 63 (.tuple #[Pp q.db,.nilIface]) [3,4] h (Dp 7 383 (Pp q.db) [3,4] h (Dp 8 767 .nilIface [3,4] h (Dp 9 511 (Pp q.db) [3,4] h (Dp 10 1023 .nilIface [3,4] h (Dd (Ai (Qs (ZP .nilIface (ZP (.bool false) (Qf (Kn (Aa (Aa (Ds 7 [3,4,6] h fun w h=>Dp 0 16 (Pp b) [3,4,6] h (Dp 1 17 (Pp b) [3,4,6] h (Dp 2 19 (Pt b 5) [3,4,6] h (Dq 3 23 [3,4,6] rfl h (Gl 5 (.map (some pm)) 1) (Dq 4 15 [3,4,6] rfl h (Gla 0 [Ii k,Ii g] 0) (Dq 5 31 [3,4,6] rfl h (A4 (v':=Ii ((Af pn ((k:Int),g)).getD 0)) (Gkp (kv:=pn.map Cw) false ((k:Int),g) 2 rfl) (by rw [Fu];cases Af pn ((k:Int),g)<;>rfl)) (Dp 6 63 (.bool (decide ((Af pn ((k:Int),g)).getD 0=0))) [3,4,6] h (Dd (Ai (Zd ((Af pn ((k:Int),g)).getD 0=0) (fun hc2=>?_) fun hc2=>?_)))))))))))))))))))))))
 exact Qs (ZG h (Gr 0 (Ag ad 5) 4 rfl (Ff (c:=5) (by decide) rfl)) (ZP (Ag ad 5) (Qr (Ar (ZR [Ag ad 5] [5,0,0,3,3,3,3] h ⟨rfl,rfl⟩)))))
 exfalso;first|omega|(simp only [List.length_map] at *;omega)|(revert hc2;simp;done)|(revert hc2;simp;omega)
theorem Aef (hpv:0≤(Af pn ((k:Int),g)).getD 0∧(Af pn ((k:Int),g)).getD 0≤1000000) (hp1:1<(Af pn ((k:Int),g)).getD 0):Au Tryz.prog 44 #[Pp b,Hg k g] (Ra B ad b tb most dm pm ps gs vl vg T Sl Sg l ds pn) (fun u L=>u=.nilIface∧L=(Ra B ad b tb most dm pm ps gs vl vg T Sl Sg l ds (Ay pn ((k:Int),g) ((Af pn ((k:Int),g)).getD 0 - 1)))):=by
 refine Zo 49 Tryz.func44 fun E w0 w h=>?_
 have h:=h.eS [10] 6 rfl
 refine Qs (ZN [Ii k,Ii g] 34 h fun k1 w h=>ZP .nilIface (Qn (Aa (Aa (Ds 11 [0,1] h fun w h=>Dp 0 16 (Pp b) [0,1] h (Dp 1 17 (Pp b) [0,1] h (Dp 2 19 (Pp b) [0,1] h (Dq 3 23 [0,1] rfl h (Gl 0 (Pp tb) 1) (Dq 4 15 [0,1] rfl h (Gla 0 [Ii k,Ii g] 0) ?_)))))))))
 refine Ad 5 [3,3,1] [3,3] (Es ad tb ps gs vl vg T Sl Sg l hl hr (k:Int) g k nb kd si li ch un ug q hlk ha) h ?_
 rintro v_ L_ w ⟨rfl,rfl⟩ h
 refine ⟨by kernel_rfl,?_⟩
 refine Dp 6 63 (.tuple #[Pp q.db,.nilIface]) [3,3] h (Dp 7 383 (Pp q.db) [3,3] h (Dp 8 767 .nilIface [3,3] h (Dp 9 511 (Pp q.db) [3,3] h (Dp 10 1023 .nilIface [3,3] h (Dd (Ai (Qs (ZP .nilIface (ZP (.bool false) (Qf (Kn (Aa (Aa (Ds 7 [3,3,5] h fun w h=>Dp 0 16 (Pp b) [3,3,5] h (Dp 1 17 (Pp b) [3,3,5] h (Dp 2 19 (Pt b 5) [3,3,5] h (Dq 3 23 [3,3,5] rfl h (Gl 5 (.map (some pm)) 1) (Dq 4 15 [3,3,5] rfl h (Gla 0 [Ii k,Ii g] 0) (Dq 5 31 [3,3,5] rfl h (A4 (v':=Ii ((Af pn ((k:Int),g)).getD 0)) (Gkp (kv:=pn.map Cw) false ((k:Int),g) 2 rfl) (by rw [Fu];cases Af pn ((k:Int),g)<;>rfl)) (Dp 6 63 (.bool (decide ((Af pn ((k:Int),g)).getD 0=0))) [3,3,5] h (Dd (Ai (Zd ((Af pn ((k:Int),g)).getD 0=0) (fun hc2=>?_) fun hc2=>?_)))))))))))))))))))))))
 exfalso;first|omega|(simp only [List.length_map] at *;omega)|(revert hc2;simp;done)|(revert hc2;simp;omega)
 refine Kn (Aa (Aa (Ds 10 [3,3] h fun w h=>Dp 0 16 (Pp b) [3,3] h (Dp 1 17 (Pp b) [3,3] h (Dp 2 19 (Pt b 5) [3,3] h (Dq 3 23 [3,3] rfl h (Gl 5 (.map (some pm)) 1) (Dq 4 15 [3,3] rfl h (Gla 0 [Ii k,Ii g] 0) ?_)))))))
 refine A1 [5,7] (by kernel_rfl) rfl ?_
 refine O0 [3,3] rfl (by kernel_rfl) (v:=Ii ((Af pn ((k:Int),g)).getD 0)) (A4 (v':=Ii ((Af pn ((k:Int),g)).getD 0)) (H7 (K:=34) (E:=3) (z:=(Ii 0)) (kv:=(pn.map Cw)) (ok:=false) Dk ((k:Int),g) (by kernel_rfl) (fun _=>by kernel_rfl) 7 rfl) (by rw [Fu];cases Af pn ((k:Int),g)<;>rfl)) h (by kernel_rfl) ?_ ?_
 refine Dq 6 447 [3,3] rfl h (Gw (((Af pn ((k:Int),g)).getD 0) - 1)) ?_
 refine A1 [7] (by kernel_rfl) rfl ?_
 refine Is [3,3] rfl (by kernel_rfl) (K:=34) (E:=3) (z:=(Ii 0)) Dk ((k:Int),g) (by kernel_rfl) (fun _=>by kernel_rfl) h 7 rfl ?_ ?_
 intro st3 w h;refine ⟨by kernel_rfl,?_⟩
 refine Dp 8 255 (Ii ((st3:Nat):Int)) [3,3] h ?_
 refine A1 [9] (by kernel_rfl) rfl ?_
 refine It [3,3] rfl (by kernel_rfl) (P:=Tryz.prog) (K:=34) Dk (Ii (((Af pn ((k:Int),g)).getD 0) - 1)) (by kernel_rfl) h 7 rfl ?_ ?_
 intro w h;refine ⟨by kernel_rfl,?_⟩
 refine Dd (Ai (Aa (Ds 7 [3,3,5] h fun w h=>Dp 0 16 (Pp b) [3,3,5] h (Dp 1 17 (Pp b) [3,3,5] h (Dp 2 19 (Pt b 5) [3,3,5] h (Dq 3 23 [3,3,5] rfl h (Gl 5 (.map (some pm)) 1) (Dq 4 15 [3,3,5] rfl h (Gla 0 [Ii k,Ii g] 0) (Dq 5 31 [3,3,5] rfl h (A4 (v':=Ii ((Af pn ((k:Int),g)).getD 0 - 1)) (Gkp (kv:=Ay (Ay (pn.map Cw) ((k:Int),g) ((Af (pn.map Cw) ((k:Int),g)).getD (Ii 0))) ((k:Int),g) (Ii (((Af pn ((k:Int),g)).getD 0) - 1))) false ((k:Int),g) 2 rfl) (by rw [Fw];rfl)) (Dp 6 63 (.bool (decide ((Af pn ((k:Int),g)).getD 0 - 1=0))) [3,3,5] h (Dd (Ai (Zd ((Af pn ((k:Int),g)).getD 0 - 1=0) (fun hc4=>?_) fun hc4=>?_))))))))))))
 exfalso;first|omega|(simp only [List.length_map] at *;omega)|(revert hc4;simp;done)|(revert hc4;simp;omega)
 refine Ks (ZP .nilIface (Qr ?_))
 rw [N7] at h
 exact ZR [.nilIface] [4,0,0,2,2,2,2] h ⟨rfl,rfl⟩
 exact Ba
 exact Ba
 refine Is [3,3] rfl (by kernel_rfl) (K:=34) (E:=3) (z:=(Ii 0)) Dk ((k:Int),g) (by kernel_rfl) (fun _=>by kernel_rfl) h 7 rfl ?_ ?_
 intro st5 w h;refine ⟨by kernel_rfl,?_⟩
 refine Dp 8 255 (Ii ((st5:Nat):Int)) [3,3] h (Aq (v:=Ii ((Af pn ((k:Int),g)).getD 0)) 5 [3,3] rfl h (A4 (v':=Ii ((Af pn ((k:Int),g)).getD 0)) (Oc (K:=34) (E:=3) (z:=(Ii 0)) (kv:=(Ay (pn.map Cw) ((k:Int),g) ((Af (pn.map Cw) ((k:Int),g)).getD (Ii 0)))) (ok:=false) Dk ((k:Int),g) (by kernel_rfl) (fun _=>by kernel_rfl) 7 rfl) (by rw [Fw];show (Af (pn.map Cw) ((k:Int),g)).getD _=_;rw [Fu];cases Af pn ((k:Int),g)<;>rfl)) (Dq 6 447 [3,3] rfl h (Gw (((Af pn ((k:Int),g)).getD 0) - 1)) ?_))
 refine A1 [9] (by kernel_rfl) rfl ?_
 refine It [3,3] rfl (by kernel_rfl) (P:=Tryz.prog) (K:=34) Dk (Ii (((Af pn ((k:Int),g)).getD 0) - 1)) (by kernel_rfl) h 7 rfl ?_ ?_
 intro w h;refine ⟨by kernel_rfl,?_⟩
 refine Dd (Ai (Aa (Ds 7 [3,3,5] h fun w h=>Dp 0 16 (Pp b) [3,3,5] h (Dp 1 17 (Pp b) [3,3,5] h (Dp 2 19 (Pt b 5) [3,3,5] h (Dq 3 23 [3,3,5] rfl h (Gl 5 (.map (some pm)) 1) (Dq 4 15 [3,3,5] rfl h (Gla 0 [Ii k,Ii g] 0) (Dq 5 31 [3,3,5] rfl h (A4 (v':=Ii ((Af pn ((k:Int),g)).getD 0 - 1)) (Gkp (kv:=Ay (Ay (pn.map Cw) ((k:Int),g) ((Af (pn.map Cw) ((k:Int),g)).getD (Ii 0))) ((k:Int),g) (Ii (((Af pn ((k:Int),g)).getD 0) - 1))) false ((k:Int),g) 2 rfl) (by rw [Fw];rfl)) (Dp 6 63 (.bool (decide ((Af pn ((k:Int),g)).getD 0 - 1=0))) [3,3,5] h (Dd (Ai (Zd ((Af pn ((k:Int),g)).getD 0 - 1=0) (fun hc6=>?_) fun hc6=>?_))))))))))))
 exfalso;first|omega|(simp only [List.length_map] at *;omega)|(revert hc6;simp;done)|(revert hc6;simp;omega)
 refine Ks (ZP .nilIface (Qr ?_))
 rw [N7] at h
 exact ZR [.nilIface] [4,0,0,2,2,2,2] h ⟨rfl,rfl⟩
 exact Ba
 exact Ba
theorem Abd (hpv:(Af pn ((k:Int),g)).getD 0=1) (hpk:(pn.map (·.1)).Nodup) (hkp:k<ps.length) (h0:li=0):Au Tryz.prog 44 #[Pp b,Hg k g] (Ra B ad b tb most dm pm ps gs vl vg T Sl Sg l ds pn) (fun u L=>u=.nilIface∧L=(Ra B ad b tb most dm pm (ps.set k none) gs vl vg T Sl Sg (l.set k none) ds (Ak pn ((k:Int),g)))):=by
 refine Zo 49 Tryz.func44 fun E w0 w h=>?_
 have h:=h.eS [10] 6 rfl
 refine Qs (ZN [Ii k,Ii g] 34 h fun k1 w h=>ZP .nilIface (Qn (Aa (Aa (Ds 11 [0,1] h fun w h=>Dp 0 16 (Pp b) [0,1] h (Dp 1 17 (Pp b) [0,1] h (Dp 2 19 (Pp b) [0,1] h (Dq 3 23 [0,1] rfl h (Gl 0 (Pp tb) 1) (Dq 4 15 [0,1] rfl h (Gla 0 [Ii k,Ii g] 0) ?_)))))))))
 refine Ad 5 [3,3,1] [3,3] (Es ad tb ps gs vl vg T Sl Sg l hl hr (k:Int) g k nb kd si li ch un ug q hlk ha) h ?_
 rintro v_ L_ w ⟨rfl,rfl⟩ h
 refine ⟨by kernel_rfl,?_⟩
 refine Dp 6 63 (.tuple #[Pp q.db,.nilIface]) [3,3] h (Dp 7 383 (Pp q.db) [3,3] h (Dp 8 767 .nilIface [3,3] h (Dp 9 511 (Pp q.db) [3,3] h (Dp 10 1023 .nilIface [3,3] h (Dd (Ai (Qs (ZP .nilIface (ZP (.bool false) (Qf (Kn (Aa (Aa (Ds 7 [3,3,5] h fun w h=>Dp 0 16 (Pp b) [3,3,5] h (Dp 1 17 (Pp b) [3,3,5] h (Dp 2 19 (Pt b 5) [3,3,5] h (Dq 3 23 [3,3,5] rfl h (Gl 5 (.map (some pm)) 1) (Dq 4 15 [3,3,5] rfl h (Gla 0 [Ii k,Ii g] 0) (Dq 5 31 [3,3,5] rfl h (A4 (v':=Ii ((Af pn ((k:Int),g)).getD 0)) (Gkp (kv:=pn.map Cw) false ((k:Int),g) 2 rfl) (by rw [Fu];cases Af pn ((k:Int),g)<;>rfl)) (Dp 6 63 (.bool (decide ((Af pn ((k:Int),g)).getD 0=0))) [3,3,5] h (Dd (Ai (Zd ((Af pn ((k:Int),g)).getD 0=0) (fun hc2=>?_) fun hc2=>?_)))))))))))))))))))))))
 exfalso;first|omega|(simp only [List.length_map] at *;omega)|(revert hc2;simp;done)|(revert hc2;simp;omega)
 refine Kn (Aa (Aa (Ds 10 [3,3] h fun w h=>Dp 0 16 (Pp b) [3,3] h (Dp 1 17 (Pp b) [3,3] h (Dp 2 19 (Pt b 5) [3,3] h (Dq 3 23 [3,3] rfl h (Gl 5 (.map (some pm)) 1) (Dq 4 15 [3,3] rfl h (Gla 0 [Ii k,Ii g] 0) ?_)))))))
 refine A1 [5,7] (by kernel_rfl) rfl ?_
 refine O0 [3,3] rfl (by kernel_rfl) (v:=Ii ((Af pn ((k:Int),g)).getD 0)) (A4 (v':=Ii ((Af pn ((k:Int),g)).getD 0)) (H7 (K:=34) (E:=3) (z:=(Ii 0)) (kv:=(pn.map Cw)) (ok:=false) Dk ((k:Int),g) (by kernel_rfl) (fun _=>by kernel_rfl) 7 rfl) (by rw [Fu];cases Af pn ((k:Int),g)<;>rfl)) h (by kernel_rfl) ?_ ?_
 refine Dq 6 447 [3,3] rfl h (Gw (((Af pn ((k:Int),g)).getD 0) - 1)) ?_
 refine A1 [7] (by kernel_rfl) rfl ?_
 refine Is [3,3] rfl (by kernel_rfl) (K:=34) (E:=3) (z:=(Ii 0)) Dk ((k:Int),g) (by kernel_rfl) (fun _=>by kernel_rfl) h 7 rfl ?_ ?_
 intro st3 w h;refine ⟨by kernel_rfl,?_⟩
 refine Dp 8 255 (Ii ((st3:Nat):Int)) [3,3] h ?_
 refine A1 [9] (by kernel_rfl) rfl ?_
 refine It [3,3] rfl (by kernel_rfl) (P:=Tryz.prog) (K:=34) Dk (Ii (((Af pn ((k:Int),g)).getD 0) - 1)) (by kernel_rfl) h 7 rfl ?_ ?_
 intro w h;refine ⟨by kernel_rfl,?_⟩
 refine Dd (Ai (Aa (Ds 7 [3,3,5] h fun w h=>Dp 0 16 (Pp b) [3,3,5] h (Dp 1 17 (Pp b) [3,3,5] h (Dp 2 19 (Pt b 5) [3,3,5] h (Dq 3 23 [3,3,5] rfl h (Gl 5 (.map (some pm)) 1) (Dq 4 15 [3,3,5] rfl h (Gla 0 [Ii k,Ii g] 0) (Dq 5 31 [3,3,5] rfl h (A4 (v':=Ii ((Af pn ((k:Int),g)).getD 0 - 1)) (Gkp (kv:=Ay (Ay (pn.map Cw) ((k:Int),g) ((Af (pn.map Cw) ((k:Int),g)).getD (Ii 0))) ((k:Int),g) (Ii (((Af pn ((k:Int),g)).getD 0) - 1))) false ((k:Int),g) 2 rfl) (by rw [Fw];rfl)) (Dp 6 63 (.bool (decide ((Af pn ((k:Int),g)).getD 0 - 1=0))) [3,3,5] h (Dd (Ai (Zd ((Af pn ((k:Int),g)).getD 0 - 1=0) (fun hc4=>?_) fun hc4=>?_))))))))))))
 refine Aa (Ds 6 [3,3] h fun w h=>Dp 0 16 (Pp b) [3,3] h (Dp 1 17 (Pp b) [3,3] h (Dp 2 19 (Pt b 5) [3,3] h (Dq 3 23 [3,3] rfl h (Gl 5 (.map (some pm)) 1) (Dq 4 15 [3,3] rfl h (Gla 0 [Ii k,Ii g] 0) ?_)))))
 refine A1 [5] (by kernel_rfl) rfl ?_
 refine Iy [3,3] rfl (by kernel_rfl) (K:=34) (E:=3) Dk ((k:Int),g) (by kernel_rfl) h 7 rfl ?_ ?_
 intro w h;refine ⟨by kernel_rfl,?_⟩
 refine Dd (Ai (Ah (ZP (Pp b) (ZG h (Gla 0 [Ii k,Ii g] 3) ?_))))
 rw [Mw _ _ _ _ hpk] at h
 refine ZD [4,0,0,4,0] (Ik ad b most tb dm pm ps gs vl vg T Sl Sg l ds (Ak pn ((k:Int),g)) hl hr k g (⟨nb,kd,si,li,ch,un,ug,some q⟩:ND) hlk ha hkp ⟨h0,by rw [Pa _ _ hpk];rfl⟩) h ?_;rintro _ L_ w rfl h
 exact Qm (ZP .nilIface (Qr (ZR [.nilIface] [0,0,0,3,3,0,2] h ⟨rfl,rfl⟩)))
 exact Ba
 exfalso;first|omega|(simp only [List.length_map] at *;omega)|(revert hc4;simp;done)|(revert hc4;simp;omega)
 exact Ba
 exact Ba
 refine Is [3,3] rfl (by kernel_rfl) (K:=34) (E:=3) (z:=(Ii 0)) Dk ((k:Int),g) (by kernel_rfl) (fun _=>by kernel_rfl) h 7 rfl ?_ ?_
 intro st5 w h;refine ⟨by kernel_rfl,?_⟩
 refine Dp 8 255 (Ii ((st5:Nat):Int)) [3,3] h (Aq (v:=Ii ((Af pn ((k:Int),g)).getD 0)) 5 [3,3] rfl h (A4 (v':=Ii ((Af pn ((k:Int),g)).getD 0)) (Oc (K:=34) (E:=3) (z:=(Ii 0)) (kv:=(Ay (pn.map Cw) ((k:Int),g) ((Af (pn.map Cw) ((k:Int),g)).getD (Ii 0)))) (ok:=false) Dk ((k:Int),g) (by kernel_rfl) (fun _=>by kernel_rfl) 7 rfl) (by rw [Fw];show (Af (pn.map Cw) ((k:Int),g)).getD _=_;rw [Fu];cases Af pn ((k:Int),g)<;>rfl)) (Dq 6 447 [3,3] rfl h (Gw (((Af pn ((k:Int),g)).getD 0) - 1)) ?_))
 refine A1 [9] (by kernel_rfl) rfl ?_
 refine It [3,3] rfl (by kernel_rfl) (P:=Tryz.prog) (K:=34) Dk (Ii (((Af pn ((k:Int),g)).getD 0) - 1)) (by kernel_rfl) h 7 rfl ?_ ?_
 intro w h;refine ⟨by kernel_rfl,?_⟩
 refine Dd (Ai (Aa (Ds 7 [3,3,5] h fun w h=>Dp 0 16 (Pp b) [3,3,5] h (Dp 1 17 (Pp b) [3,3,5] h (Dp 2 19 (Pt b 5) [3,3,5] h (Dq 3 23 [3,3,5] rfl h (Gl 5 (.map (some pm)) 1) (Dq 4 15 [3,3,5] rfl h (Gla 0 [Ii k,Ii g] 0) (Dq 5 31 [3,3,5] rfl h (A4 (v':=Ii ((Af pn ((k:Int),g)).getD 0 - 1)) (Gkp (kv:=Ay (Ay (pn.map Cw) ((k:Int),g) ((Af (pn.map Cw) ((k:Int),g)).getD (Ii 0))) ((k:Int),g) (Ii (((Af pn ((k:Int),g)).getD 0) - 1))) false ((k:Int),g) 2 rfl) (by rw [Fw];rfl)) (Dp 6 63 (.bool (decide ((Af pn ((k:Int),g)).getD 0 - 1=0))) [3,3,5] h (Dd (Ai (Zd ((Af pn ((k:Int),g)).getD 0 - 1=0) (fun hc6=>?_) fun hc6=>?_))))))))))))
 refine Aa (Ds 6 [3,3] h fun w h=>Dp 0 16 (Pp b) [3,3] h (Dp 1 17 (Pp b) [3,3] h (Dp 2 19 (Pt b 5) [3,3] h (Dq 3 23 [3,3] rfl h (Gl 5 (.map (some pm)) 1) (Dq 4 15 [3,3] rfl h (Gla 0 [Ii k,Ii g] 0) ?_)))))
 refine A1 [5] (by kernel_rfl) rfl ?_
 refine Iy [3,3] rfl (by kernel_rfl) (K:=34) (E:=3) Dk ((k:Int),g) (by kernel_rfl) h 7 rfl ?_ ?_
 intro w h;refine ⟨by kernel_rfl,?_⟩
 refine Dd (Ai (Ah (ZP (Pp b) (ZG h (Gla 0 [Ii k,Ii g] 3) ?_))))
 rw [Mw _ _ _ _ hpk] at h
 refine ZD [4,0,0,4,0] (Ik ad b most tb dm pm ps gs vl vg T Sl Sg l ds (Ak pn ((k:Int),g)) hl hr k g (⟨nb,kd,si,li,ch,un,ug,some q⟩:ND) hlk ha hkp ⟨h0,by rw [Pa _ _ hpk];rfl⟩) h ?_;rintro _ L_ w rfl h
 exact Qm (ZP .nilIface (Qr (ZR [.nilIface] [0,0,0,3,3,0,2] h ⟨rfl,rfl⟩)))
 exact Ba
 exfalso;first|omega|(simp only [List.length_map] at *;omega)|(revert hc6;simp;done)|(revert hc6;simp;omega)
 exact Ba
 exact Ba
theorem Acn (hpv:(Af pn ((k:Int),g)).getD 0=1) (hpk:(pn.map (·.1)).Nodup) (hkp:k<ps.length) (h0:¬li=0):Au Tryz.prog 44 #[Pp b,Hg k g] (Ra B ad b tb most dm pm ps gs vl vg T Sl Sg l ds pn) (fun u L=>u=.nilIface∧L=(Ra B ad b tb most dm pm ps gs vl vg T Sl Sg l ds (Ak pn ((k:Int),g)))):=by
 refine Zo 49 Tryz.func44 fun E w0 w h=>?_
 have h:=h.eS [10] 6 rfl
 refine Qs (ZN [Ii k,Ii g] 34 h fun k1 w h=>ZP .nilIface (Qn (Aa (Aa (Ds 11 [0,1] h fun w h=>Dp 0 16 (Pp b) [0,1] h (Dp 1 17 (Pp b) [0,1] h (Dp 2 19 (Pp b) [0,1] h (Dq 3 23 [0,1] rfl h (Gl 0 (Pp tb) 1) (Dq 4 15 [0,1] rfl h (Gla 0 [Ii k,Ii g] 0) ?_)))))))))
 refine Ad 5 [3,3,1] [3,3] (Es ad tb ps gs vl vg T Sl Sg l hl hr (k:Int) g k nb kd si li ch un ug q hlk ha) h ?_
 rintro v_ L_ w ⟨rfl,rfl⟩ h
 refine ⟨by kernel_rfl,?_⟩
 refine Dp 6 63 (.tuple #[Pp q.db,.nilIface]) [3,3] h (Dp 7 383 (Pp q.db) [3,3] h (Dp 8 767 .nilIface [3,3] h (Dp 9 511 (Pp q.db) [3,3] h (Dp 10 1023 .nilIface [3,3] h (Dd (Ai (Qs (ZP .nilIface (ZP (.bool false) (Qf (Kn (Aa (Aa (Ds 7 [3,3,5] h fun w h=>Dp 0 16 (Pp b) [3,3,5] h (Dp 1 17 (Pp b) [3,3,5] h (Dp 2 19 (Pt b 5) [3,3,5] h (Dq 3 23 [3,3,5] rfl h (Gl 5 (.map (some pm)) 1) (Dq 4 15 [3,3,5] rfl h (Gla 0 [Ii k,Ii g] 0) (Dq 5 31 [3,3,5] rfl h (A4 (v':=Ii ((Af pn ((k:Int),g)).getD 0)) (Gkp (kv:=pn.map Cw) false ((k:Int),g) 2 rfl) (by rw [Fu];cases Af pn ((k:Int),g)<;>rfl)) (Dp 6 63 (.bool (decide ((Af pn ((k:Int),g)).getD 0=0))) [3,3,5] h (Dd (Ai (Zd ((Af pn ((k:Int),g)).getD 0=0) (fun hc2=>?_) fun hc2=>?_)))))))))))))))))))))))
 exfalso;first|omega|(simp only [List.length_map] at *;omega)|(revert hc2;simp;done)|(revert hc2;simp;omega)
 refine Kn (Aa (Aa (Ds 10 [3,3] h fun w h=>Dp 0 16 (Pp b) [3,3] h (Dp 1 17 (Pp b) [3,3] h (Dp 2 19 (Pt b 5) [3,3] h (Dq 3 23 [3,3] rfl h (Gl 5 (.map (some pm)) 1) (Dq 4 15 [3,3] rfl h (Gla 0 [Ii k,Ii g] 0) ?_)))))))
 refine A1 [5,7] (by kernel_rfl) rfl ?_
 refine O0 [3,3] rfl (by kernel_rfl) (v:=Ii ((Af pn ((k:Int),g)).getD 0)) (A4 (v':=Ii ((Af pn ((k:Int),g)).getD 0)) (H7 (K:=34) (E:=3) (z:=(Ii 0)) (kv:=(pn.map Cw)) (ok:=false) Dk ((k:Int),g) (by kernel_rfl) (fun _=>by kernel_rfl) 7 rfl) (by rw [Fu];cases Af pn ((k:Int),g)<;>rfl)) h (by kernel_rfl) ?_ ?_
 refine Dq 6 447 [3,3] rfl h (Gw (((Af pn ((k:Int),g)).getD 0) - 1)) ?_
 refine A1 [7] (by kernel_rfl) rfl ?_
 refine Is [3,3] rfl (by kernel_rfl) (K:=34) (E:=3) (z:=(Ii 0)) Dk ((k:Int),g) (by kernel_rfl) (fun _=>by kernel_rfl) h 7 rfl ?_ ?_
 intro st3 w h;refine ⟨by kernel_rfl,?_⟩
 refine Dp 8 255 (Ii ((st3:Nat):Int)) [3,3] h ?_
 refine A1 [9] (by kernel_rfl) rfl ?_
 refine It [3,3] rfl (by kernel_rfl) (P:=Tryz.prog) (K:=34) Dk (Ii (((Af pn ((k:Int),g)).getD 0) - 1)) (by kernel_rfl) h 7 rfl ?_ ?_
 intro w h;refine ⟨by kernel_rfl,?_⟩
 refine Dd (Ai (Aa (Ds 7 [3,3,5] h fun w h=>Dp 0 16 (Pp b) [3,3,5] h (Dp 1 17 (Pp b) [3,3,5] h (Dp 2 19 (Pt b 5) [3,3,5] h (Dq 3 23 [3,3,5] rfl h (Gl 5 (.map (some pm)) 1) (Dq 4 15 [3,3,5] rfl h (Gla 0 [Ii k,Ii g] 0) (Dq 5 31 [3,3,5] rfl h (A4 (v':=Ii ((Af pn ((k:Int),g)).getD 0 - 1)) (Gkp (kv:=Ay (Ay (pn.map Cw) ((k:Int),g) ((Af (pn.map Cw) ((k:Int),g)).getD (Ii 0))) ((k:Int),g) (Ii (((Af pn ((k:Int),g)).getD 0) - 1))) false ((k:Int),g) 2 rfl) (by rw [Fw];rfl)) (Dp 6 63 (.bool (decide ((Af pn ((k:Int),g)).getD 0 - 1=0))) [3,3,5] h (Dd (Ai (Zd ((Af pn ((k:Int),g)).getD 0 - 1=0) (fun hc4=>?_) fun hc4=>?_))))))))))))
 refine Aa (Ds 6 [3,3] h fun w h=>Dp 0 16 (Pp b) [3,3] h (Dp 1 17 (Pp b) [3,3] h (Dp 2 19 (Pt b 5) [3,3] h (Dq 3 23 [3,3] rfl h (Gl 5 (.map (some pm)) 1) (Dq 4 15 [3,3] rfl h (Gla 0 [Ii k,Ii g] 0) ?_)))))
 refine A1 [5] (by kernel_rfl) rfl ?_
 refine Iy [3,3] rfl (by kernel_rfl) (K:=34) (E:=3) Dk ((k:Int),g) (by kernel_rfl) h 7 rfl ?_ ?_
 intro w h;refine ⟨by kernel_rfl,?_⟩
 refine Dd (Ai (Ah (ZP (Pp b) (ZG h (Gla 0 [Ii k,Ii g] 3) ?_))))
 rw [Mw _ _ _ _ hpk] at h
 refine ZD [4,0,0,4,0] (H8 ad b most tb dm pm ps gs vl vg T Sl Sg l ds (Ak pn ((k:Int),g)) hl hr k g (⟨nb,kd,si,li,ch,un,ug,some q⟩:ND) hlk ha hkp (fun e=>h0 e.1)) h ?_;rintro _ L_ w rfl h
 exact Qm (ZP .nilIface (Qr (ZR [.nilIface] [0,0,0,3,3,0,2] h ⟨rfl,rfl⟩)))
 exact Ba
 exfalso;first|omega|(simp only [List.length_map] at *;omega)|(revert hc4;simp;done)|(revert hc4;simp;omega)
 exact Ba
 exact Ba
 refine Is [3,3] rfl (by kernel_rfl) (K:=34) (E:=3) (z:=(Ii 0)) Dk ((k:Int),g) (by kernel_rfl) (fun _=>by kernel_rfl) h 7 rfl ?_ ?_
 intro st5 w h;refine ⟨by kernel_rfl,?_⟩
 refine Dp 8 255 (Ii ((st5:Nat):Int)) [3,3] h (Aq (v:=Ii ((Af pn ((k:Int),g)).getD 0)) 5 [3,3] rfl h (A4 (v':=Ii ((Af pn ((k:Int),g)).getD 0)) (Oc (K:=34) (E:=3) (z:=(Ii 0)) (kv:=(Ay (pn.map Cw) ((k:Int),g) ((Af (pn.map Cw) ((k:Int),g)).getD (Ii 0)))) (ok:=false) Dk ((k:Int),g) (by kernel_rfl) (fun _=>by kernel_rfl) 7 rfl) (by rw [Fw];show (Af (pn.map Cw) ((k:Int),g)).getD _=_;rw [Fu];cases Af pn ((k:Int),g)<;>rfl)) (Dq 6 447 [3,3] rfl h (Gw (((Af pn ((k:Int),g)).getD 0) - 1)) ?_))
 refine A1 [9] (by kernel_rfl) rfl ?_
 refine It [3,3] rfl (by kernel_rfl) (P:=Tryz.prog) (K:=34) Dk (Ii (((Af pn ((k:Int),g)).getD 0) - 1)) (by kernel_rfl) h 7 rfl ?_ ?_
 intro w h;refine ⟨by kernel_rfl,?_⟩
 refine Dd (Ai (Aa (Ds 7 [3,3,5] h fun w h=>Dp 0 16 (Pp b) [3,3,5] h (Dp 1 17 (Pp b) [3,3,5] h (Dp 2 19 (Pt b 5) [3,3,5] h (Dq 3 23 [3,3,5] rfl h (Gl 5 (.map (some pm)) 1) (Dq 4 15 [3,3,5] rfl h (Gla 0 [Ii k,Ii g] 0) (Dq 5 31 [3,3,5] rfl h (A4 (v':=Ii ((Af pn ((k:Int),g)).getD 0 - 1)) (Gkp (kv:=Ay (Ay (pn.map Cw) ((k:Int),g) ((Af (pn.map Cw) ((k:Int),g)).getD (Ii 0))) ((k:Int),g) (Ii (((Af pn ((k:Int),g)).getD 0) - 1))) false ((k:Int),g) 2 rfl) (by rw [Fw];rfl)) (Dp 6 63 (.bool (decide ((Af pn ((k:Int),g)).getD 0 - 1=0))) [3,3,5] h (Dd (Ai (Zd ((Af pn ((k:Int),g)).getD 0 - 1=0) (fun hc6=>?_) fun hc6=>?_))))))))))))
 refine Aa (Ds 6 [3,3] h fun w h=>Dp 0 16 (Pp b) [3,3] h (Dp 1 17 (Pp b) [3,3] h (Dp 2 19 (Pt b 5) [3,3] h (Dq 3 23 [3,3] rfl h (Gl 5 (.map (some pm)) 1) (Dq 4 15 [3,3] rfl h (Gla 0 [Ii k,Ii g] 0) ?_)))))
 refine A1 [5] (by kernel_rfl) rfl ?_
 refine Iy [3,3] rfl (by kernel_rfl) (K:=34) (E:=3) Dk ((k:Int),g) (by kernel_rfl) h 7 rfl ?_ ?_
 intro w h;refine ⟨by kernel_rfl,?_⟩
 refine Dd (Ai (Ah (ZP (Pp b) (ZG h (Gla 0 [Ii k,Ii g] 3) ?_))))
 rw [Mw _ _ _ _ hpk] at h
 refine ZD [4,0,0,4,0] (H8 ad b most tb dm pm ps gs vl vg T Sl Sg l ds (Ak pn ((k:Int),g)) hl hr k g (⟨nb,kd,si,li,ch,un,ug,some q⟩:ND) hlk ha hkp (fun e=>h0 e.1)) h ?_;rintro _ L_ w rfl h
 exact Qm (ZP .nilIface (Qr (ZR [.nilIface] [0,0,0,3,3,0,2] h ⟨rfl,rfl⟩)))
 exact Ba
 exfalso;first|omega|(simp only [List.length_map] at *;omega)|(revert hc6;simp;done)|(revert hc6;simp;omega)
 exact Ba
 exact Ba
end
section
variable {B:Nat} (ad:Nat→Addr) {most:Nat} {z:PZ} {A:List AN} {ts:List Int} {c:Int} (s:D6 most z A ts c)
include s
theorem D6.file (n g:Int):(∃ c':Nat,Zw z.ps z.gs z.l n g c'∧((c'=9∧Bs A (n,g)=none)∨(c'=7∧∃ M,Bs A (n,g)=some M∧¬M.kind=1)))∨∃ (k nb:Nat) (kd si li ch un ug:Int) (q:DQ) (M:AN),n=(k:Int)∧z.l[k]?=some (some (⟨nb,kd,si,li,ch,un,ug,some q⟩:ND))∧Bk z.ps z.gs n g=some nb∧Bs A (n,g)=some M∧M∈A∧M.h=(n,g)∧M.h=((k:Int),Aw ts k - 1)∧NdR A (⟨nb,kd,si,li,ch,un,ug,some q⟩:ND) M∧M.kind=1∧G5 q.d M.s M.holes∧k<most:=by
  rcases s.who n g with ⟨h1,h2,h3⟩|⟨k,N,M,rfl,hk,h1,h2,h3,h4,h5,h6,h7,⟨k1,k2,_,_⟩|⟨k2,j,d,h8,h9,h10⟩⟩
  · exact .inl ⟨9,.inl ⟨rfl,h2⟩,.inl ⟨rfl,h1⟩⟩
  · obtain ⟨nb,kd,si,li,ch,un,ug,dq⟩:=N
    obtain ⟨_,_,q,u3,u4⟩:=h7.filed k1
    simp only at u3;subst u3
    exact .inr ⟨k,nb,kd,si,li,ch,un,ug,q,M,rfl,h1,h2,h3,h4,h5,h6,h7,k1,u4,hk⟩
  · exact .inl ⟨7,.inr ⟨rfl,k,N,h1,h2,(h7.dird k2).1⟩,.inr ⟨rfl,M,h3,by omega⟩⟩
omit s in
theorem Pf {P:Program} {f:FuncId} {args:Array Value} (s:D6 most z A ts c) (hc:c+3≤1000) (e:Nat) {A':List AN} {code:Nat} (h1:code=e+1) (h0:A'=A) (h2:Au P f args (z.core most++[A6 B ad]) (fun u L=>u=Ag ad (e+1)∧L=z.core most++[A6 B ad])):Au P f args [rPT most z,A6 B ad] (Ic most z B ad ts (c+3) code A'):=
  (Au.ptq (M:=[A6 B ad]) (Φ:=fun u=>u=Ag ad (e+1)) h2).mono fun u L h=>⟨z,⟨rfl,by rw [h0];exact s.more (by omega) (by omega),by rw [h1];exact h.1⟩,h.2⟩
omit s in
theorem Q8 {P:Program} {f:FuncId} {args:Array Value} {A':List AN} {code:Nat} (h2:Au P f args (z.core most++[A6 B ad]) (fun u L=>∃ z':PZ,(z'.b=z.b∧D6 most z' A' ts c∧u=Ag ad code)∧L=z'.core most++[A6 B ad])):Au P f args [rPT most z,A6 B ad] (Ic most z B ad ts c code A'):=
  Au.pt (M:=[A6 B ad]) (Φ:=fun u z'=>z'.b=z.b∧D6 most z' A' ts c∧u=Ag ad code) h2
theorem Tx (n g p:Int) (t:ByteArray) (hc:c+3≤1000):Au Tryz.prog 38 #[.pointer (some ⟨z.b,0,none⟩),.agg #[.int .i64 n,.int .i64 g],.int .i64 p,.string t] [rPT most z,A6 B ad] (Ic most z B ad ts (c+3) (Ep A (n,g) p t) (Fd A (n,g) p t)):=by
  rcases s.file n g with ⟨c',h1,h2⟩|⟨k,nb,kd,si,li,ch,un,ug,q,M,rfl,h1,h2,h3,h4,h5,h6,h7,k1,ha,_⟩
  · have e:Ep A (n,g) p t=c'+1∧Fd A (n,g) p t=A:=by
      rcases h2 with ⟨rfl,h⟩|⟨rfl,M,h,hk⟩
      · exact ⟨Ht h,Ht h⟩
      · exact ⟨Io h hk,Io h hk⟩
    exact Pf ad s hc c' e.1 e.2 (Acc ad z.b most z.tb z.dm z.pm z.ps z.gs z.vl z.vg z.T z.Sl z.Sg z.l z.ds z.pn s.hl s.hr n g c' h1 p t)
  · have e1:Ep A ((k:Int),g) p t=(Bh M.s M.holes p t).2.2:=G3 h3 k1
    have e2:Fd A ((k:Int),g) p t=Cx A M.h (wrA p t):=by rw [h5];exact G3 h3 k1
    obtain ⟨w1,w2⟩:=ha.write p t
    have hch:=s.ch h4 h7
    have hgo:∀ {l:List (Option ND)},Sim most z.ps z.gs l z.ds z.pn (Cx A M.h (wrA p t)) ts→D6 most (z.to z.ps z.gs l z.ds z.pn) (Fd A ((k:Int),g) p t) ts (c+3):=fun hs=>s.go (by rw [e2];exact hs) (s.ti.write _ p t) (by rw [e2];exact s.srt.same (Ahd A M.h p t)) (s.nsz.wr _ p t) ((s.cnt.wr _ p t).mono (by omega)) s.ts3 hc
    have hsz:t.size=0↔t=(⟨#[]⟩:ByteArray):=Hh
    refine Q8 ad ?_
    by_cases hz:(Ck q.d p t).2=0
    · by_cases ht:t=(⟨#[]⟩:ByteArray)
      · refine (Abp ad z.b most z.tb z.dm z.pm z.ps z.gs z.vl z.vg z.T z.Sl z.Sg z.l z.ds z.pn s.hl s.hr (k:Int) g k nb kd si li ch un ug q h1 h2 p t hch hz ht).mono fun u L h=>?_
        obtain ⟨S0,rfl,rfl⟩:=h
        have hs:=s.sim.file1 s.ti h4 k1 (N':=⟨nb,kd,si,li,ch,un,ug,some ⟨q.db,(Ck q.d p t).1,S0⟩⟩) h1 h6 rfl (wrA p t) (fun _=>⟨rfl,rfl,rfl⟩) (fun _=>rfl) ⟨rfl,rfl,by
          show ch=M.change+(if (Bh M.s M.holes p t).2.2=0∧¬t.size=0 then 1 else 0)
          rw [if_neg (fun q=>q.2 (hsz.2 ht))];have:=h7.chg;simp only at this;omega,rfl,rfl,_,rfl,w2⟩
        refine ⟨_,⟨?_,hgo hs,?_⟩,?_⟩
        · rfl
        · rw [e1,← w1,hz];rfl
        · rfl
      · refine (Ab1 ad z.b most z.tb z.dm z.pm z.ps z.gs z.vl z.vg z.T z.Sl z.Sg z.l z.ds z.pn s.hl s.hr (k:Int) g k nb kd si li ch un ug q h1 h2 p t hch hz ht).mono fun u L h=>?_
        obtain ⟨S0,rfl,rfl⟩:=h
        have hs:=s.sim.file1 s.ti h4 k1 (N':=Ae ⟨nb,kd,si,li,ch,un,ug,some ⟨q.db,(Ck q.d p t).1,S0⟩⟩) h1 h6 rfl (wrA p t) (fun _=>⟨rfl,rfl,rfl⟩) (fun _=>rfl) ⟨rfl,rfl,by
          show ch+1=M.change+(if (Bh M.s M.holes p t).2.2=0∧¬t.size=0 then 1 else 0)
          rw [if_pos ⟨by rw [← w1];exact hz,fun q=>ht (hsz.1 q)⟩];have:=h7.chg;simp only at this;omega,rfl,rfl,_,rfl,w2⟩
        rw [List.set_set]
        refine ⟨_,⟨?_,hgo hs,?_⟩,?_⟩
        · rfl
        · rw [e1,← w1,hz];rfl
        · rfl
    · obtain ⟨c',hc'⟩:∃ c',(Ck q.d p t).2=c'+1:=⟨(Ck q.d p t).2 - 1,by omega⟩
      refine (Acy ad z.b most z.tb z.dm z.pm z.ps z.gs z.vl z.vg z.T z.Sl z.Sg z.l z.ds z.pn s.hl s.hr (k:Int) g k nb kd si li ch un ug q h1 h2 p t hch c' hc').mono fun u L h=>?_
      obtain ⟨S0,rfl,rfl⟩:=h
      have hs:=s.sim.file1 s.ti h4 k1 (N':=⟨nb,kd,si,li,ch,un,ug,some ⟨q.db,(Ck q.d p t).1,S0⟩⟩) h1 h6 rfl (wrA p t) (fun _=>⟨rfl,rfl,rfl⟩) (fun _=>rfl) ⟨rfl,rfl,by
        show ch=M.change+(if (Bh M.s M.holes p t).2.2=0∧¬t.size=0 then 1 else 0)
        rw [if_neg (fun q=>hz (by rw [w1];exact q.1))];have:=h7.chg;simp only at this;omega,rfl,rfl,_,rfl,w2⟩
      refine ⟨_,⟨?_,hgo hs,?_⟩,?_⟩
      · rfl
      · rw [e1,← w1,hc']
      · rfl
theorem Sc (n g p:Int) (hc:c+3≤1000):Au Tryz.prog 40 #[.pointer (some ⟨z.b,0,none⟩),.agg #[.int .i64 n,.int .i64 g],.int .i64 p] [rPT most z,A6 B ad] (Ic most z B ad ts (c+3) (D4 A (n,g) p) (Ec A (n,g) p)):=by
  rcases s.file n g with ⟨c',h1,h2⟩|⟨k,nb,kd,si,li,ch,un,ug,q,M,rfl,h1,h2,h3,h4,h5,h6,h7,k1,ha,_⟩
  · have e:D4 A (n,g) p=c'+1∧Ec A (n,g) p=A:=by
      rcases h2 with ⟨rfl,h⟩|⟨rfl,M,h,hk⟩
      · exact ⟨Ht h,Ht h⟩
      · exact ⟨Io h hk,Io h hk⟩
    exact Pf ad s hc c' e.1 e.2 (Ac7 ad z.b most z.tb z.dm z.pm z.ps z.gs z.vl z.vg z.T z.Sl z.Sg z.l z.ds z.pn s.hl s.hr n g c' h1 p)
  · have e1:D4 A ((k:Int),g) p=(Bc M.s M.holes p).2.2:=G3 h3 k1
    have e2:Ec A ((k:Int),g) p=Cx A M.h (rzA p):=by rw [h5];exact G3 h3 k1
    obtain ⟨w1,w2⟩:=ha.resize p
    have hch:=s.ch h4 h7
    have hgo:∀ {l:List (Option ND)},Sim most z.ps z.gs l z.ds z.pn (Cx A M.h (rzA p)) ts→D6 most (z.to z.ps z.gs l z.ds z.pn) (Ec A ((k:Int),g) p) ts (c+3):=fun hs=>s.go (by rw [e2];exact hs) (s.ti.resize _ p) (by rw [e2];exact s.srt.same (Ag8 A M.h p)) (s.nsz.rz _ p) ((s.cnt.rz _ p).mono (by omega)) s.ts3 hc
    refine Q8 ad ?_
    by_cases hz:(B2 q.d p).2=0
    · refine (Ac1 ad z.b most z.tb z.dm z.pm z.ps z.gs z.vl z.vg z.T z.Sl z.Sg z.l z.ds z.pn s.hl s.hr (k:Int) g k nb kd si li ch un ug q h1 h2 p hch hz).mono fun u L h=>?_
      obtain ⟨S0,rfl,rfl⟩:=h
      have hs:=s.sim.file1 s.ti h4 k1 (N':=Ae ⟨nb,kd,si,li,ch,un,ug,some ⟨q.db,(B2 q.d p).1,S0⟩⟩) h1 h6 rfl (rzA p) (fun _=>⟨rfl,rfl,rfl⟩) (fun _=>rfl) ⟨rfl,rfl,by
        show ch+1=M.change+(if (Bc M.s M.holes p).2.2=0 then 1 else 0)
        rw [if_pos (by rw [← w1];exact hz)];have:=h7.chg;simp only at this;omega,rfl,rfl,_,rfl,w2⟩
      rw [List.set_set]
      refine ⟨_,⟨?_,hgo hs,?_⟩,?_⟩
      · rfl
      · rw [e1,← w1,hz];rfl
      · rfl
    · obtain ⟨c',hc'⟩:∃ c',(B2 q.d p).2=c'+1:=⟨(B2 q.d p).2 - 1,by omega⟩
      refine (Abu ad z.b most z.tb z.dm z.pm z.ps z.gs z.vl z.vg z.T z.Sl z.Sg z.l z.ds z.pn s.hl s.hr (k:Int) g k nb kd si li ch un ug q h1 h2 p hch c' hc').mono fun u L h=>?_
      obtain ⟨S0,rfl,rfl⟩:=h
      have hs:=s.sim.file1 s.ti h4 k1 (N':=⟨nb,kd,si,li,ch,un,ug,some ⟨q.db,(B2 q.d p).1,S0⟩⟩) h1 h6 rfl (rzA p) (fun _=>⟨rfl,rfl,rfl⟩) (fun _=>rfl) ⟨rfl,rfl,by
        show ch=M.change+(if (Bc M.s M.holes p).2.2=0 then 1 else 0)
        rw [if_neg (fun q=>hz (by rw [w1];exact q))];have:=h7.chg;simp only at this;omega,rfl,rfl,_,rfl,w2⟩
      refine ⟨_,⟨?_,hgo hs,?_⟩,?_⟩
      · rfl
      · rw [e1,← w1,hc']
      · rfl
theorem Aau (n g:Int) (hc:c+3≤1000):Au Tryz.prog 42 #[.pointer (some ⟨z.b,0,none⟩),.agg #[.int .i64 n,.int .i64 g]] [rPT most z,A6 B ad] (Ic most z B ad ts (c+3) (El A (n,g)) (if El A (n,g)=0 then G4 A (n,g) 1 else A)):=by
  rcases s.file n g with ⟨c',h1,h2⟩|⟨k,nb,kd,si,li,ch,un,ug,q,M,rfl,h1,h2,h3,h4,h5,h6,h7,k1,ha,_⟩
  · refine E7 ad s hc c' ?_ (Abz ad z.b most z.tb z.dm z.pm z.ps z.gs z.vl z.vg z.T z.Sl z.Sg z.l z.ds z.pn s.hl s.hr n g c' h1)
    rcases h2 with ⟨rfl,h⟩|⟨rfl,M,h,hk⟩
    · exact X0 h
    · exact Ab6 h hk
  · have hT:=Agd h3 k1
    have hp:=s.sim.pin_ s.ti h4 k1
    rw [h5] at hp
    have hpr:=s.cnt M h4
    have hpp:=s.ti.base.pos M h4
    have hcc:=s.c0
    refine Kh ad hT ?_
    refine (Aet ad z.b most z.tb z.dm z.pm z.ps z.gs z.vl z.vg z.T z.Sl z.Sg z.l z.ds z.pn s.hl s.hr k nb g kd si li ch un ug q h1 h2 (by rw [hp];omega)).mono fun u L h=>?_
    obtain ⟨rfl,rfl⟩:=h
    have hs:=s.sim.pin s.ti h4 k1
    rw [h5] at hs
    rw [hp]
    refine ⟨_,⟨?_,s.go hs (s.ti.pin hT) (s.srt.same (Hm _ _ _)) (s.nsz.pin _ _) ((s.cnt.pin _ (by omega)).mono (by omega)) s.ts3 hc,rfl⟩,?_⟩
    all_goals rfl
theorem V0 (n g:Int) (hc:c+3≤1000):Au Tryz.prog 44 #[.pointer (some ⟨z.b,0,none⟩),.agg #[.int .i64 n,.int .i64 g]] [rPT most z,A6 B ad] (Ic most z B ad ts (c+3) (Cj A (n,g)) (if Cj A (n,g)=0 then Gj (G4 A (n,g) (-1)) else A)):=by
  rcases s.file n g with ⟨c',h1,h2⟩|⟨k,nb,kd,si,li,ch,un,ug,q,M,rfl,h1,h2,h3,h4,h5,h6,h7,k1,ha,hkm⟩
  · refine E7 ad s hc c' ?_ (Ab4 ad z.b most z.tb z.dm z.pm z.ps z.gs z.vl z.vg z.T z.Sl z.Sg z.l z.ds z.pn s.hl s.hr n g c' h1)
    rcases h2 with ⟨rfl,h⟩|⟨rfl,M,h,hk⟩
    · unfold Cj;rw [h]
    · unfold Cj;rw [h];exact if_neg hk
  · have hp:=s.sim.pin_ s.ti h4 k1
    rw [h5] at hp
    have hpr:=s.cnt M h4
    have hpp:=s.ti.base.pos M h4
    have hcc:=s.c0
    by_cases h0:M.pins=0
    · have hT:Cj A ((k:Int),g)=4+1:=by unfold Cj;rw [h3];simp only [if_pos k1,if_pos h0]
      exact E7 ad s hc 4 hT (Ach ad z.b most z.tb z.dm z.pm z.ps z.gs z.vl z.vg z.T z.Sl z.Sg z.l z.ds z.pn s.hl s.hr k nb g kd si li ch un ug q h1 h2 (by rw [hp];exact h0))
    · have hT:Cj A ((k:Int),g)=0:=by unfold Cj;rw [h3];simp only [if_pos k1,if_neg h0]
      have hgo:∀ {ps l pn},Sim most ps z.gs l z.ds pn (Gj (G4 A ((k:Int),g) (-1))) ts→D6 most (z.to ps z.gs l z.ds pn) (Gj (G4 A ((k:Int),g) (-1))) ts (c+3):=fun hs=>s.go hs (s.ti.unpin hT) ((s.srt.same (Hm _ _ _)).filter _) ((s.nsz.pin _ _).filter _) (((s.cnt.pin _ (by omega)).filter _).mono (by omega)) s.ts3 hc
      refine Kh ad hT ?_
      by_cases h1p:M.pins=1
      · have hkp:k<z.ps.length:=by rw [s.sim.lps];exact hkm
        by_cases hli:li=0
        · refine (Abd ad z.b most z.tb z.dm z.pm z.ps z.gs z.vl z.vg z.T z.Sl z.Sg z.l z.ds z.pn s.hl s.hr k nb g kd si li ch un ug q h1 h2 (by rw [hp];exact h1p) s.sim.pk hkp hli).mono fun u L h=>?_
          obtain ⟨rfl,rfl⟩:=h
          have hs:=s.sim.unpinG s.ti h4 k1 h1p h6 h7 hli
          rw [h5] at hs
          refine ⟨_,⟨?_,hgo hs,rfl⟩,?_⟩
          all_goals rfl
        · refine (Acn ad z.b most z.tb z.dm z.pm z.ps z.gs z.vl z.vg z.T z.Sl z.Sg z.l z.ds z.pn s.hl s.hr k nb g kd si li ch un ug q h1 h2 (by rw [hp];exact h1p) s.sim.pk hkp hli).mono fun u L h=>?_
          obtain ⟨rfl,rfl⟩:=h
          have hs:=s.sim.unpinS s.ti h4 k1 h1p (kx:=k) h7 hli
          rw [h5] at hs
          refine ⟨_,⟨?_,hgo hs,rfl⟩,?_⟩
          all_goals rfl
      · refine (Aef ad z.b most z.tb z.dm z.pm z.ps z.gs z.vl z.vg z.T z.Sl z.Sg z.l z.ds z.pn s.hl s.hr k nb g kd si li ch un ug q h1 h2 (by rw [hp];omega) (by rw [hp];omega)).mono fun u L h=>?_
        obtain ⟨rfl,rfl⟩:=h
        have hs:=s.sim.unpin1 s.ti h4 k1 (by omega)
        rw [h5] at hs
        rw [hp]
        refine ⟨_,⟨?_,hgo hs,rfl⟩,?_⟩
        all_goals rfl
end
def lv (D:AN) (nm:ByteArray):AN:=⟨D.h,D.kind,D.change,D.s,D.holes,D.es.filter fun x=>!decide (x.1=nm),D.pins⟩
theorem D5 {A:List AN} {D:AN} (hD:D∈A) (nm:ByteArray):lv D nm∈Al A D.h nm:=G6 (f:=fun N=>⟨N.h,N.kind,N.change,N.s,N.holes,N.es.filter fun x=>!decide (x.1=nm),N.pins⟩) hD
theorem Pw (D:AN) (nm:ByteArray):∀ e∈(lv D nm).es,e.1≠nm:=fun e he q=>by
  have:=(List.mem_filter.1 he).2
  simp [q] at this
theorem Ag0 (D:AN) (nm:ByteArray):∀ e∈(lv D nm).es,e∈D.es:=fun e he=>(List.mem_filter.1 he).1
theorem lv_lt {D:AN} (hn:(D.es.map (·.1)).Nodup) {e:Bj} (he:e∈D.es):(lv D e.1).es.length+1=D.es.length:=by
  have h1:=Jt D.es (fun _=>true) fun x=>decide (x.1=e.1)
  rw [Md hn he] at h1
  simp only [List.countP_true,List.length_singleton] at h1
  show (D.es.filter fun x=>!decide (x.1=e.1)).length+1=_
  omega
section
variable {most:Nat} {ps:List (Option Nat)} {gs:List Int} {l:List (Option ND)} {ds:List DN} {pn:List ((Int×Int)×Int)} {A B:List AN} {ts:List Int} {lz:Hdl→Nat} {dl:Hdl→Int} {ud:Hdl→Prop}
structure StA (most:Nat) (ps:List (Option Nat)) (gs:List Int) (l:List (Option ND)) (ds:List DN) (pn:List ((Int×Int)×Int)) (A B:List AN) (ts:List Int) (fh:Hdl) (X:AN):Prop where
  sd:SD most (fun h=>(if h=fh∧X.kind=2 then 1 else 0)+(if h=X.h∧X.kind=1 then 1 else 0)) (fun h=>h=X.h∧X.kind=2) ps gs l ds pn B ts
  ti:∃ lz,TI0 most ts lz B∧(∀ M∈B,M.kind=2→lz M.h=if X.h=M.h then 1 else 0)
  xm:X∈B
  x0:X.kind=2→Be B X.h=0
  x8:X.kind=1→Be B X.h<8
  held:∀ M∈B,M.kind=1→M.h≠X.h→0<M.pins∨0<Be B M.h
theorem Sim.stA (s:Sim most ps gs l ds pn A ts) (t:TI most ts A) {F X:AN} (hF:F∈A) (hX:X∈A) (hk:F.kind=2) {e:Bj} (he:e∈F.es) (hx:e.2=X.h) (hXF:X.h≠F.h) {j:Nat} {d:DN} (hj:ds[j]?=some d) (hdh:d.h=F.h) :
    StA most ps gs l (ds.set j { d with es:=Ak d.es e.1 }) pn A (Al A F.h e.1) ts F.h X:=by
  have b:=t.base
  have s1:=(SD.of_ s).leave b hF hX hk he hx hj hdh
  have b1:=b.leave hF hk he (fun h=>0+if e.2=h then 1 else 0) (fun _ _ _=>rfl)
  have hl:=Do b.nod hF (b.nms F hF) he X.h
  rw [if_pos hx] at hl
  refine ⟨s1.cong (fun M _=>?_) (fun M _ _ q=>?_),⟨_,b1,fun M _ _=>?_⟩,Ca hX hXF,fun k2=>?_,fun k1=>?_,fun M hM k1 hne=>?_⟩
  · show _=(0+(if M.h=F.h∧X.kind=2 then (1:Int) else 0))+(if M.h=X.h∧X.kind=1 then 1 else 0);omega
  · rcases q with q|q
    · exact q.elim
    · exact q
  · rw [hx];omega
  · have:=b.lnk_dir hX k2;omega
  · have:=b.lnk8 X hX k1;omega
  · exact Jq b hF he (P:=fun _=>True) (fun M hM k1 _=>t.held M hM k1) M hM k1 ⟨trivial,by rw [hx];exact hne⟩
section
variable {fh:Hdl} {X:AN} (s:StA most ps gs l ds pn A B ts fh X) {T Y:AN} (hT:T∈B) (hk:T.kind=2) (hY:Y∈B) (hYX:Y.h≠X.h) (hYT:Y.h≠T.h) {f:Bj} (hf:f∈T.es) (hfy:f.2=Y.h) {j:Nat} {d:DN} (hj:ds[j]?=some d) (hdh:d.h=T.h) (hXT:X.h≠T.h) {ky:Nat} (hYh:Y.h=((ky:Int),Aw ts ky - 1))
include s hT hk hY hYX hYT hf hfy hj hdh hXT hYh
theorem StA.overD (hky:Y.kind=2) (hes:Y.es=[]) {k:Nat} {N:ND} (hlk:l[k]?=some (some N)) (hTh:T.h=((k:Int),Aw ts k - 1)) :
    StA most (ps.set ky none) gs ((l.set ky none).set k (some (Ao N (-1)))) ((ds.set j { d with es:=Ak d.es f.1 }).filter fun d=>!(d.h==Y.h)) pn A (Ex (Al B T.h f.1) Y.h) ts fh X∧∀ nm,C5 (Ax (Al B T.h f.1) T.h nm X.h) Y.h=Ax (Ex (Al B T.h f.1) Y.h) T.h nm X.h:=by
  obtain ⟨lz,b,hz⟩:=s.ti
  have hnk:ky≠k:=fun q=>hYT (by rw [hYh,hTh,q])
  have s1:=s.sd.leave b hT hY hk hf hfy hj hdh
  have b1:=b.leave hT hk hf (fun h=>lz h+if f.2=h then 1 else 0) (fun _ _ _=>rfl)
  have hY1:Y∈Al B T.h f.1:=Ca hY hYT
  have hX1:X∈Al B T.h f.1:=Ca s.xm hXT
  have hl:∀ h,Be (Al B T.h f.1) h+(if f.2=h then 1 else 0)=Be B h:=Do b.nod hT (b.nms T hT) hf
  have h0:Be (Al B T.h f.1) Y.h=0:=by
    have h1:=hl Y.h
    rw [if_pos hfy] at h1
    have:=b.lnk_dir hY hky
    omega
  have hr:=b.noroot hT hY hf hfy
  have s2:=s1.goneD b1 (k:=ky) hY1 hYh hes h0 hky
  have b2:=b1.gone hY1 hes h0 hr
  have hT2:lv T f.1∈Ex (Al B T.h f.1) Y.h:=Kb (D5 hT f.1) (fun q=>hYT q.symm)
  have s3:=s2.links b2 (k:=k) (N:=N) (A3 hlk hnk) hT2 hTh (-1)
  have hlg:∀ h,Be (Ex (Al B T.h f.1) Y.h) h=Be (Al B T.h f.1) h:=Hd _ _ fun M hM q=>by
    have e:M.h=Y.h:=by simpa using q
    rw [b1.same hM hY1 e];exact hes
  refine ⟨⟨s3.cong (fun M _=>?_) (fun M hM _ q=>?_),⟨_,b2,fun M hM k2=>?_⟩,Kb hX1 (fun q=>hYX q.symm),fun k2=>?_,fun k1=>?_,fun M hM k1 hne=>?_⟩,fun nm=>?_⟩
  · show (if M.h=fh∧X.kind=2 then (1:Int) else 0)+(if M.h=X.h∧X.kind=1 then 1 else 0)=((((if M.h=fh∧X.kind=2 then (1:Int) else 0)+(if M.h=X.h∧X.kind=1 then 1 else 0))+(if M.h=T.h∧Y.kind=2 then 1 else 0))+(if M.h=Y.h∧Y.kind=1 then 1 else 0))+(if M.h=T.h then -1 else 0)
    generalize (if M.h=fh∧X.kind=2 then (1:Int) else 0)=u
    generalize (if M.h=X.h∧X.kind=1 then (1:Int) else 0)=u2
    by_cases c:M.h=T.h<;>simp [c,hky]<;>omega
  · rcases q with q|q
    · exact q
    · obtain ⟨hM2,q2⟩:=List.mem_filter.1 hM
      have:M.h≠Y.h:=by simpa using q2
      exact absurd q.1 this
  · have hne:M.h≠Y.h:=by have:=(List.mem_filter.1 hM).2;simpa using this
    obtain ⟨K,hK,e1⟩:∃ K∈B,K.h=M.h∧K.kind=2:=by
      obtain ⟨K,hK,rfl⟩:=B4 (List.mem_filter.1 hM).1
      refine ⟨K,hK,?_⟩
      by_cases c:K.h=T.h
      · rw [if_pos c] at k2 ⊢;exact ⟨rfl,k2⟩
      · rw [if_neg c] at k2 ⊢;exact ⟨rfl,k2⟩
    have:=hz K hK e1.2
    rw [e1.1] at this
    show lz M.h+(if f.2=M.h then 1 else 0)=_
    rw [this,if_neg (show ¬f.2=M.h from fun q=>hne (by rw [← q,hfy]))];rfl
  · rw [hlg];have:=hl X.h;have:=s.x0 k2;omega
  · rw [hlg];have:=hl X.h;have:=s.x8 k1;omega
  · rw [hlg]
    have hne2:M.h≠Y.h:=by have:=(List.mem_filter.1 hM).2;simpa using this
    have h1:=hl M.h
    rw [if_neg (show ¬f.2=M.h from fun q=>hne2 (by rw [← q,hfy]))] at h1
    rw [Nat.add_zero] at h1
    rw [h1]
    obtain ⟨K,hK,rfl⟩:=B4 (List.mem_filter.1 hM).1
    by_cases c:K.h=T.h
    · rw [if_pos c] at k1
      have k1':K.kind=1:=k1
      rw [b.same hK hT c] at k1';omega
    · rw [if_neg c] at k1 hne ⊢;exact s.held K hK k1 hne
  · exact Adc b1 hY1 hky hYT nm X.h
section
variable (hky:Y.kind=1) {Ny:ND} (hly:l[ky]?=some (some Ny)) (hr:NdR A Ny Y) (hYA:Y∈A) (hlA:Be B Y.h=Be A Y.h) (hpin:(Af pn Y.h).getD 0=Y.pins)
include hky hly hr hYA hlA hpin
theorem StA.overF0:SD most (fun h=>(if h=fh∧X.kind=2 then 1 else 0)+(if h=X.h∧X.kind=1 then 1 else 0)) (fun h=>h=X.h∧X.kind=2) ps gs ((l.set ky (some (Ao Ny (-1)))).set ky (some (Ae (Ao Ny (-1))))) (ds.set j { d with es:=Ak d.es f.1 }) pn (Ap (Al B T.h f.1) Y.h) ts∧
    (∃ lz,TI0 most ts lz (Ap (Al B T.h f.1) Y.h)∧TI0 most ts lz (Al B T.h f.1)∧(∀ M∈Al B T.h f.1,M.kind=2→lz M.h=if X.h=M.h then 1 else 0))∧Ny.links=(Be (Al B T.h f.1) Y.h:Int)+1∧(∀ h,Be (Al B T.h f.1) h+(if f.2=h then 1 else 0)=Be B h)∧
    (∀ M∈Al B T.h f.1,M.kind=1→M.h≠Y.h→M.h≠X.h→0<M.pins∨0<Be (Al B T.h f.1) M.h):=by
  obtain ⟨lz,b,hz⟩:=s.ti
  have s1:=s.sd.leave b hT hY hk hf hfy hj hdh
  have b1:=b.leave hT hk hf (fun h=>lz h+if f.2=h then 1 else 0) (fun _ _ _=>rfl)
  have hY1:Y∈Al B T.h f.1:=Ca hY hYT
  have hl:∀ h,Be (Al B T.h f.1) h+(if f.2=h then 1 else 0)=Be B h:=Do b.nod hT (b.nms T hT) hf
  have s2:=s1.links b1 (k:=ky) (N:=Ny) hly hY1 hYh (-1)
  have s3:=s2.touch b1 (k:=ky) (N:=Ao Ny (-1)) (C0 (Cz hly)) hY1 hYh
  have hk2:¬Y.kind=2:=by omega
  have hbk:∀ M∈Al B T.h f.1,∃ K∈B,K.h=M.h∧K.kind=M.kind∧K.pins=M.pins:=fun M hM=>by
    obtain ⟨K,hK,rfl⟩:=B4 hM
    refine ⟨K,hK,?_⟩
    by_cases c:K.h=T.h
    · rw [if_pos c];exact ⟨rfl,rfl,rfl⟩
    · rw [if_neg c];exact ⟨rfl,rfl,rfl⟩
  refine ⟨s3.cong (fun M _=>?_) (fun M hM k2 q=>?_),⟨_,b1.touch hY1,b1,fun M hM k2=>?_⟩,?_,hl,fun M hM k1 hne hne2=>?_⟩
  · show (if M.h=fh∧X.kind=2 then (1:Int) else 0)+(if M.h=X.h∧X.kind=1 then 1 else 0)=((((if M.h=fh∧X.kind=2 then (1:Int) else 0)+(if M.h=X.h∧X.kind=1 then 1 else 0))+(if M.h=T.h∧Y.kind=2 then 1 else 0))+(if M.h=Y.h∧Y.kind=1 then 1 else 0))+(if M.h=Y.h then -1 else 0)
    generalize (if M.h=fh∧X.kind=2 then (1:Int) else 0)=u
    generalize (if M.h=X.h∧X.kind=1 then (1:Int) else 0)=u2
    by_cases c:M.h=Y.h<;>simp [c,hky]<;>omega
  · rcases q with q|q
    · exact q
    · have:=q.2;omega
  · obtain ⟨K,hK,e1,e2,_⟩:=hbk M hM
    have:=hz K hK (e2.trans k2)
    rw [e1] at this
    show lz M.h+(if f.2=M.h then 1 else 0)=_
    have hne:¬f.2=M.h:=fun q=>by
      have:=b.same hK hY (e1.trans (q.symm.trans hfy))
      rw [this] at e2;omega
    rw [this,if_neg hne];rfl
  · rw [hr.lnk,De hk2,← hlA]
    have:=hl Y.h
    rw [if_pos hfy] at this
    omega
  · obtain ⟨K,hK,e1,e2,e3⟩:=hbk M hM
    have h1:=hl M.h
    rw [if_neg (show ¬f.2=M.h from fun q=>hne (by rw [← q,hfy])),Nat.add_zero] at h1
    rw [h1,← e3,← e1]
    exact s.held K hK (e2.trans k1) (by rw [e1];exact hne2)
theorem StA.overF (h0:¬(Ny.links+-1=0∧(Af pn Y.h).getD 0=0)) :
    StA most ps gs ((l.set ky (some (Ao Ny (-1)))).set ky (some (Ae (Ao Ny (-1))))) (ds.set j { d with es:=Ak d.es f.1 }) pn A (Ap (Al B T.h f.1) Y.h) ts fh X∧∀ nm,(∃ lz',TI0 most ts lz' (Ax (Al B T.h f.1) T.h nm X.h))→C5 (Ax (Al B T.h f.1) T.h nm X.h) Y.h=Ax (Ap (Al B T.h f.1) Y.h) T.h nm X.h:=by
  obtain ⟨s3,⟨lz,bt,b1,hz⟩,hli,hl,hh⟩:=s.overF0 hT hk hY hYX hYT hf hfy hj hdh hXT hYh hky hly hr hYA hlA hpin
  have hY1:Y∈Al B T.h f.1:=Ca hY hYT
  have hX1:X∈Al B T.h f.1:=Ca s.xm hXT
  have hpos:=b1.pos Y hY1
  have hst:0<Y.pins∨0<Be (Al B T.h f.1) Y.h:=by
    by_cases c:0<Y.pins
    · exact .inl c
    · refine .inr ?_
      have hp:Y.pins=0:=by omega
      have:¬Ny.links+-1=0:=fun q=>h0 ⟨q,by rw [hpin];exact hp⟩
      omega
  have hls:∀ h,Be (Ap (Al B T.h f.1) Y.h) h=Be (Al B T.h f.1) h:=D1 (Bl _ _)
  refine ⟨⟨s3,⟨lz,bt,fun M hM k2=>?_⟩,Ca hX1 (fun q=>hYX q.symm),fun k2=>?_,fun k1=>?_,fun M hM k1 hne=>?_⟩,fun nm be=>?_⟩
  · obtain ⟨K,hK,rfl⟩:=B4 hM
    by_cases c:K.h=Y.h
    · rw [if_pos c] at k2 ⊢;exact hz K hK k2
    · rw [if_neg c] at k2 ⊢;exact hz K hK k2
  · rw [hls];have:=hl X.h;have:=s.x0 k2;omega
  · rw [hls];have:=hl X.h;have:=s.x8 k1;omega
  · rw [hls]
    obtain ⟨K,hK,rfl⟩:=B4 hM
    by_cases c:K.h=Y.h
    · rw [if_pos c]
      show 0<K.pins∨0<Be (Al B T.h f.1) K.h
      rw [b1.same hK hY1 c];exact hst
    · rw [if_neg c] at k1 hne ⊢;exact hh K hK k1 c hne
  · have:=Q3 b1 b1 hY1 (D5 hT f.1) hX1 hky hk hYT (nm:=nm) hYX be hh
    rw [if_pos hst] at this
    exact this
theorem StA.overG (h0:Ny.links+-1=0∧(Af pn Y.h).getD 0=0) :
    StA most (ps.set ky none) gs (((l.set ky (some (Ao Ny (-1)))).set ky (some (Ae (Ao Ny (-1))))).set ky none) (ds.set j { d with es:=Ak d.es f.1 }) pn A (Ex (Ap (Al B T.h f.1) Y.h) Y.h) ts fh X∧∀ nm,(∃ lz',TI0 most ts lz' (Ax (Al B T.h f.1) T.h nm X.h))→C5 (Ax (Al B T.h f.1) T.h nm X.h) Y.h=Ax (Ex (Ap (Al B T.h f.1) Y.h) Y.h) T.h nm X.h:=by
  obtain ⟨s3,⟨lz,bt,b1,hz⟩,hli,hl,hh⟩:=s.overF0 hT hk hY hYX hYT hf hfy hj hdh hXT hYh hky hly hr hYA hlA hpin
  have hY1:Y∈Al B T.h f.1:=Ca hY hYT
  have hX1:X∈Al B T.h f.1:=Ca s.xm hXT
  have hp:Y.pins=0:=by rw [← hpin];exact h0.2
  have hl0:Be (Al B T.h f.1) Y.h=0:=by have:=h0.1;omega
  have hls:∀ h,Be (Ap (Al B T.h f.1) Y.h) h=Be (Al B T.h f.1) h:=D1 (Bl _ _)
  have hYt:(⟨Y.h,Y.kind,Y.change+1,Y.s,Y.holes,Y.es,Y.pins⟩:AN)∈Ap (Al B T.h f.1) Y.h:=G6 (f:=fun N=>⟨N.h,N.kind,N.change+1,N.s,N.holes,N.es,N.pins⟩) hY1
  have hes:Y.es=[]:=b1.file Y hY1 hky
  have s4:=s3.goneF bt (k:=ky) hYt hYh hky hp (by rw [hls];exact hl0)
  have b4:=bt.gone hYt hes (by rw [hls];exact hl0) (show Y.h≠(0,0) by obtain ⟨lz0,b0,_⟩:=s.ti;exact b0.noroot hT hY hf hfy)
  have hlg:∀ h,Be (Ex (Ap (Al B T.h f.1) Y.h) Y.h) h=Be (Al B T.h f.1) h:=fun h=>by
    rw [← hls]
    refine Hd _ _ (fun M hM q=>?_) h
    have e:M.h=Y.h:=by simpa using q
    rw [bt.same hM hYt e];exact hes
  refine ⟨⟨s4,⟨lz,b4,fun M hM k2=>?_⟩,Kb (Ca hX1 (fun q=>hYX q.symm)) (fun q=>hYX q.symm),fun k2=>?_,fun k1=>?_,fun M hM k1 hne=>?_⟩,fun nm be=>?_⟩
  · obtain ⟨K,hK,rfl⟩:=B4 (List.mem_filter.1 hM).1
    by_cases c:K.h=Y.h
    · rw [if_pos c] at k2 ⊢;exact hz K hK k2
    · rw [if_neg c] at k2 ⊢;exact hz K hK k2
  · rw [hlg];have:=hl X.h;have:=s.x0 k2;omega
  · rw [hlg];have:=hl X.h;have:=s.x8 k1;omega
  · rw [hlg]
    obtain ⟨hM1,hM2⟩:=List.mem_filter.1 hM
    have hne2:M.h≠Y.h:=by simpa using hM2
    obtain ⟨K,hK,rfl⟩:=B4 hM1
    by_cases c:K.h=Y.h
    · rw [if_pos c] at hne2;exact absurd c hne2
    · rw [if_neg c] at k1 hne ⊢;exact hh K hK k1 c hne
  · have:=Q3 b1 b1 hY1 (D5 hT f.1) hX1 hky hk hYT (nm:=nm) hYX be hh
    rw [if_neg (by omega)] at this
    exact this
end
end
end
section
variable {B:Nat} (ad:Nat→Addr) (b most tb dm pm:Nat) (ps:List (Option Nat)) (gs:List Int) (vl vg:Value) (T:TypeId) (Sl Sg:Nat→Prop) (l:List (Option ND)) (ds:List DN) (pn:List ((Int×Int)×Int)) (hl:ps.length=gs.length) (hr:∀ x∈gs,0≤x∧x≤1000000) (n g m f:Int) (hdd:(ds.map (·.h)).Nodup)
include B ad b most tb dm pm ps gs vl vg T Sl Sg l ds pn hl hr n g m f hdd
theorem Acp (hn1:∀ d∈ds,d.h≠(n,g)) (j2:Nat) (d2:DN) (hj2:ds[j2]?=some d2) (hh2:d2.h=(m,f)):Au Tryz.prog 55 #[Pp b,Hg n g,Hg m f] (Ra B ad b tb most dm pm ps gs vl vg T Sl Sg l ds pn) (fun u L=>u=Ag ad 7∧L=(Ra B ad b tb most dm pm ps gs vl vg T Sl Sg l ds pn)):=by
 refine Zo 50 Tryz.func55 fun E w0 w h=>?_
 have h:=h.eS [7] 6 rfl
 exact Qs (ZN [Ii n,Ii g] 34 h fun k1 w h=>ZN [Ii m,Ii f] 34 h fun k2 w h=>ZP .nilIface (Qn (Aa (Ds 11 [1,2,4] h fun w h=>Dp 0 16 (Pp b) [1,2,4] h (Dp 1 17 (Pp b) [1,2,4] h (Dp 2 19 (Pt b 4) [1,2,4] h (Dq 3 23 [1,2,4] rfl h (Gl 4 (.map (some dm)) 1) (Dq 4 15 [1,2,4] rfl h (Gla 0 [Ii n,Ii g] 0) (Dq 5 31 [1,2,4] rfl h (A4 (v':=.tuple #[.map none,.bool false]) (Gkd (kv:=ds.map Bt) true (n,g) 2 rfl) (by rw [C4 hn1];rfl)) (Dp 6 63 (.tuple #[.map none,.bool false]) [1,2,4] h (Dp 7 383 (.map none) [1,2,4] h (Dp 8 767 (.bool false) [1,2,4] h (Dp 9 511 (.map none) [1,2,4] h (Dp 10 1023 (.bool false) [1,2,4] h (Dd (Ai (Aa (Ds 11 [0,2,4] h fun w h=>Dp 0 16 (Pp b) [0,2,4] h (Dp 1 17 (Pp b) [0,2,4] h (Dp 2 19 (Pt b 4) [0,2,4] h (Dq 3 23 [0,2,4] rfl h (Gl 4 (.map (some dm)) 1) (Dq 4 15 [0,2,4] rfl h (Gla 0 [Ii m,Ii f] 0) (Dq 5 31 [0,2,4] rfl h (A4 (v':=.tuple #[.map (some d2.mb),.bool true]) (Gkd (kv:=ds.map Bt) true (m,f) 2 rfl) (by rw [show Af (ds.map Bt) (m,f)=_ from hh2▸C1 hdd hj2];rfl)) (Dp 6 63 (.tuple #[.map (some d2.mb),.bool true]) [0,2,4] h (Dp 7 383 (.map (some d2.mb)) [0,2,4] h (Dp 8 767 (.bool true) [0,2,4] h (Dp 9 511 (.map (some d2.mb)) [0,2,4] h (Dp 10 1023 (.bool true) [0,2,4] h (Dd (Ai (Aa (Av (Qs (ZP (.bool true) (ZP (.bool true) (ZP (.bool false) (ZP (.bool true) (ZP (.bool true) (ZP (.bool true) (Qg (Qs (ZG h (Gr 0 (Ag ad 7) 2 rfl (Ff (c:=7) (by decide) rfl)) (ZP (Ag ad 7) (Qr (B7 (Ar (ZR [Ag ad 7] [3,3,3,3,3,3,3] h ⟨rfl,rfl⟩)))))))))))))))))))))))))))))))))))))))))))))))
theorem Add (j1:Nat) (d1:DN) (hj1:ds[j1]?=some d1) (hh1:d1.h=(n,g)) (hn2:∀ d∈ds,d.h≠(m,f)):Au Tryz.prog 55 #[Pp b,Hg n g,Hg m f] (Ra B ad b tb most dm pm ps gs vl vg T Sl Sg l ds pn) (fun u L=>u=Ag ad 8∧L=(Ra B ad b tb most dm pm ps gs vl vg T Sl Sg l ds pn)):=by
 refine Zo 50 Tryz.func55 fun E w0 w h=>?_
 have h:=h.eS [8] 6 rfl
 exact Qs (ZN [Ii n,Ii g] 34 h fun k1 w h=>ZN [Ii m,Ii f] 34 h fun k2 w h=>ZP .nilIface (Qn (Aa (Ds 11 [1,2,4] h fun w h=>Dp 0 16 (Pp b) [1,2,4] h (Dp 1 17 (Pp b) [1,2,4] h (Dp 2 19 (Pt b 4) [1,2,4] h (Dq 3 23 [1,2,4] rfl h (Gl 4 (.map (some dm)) 1) (Dq 4 15 [1,2,4] rfl h (Gla 0 [Ii n,Ii g] 0) (Dq 5 31 [1,2,4] rfl h (A4 (v':=.tuple #[.map (some d1.mb),.bool true]) (Gkd (kv:=ds.map Bt) true (n,g) 2 rfl) (by rw [show Af (ds.map Bt) (n,g)=_ from hh1▸C1 hdd hj1];rfl)) (Dp 6 63 (.tuple #[.map (some d1.mb),.bool true]) [1,2,4] h (Dp 7 383 (.map (some d1.mb)) [1,2,4] h (Dp 8 767 (.bool true) [1,2,4] h (Dp 9 511 (.map (some d1.mb)) [1,2,4] h (Dp 10 1023 (.bool true) [1,2,4] h (Dd (Ai (Aa (Ds 11 [0,2,4] h fun w h=>Dp 0 16 (Pp b) [0,2,4] h (Dp 1 17 (Pp b) [0,2,4] h (Dp 2 19 (Pt b 4) [0,2,4] h (Dq 3 23 [0,2,4] rfl h (Gl 4 (.map (some dm)) 1) (Dq 4 15 [0,2,4] rfl h (Gla 0 [Ii m,Ii f] 0) (Dq 5 31 [0,2,4] rfl h (A4 (v':=.tuple #[.map none,.bool false]) (Gkd (kv:=ds.map Bt) true (m,f) 2 rfl) (by rw [C4 hn2];rfl)) (Dp 6 63 (.tuple #[.map none,.bool false]) [0,2,4] h (Dp 7 383 (.map none) [0,2,4] h (Dp 8 767 (.bool false) [0,2,4] h (Dp 9 511 (.map none) [0,2,4] h (Dp 10 1023 (.bool false) [0,2,4] h (Dd (Ai (Aa (Av (Qs (ZP (.bool false) (ZP (.bool false) (Zx (Zx (ZP (.bool false) (ZP (.bool false) (Qf (Qs (ZP (.bool true) (ZP (.bool true) (ZP (.bool false) (ZP (.bool true) (ZP (.bool true) (ZP (.bool true) (Qg (Qs (ZG h (Gr 0 (Ag ad 8) 2 rfl (Ff (c:=8) (by decide) rfl)) (ZP (Ag ad 8) (Qr (B7 (Ar (ZR [Ag ad 8] [3,3,3,3,3,3,3] h ⟨rfl,rfl⟩)))))))))))))))))))))))))))))))))))))))))))))))))))))))
theorem Zj (j1:Nat) (d1:DN) (hj1:ds[j1]?=some d1) (hh1:d1.h=(n,g)) (j2:Nat) (d2:DN) (hj2:ds[j2]?=some d2) (hh2:d2.h=(m,f)) (hfull:0<d2.es.length):Au Tryz.prog 55 #[Pp b,Hg n g,Hg m f] (Ra B ad b tb most dm pm ps gs vl vg T Sl Sg l ds pn) (fun u L=>u=Ag ad 11∧L=(Ra B ad b tb most dm pm ps gs vl vg T Sl Sg l ds pn)):=by
 refine Zo 50 Tryz.func55 fun E w0 w h=>?_
 have h:=h.eS [11] 6 rfl
 refine Qs (ZN [Ii n,Ii g] 34 h fun k1 w h=>ZN [Ii m,Ii f] 34 h fun k2 w h=>ZP .nilIface (Qn (Aa (Ds 11 [1,2,4] h fun w h=>Dp 0 16 (Pp b) [1,2,4] h (Dp 1 17 (Pp b) [1,2,4] h (Dp 2 19 (Pt b 4) [1,2,4] h (Dq 3 23 [1,2,4] rfl h (Gl 4 (.map (some dm)) 1) (Dq 4 15 [1,2,4] rfl h (Gla 0 [Ii n,Ii g] 0) (Dq 5 31 [1,2,4] rfl h (A4 (v':=.tuple #[.map (some d1.mb),.bool true]) (Gkd (kv:=ds.map Bt) true (n,g) 2 rfl) (by rw [show Af (ds.map Bt) (n,g)=_ from hh1▸C1 hdd hj1];rfl)) (Dp 6 63 (.tuple #[.map (some d1.mb),.bool true]) [1,2,4] h (Dp 7 383 (.map (some d1.mb)) [1,2,4] h (Dp 8 767 (.bool true) [1,2,4] h (Dp 9 511 (.map (some d1.mb)) [1,2,4] h (Dp 10 1023 (.bool true) [1,2,4] h (Dd (Ai (Aa (Ds 11 [0,2,4] h fun w h=>Dp 0 16 (Pp b) [0,2,4] h (Dp 1 17 (Pp b) [0,2,4] h (Dp 2 19 (Pt b 4) [0,2,4] h (Dq 3 23 [0,2,4] rfl h (Gl 4 (.map (some dm)) 1) (Dq 4 15 [0,2,4] rfl h (Gla 0 [Ii m,Ii f] 0) (Dq 5 31 [0,2,4] rfl h (A4 (v':=.tuple #[.map (some d2.mb),.bool true]) (Gkd (kv:=ds.map Bt) true (m,f) 2 rfl) (by rw [show Af (ds.map Bt) (m,f)=_ from hh2▸C1 hdd hj2];rfl)) (Dp 6 63 (.tuple #[.map (some d2.mb),.bool true]) [0,2,4] h (Dp 7 383 (.map (some d2.mb)) [0,2,4] h (Dp 8 767 (.bool true) [0,2,4] h (Dp 9 511 (.map (some d2.mb)) [0,2,4] h (Dp 10 1023 (.bool true) [0,2,4] h (Dd (Ai (Aa (Av (Qs (ZP (.bool true) (ZP (.bool true) (ZP (.bool true) (ZP (.bool false) (ZP (.bool false) (ZP (.bool false) (Qf (Qs (ZP (.bool true) (ZP (.bool true) (ZP (.bool true) (ZP (.bool false) (ZP (.bool false) (ZP (.bool false) (Qf (Aa ?_)))))))))))))))))))))))))))))))))))))))))))))))))
 have h:=(h.pkr [7]).dirOpen hj2
 refine Ds 9 [0,1,3,5] h fun w h=>Dp 0 16 (Pp b) [0,1,3,5] h (Dp 1 17 (Pp b) [0,1,3,5] h (Dp 2 19 (Pt b 4) [0,1,3,5] h (Dq 3 23 [0,1,3,5] rfl h (Gl 4 (.map (some dm)) 2) (Dq 4 15 [0,1,3,5] rfl h (Gla 0 [Ii m,Ii f] 1) (Dq 5 31 [0,1,3,5] rfl h (A4 (v':=.map (some d2.mb)) (Gkd (kv:=ds.map Bt) false (m,f) 3 rfl) (by rw [show Af (ds.map Bt) (m,f)=_ from hh2▸C1 hdd hj2];rfl)) (Dq (v:=Ii ((d2.es.map Bd).length:Int)) 6 63 [0,1,3,5] rfl h (E3 (K:=9) (E:=34) (by kernel_rfl) 0 rfl) (Dp 7 127 (.bool (decide (((d2.es.map Bd).length:Int)>0))) [0,1,3,5] h (Dp 8 255 (.bool (decide (((d2.es.map Bd).length:Int)>0))) [0,1,3,5] h (Dd (Ai (Zd (((d2.es.map Bd).length:Int)>0) (fun hc3=>?_) fun hc3=>?_)))))))))))
 refine Qs (ZG h (Gr 0 (Ag ad 11) 4 rfl (Ff (c:=11) (by decide) rfl)) (ZP (Ag ad 11) (Qr (B7 (Ar ?_)))))
 have h:=h.dirBack (d:=d2) hj2
 exact ZR [Ag ad 11] [4,4,4,4,0,3,3] h ⟨rfl,rfl⟩
 exfalso;first|omega|(simp only [List.length_map] at *;omega)|(revert hc3;simp;done)|(revert hc3;simp;omega)
theorem T6 (j1:Nat) (d1:DN) (hj1:ds[j1]?=some d1) (hh1:d1.h=(n,g)) (j2:Nat) (d2:DN) (hj2:ds[j2]?=some d2) (hh2:d2.h=(m,f)) (hemp:d2.es.length=0):Au Tryz.prog 55 #[Pp b,Hg n g,Hg m f] (Ra B ad b tb most dm pm ps gs vl vg T Sl Sg l ds pn) (fun u L=>u=.nilIface∧L=(Ra B ad b tb most dm pm ps gs vl vg T Sl Sg l ds pn)):=by
 refine Zo 50 Tryz.func55 fun E w0 w h=>?_
 refine Qs (ZN [Ii n,Ii g] 34 h fun k1 w h=>ZN [Ii m,Ii f] 34 h fun k2 w h=>ZP .nilIface (Qn (Aa (Ds 11 [1,1,3] h fun w h=>Dp 0 16 (Pp b) [1,1,3] h (Dp 1 17 (Pp b) [1,1,3] h (Dp 2 19 (Pt b 4) [1,1,3] h (Dq 3 23 [1,1,3] rfl h (Gl 4 (.map (some dm)) 1) (Dq 4 15 [1,1,3] rfl h (Gla 0 [Ii n,Ii g] 0) (Dq 5 31 [1,1,3] rfl h (A4 (v':=.tuple #[.map (some d1.mb),.bool true]) (Gkd (kv:=ds.map Bt) true (n,g) 2 rfl) (by rw [show Af (ds.map Bt) (n,g)=_ from hh1▸C1 hdd hj1];rfl)) (Dp 6 63 (.tuple #[.map (some d1.mb),.bool true]) [1,1,3] h (Dp 7 383 (.map (some d1.mb)) [1,1,3] h (Dp 8 767 (.bool true) [1,1,3] h (Dp 9 511 (.map (some d1.mb)) [1,1,3] h (Dp 10 1023 (.bool true) [1,1,3] h (Dd (Ai (Aa (Ds 11 [0,1,3] h fun w h=>Dp 0 16 (Pp b) [0,1,3] h (Dp 1 17 (Pp b) [0,1,3] h (Dp 2 19 (Pt b 4) [0,1,3] h (Dq 3 23 [0,1,3] rfl h (Gl 4 (.map (some dm)) 1) (Dq 4 15 [0,1,3] rfl h (Gla 0 [Ii m,Ii f] 0) (Dq 5 31 [0,1,3] rfl h (A4 (v':=.tuple #[.map (some d2.mb),.bool true]) (Gkd (kv:=ds.map Bt) true (m,f) 2 rfl) (by rw [show Af (ds.map Bt) (m,f)=_ from hh2▸C1 hdd hj2];rfl)) (Dp 6 63 (.tuple #[.map (some d2.mb),.bool true]) [0,1,3] h (Dp 7 383 (.map (some d2.mb)) [0,1,3] h (Dp 8 767 (.bool true) [0,1,3] h (Dp 9 511 (.map (some d2.mb)) [0,1,3] h (Dp 10 1023 (.bool true) [0,1,3] h (Dd (Ai (Aa (Av (Qs (ZP (.bool true) (ZP (.bool true) (ZP (.bool true) (ZP (.bool false) (ZP (.bool false) (ZP (.bool false) (Qf (Qs (ZP (.bool true) (ZP (.bool true) (ZP (.bool true) (ZP (.bool false) (ZP (.bool false) (ZP (.bool false) (Qf (Aa ?_)))))))))))))))))))))))))))))))))))))))))))))))))
 have h:=(h.pkr [6]).dirOpen hj2
 refine Ds 9 [0,1,2,4] h fun w h=>Dp 0 16 (Pp b) [0,1,2,4] h (Dp 1 17 (Pp b) [0,1,2,4] h (Dp 2 19 (Pt b 4) [0,1,2,4] h (Dq 3 23 [0,1,2,4] rfl h (Gl 4 (.map (some dm)) 2) (Dq 4 15 [0,1,2,4] rfl h (Gla 0 [Ii m,Ii f] 1) (Dq 5 31 [0,1,2,4] rfl h (A4 (v':=.map (some d2.mb)) (Gkd (kv:=ds.map Bt) false (m,f) 3 rfl) (by rw [show Af (ds.map Bt) (m,f)=_ from hh2▸C1 hdd hj2];rfl)) (Dq (v:=Ii ((d2.es.map Bd).length:Int)) 6 63 [0,1,2,4] rfl h (E3 (K:=9) (E:=34) (by kernel_rfl) 0 rfl) (Dp 7 127 (.bool (decide (((d2.es.map Bd).length:Int)>0))) [0,1,2,4] h (Dp 8 255 (.bool (decide (((d2.es.map Bd).length:Int)>0))) [0,1,2,4] h (Dd (Ai (Zd (((d2.es.map Bd).length:Int)>0) (fun hc3=>?_) fun hc3=>?_)))))))))))
 exfalso;first|omega|(simp only [List.length_map] at *;omega)|(revert hc3;simp;done)|(revert hc3;simp;omega)
 refine B6 ?_
 refine Cb (Ai ?_)
 refine Qs (ZP .nilIface (Qr ?_))
 have h:=h.dirBack (d:=d2) hj2
 exact ZR [.nilIface] [3,3,3,3,0,2,2] h ⟨rfl,rfl⟩
theorem Mq (hn1:∀ d∈ds,d.h≠(n,g)) (hn2:∀ d∈ds,d.h≠(m,f)):Au Tryz.prog 55 #[Pp b,Hg n g,Hg m f] (Ra B ad b tb most dm pm ps gs vl vg T Sl Sg l ds pn) (fun u L=>u=.nilIface∧L=(Ra B ad b tb most dm pm ps gs vl vg T Sl Sg l ds pn)):=by
 refine Zo 50 Tryz.func55 fun E w0 w h=>?_
 refine Qs (ZN [Ii n,Ii g] 34 h fun k1 w h=>ZN [Ii m,Ii f] 34 h fun k2 w h=>ZP .nilIface (Qn (Aa (Ds 11 [1,1,3] h fun w h=>Dp 0 16 (Pp b) [1,1,3] h (Dp 1 17 (Pp b) [1,1,3] h (Dp 2 19 (Pt b 4) [1,1,3] h (Dq 3 23 [1,1,3] rfl h (Gl 4 (.map (some dm)) 1) (Dq 4 15 [1,1,3] rfl h (Gla 0 [Ii n,Ii g] 0) (Dq 5 31 [1,1,3] rfl h (A4 (v':=.tuple #[.map none,.bool false]) (Gkd (kv:=ds.map Bt) true (n,g) 2 rfl) (by rw [C4 hn1];rfl)) (Dp 6 63 (.tuple #[.map none,.bool false]) [1,1,3] h (Dp 7 383 (.map none) [1,1,3] h (Dp 8 767 (.bool false) [1,1,3] h (Dp 9 511 (.map none) [1,1,3] h (Dp 10 1023 (.bool false) [1,1,3] h (Dd (Ai (Aa (Ds 11 [0,1,3] h fun w h=>Dp 0 16 (Pp b) [0,1,3] h (Dp 1 17 (Pp b) [0,1,3] h (Dp 2 19 (Pt b 4) [0,1,3] h (Dq 3 23 [0,1,3] rfl h (Gl 4 (.map (some dm)) 1) (Dq 4 15 [0,1,3] rfl h (Gla 0 [Ii m,Ii f] 0) (Dq 5 31 [0,1,3] rfl h (A4 (v':=.tuple #[.map none,.bool false]) (Gkd (kv:=ds.map Bt) true (m,f) 2 rfl) (by rw [C4 hn2];rfl)) (Dp 6 63 (.tuple #[.map none,.bool false]) [0,1,3] h (Dp 7 383 (.map none) [0,1,3] h (Dp 8 767 (.bool false) [0,1,3] h (Dp 9 511 (.map none) [0,1,3] h (Dp 10 1023 (.bool false) [0,1,3] h (Dd (Ai (Aa (Av (Qs (ZP (.bool false) (ZP (.bool false) (Zx (Zx (ZP (.bool false) (ZP (.bool false) (Qf (Qs (ZP (.bool false) (ZP (.bool false) (Zx (Zx (ZP (.bool false) (ZP (.bool false) (Qf (Aa (Ds 9 [0,1,3] h fun w h=>Dp 0 16 (Pp b) [0,1,3] h (Dp 1 17 (Pp b) [0,1,3] h (Dp 2 19 (Pt b 4) [0,1,3] h (Dq 3 23 [0,1,3] rfl h (Gl 4 (.map (some dm)) 1) (Dq 4 15 [0,1,3] rfl h (Gla 0 [Ii m,Ii f] 0) (Dq 5 31 [0,1,3] rfl h (A4 (v':=.map none) (Gkd (kv:=ds.map Bt) false (m,f) 2 rfl) (by rw [C4 hn2];rfl)) (Dq (v:=Ii 0) 6 63 [0,1,3] rfl h (Tf (K:=9) (E:=34) (by kernel_rfl)) (Dp 7 127 (.bool false) [0,1,3] h (Dp 8 255 (.bool false) [0,1,3] h (Dd (Ai (Zf (B6 ?_))))))))))))))))))))))))))))))))))))))))))))))))))))))))))))))
 refine Cb (Ai ?_)
 exact Qs (ZP .nilIface (Qr (ZR [.nilIface] [2,2,2,2,2,2,2] h ⟨rfl,rfl⟩)))
end
theorem Adw {most:Nat} {ts:List Int} {A:List AN} (ti:TI most ts A) {d:Hdl} (h:∃ M∈A,M.h=d∧M.kind=2):∃ M∈A,M.h=upA A d∧M.kind=2:=by
  rcases Ko A d with ⟨q,_⟩|⟨M,hM,e,he,_,q⟩
  · rw [q];exact h
  · refine ⟨M,hM,q.symm,?_⟩
    rcases ti.base.kind M hM with k|k
    · rw [ti.base.file M hM k] at he;cases he
    · exact k
theorem Ug {most:Nat} {ts:List Int} {A:List AN} (ti:TI most ts A) {d:Hdl} (h:∃ M∈A,M.h=d∧M.kind=2) (hne:d≠(0,0)):upA A d≠d:=by
  obtain ⟨D,hD,rfl,hk⟩:=h
  have h1:=ti.base.one D hD hk
  rw [if_neg hne] at h1
  obtain ⟨M,hM,e,he,e2⟩:=Ok (A:=A) (h:=D.h) (by omega)
  obtain ⟨rk,hr⟩:=ti.rank
  have hd:Bg A e.2=true:=by rw [e2,E2 ti.base.nod hD];simpa using hk
  rw [Ng (by omega) hM he e2]
  intro q
  have:=hr M hM e he hd
  rw [e2,q] at this;omega
theorem Ahf {most:Nat} {ts:List Int} {A:List AN} (ti:TI most ts A):upA A (0,0)=(0,0):=by
  obtain ⟨R,hR,h1,h2⟩:=ti.base.root
  have:=ti.base.one R hR h2
  rw [h1,if_pos rfl] at this
  exact Oh (by omega)
theorem Wn {uh x:Hdl} (h:((!(decide (uh.1=x.1)&&decide (uh.2=x.2)))&&(!(decide (uh.1=0)&&decide (uh.2=0))))=false):uh=x∨uh=(0,0):=by
  by_cases c:uh.1=x.1∧uh.2=x.2
  · exact .inl (Prod.ext c.1 c.2)
  · refine .inr ?_
    by_cases c2:uh.1=0∧uh.2=0
    · exact Prod.ext c2.1 c2.2
    · exfalso
      have a1:(decide (uh.1=x.1)&&decide (uh.2=x.2))=false:=by
        rw [Bool.and_eq_false_iff,decide_eq_false_iff_not,decide_eq_false_iff_not]
        by_cases e:uh.1=x.1
        · exact .inr fun e2=>c ⟨e,e2⟩
        · exact .inl e
      have a2:(decide (uh.1=0)&&decide (uh.2=0))=false:=by
        rw [Bool.and_eq_false_iff,decide_eq_false_iff_not,decide_eq_false_iff_not]
        by_cases e:uh.1=0
        · exact .inr fun e2=>c2 ⟨e,e2⟩
        · exact .inl e
      rw [a1,a2] at h;cases h
theorem Aag {most:Nat} {ts:List Int} {A:List AN} (ti:TI most ts A) {x d uh:Hdl} {ku:Nat} (hu:uh=itU A ku d) (hno:∀ j,j<ku→itU A j d≠x) (h:uh=x∨uh=(0,0)):((decide (uh.1=x.1)&&decide (uh.2=x.2))=true↔B8 A x d):=by
  rw [Bool.and_eq_true,decide_eq_true_eq,decide_eq_true_eq]
  constructor
  · intro q
    exact ⟨ku,by rw [← hu];exact Prod.ext q.1 q.2⟩
  · intro q
    by_cases h1:uh=x
    · rw [h1];exact ⟨rfl,rfl⟩
    · have h2:=h.resolve_left h1
      refine absurd q (O4 (k:=ku) (by rw [← hu,h2];exact Ahf ti) fun j hj=>?_)
      by_cases e:j=ku
      · subst e;rw [← hu];exact h1
      · exact hno j (by omega)
theorem Pz {B:Nat} (ad:Nat→Addr) (b most tb dm pm:Nat) (ps:List (Option Nat)) (gs:List Int) (vl vg:Value) (T:TypeId) (Sl Sg:Nat→Prop) (l:List (Option ND)) (ds:List DN) (pn:List ((Int×Int)×Int)) (hl:ps.length=gs.length) (hr:∀ x∈gs,0≤x∧x≤1000000) {A:List AN} {ts:List Int} (sm:Sim most ps gs l ds pn A ts) (ti:TI most ts A) (x d:Hdl) (hdA:∃ M∈A,M.h=d∧M.kind=2) (rk:Hdl→Nat) (hrk:∀ d,upA A d≠d→rk (upA A d)<rk d)  : Au Tryz.prog 54 #[Pp b,Hg d.1 d.2,Hg x.1 x.2] (Ra B ad b tb most dm pm ps gs vl vg T Sl Sg l ds pn) (fun u L=>∃ b0:Bool,(b0=true↔B8 A x d)∧u=.bool b0∧L=(Ra B ad b tb most dm pm ps gs vl vg T Sl Sg l ds pn)):=by
 refine Zo 31 Tryz.func54 fun E w0 w h=>?_
 have h:=h.eS [10] 6 rfl
 refine Qs (ZN [Ii d.1,Ii d.2] 34 h fun k1 w h=>ZN [Ii x.1,Ii x.2] 34 h fun k2 w h=>ZP (.bool false) (Qn (Aa (Av ?_))))
 refine ZL (X:=Hdl×Nat×(Nat→Value)) [(7,30)] (fun ⟨uh,ku,J0⟩=>[]) (fun ⟨uh,ku,J0⟩=>J0) (fun ⟨uh,ku,J0⟩=>[Rh k2 x.1 x.2,Rh k1 uh.1 uh.2,Br B ad [10],Rb b tb most dm pm,B1 tb ps gs vl vg T Sl Sg,Cm l,Ci true dm hk (ds.map Bt),Eh ds,Ci true pm hk (pn.map Cw),A6 B ad]) (fun ⟨uh,ku,J0⟩=>uh=itU A ku d∧(∀ j,j<ku→itU A j d≠x)∧∃ M∈A,M.h=uh∧M.kind=2) (fun ⟨uh,ku,J0⟩=>rk uh) (fun j=>⟨d,0,j⟩) ⟨rfl,fun j hj=>absurd hj (by omega),hdA⟩ [0,0,0,0,0,0,0,0,0,0] h ?_
 rintro ⟨uh,ku,J0⟩ w hG h
 obtain ⟨hu,hnoU,hdir⟩:uh=itU A ku d∧(∀ j,j<ku→itU A j d≠x)∧∃ M∈A,M.h=uh∧M.kind=2:=hG
 refine Aa (Aa (Ds 11 [0,0,1] h fun w h=>Dq 0 2 [0,0,1] rfl h (Gla 0 [Ii uh.1,Ii uh.2] 1) (Dq 1 1 [0,0,1] rfl h (Gla 0 [Ii x.1,Ii x.2] 0) ?_)))
 obtain ⟨b3,hb3⟩:=nmB (!((decide (uh.1=x.1))&&(decide (uh.2=x.2))))
 refine Dq (v:=.bool b3) 2 3 [0,0,1] rfl h (by subst hb3;exact Ez (n1:=uh.1) (g1:=uh.2) (n2:=x.1) (g2:=x.2) (by kernel_rfl)) (Dp 3 7 (.bool b3) [0,0,1] h ?_)
 refine Cq 4 495 [0,0,1] rfl (by kernel_rfl) (Bz (Bz (Kx (Ke (Bz B3))))) (ym1 (v:=Hg uh.1 uh.2) b3 (by cases b3<;>kernel_rfl) (fun hB=>by subst hB;exact Je 0 [Ii uh.1,Ii uh.2] (Hg uh.1 uh.2) (by kernel_rfl) 1 rfl)) h (by kernel_rfl) ?_
 refine Cq 5 31 [0,0,1] rfl (by kernel_rfl) (Bz (Bz (Kx (Ke (Bz B3))))) (ym1 (v:=Pp b) b3 (by cases b3<;>kernel_rfl) (fun hB=>by subst hB;exact Az (v:=Pp b) fun _=>by kernel_rfl)) h (by kernel_rfl) ?_
 refine Cq 6 63 [0,0,1] rfl (by kernel_rfl) (Bz (Bz (Kx (Ke (Bz B3))))) (ym1 (v:=Pp b) b3 (by cases b3<;>kernel_rfl) (fun hB=>by subst hB;exact Az (v:=Pp b) fun _=>by kernel_rfl)) h (by kernel_rfl) ?_
 refine Cq 7 127 [0,0,1] rfl (by kernel_rfl) (Bz (Bz (Kx (Ke (Bz B3))))) (ym1 (v:=Pt b 2) b3 (by cases b3<;>kernel_rfl) (fun hB=>by subst hB;exact Az (v:=Pt b 2) fun _=>by kernel_rfl)) h (by kernel_rfl) ?_
 refine Cq 8 255 [0,0,1] rfl (by kernel_rfl) (Bz (Bz (Kx (Ke (Bz B3))))) (ym1 (v:=Hg 0 0) b3 (by cases b3<;>kernel_rfl) (fun hB=>by subst hB;exact Je 2 [Ii 0,Ii 0] (Hg 0 0) (by kernel_rfl) 2 rfl)) h (by kernel_rfl) ?_
 obtain ⟨b4,hb4⟩:=nmB (!((decide (uh.1=0))&&(decide (uh.2=0))))
 refine Cq 9 511 [0,0,1] rfl (by kernel_rfl) (Bz (Bz (Kx (Ke (Bz B3))))) (ym1 (v:=.bool b4) b3 (by cases b3<;>kernel_rfl) (fun hB=>by subst hB;exact by subst hb4;exact Ez (n1:=uh.1) (g1:=uh.2) (n2:=0) (g2:=0) (by kernel_rfl))) h (by kernel_rfl) ?_
 obtain ⟨b5,hb5⟩:=nmB (b3&&b4)
 refine Dq (v:=.bool b5) 10 1023 [0,0,1] rfl h (by subst hb5;exact Az (v:=.bool (b3&&b4)) fun _=>by cases b3<;>kernel_rfl) (Dd (Ai (Zi (b5) (fun hc6=>?_) fun hc6=>?_)))
 have q7:=hb5.symm.trans hc6
 have q8:=aL q7
 have q9:=aR q7
 have q10:=hb3.symm.trans q8
 have q11:=nT q10
 have q12:=ndA q11
 have q13:=hb4.symm.trans q9
 have q14:=nT q13
 have q15:=ndA q14
 have hnx:uh≠x:=fun q=>by have q1:=congrArg Prod.fst q;have q2:=congrArg Prod.snd q;omega
 have hn0:uh≠(0,0):=fun q=>by have q1:=congrArg Prod.fst q;have q2:=congrArg Prod.snd q;simp only at q1 q2;omega
 refine Kn (Av (Aa ?_))
 have hdir0:=hdir
 obtain ⟨M0,hM0,hMh,hMk⟩:=hdir
 obtain ⟨kq,Nq,hkq,haq,hrq⟩:∃ (kq:Nat) (Nq:ND),l[kq]?=some (some Nq)∧Bk ps gs uh.1 uh.2=some Nq.nb∧NdR A Nq M0:=by
   rcases sm.at_ ti uh.1 uh.2 with ⟨_,h2⟩|⟨k,N,M,_,_,h2,h3,h4,h5,h6,h7⟩
   · rw [show ((uh.1,uh.2):Hdl)=M0.h from hMh.symm,C2 ti.base.nod hM0] at h2;cases h2
   · exact ⟨k,N,h2,h3,by rw [← ti.base.same h5 hM0 (h6.trans hMh.symm)];exact h7⟩
 have hupn:Nq.upn=(upA A uh).1:=by rw [← hMh];exact (hrq.dird hMk).2.1
 have hupg:Nq.upg=(upA A uh).2:=by rw [← hMh];exact (hrq.dird hMk).2.2
 refine Ds 12 [1,2] h fun w h=>Dp 0 528 (Pp b) [1,2] h (Dp 1 529 (Pp b) [1,2] h (Dp 2 531 (Pp b) [1,2] h (Dq 3 535 [1,2] rfl h (Gl 0 (Pp tb) 1) (Dq 4 527 [1,2] rfl h (Gla 0 [Ii uh.1,Ii uh.2] 0) ?_))))
 refine A1 [5,9] (by kernel_rfl) rfl ?_
 refine Di #[Pp tb,Hg uh.1 uh.2] [4,4,2] [4,4] rfl (by kernel_rfl) (by have z:=Bm (B:=B) ad tb ps gs vl vg T Sl Sg l hl hr uh.1 uh.2 kq Nq hkq haq;rw [hupn,hupg] at z;exact z) (fun _=>by kernel_rfl) h ?_ ?_
 rintro v_ L_ w ⟨rfl,rfl⟩ h
 refine ⟨by kernel_rfl,?_⟩
 refine Dp 6 575 (.tuple #[.agg #[Ii Nq.kind,Ii (Am Nq),Ii Nq.links,Ii Nq.change,Ii ((upA A uh).1),Ii ((upA A uh).2)],.nilIface]) [4,4] h (Dp 7 895 (.agg #[Ii Nq.kind,Ii (Am Nq),Ii Nq.links,Ii Nq.change,Ii ((upA A uh).1),Ii ((upA A uh).2)]) [4,4] h (Dp 8 1791 .nilIface [4,4] h ?_))
 refine A1 [9] (by kernel_rfl) rfl ?_
 refine Ch [5,5] rfl (by kernel_rfl) (fun b=>Pp b) [Ii 0,Ii 0,Ii 0,Ii 0,Ii 0,Ii 0] 46 (fun _=>by kernel_rfl) h ?_ ?_
 intro k16 w h;refine ⟨by kernel_rfl,?_⟩
 refine As 10 [5,5] 0 [Ii Nq.kind,Ii (Am Nq),Ii Nq.links,Ii Nq.change,Ii ((upA A uh).1),Ii ((upA A uh).2)] [Ii Nq.kind,Ii (Am Nq),Ii Nq.links,Ii Nq.change,Ii ((upA A uh).1),Ii ((upA A uh).2)] 0 rfl h fun w h=>Dp 11 2047 .nilIface [5,5] h (Dd (Ai (Ah (ZP (Pt k16 4) (ZG h (Gla 4 [Ii ((upA A uh).1),Ii ((upA A uh).2)] 0) (ZSs [Ii ((upA A uh).1),Ii ((upA A uh).2)] 5 rfl h fun w h=>Cu ?_))))))
 refine Cb ?_
 have hQ17:((upA A uh)=itU A (ku+1) d∧(∀ j,j<(ku+1)→itU A j d≠x)∧∃ M∈A,M.h=(upA A uh)∧M.kind=2)∧(rk (upA A uh))<(rk uh):=⟨⟨by rw [hu];rfl,fun j hj=>by by_cases e:j=ku;(subst e;rw [← hu];exact hnx);exact hnoU j (by omega),Adw ti hdir0⟩,hrk uh (Ug ti hdir0 hn0)⟩
 refine Bn (fun j=>⟨(upA A uh),(ku+1),j⟩) hQ17 (by kernel_rfl) [4,4,3,3,1,1,1,1,1,1] (by kernel_rfl) h
 exact Ba
 refine Ch [2,3] rfl (by kernel_rfl) (fun b=>Pp b) [Ii 0,Ii 0,Ii 0,Ii 0,Ii 0,Ii 0] 46 (fun _=>by kernel_rfl) h ?_ ?_
 intro k18 w h;refine ⟨by kernel_rfl,?_⟩
 refine Ad 5 [5,5,3] [5,5] (by have z:=Bm (B:=B) ad tb ps gs vl vg T Sl Sg l hl hr uh.1 uh.2 kq Nq hkq haq;rw [hupn,hupg] at z;exact z) h ?_
 rintro v_ L_ w ⟨rfl,rfl⟩ h
 refine ⟨by kernel_rfl,?_⟩
 refine Dp 6 575 (.tuple #[.agg #[Ii Nq.kind,Ii (Am Nq),Ii Nq.links,Ii Nq.change,Ii ((upA A uh).1),Ii ((upA A uh).2)],.nilIface]) [5,5] h (Dp 7 895 (.agg #[Ii Nq.kind,Ii (Am Nq),Ii Nq.links,Ii Nq.change,Ii ((upA A uh).1),Ii ((upA A uh).2)]) [5,5] h (Dp 8 1791 .nilIface [5,5] h (As 10 [5,5] 0 [Ii Nq.kind,Ii (Am Nq),Ii Nq.links,Ii Nq.change,Ii ((upA A uh).1),Ii ((upA A uh).2)] [Ii Nq.kind,Ii (Am Nq),Ii Nq.links,Ii Nq.change,Ii ((upA A uh).1),Ii ((upA A uh).2)] 3 rfl h fun w h=>Dp 11 2047 .nilIface [5,5] h (Dd (Ai (Ah (ZP (Pt k18 4) (ZG h (Gla 4 [Ii ((upA A uh).1),Ii ((upA A uh).2)] 3) (ZSs [Ii ((upA A uh).1),Ii ((upA A uh).2)] 5 rfl h fun w h=>Cu ?_)))))))))
 refine Cb ?_
 have hQ19:((upA A uh)=itU A (ku+1) d∧(∀ j,j<(ku+1)→itU A j d≠x)∧∃ M∈A,M.h=(upA A uh)∧M.kind=2)∧(rk (upA A uh))<(rk uh):=⟨⟨by rw [hu];rfl,fun j hj=>by by_cases e:j=ku;(subst e;rw [← hu];exact hnx);exact hnoU j (by omega),Adw ti hdir0⟩,hrk uh (Ug ti hdir0 hn0)⟩
 refine Bn (fun j=>⟨(upA A uh),(ku+1),j⟩) hQ19 (by kernel_rfl) [4,4,2,3,0,0,1,1,1,1] (by kernel_rfl) h
 exact Ba
 have q20:=hb5.symm.trans hc6
 have hex:=Wn (uh:=uh) (x:=x) (by rw [← hb3,← hb4,← hb5];exact hc6)
 refine C9 (D3 (Ek (Ea (Ai (Qs (ZG h (Gla 0 [Ii uh.1,Ii uh.2] 1) (ZG h (Gla 0 [Ii x.1,Ii x.2] 0) (ZG h (Fm (n1:=uh.1) (g1:=uh.2) (n2:=x.1) (g2:=x.2) (by kernel_rfl)) (ZP (.bool ((decide (uh.1=x.1))&&(decide (uh.2=x.2)))) (Qr (ZR [.bool ((decide (uh.1=x.1))&&(decide (uh.2=x.2)))] [3,3,3,3,3,3,3] h ?_)))))))))))
 refine ⟨_,?_,rfl,rfl⟩
 exact Aag ti hu hnoU hex
section
variable {B:Nat} (ad:Nat→Addr) (b most tb dm pm:Nat) (ps:List (Option Nat)) (gs:List Int) (vl vg:Value) (T:TypeId) (Sl Sg:Nat→Prop) (l:List (Option ND)) (ds:List DN) (pn:List ((Int×Int)×Int)) (hl:ps.length=gs.length) (hr:∀ x∈gs,0≤x∧x≤1000000)
include B ad b most tb dm pm ps gs vl vg T Sl Sg l ds pn hl hr
theorem Uk {A:List AN} {ts:List Int} (sm:Sim most ps gs l ds pn A ts) (ti:TI most ts A) (x d:Hdl) (hdA:∃ M∈A,M.h=d∧M.kind=2) (rk:Hdl→Nat) (hrk:∀ d,upA A d≠d→rk (upA A d)<rk d) (hcl:B8 A x d):Au Tryz.prog 54 #[Pp b,Hg d.1 d.2,Hg x.1 x.2] (Ra B ad b tb most dm pm ps gs vl vg T Sl Sg l ds pn) fun u L=>u=.bool true∧L=(Ra B ad b tb most dm pm ps gs vl vg T Sl Sg l ds pn):=
  (Pz ad b most tb dm pm ps gs vl vg T Sl Sg l ds pn hl hr sm ti x d hdA rk hrk).mono fun u L h=>by
    obtain ⟨b0,h1,rfl,rfl⟩:=h
    have:b0=true:=by exact h1.2 hcl
    subst this;exact ⟨rfl,rfl⟩
theorem E8 {A:List AN} {ts:List Int} (sm:Sim most ps gs l ds pn A ts) (ti:TI most ts A) (x d:Hdl) (hdA:∃ M∈A,M.h=d∧M.kind=2) (rk:Hdl→Nat) (hrk:∀ d,upA A d≠d→rk (upA A d)<rk d) (hcl:¬B8 A x d):Au Tryz.prog 54 #[Pp b,Hg d.1 d.2,Hg x.1 x.2] (Ra B ad b tb most dm pm ps gs vl vg T Sl Sg l ds pn) fun u L=>u=.bool false∧L=(Ra B ad b tb most dm pm ps gs vl vg T Sl Sg l ds pn):=
  (Pz ad b most tb dm pm ps gs vl vg T Sl Sg l ds pn hl hr sm ti x d hdA rk hrk).mono fun u L h=>by
    obtain ⟨b0,h1,rfl,rfl⟩:=h
    have:b0=false:=by cases b0;rfl;exact absurd (h1.1 rfl) hcl
    subst this;exact ⟨rfl,rfl⟩
theorem Abk (n g m f:Int) (old nm:ByteArray) (c:Nat) (hd:On ps gs l ds n g c):Au Tryz.prog 20 #[Pp b,Hg n g,.string old,Hg m f,.string nm] (Ra B ad b tb most dm pm ps gs vl vg T Sl Sg l ds pn) (fun u L=>u=Ag ad (c+1)∧L=(Ra B ad b tb most dm pm ps gs vl vg T Sl Sg l ds pn)):=by
 refine Zo 154 Tryz.func20 fun E w0 w h=>?_
 exact Qs (ZN [Ii n,Ii g] 34 h fun k1 w h=>ZN [Ii m,Ii f] 34 h fun k2 w h=>ZP .nilIface (Qm (ZP (Pp b) (ZG h (Gla 0 [Ii n,Ii g] 1) (ZC [2,2,2,2,2,2,2] (K4 ad b most tb dm pm ps gs vl vg T Sl Sg l ds pn hl hr n g c hd) h fun w h=>ZP (.tuple #[.map none,Ag ad (c+1)]) (ZP (.map none) (ZP (Ag ad (c+1)) (ZP (.map none) (ZP (Ag ad (c+1)) (Qu (ZP (Ag ad (c+1)) (ZP (.bool true) (Qg (Qs (ZP (Ag ad (c+1)) (ZP (Ag ad (c+1)) (Qr (Ar (ZR [Ag ad (c+1)] [0,0,0,0,0,0,0] h ⟨rfl,rfl⟩)))))))))))))))))))
theorem Adx (hdd:(ds.map (·.h)).Nodup) (ka:Nat) (ga:Int) (Na:ND) (hla:l[ka]?=some (some Na)) (haa:Bk ps gs (ka:Int) ga=some Na.nb) (ja:Nat) (da:DN) (hja:ds[ja]?=some da) (hda:da.h=((ka:Int),ga)) (m f:Int) (old nm:ByteArray) (c:Nat) (hd:On ps gs l ds m f c):Au Tryz.prog 20 #[Pp b,Hg ka ga,.string old,Hg m f,.string nm] (Ra B ad b tb most dm pm ps gs vl vg T Sl Sg l ds pn) (fun u L=>u=Ag ad (c+1)∧L=(Ra B ad b tb most dm pm ps gs vl vg T Sl Sg l ds pn)):=by
 refine Zo 154 Tryz.func20 fun E w0 w h=>?_
 have h:=h.eS [10] 6 rfl
 exact Qs (ZN [Ii ka,Ii ga] 34 h fun k1 w h=>ZN [Ii m,Ii f] 34 h fun k2 w h=>ZP .nilIface (Qm (ZP (Pp b) (ZG h (Gla 0 [Ii ka,Ii ga] 1) (ZC [3,3,3,3,2] (A7 ad b most tb dm pm ps gs vl vg T Sl Sg l ds pn hl hr (ka:Int) ga ka Na hla haa ja da hja hda hdd) h fun w h=>ZP (.tuple #[.map (some da.mb),.nilIface]) (ZP (.map (some da.mb)) (ZP .nilIface (ZP (.map (some da.mb)) (ZP .nilIface (Qu (ZP .nilIface (ZP (.bool false) (Fs (ZP (Pp b) (ZG h (Gla 0 [Ii m,Ii f] 5) (ZC [0,0,0,0,3,3,3] (K4 ad b most tb dm pm ps gs vl vg T Sl Sg l ds pn hl hr m f c hd) h fun w h=>ZP (.tuple #[.map none,Ag ad (c+1)]) (ZP (.map none) (ZP (Ag ad (c+1)) (ZP (.map none) (ZP (Ag ad (c+1)) (Qu (ZP (Ag ad (c+1)) (ZP (.bool false) (Ft (ZP (Ag ad (c+1)) (ZP (.bool false) (Ft (ZP (Ag ad (c+1)) (ZP (.bool true) (Qg (Qs (ZP (Ag ad (c+1)) (ZP (Ag ad (c+1)) (Qr (Ar (ZR [Ag ad (c+1)] [0,0,0,0,0,0,0] h ⟨rfl,rfl⟩))))))))))))))))))))))))))))))))))))
theorem Y6 (hdd:(ds.map (·.h)).Nodup) (ka:Nat) (ga:Int) (Na:ND) (hla:l[ka]?=some (some Na)) (haa:Bk ps gs (ka:Int) ga=some Na.nb) (ja:Nat) (da:DN) (hja:ds[ja]?=some da) (hda:da.h=((ka:Int),ga)) (kb:Nat) (gb:Int) (Nb:ND) (hlb:l[kb]?=some (some Nb)) (hab:Bk ps gs (kb:Int) gb=some Nb.nb) (jb:Nat) (db:DN) (hjb:ds[jb]?=some db) (hdb:db.h=((kb:Int),gb)) (old nm:ByteArray) (hoz:old.size≤9223372036854775807) (hnz:nm.size≤9223372036854775807) (ho:¬A0 old):Au Tryz.prog 20 #[Pp b,Hg ka ga,.string old,Hg kb gb,.string nm] (Ra B ad b tb most dm pm ps gs vl vg T Sl Sg l ds pn) (fun u L=>u=Ag ad 4∧L=(Ra B ad b tb most dm pm ps gs vl vg T Sl Sg l ds pn)):=by
 refine Zo 154 Tryz.func20 fun E w0 w h=>?_
 have h:=(h.eS [10] 6 rfl).eS [4] 7 rfl
 exact Qs (ZN [Ii ka,Ii ga] 34 h fun k1 w h=>ZN [Ii kb,Ii gb] 34 h fun k2 w h=>ZP .nilIface (Qm (ZP (Pp b) (ZG h (Gla 0 [Ii ka,Ii ga] 1) (ZC [4,4,4,4,3] (A7 ad b most tb dm pm ps gs vl vg T Sl Sg l ds pn hl hr (ka:Int) ga ka Na hla haa ja da hja hda hdd) h fun w h=>ZP (.tuple #[.map (some da.mb),.nilIface]) (ZP (.map (some da.mb)) (ZP .nilIface (ZP (.map (some da.mb)) (ZP .nilIface (Qu (ZP .nilIface (ZP (.bool false) (Fs (ZP (Pp b) (ZG h (Gla 0 [Ii kb,Ii gb] 5) (ZC [0,0,0,0,0] (A7 ad b most tb dm pm ps gs vl vg T Sl Sg l ds pn hl hr (kb:Int) gb kb Nb hlb hab jb db hjb hdb hdd) h fun w h=>ZP (.tuple #[.map (some db.mb),.nilIface]) (ZP (.map (some db.mb)) (ZP .nilIface (ZP (.map (some db.mb)) (ZP .nilIface (Qu (ZP .nilIface (ZP (.bool true) (Qg (Ah (ZP (.string old) (ZC [7] (Kp ad old hoz ho) h fun w h=>ZP (Ag ad 4) (Qu (ZP (Ag ad 4) (ZP (.bool false) (Ft (ZP (Ag ad 4) (ZP (.bool true) (Qg (Qs (ZP (Ag ad 4) (ZP (Ag ad 4) (Qr (Ar (ZR [Ag ad 4] [1,1,1,1,4,4,4] h ⟨rfl,rfl⟩))))))))))))))))))))))))))))))))))))))))
theorem Y9 (hdd:(ds.map (·.h)).Nodup) (ka:Nat) (ga:Int) (Na:ND) (hla:l[ka]?=some (some Na)) (haa:Bk ps gs (ka:Int) ga=some Na.nb) (ja:Nat) (da:DN) (hja:ds[ja]?=some da) (hda:da.h=((ka:Int),ga)) (kb:Nat) (gb:Int) (Nb:ND) (hlb:l[kb]?=some (some Nb)) (hab:Bk ps gs (kb:Int) gb=some Nb.nb) (jb:Nat) (db:DN) (hjb:ds[jb]?=some db) (hdb:db.h=((kb:Int),gb)) (old nm:ByteArray) (hoz:old.size≤9223372036854775807) (hnz:nm.size≤9223372036854775807) (ho:A0 old) (hn:¬A0 nm):Au Tryz.prog 20 #[Pp b,Hg ka ga,.string old,Hg kb gb,.string nm] (Ra B ad b tb most dm pm ps gs vl vg T Sl Sg l ds pn) (fun u L=>u=Ag ad 4∧L=(Ra B ad b tb most dm pm ps gs vl vg T Sl Sg l ds pn)):=by
 refine Zo 154 Tryz.func20 fun E w0 w h=>?_
 have h:=(h.eS [10] 6 rfl).eS [4] 7 rfl
 exact Qs (ZN [Ii ka,Ii ga] 34 h fun k1 w h=>ZN [Ii kb,Ii gb] 34 h fun k2 w h=>ZP .nilIface (Qm (ZP (Pp b) (ZG h (Gla 0 [Ii ka,Ii ga] 1) (ZC [4,4,4,4,3] (A7 ad b most tb dm pm ps gs vl vg T Sl Sg l ds pn hl hr (ka:Int) ga ka Na hla haa ja da hja hda hdd) h fun w h=>ZP (.tuple #[.map (some da.mb),.nilIface]) (ZP (.map (some da.mb)) (ZP .nilIface (ZP (.map (some da.mb)) (ZP .nilIface (Qu (ZP .nilIface (ZP (.bool false) (Fs (ZP (Pp b) (ZG h (Gla 0 [Ii kb,Ii gb] 5) (ZC [0,0,0,0,0] (A7 ad b most tb dm pm ps gs vl vg T Sl Sg l ds pn hl hr (kb:Int) gb kb Nb hlb hab jb db hjb hdb hdd) h fun w h=>ZP (.tuple #[.map (some db.mb),.nilIface]) (ZP (.map (some db.mb)) (ZP .nilIface (ZP (.map (some db.mb)) (ZP .nilIface (Qu (ZP .nilIface (ZP (.bool true) (Qg (Ah (ZP (.string old) (ZC [7] (A5 ad old hoz ho) h fun w h=>ZP .nilIface (Qu (ZP .nilIface (ZP (.bool true) (Qg (Ah (ZP (.string nm) (ZC [0] (Kp ad nm hnz hn) h fun w h=>ZP (Ag ad 4) (Qu (ZP (Ag ad 4) (ZP (.bool true) (Qg (Qs (ZP (Ag ad 4) (ZP (Ag ad 4) (Qr (Ar (ZR [Ag ad 4] [1,1,1,1,4,4,4] h ⟨rfl,rfl⟩))))))))))))))))))))))))))))))))))))))))))))
theorem Acm (hdd:(ds.map (·.h)).Nodup) (ka:Nat) (ga:Int) (Na:ND) (hla:l[ka]?=some (some Na)) (haa:Bk ps gs (ka:Int) ga=some Na.nb) (ja:Nat) (da:DN) (hja:ds[ja]?=some da) (hda:da.h=((ka:Int),ga)) (kb:Nat) (gb:Int) (Nb:ND) (hlb:l[kb]?=some (some Nb)) (hab:Bk ps gs (kb:Int) gb=some Nb.nb) (jb:Nat) (db:DN) (hjb:ds[jb]?=some db) (hdb:db.h=((kb:Int),gb)) (old nm:ByteArray) (hoz:old.size≤9223372036854775807) (hnz:nm.size≤9223372036854775807) (ho:A0 old) (hn:A0 nm) (hx:Af da.es old=none):Au Tryz.prog 20 #[Pp b,Hg ka ga,.string old,Hg kb gb,.string nm] (Ra B ad b tb most dm pm ps gs vl vg T Sl Sg l ds pn) (fun u L=>u=Ag ad 5∧L=(Ra B ad b tb most dm pm ps gs vl vg T Sl Sg l ds pn)):=by
 refine Zo 154 Tryz.func20 fun E w0 w h=>?_
 have h:=((h.eS [10] 6 rfl).eS [4] 7 rfl).eS [5] 8 rfl
 refine Qs (ZN [Ii ka,Ii ga] 34 h fun k1 w h=>ZN [Ii kb,Ii gb] 34 h fun k2 w h=>ZP .nilIface (Qm (ZP (Pp b) (ZG h (Gla 0 [Ii ka,Ii ga] 1) (ZC [5,5,5,5,4] (A7 ad b most tb dm pm ps gs vl vg T Sl Sg l ds pn hl hr (ka:Int) ga ka Na hla haa ja da hja hda hdd) h fun w h=>ZP (.tuple #[.map (some da.mb),.nilIface]) (ZP (.map (some da.mb)) (ZP .nilIface (ZP (.map (some da.mb)) (ZP .nilIface (Qu (ZP .nilIface (ZP (.bool false) (Fs (ZP (Pp b) (ZG h (Gla 0 [Ii kb,Ii gb] 5) (ZC [0,0,0,0,0] (A7 ad b most tb dm pm ps gs vl vg T Sl Sg l ds pn hl hr (kb:Int) gb kb Nb hlb hab jb db hjb hdb hdd) h fun w h=>ZP (.tuple #[.map (some db.mb),.nilIface]) (ZP (.map (some db.mb)) (ZP .nilIface (ZP (.map (some db.mb)) (ZP .nilIface (Qu (ZP .nilIface (ZP (.bool true) (Qg (Ah (ZP (.string old) (ZC [8] (A5 ad old hoz ho) h fun w h=>ZP .nilIface (Qu (ZP .nilIface (ZP (.bool true) (Qg (Ah (ZP (.string nm) (ZC [0] (A5 ad nm hnz hn) h fun w h=>ZP .nilIface (Qu (ZP .nilIface (ZP (.bool false) (Qf (Kn (Aa ?_))))))))))))))))))))))))))))))))))))))))
 have h:=(h.pkr [9]).dirOpen hja
 refine Ah (ZP (.map (some da.mb)) (ZP (.string old) (ZG h (A4 (v':=.tuple #[Hg 0 0,.bool false]) (Gks (kv:=da.es.map Bd) true old 0 rfl) (by rw [Ed hx];rfl)) (ZP (.tuple #[Hg 0 0,.bool false]) (ZP (Hg 0 0) (ZP (.bool false) (ZN [Ii 0,Ii 0] 34 h fun k3 w h=>ZSs [Ii 0,Ii 0] 0 rfl h fun w h=>ZP (.bool false) (Qn (Aa (Aa ?_))))))))))
 have h:=(h.pkr [1,1]).dirBack (d:=da) hja
 exact Ah (ZP (.bool false) (ZP (.bool true) (Qg (Qs (ZG h (Gr 0 (Ag ad 5) 10 rfl (Ff (c:=5) (by decide) rfl)) (ZP (Ag ad 5) (Qr (Ar (ZR [Ag ad 5] [3,3,3,3,0,6,6] h ⟨rfl,rfl⟩)))))))))
theorem Acg (hdd:(ds.map (·.h)).Nodup) (ka:Nat) (ga:Int) (Na:ND) (hla:l[ka]?=some (some Na)) (haa:Bk ps gs (ka:Int) ga=some Na.nb) (ja:Nat) (da:DN) (hja:ds[ja]?=some da) (hda:da.h=((ka:Int),ga)) (kb:Nat) (gb:Int) (Nb:ND) (hlb:l[kb]?=some (some Nb)) (hab:Bk ps gs (kb:Int) gb=some Nb.nb) (jb:Nat) (db:DN) (hjb:ds[jb]?=some db) (hdb:db.h=((kb:Int),gb)) (old nm:ByteArray) (hoz:old.size≤9223372036854775807) (hnz:nm.size≤9223372036854775807) (ho:A0 old) (hn:A0 nm) (kx:Nat) (gx:Int) (hx:Af da.es old=some ((kx:Int),gx)) (jx:Nat) (dx:DN) (hjx:ds[jx]?=some dx) (hdx:dx.h=((kx:Int),gx)) {A:List AN} {ts:List Int} (sm:Sim most ps gs l ds pn A ts) (ti:TI most ts A) (hdA:∃ M∈A,M.h=(((kb:Int),gb):Hdl)∧M.kind=2) (rk:Hdl→Nat) (hrk:∀ d,upA A d≠d→rk (upA A d)<rk d) (hcl:B8 A (((kx:Int),gx):Hdl) (((kb:Int),gb):Hdl)):Au Tryz.prog 20 #[Pp b,Hg ka ga,.string old,Hg kb gb,.string nm] (Ra B ad b tb most dm pm ps gs vl vg T Sl Sg l ds pn) (fun u L=>u=Ag ad 3∧L=(Ra B ad b tb most dm pm ps gs vl vg T Sl Sg l ds pn)):=by
 refine Zo 154 Tryz.func20 fun E w0 w h=>?_
 have h:=((h.eS [10] 6 rfl).eS [4] 7 rfl).eS [3] 8 rfl
 refine Qs (ZN [Ii ka,Ii ga] 34 h fun k1 w h=>ZN [Ii kb,Ii gb] 34 h fun k2 w h=>ZP .nilIface (Qm (ZP (Pp b) (ZG h (Gla 0 [Ii ka,Ii ga] 1) (ZC [5,5,5,5,4] (A7 ad b most tb dm pm ps gs vl vg T Sl Sg l ds pn hl hr (ka:Int) ga ka Na hla haa ja da hja hda hdd) h fun w h=>ZP (.tuple #[.map (some da.mb),.nilIface]) (ZP (.map (some da.mb)) (ZP .nilIface (ZP (.map (some da.mb)) (ZP .nilIface (Qu (ZP .nilIface (ZP (.bool false) (Fs (ZP (Pp b) (ZG h (Gla 0 [Ii kb,Ii gb] 5) (ZC [0,0,0,0,0] (A7 ad b most tb dm pm ps gs vl vg T Sl Sg l ds pn hl hr (kb:Int) gb kb Nb hlb hab jb db hjb hdb hdd) h fun w h=>ZP (.tuple #[.map (some db.mb),.nilIface]) (ZP (.map (some db.mb)) (ZP .nilIface (ZP (.map (some db.mb)) (ZP .nilIface (Qu (ZP .nilIface (ZP (.bool true) (Qg (Ah (ZP (.string old) (ZC [8] (A5 ad old hoz ho) h fun w h=>ZP .nilIface (Qu (ZP .nilIface (ZP (.bool true) (Qg (Ah (ZP (.string nm) (ZC [0] (A5 ad nm hnz hn) h fun w h=>ZP .nilIface (Qu (ZP .nilIface (ZP (.bool false) (Qf (Kn (Aa ?_))))))))))))))))))))))))))))))))))))))))
 have h:=(h.pkr [9]).dirOpen hja
 refine Ah (ZP (.map (some da.mb)) (ZP (.string old) (ZG h (A4 (v':=.tuple #[Hg kx gx,.bool true]) (Gks (kv:=da.es.map Bd) true old 0 rfl) (by rw [B9 hx];rfl)) (ZP (.tuple #[Hg kx gx,.bool true]) (ZP (Hg kx gx) (ZP (.bool true) (ZN [Ii 0,Ii 0] 34 h fun k3 w h=>ZSs [Ii kx,Ii gx] 0 rfl h fun w h=>ZP (.bool true) (Qn (Aa (Aa ?_))))))))))
 have h:=(h.pkr [1,1]).dirBack (d:=da) hja
 exact Ah (ZP (.bool true) (ZP (.bool false) (Qf (Kn (Aa (Ds 11 [1,2,4] h fun w h=>Dp 0 16 (Pp b) [1,2,4] h (Dp 1 17 (Pp b) [1,2,4] h (Dp 2 19 (Pt b 4) [1,2,4] h (Dq 3 23 [1,2,4] rfl h (Gl 4 (.map (some dm)) 1) (Dq 4 15 [1,2,4] rfl h (Gla 0 [Ii kx,Ii gx] 0) (Dq 5 31 [1,2,4] rfl h (A4 (v':=.tuple #[.map (some dx.mb),.bool true]) (Gkd (kv:=ds.map Bt) true ((kx:Int),gx) 2 rfl) (by rw [show Af (ds.map Bt) ((kx:Int),gx)=_ from hdx▸C1 hdd hjx];rfl)) (Dp 6 63 (.tuple #[.map (some dx.mb),.bool true]) [1,2,4] h (Dp 7 383 (.map (some dx.mb)) [1,2,4] h (Dp 8 767 (.bool true) [1,2,4] h (Dp 9 511 (.map (some dx.mb)) [1,2,4] h (Dp 10 1023 (.bool true) [1,2,4] h (Dd (Ai (Qt (ZP (.bool true) (ZP (.bool true) (ZP (Pp b) (ZG h (Gla 0 [Ii kb,Ii gb] 8) (ZG h (Gla 0 [Ii kx,Ii gx] 1) (ZC [3,3,3,3,0,6,6] (Uk ad b most tb dm pm ps gs vl vg T Sl Sg l ds pn hl hr sm ti ((kx:Int),gx) ((kb:Int),gb) hdA rk hrk hcl) h fun w h=>ZP (.bool true) (Qg (Qs (ZG h (Gr 0 (Ag ad 3) 12 rfl (Ff (c:=3) (by decide) rfl)) (ZP (Ag ad 3) (Qr (Ar (ZR [Ag ad 3] [0,0,0,0,0,0,0] h ⟨rfl,rfl⟩))))))))))))))))))))))))))))))))
theorem Zz (hdd:(ds.map (·.h)).Nodup) (ka:Nat) (ga:Int) (Na:ND) (hla:l[ka]?=some (some Na)) (haa:Bk ps gs (ka:Int) ga=some Na.nb) (ja:Nat) (da:DN) (hja:ds[ja]?=some da) (hda:da.h=((ka:Int),ga)) (kb:Nat) (gb:Int) (Nb:ND) (hlb:l[kb]?=some (some Nb)) (hab:Bk ps gs (kb:Int) gb=some Nb.nb) (jb:Nat) (db:DN) (hjb:ds[jb]?=some db) (hdb:db.h=((kb:Int),gb)) (old nm:ByteArray) (hoz:old.size≤9223372036854775807) (hnz:nm.size≤9223372036854775807) (ho:A0 old) (hn:A0 nm) (kx:Nat) (gx:Int) (hx:Af da.es old=some ((kx:Int),gx)) (hxf:∀ d∈ds,d.h≠((kx:Int),gx)) (hy:Af db.es nm=some ((kx:Int),gx)):Au Tryz.prog 20 #[Pp b,Hg ka ga,.string old,Hg kb gb,.string nm] (Ra B ad b tb most dm pm ps gs vl vg T Sl Sg l ds pn) (fun u L=>u=.nilIface∧L=(Ra B ad b tb most dm pm ps gs vl vg T Sl Sg l ds pn)):=by
 refine Zo 154 Tryz.func20 fun E w0 w h=>?_
 have h:=(h.eS [10] 6 rfl).eS [4] 7 rfl
 refine Qs (ZN [Ii ka,Ii ga] 34 h fun k1 w h=>ZN [Ii kb,Ii gb] 34 h fun k2 w h=>ZP .nilIface (Qm (ZP (Pp b) (ZG h (Gla 0 [Ii ka,Ii ga] 1) (ZC [4,4,4,4,3] (A7 ad b most tb dm pm ps gs vl vg T Sl Sg l ds pn hl hr (ka:Int) ga ka Na hla haa ja da hja hda hdd) h fun w h=>ZP (.tuple #[.map (some da.mb),.nilIface]) (ZP (.map (some da.mb)) (ZP .nilIface (ZP (.map (some da.mb)) (ZP .nilIface (Qu (ZP .nilIface (ZP (.bool false) (Fs (ZP (Pp b) (ZG h (Gla 0 [Ii kb,Ii gb] 5) (ZC [0,0,0,0,0] (A7 ad b most tb dm pm ps gs vl vg T Sl Sg l ds pn hl hr (kb:Int) gb kb Nb hlb hab jb db hjb hdb hdd) h fun w h=>ZP (.tuple #[.map (some db.mb),.nilIface]) (ZP (.map (some db.mb)) (ZP .nilIface (ZP (.map (some db.mb)) (ZP .nilIface (Qu (ZP .nilIface (ZP (.bool true) (Qg (Ah (ZP (.string old) (ZC [7] (A5 ad old hoz ho) h fun w h=>ZP .nilIface (Qu (ZP .nilIface (ZP (.bool true) (Qg (Ah (ZP (.string nm) (ZC [0] (A5 ad nm hnz hn) h fun w h=>ZP .nilIface (Qu (ZP .nilIface (ZP (.bool false) (Qf (Kn (Aa ?_))))))))))))))))))))))))))))))))))))))))
 have h:=(h.pkr [8]).dirOpen hja
 refine Ah (ZP (.map (some da.mb)) (ZP (.string old) (ZG h (A4 (v':=.tuple #[Hg kx gx,.bool true]) (Gks (kv:=da.es.map Bd) true old 0 rfl) (by rw [B9 hx];rfl)) (ZP (.tuple #[Hg kx gx,.bool true]) (ZP (Hg kx gx) (ZP (.bool true) (ZN [Ii 0,Ii 0] 34 h fun k3 w h=>ZSs [Ii kx,Ii gx] 0 rfl h fun w h=>ZP (.bool true) (Qn (Aa (Aa ?_))))))))))
 have h:=(h.pkr [1,1]).dirBack (d:=da) hja
 refine Ah (ZP (.bool true) (ZP (.bool false) (Qf (Kn (Aa (Ds 11 [1,2,4] h fun w h=>Dp 0 16 (Pp b) [1,2,4] h (Dp 1 17 (Pp b) [1,2,4] h (Dp 2 19 (Pt b 4) [1,2,4] h (Dq 3 23 [1,2,4] rfl h (Gl 4 (.map (some dm)) 1) (Dq 4 15 [1,2,4] rfl h (Gla 0 [Ii kx,Ii gx] 0) (Dq 5 31 [1,2,4] rfl h (A4 (v':=.tuple #[.map none,.bool false]) (Gkd (kv:=ds.map Bt) true ((kx:Int),gx) 2 rfl) (by rw [C4 hxf];rfl)) (Dp 6 63 (.tuple #[.map none,.bool false]) [1,2,4] h (Dp 7 383 (.map none) [1,2,4] h (Dp 8 767 (.bool false) [1,2,4] h (Dp 9 511 (.map none) [1,2,4] h (Dp 10 1023 (.bool false) [1,2,4] h (Dd (Ai (Qt (ZP (.bool false) (ZP (.bool false) (Zx (Zx (Zx (Zx (ZP (.bool false) (Qf (Kn (Aa ?_)))))))))))))))))))))))))))))
 have h:=h.dirOpen hjb
 refine Ah (ZP (.map (some db.mb)) (ZP (.string nm) (ZG h (A4 (v':=.tuple #[Hg kx gx,.bool true]) (Gks (kv:=db.es.map Bd) true nm 0 rfl) (by rw [B9 hy];rfl)) (ZP (.tuple #[Hg kx gx,.bool true]) (ZP (Hg kx gx) (ZP (.bool true) (ZN [Ii 0,Ii 0] 34 h fun k4 w h=>ZSs [Ii kx,Ii gx] 0 rfl h fun w h=>ZP (.bool true) (Qn (Aa (Av (Aa ?_)))))))))))
 have h:=(h.pkr [1,1]).dirBack (d:=db) hjb
 refine Ah (ZP (.bool true) (ZP (.bool true) (ZG h (Gla 0 [Ii kx,Ii gx] 1) (ZG h (Gla 0 [Ii kx,Ii gx] 2) ?_))))
 obtain ⟨b5,hb5⟩:=nmB ((decide ((kx:Int)=(kx:Int)))&&(decide (gx=gx)))
 refine Kc (v:=.bool b5) (by kernel_rfl) h (by subst hb5;exact Fm (n1:=(kx:Int)) (g1:=gx) (n2:=(kx:Int)) (g2:=gx) (by kernel_rfl)) ?_
 refine ZP (.bool b5) (ZP (.bool b5) (Qn (Zi (b5) (fun hc6=>?_) fun hc6=>?_)))
 have q7:=hb5.symm.trans hc6
 have q8:=aL q7
 have q9:=aR q7
 have q8:=dcT q8
 have q9:=dcT q9
 exact Qs (ZP .nilIface (Qr (B7 (Ar (ZR [.nilIface] [4,4,4,4,0,6,6] h ⟨rfl,rfl⟩)))))
 have q10:=hb5.symm.trans hc6
 have q11:=ndA q10
 exfalso;first|omega|(simp only [List.length_map] at *;omega)|(revert hc6;subst hb5;simp;done)|(revert hc6;subst hb5;simp;omega)
theorem Za (hdd:(ds.map (·.h)).Nodup) (ka:Nat) (ga:Int) (Na:ND) (hla:l[ka]?=some (some Na)) (haa:Bk ps gs (ka:Int) ga=some Na.nb) (ja:Nat) (da:DN) (hja:ds[ja]?=some da) (hda:da.h=((ka:Int),ga)) (kb:Nat) (gb:Int) (Nb:ND) (hlb:l[kb]?=some (some Nb)) (hab:Bk ps gs (kb:Int) gb=some Nb.nb) (jb:Nat) (db:DN) (hjb:ds[jb]?=some db) (hdb:db.h=((kb:Int),gb)) (old nm:ByteArray) (hoz:old.size≤9223372036854775807) (hnz:nm.size≤9223372036854775807) (ho:A0 old) (hn:A0 nm) (kx:Nat) (gx:Int) (hx:Af da.es old=some ((kx:Int),gx)) (hxf:∀ d∈ds,d.h≠((kx:Int),gx)) (hy:Af db.es nm=none) (hfull:60≤db.es.length) (hne:(ka:Int)≠(kb:Int)):Au Tryz.prog 20 #[Pp b,Hg ka ga,.string old,Hg kb gb,.string nm] (Ra B ad b tb most dm pm ps gs vl vg T Sl Sg l ds pn) (fun u L=>u=Ag ad 9∧L=(Ra B ad b tb most dm pm ps gs vl vg T Sl Sg l ds pn)):=by
 refine Zo 154 Tryz.func20 fun E w0 w h=>?_
 have h:=((h.eS [10] 6 rfl).eS [4] 7 rfl).eS [9] 8 rfl
 refine Qs (ZN [Ii ka,Ii ga] 34 h fun k1 w h=>ZN [Ii kb,Ii gb] 34 h fun k2 w h=>ZP .nilIface (Qm (ZP (Pp b) (ZG h (Gla 0 [Ii ka,Ii ga] 1) (ZC [5,5,5,5,4] (A7 ad b most tb dm pm ps gs vl vg T Sl Sg l ds pn hl hr (ka:Int) ga ka Na hla haa ja da hja hda hdd) h fun w h=>ZP (.tuple #[.map (some da.mb),.nilIface]) (ZP (.map (some da.mb)) (ZP .nilIface (ZP (.map (some da.mb)) (ZP .nilIface (Qu (ZP .nilIface (ZP (.bool false) (Fs (ZP (Pp b) (ZG h (Gla 0 [Ii kb,Ii gb] 5) (ZC [0,0,0,0,0] (A7 ad b most tb dm pm ps gs vl vg T Sl Sg l ds pn hl hr (kb:Int) gb kb Nb hlb hab jb db hjb hdb hdd) h fun w h=>ZP (.tuple #[.map (some db.mb),.nilIface]) (ZP (.map (some db.mb)) (ZP .nilIface (ZP (.map (some db.mb)) (ZP .nilIface (Qu (ZP .nilIface (ZP (.bool true) (Qg (Ah (ZP (.string old) (ZC [8] (A5 ad old hoz ho) h fun w h=>ZP .nilIface (Qu (ZP .nilIface (ZP (.bool true) (Qg (Ah (ZP (.string nm) (ZC [0] (A5 ad nm hnz hn) h fun w h=>ZP .nilIface (Qu (ZP .nilIface (ZP (.bool false) (Qf (Kn (Aa ?_))))))))))))))))))))))))))))))))))))))))
 have h:=(h.pkr [9]).dirOpen hja
 refine Ah (ZP (.map (some da.mb)) (ZP (.string old) (ZG h (A4 (v':=.tuple #[Hg kx gx,.bool true]) (Gks (kv:=da.es.map Bd) true old 0 rfl) (by rw [B9 hx];rfl)) (ZP (.tuple #[Hg kx gx,.bool true]) (ZP (Hg kx gx) (ZP (.bool true) (ZN [Ii 0,Ii 0] 34 h fun k3 w h=>ZSs [Ii kx,Ii gx] 0 rfl h fun w h=>ZP (.bool true) (Qn (Aa (Aa ?_))))))))))
 have h:=(h.pkr [1,1]).dirBack (d:=da) hja
 refine Ah (ZP (.bool true) (ZP (.bool false) (Qf (Kn (Aa (Ds 11 [1,2,4] h fun w h=>Dp 0 16 (Pp b) [1,2,4] h (Dp 1 17 (Pp b) [1,2,4] h (Dp 2 19 (Pt b 4) [1,2,4] h (Dq 3 23 [1,2,4] rfl h (Gl 4 (.map (some dm)) 1) (Dq 4 15 [1,2,4] rfl h (Gla 0 [Ii kx,Ii gx] 0) (Dq 5 31 [1,2,4] rfl h (A4 (v':=.tuple #[.map none,.bool false]) (Gkd (kv:=ds.map Bt) true ((kx:Int),gx) 2 rfl) (by rw [C4 hxf];rfl)) (Dp 6 63 (.tuple #[.map none,.bool false]) [1,2,4] h (Dp 7 383 (.map none) [1,2,4] h (Dp 8 767 (.bool false) [1,2,4] h (Dp 9 511 (.map none) [1,2,4] h (Dp 10 1023 (.bool false) [1,2,4] h (Dd (Ai (Qt (ZP (.bool false) (ZP (.bool false) (Zx (Zx (Zx (Zx (ZP (.bool false) (Qf (Kn (Aa ?_)))))))))))))))))))))))))))))
 have h:=h.dirOpen hjb
 refine Ah (ZP (.map (some db.mb)) (ZP (.string nm) (ZG h (A4 (v':=.tuple #[Hg 0 0,.bool false]) (Gks (kv:=db.es.map Bd) true nm 0 rfl) (by rw [Ed hy];rfl)) (ZP (.tuple #[Hg 0 0,.bool false]) (ZP (Hg 0 0) (ZP (.bool false) (ZN [Ii 0,Ii 0] 34 h fun k4 w h=>ZSs [Ii 0,Ii 0] 0 rfl h fun w h=>ZP (.bool false) (Qn (Aa (Av (Aa ?_)))))))))))
 have h:=(h.pkr [1,1]).dirBack (d:=db) hjb
 refine Ah (ZP (.bool false) (ZP (.bool false) (Zx (Zx (Zx (ZP (.bool false) (ZP (.bool false) (Qf (Qs (ZP (.bool false) (ZP (.bool false) (Qf (Aa ?_)))))))))))))
 have h:=h.dirOpen hjb
 refine Ah (ZP (.map (some db.mb)) (ZG h (E3 (K:=9) (E:=34) (by kernel_rfl) 0 rfl) ?_))
 obtain ⟨b5,hb5⟩:=nmB (decide (((db.es.map Bd).length:Int)≥60))
 refine ZB hb5 (ZP (.bool b5) (ZM1 (v:=Hg ka ga) b5 h (fun hB=>by subst hB;exact Gla 0 [Ii ka,Ii ga] 11) (ZM1 (v:=Hg kb gb) b5 h (fun hB=>by subst hB;exact Gla 0 [Ii kb,Ii gb] 10) ?_)))
 obtain ⟨b6,hb6⟩:=nmB (!((decide ((ka:Int)=(kb:Int)))&&(decide (ga=gb))))
 refine ZM1 (v:=.bool b6) b5 h (fun hB=>by subst hB;exact by subst hb6;exact Ez (n1:=(ka:Int)) (g1:=ga) (n2:=(kb:Int)) (g2:=gb) (by kernel_rfl)) ?_
 obtain ⟨b7,hb7⟩:=nmB (b5&&b6)
 refine ZBc b5 hb7 (ZP (.bool b7) (Qn (Zi (b7) (fun hc8=>?_) fun hc8=>?_)))
 have q9:=hb7.symm.trans hc8
 have q10:=aL q9
 have q11:=aR q9
 have q12:=hb5.symm.trans q10
 have q12:=dcT q12
 have q13:=hb6.symm.trans q11
 have q14:=nT q13
 have q15:=ndA q14
 refine Aa ?_
 have h:=h.dirBack (d:=db) hjb
 exact Ah (ZG h (Gr 0 (Ag ad 9) 11 rfl (Ff (c:=9) (by decide) rfl)) (ZP (Ag ad 9) (Qr (B7 (Ar (ZR [Ag ad 9] [4,4,4,4,0,7,7] h ⟨rfl,rfl⟩))))))
 have q16:=hb7.symm.trans hc8
 exfalso;first|omega|(simp only [List.length_map] at *;omega)|(revert hc8;subst hb7;subst hb6;subst hb5;simp;done)|(revert hc8;subst hb7;subst hb6;subst hb5;simp;omega)
theorem Aa9 (hdd:(ds.map (·.h)).Nodup) (ka:Nat) (ga:Int) (Na:ND) (hla:l[ka]?=some (some Na)) (haa:Bk ps gs (ka:Int) ga=some Na.nb) (ja:Nat) (da:DN) (hja:ds[ja]?=some da) (hda:da.h=((ka:Int),ga)) (kb:Nat) (gb:Int) (Nb:ND) (hlb:l[kb]?=some (some Nb)) (hab:Bk ps gs (kb:Int) gb=some Nb.nb) (jb:Nat) (db:DN) (hjb:ds[jb]?=some db) (hdb:db.h=((kb:Int),gb)) (old nm:ByteArray) (hoz:old.size≤9223372036854775807) (hnz:nm.size≤9223372036854775807) (ho:A0 old) (hn:A0 nm) (kx:Nat) (gx:Int) (hx:Af da.es old=some ((kx:Int),gx)) (hxf:∀ d∈ds,d.h≠((kx:Int),gx)) (ky:Nat) (gy:Int) (hy:Af db.es nm=some ((ky:Int),gy)) (hyx:¬((ky:Int)=(kx:Int)∧gy=gx)) (jy:Nat) (dy:DN) (hjy:ds[jy]?=some dy) (hdy:dy.h=((ky:Int),gy)):Au Tryz.prog 20 #[Pp b,Hg ka ga,.string old,Hg kb gb,.string nm] (Ra B ad b tb most dm pm ps gs vl vg T Sl Sg l ds pn) (fun u L=>u=Ag ad 7∧L=(Ra B ad b tb most dm pm ps gs vl vg T Sl Sg l ds pn)):=by
 refine Zo 154 Tryz.func20 fun E w0 w h=>?_
 have h:=(h.eS [10] 6 rfl).eS [4] 7 rfl
 refine Qs (ZN [Ii ka,Ii ga] 34 h fun k1 w h=>ZN [Ii kb,Ii gb] 34 h fun k2 w h=>ZP .nilIface (Qm (ZP (Pp b) (ZG h (Gla 0 [Ii ka,Ii ga] 1) (ZC [4,4,4,4,3] (A7 ad b most tb dm pm ps gs vl vg T Sl Sg l ds pn hl hr (ka:Int) ga ka Na hla haa ja da hja hda hdd) h fun w h=>ZP (.tuple #[.map (some da.mb),.nilIface]) (ZP (.map (some da.mb)) (ZP .nilIface (ZP (.map (some da.mb)) (ZP .nilIface (Qu (ZP .nilIface (ZP (.bool false) (Fs (ZP (Pp b) (ZG h (Gla 0 [Ii kb,Ii gb] 5) (ZC [0,0,0,0,0] (A7 ad b most tb dm pm ps gs vl vg T Sl Sg l ds pn hl hr (kb:Int) gb kb Nb hlb hab jb db hjb hdb hdd) h fun w h=>ZP (.tuple #[.map (some db.mb),.nilIface]) (ZP (.map (some db.mb)) (ZP .nilIface (ZP (.map (some db.mb)) (ZP .nilIface (Qu (ZP .nilIface (ZP (.bool true) (Qg (Ah (ZP (.string old) (ZC [7] (A5 ad old hoz ho) h fun w h=>ZP .nilIface (Qu (ZP .nilIface (ZP (.bool true) (Qg (Ah (ZP (.string nm) (ZC [0] (A5 ad nm hnz hn) h fun w h=>ZP .nilIface (Qu (ZP .nilIface (ZP (.bool false) (Qf (Kn (Aa ?_))))))))))))))))))))))))))))))))))))))))
 have h:=(h.pkr [8]).dirOpen hja
 refine Ah (ZP (.map (some da.mb)) (ZP (.string old) (ZG h (A4 (v':=.tuple #[Hg kx gx,.bool true]) (Gks (kv:=da.es.map Bd) true old 0 rfl) (by rw [B9 hx];rfl)) (ZP (.tuple #[Hg kx gx,.bool true]) (ZP (Hg kx gx) (ZP (.bool true) (ZN [Ii 0,Ii 0] 34 h fun k3 w h=>ZSs [Ii kx,Ii gx] 0 rfl h fun w h=>ZP (.bool true) (Qn (Aa (Aa ?_))))))))))
 have h:=(h.pkr [1,1]).dirBack (d:=da) hja
 refine Ah (ZP (.bool true) (ZP (.bool false) (Qf (Kn (Aa (Ds 11 [1,2,4] h fun w h=>Dp 0 16 (Pp b) [1,2,4] h (Dp 1 17 (Pp b) [1,2,4] h (Dp 2 19 (Pt b 4) [1,2,4] h (Dq 3 23 [1,2,4] rfl h (Gl 4 (.map (some dm)) 1) (Dq 4 15 [1,2,4] rfl h (Gla 0 [Ii kx,Ii gx] 0) (Dq 5 31 [1,2,4] rfl h (A4 (v':=.tuple #[.map none,.bool false]) (Gkd (kv:=ds.map Bt) true ((kx:Int),gx) 2 rfl) (by rw [C4 hxf];rfl)) (Dp 6 63 (.tuple #[.map none,.bool false]) [1,2,4] h (Dp 7 383 (.map none) [1,2,4] h (Dp 8 767 (.bool false) [1,2,4] h (Dp 9 511 (.map none) [1,2,4] h (Dp 10 1023 (.bool false) [1,2,4] h (Dd (Ai (Qt (ZP (.bool false) (ZP (.bool false) (Zx (Zx (Zx (Zx (ZP (.bool false) (Qf (Kn (Aa ?_)))))))))))))))))))))))))))))
 have h:=h.dirOpen hjb
 refine Ah (ZP (.map (some db.mb)) (ZP (.string nm) (ZG h (A4 (v':=.tuple #[Hg ky gy,.bool true]) (Gks (kv:=db.es.map Bd) true nm 0 rfl) (by rw [B9 hy];rfl)) (ZP (.tuple #[Hg ky gy,.bool true]) (ZP (Hg ky gy) (ZP (.bool true) (ZN [Ii 0,Ii 0] 34 h fun k4 w h=>ZSs [Ii ky,Ii gy] 0 rfl h fun w h=>ZP (.bool true) (Qn (Aa (Av (Aa ?_)))))))))))
 have h:=(h.pkr [1,1]).dirBack (d:=db) hjb
 refine Ah (ZP (.bool true) (ZP (.bool true) (ZG h (Gla 0 [Ii ky,Ii gy] 1) (ZG h (Gla 0 [Ii kx,Ii gx] 2) ?_))))
 obtain ⟨b5,hb5⟩:=nmB ((decide ((ky:Int)=(kx:Int)))&&(decide (gy=gx)))
 refine Kc (v:=.bool b5) (by kernel_rfl) h (by subst hb5;exact Fm (n1:=(ky:Int)) (g1:=gy) (n2:=(kx:Int)) (g2:=gx) (by kernel_rfl)) ?_
 refine ZP (.bool b5) (ZP (.bool b5) (Qn (Zi (b5) (fun hc6=>?_) fun hc6=>?_)))
 have q7:=hb5.symm.trans hc6
 have q8:=aL q7
 have q9:=aR q7
 have q8:=dcT q8
 have q9:=dcT q9
 exfalso;first|omega|(simp only [List.length_map] at *;omega)|(revert hc6;subst hb5;simp;done)|(revert hc6;subst hb5;simp;omega)
 have q10:=hb5.symm.trans hc6
 have q11:=ndA q10
 exact Qs (ZP (.bool true) (ZP (.bool true) (Qg (Qs (ZP (Pp b) (ZG h (Gla 0 [Ii kx,Ii gx] 2) (ZG h (Gla 0 [Ii ky,Ii gy] 1) (ZC [4,4,4,4,0,6,6] (Acp ad b most tb dm pm ps gs vl vg T Sl Sg l ds pn hl hr (kx:Int) gx (ky:Int) gy hdd hxf jy dy hjy hdy) h fun w h=>ZP (Ag ad 7) (Qm (ZP (Ag ad 7) (ZP (.bool true) (Qg (Qs (ZP (Ag ad 7) (ZP (Ag ad 7) (Qr (B7 (Ar (ZR [Ag ad 7] [0,0,0,0,0,0,0] h ⟨rfl,rfl⟩)))))))))))))))))))
theorem Aav (hdd:(ds.map (·.h)).Nodup) (ka:Nat) (ga:Int) (Na:ND) (hla:l[ka]?=some (some Na)) (haa:Bk ps gs (ka:Int) ga=some Na.nb) (ja:Nat) (da:DN) (hja:ds[ja]?=some da) (hda:da.h=((ka:Int),ga)) (kb:Nat) (gb:Int) (Nb:ND) (hlb:l[kb]?=some (some Nb)) (hab:Bk ps gs (kb:Int) gb=some Nb.nb) (jb:Nat) (db:DN) (hjb:ds[jb]?=some db) (hdb:db.h=((kb:Int),gb)) (old nm:ByteArray) (hoz:old.size≤9223372036854775807) (hnz:nm.size≤9223372036854775807) (ho:A0 old) (hn:A0 nm) (kx:Nat) (gx:Int) (hx:Af da.es old=some ((kx:Int),gx)) (jx:Nat) (dx:DN) (hjx:ds[jx]?=some dx) (hdx:dx.h=((kx:Int),gx)) {A:List AN} {ts:List Int} (sm:Sim most ps gs l ds pn A ts) (ti:TI most ts A) (hdA:∃ M∈A,M.h=(((kb:Int),gb):Hdl)∧M.kind=2) (rk:Hdl→Nat) (hrk:∀ d,upA A d≠d→rk (upA A d)<rk d) (hcl:¬B8 A (((kx:Int),gx):Hdl) (((kb:Int),gb):Hdl)) (hy:Af db.es nm=some ((kx:Int),gx)):Au Tryz.prog 20 #[Pp b,Hg ka ga,.string old,Hg kb gb,.string nm] (Ra B ad b tb most dm pm ps gs vl vg T Sl Sg l ds pn) (fun u L=>u=.nilIface∧L=(Ra B ad b tb most dm pm ps gs vl vg T Sl Sg l ds pn)):=by
 refine Zo 154 Tryz.func20 fun E w0 w h=>?_
 have h:=(h.eS [10] 6 rfl).eS [4] 7 rfl
 refine Qs (ZN [Ii ka,Ii ga] 34 h fun k1 w h=>ZN [Ii kb,Ii gb] 34 h fun k2 w h=>ZP .nilIface (Qm (ZP (Pp b) (ZG h (Gla 0 [Ii ka,Ii ga] 1) (ZC [4,4,4,4,3] (A7 ad b most tb dm pm ps gs vl vg T Sl Sg l ds pn hl hr (ka:Int) ga ka Na hla haa ja da hja hda hdd) h fun w h=>ZP (.tuple #[.map (some da.mb),.nilIface]) (ZP (.map (some da.mb)) (ZP .nilIface (ZP (.map (some da.mb)) (ZP .nilIface (Qu (ZP .nilIface (ZP (.bool false) (Fs (ZP (Pp b) (ZG h (Gla 0 [Ii kb,Ii gb] 5) (ZC [0,0,0,0,0] (A7 ad b most tb dm pm ps gs vl vg T Sl Sg l ds pn hl hr (kb:Int) gb kb Nb hlb hab jb db hjb hdb hdd) h fun w h=>ZP (.tuple #[.map (some db.mb),.nilIface]) (ZP (.map (some db.mb)) (ZP .nilIface (ZP (.map (some db.mb)) (ZP .nilIface (Qu (ZP .nilIface (ZP (.bool true) (Qg (Ah (ZP (.string old) (ZC [7] (A5 ad old hoz ho) h fun w h=>ZP .nilIface (Qu (ZP .nilIface (ZP (.bool true) (Qg (Ah (ZP (.string nm) (ZC [0] (A5 ad nm hnz hn) h fun w h=>ZP .nilIface (Qu (ZP .nilIface (ZP (.bool false) (Qf (Kn (Aa ?_))))))))))))))))))))))))))))))))))))))))
 have h:=(h.pkr [8]).dirOpen hja
 refine Ah (ZP (.map (some da.mb)) (ZP (.string old) (ZG h (A4 (v':=.tuple #[Hg kx gx,.bool true]) (Gks (kv:=da.es.map Bd) true old 0 rfl) (by rw [B9 hx];rfl)) (ZP (.tuple #[Hg kx gx,.bool true]) (ZP (Hg kx gx) (ZP (.bool true) (ZN [Ii 0,Ii 0] 34 h fun k3 w h=>ZSs [Ii kx,Ii gx] 0 rfl h fun w h=>ZP (.bool true) (Qn (Aa (Aa ?_))))))))))
 have h:=(h.pkr [1,1]).dirBack (d:=da) hja
 refine Ah (ZP (.bool true) (ZP (.bool false) (Qf (Kn (Aa (Ds 11 [1,2,4] h fun w h=>Dp 0 16 (Pp b) [1,2,4] h (Dp 1 17 (Pp b) [1,2,4] h (Dp 2 19 (Pt b 4) [1,2,4] h (Dq 3 23 [1,2,4] rfl h (Gl 4 (.map (some dm)) 1) (Dq 4 15 [1,2,4] rfl h (Gla 0 [Ii kx,Ii gx] 0) (Dq 5 31 [1,2,4] rfl h (A4 (v':=.tuple #[.map (some dx.mb),.bool true]) (Gkd (kv:=ds.map Bt) true ((kx:Int),gx) 2 rfl) (by rw [show Af (ds.map Bt) ((kx:Int),gx)=_ from hdx▸C1 hdd hjx];rfl)) (Dp 6 63 (.tuple #[.map (some dx.mb),.bool true]) [1,2,4] h (Dp 7 383 (.map (some dx.mb)) [1,2,4] h (Dp 8 767 (.bool true) [1,2,4] h (Dp 9 511 (.map (some dx.mb)) [1,2,4] h (Dp 10 1023 (.bool true) [1,2,4] h (Dd (Ai (Qt (ZP (.bool true) (ZP (.bool true) (ZP (Pp b) (ZG h (Gla 0 [Ii kb,Ii gb] 8) (ZG h (Gla 0 [Ii kx,Ii gx] 1) (ZC [3,3,3,3,0,5,5] (E8 ad b most tb dm pm ps gs vl vg T Sl Sg l ds pn hl hr sm ti ((kx:Int),gx) ((kb:Int),gb) hdA rk hrk hcl) h fun w h=>ZP (.bool false) (Qf (Kn (Aa ?_))))))))))))))))))))))))))))
 have h:=(h.pkr [4]).dirOpen hjb
 refine Ah (ZP (.map (some db.mb)) (ZP (.string nm) (ZG h (A4 (v':=.tuple #[Hg kx gx,.bool true]) (Gks (kv:=db.es.map Bd) true nm 0 rfl) (by rw [B9 hy];rfl)) (ZP (.tuple #[Hg kx gx,.bool true]) (ZP (Hg kx gx) (ZP (.bool true) (ZN [Ii 0,Ii 0] 34 h fun k4 w h=>ZSs [Ii kx,Ii gx] 0 rfl h fun w h=>ZP (.bool true) (Qn (Aa (Av (Aa ?_)))))))))))
 have h:=(h.pkr [1,1]).dirBack (d:=db) hjb
 refine Ah (ZP (.bool true) (ZP (.bool true) (ZG h (Gla 0 [Ii kx,Ii gx] 1) (ZG h (Gla 0 [Ii kx,Ii gx] 8) ?_))))
 obtain ⟨b5,hb5⟩:=nmB ((decide ((kx:Int)=(kx:Int)))&&(decide (gx=gx)))
 refine Kc (v:=.bool b5) (by kernel_rfl) h (by subst hb5;exact Fm (n1:=(kx:Int)) (g1:=gx) (n2:=(kx:Int)) (g2:=gx) (by kernel_rfl)) ?_
 refine ZP (.bool b5) (ZP (.bool b5) (Qn (Zi (b5) (fun hc6=>?_) fun hc6=>?_)))
 have q7:=hb5.symm.trans hc6
 have q8:=aL q7
 have q9:=aR q7
 have q8:=dcT q8
 have q9:=dcT q9
 exact Qs (ZP .nilIface (Qr (B7 (Ar (ZR [.nilIface] [2,2,2,2,0,1,1] h ⟨rfl,rfl⟩)))))
 have q10:=hb5.symm.trans hc6
 have q11:=ndA q10
 exfalso;first|omega|(simp only [List.length_map] at *;omega)|(revert hc6;subst hb5;simp;done)|(revert hc6;subst hb5;simp;omega)
theorem Z4 (hdd:(ds.map (·.h)).Nodup) (ka:Nat) (ga:Int) (Na:ND) (hla:l[ka]?=some (some Na)) (haa:Bk ps gs (ka:Int) ga=some Na.nb) (ja:Nat) (da:DN) (hja:ds[ja]?=some da) (hda:da.h=((ka:Int),ga)) (kb:Nat) (gb:Int) (Nb:ND) (hlb:l[kb]?=some (some Nb)) (hab:Bk ps gs (kb:Int) gb=some Nb.nb) (jb:Nat) (db:DN) (hjb:ds[jb]?=some db) (hdb:db.h=((kb:Int),gb)) (old nm:ByteArray) (hoz:old.size≤9223372036854775807) (hnz:nm.size≤9223372036854775807) (ho:A0 old) (hn:A0 nm) (kx:Nat) (gx:Int) (hx:Af da.es old=some ((kx:Int),gx)) (jx:Nat) (dx:DN) (hjx:ds[jx]?=some dx) (hdx:dx.h=((kx:Int),gx)) {A:List AN} {ts:List Int} (sm:Sim most ps gs l ds pn A ts) (ti:TI most ts A) (hdA:∃ M∈A,M.h=(((kb:Int),gb):Hdl)∧M.kind=2) (rk:Hdl→Nat) (hrk:∀ d,upA A d≠d→rk (upA A d)<rk d) (hcl:¬B8 A (((kx:Int),gx):Hdl) (((kb:Int),gb):Hdl)) (hy:Af db.es nm=none) (hfull:60≤db.es.length) (hne:(ka:Int)≠(kb:Int)):Au Tryz.prog 20 #[Pp b,Hg ka ga,.string old,Hg kb gb,.string nm] (Ra B ad b tb most dm pm ps gs vl vg T Sl Sg l ds pn) (fun u L=>u=Ag ad 9∧L=(Ra B ad b tb most dm pm ps gs vl vg T Sl Sg l ds pn)):=by
 refine Zo 154 Tryz.func20 fun E w0 w h=>?_
 have h:=((h.eS [10] 6 rfl).eS [4] 7 rfl).eS [9] 8 rfl
 refine Qs (ZN [Ii ka,Ii ga] 34 h fun k1 w h=>ZN [Ii kb,Ii gb] 34 h fun k2 w h=>ZP .nilIface (Qm (ZP (Pp b) (ZG h (Gla 0 [Ii ka,Ii ga] 1) (ZC [5,5,5,5,4] (A7 ad b most tb dm pm ps gs vl vg T Sl Sg l ds pn hl hr (ka:Int) ga ka Na hla haa ja da hja hda hdd) h fun w h=>ZP (.tuple #[.map (some da.mb),.nilIface]) (ZP (.map (some da.mb)) (ZP .nilIface (ZP (.map (some da.mb)) (ZP .nilIface (Qu (ZP .nilIface (ZP (.bool false) (Fs (ZP (Pp b) (ZG h (Gla 0 [Ii kb,Ii gb] 5) (ZC [0,0,0,0,0] (A7 ad b most tb dm pm ps gs vl vg T Sl Sg l ds pn hl hr (kb:Int) gb kb Nb hlb hab jb db hjb hdb hdd) h fun w h=>ZP (.tuple #[.map (some db.mb),.nilIface]) (ZP (.map (some db.mb)) (ZP .nilIface (ZP (.map (some db.mb)) (ZP .nilIface (Qu (ZP .nilIface (ZP (.bool true) (Qg (Ah (ZP (.string old) (ZC [8] (A5 ad old hoz ho) h fun w h=>ZP .nilIface (Qu (ZP .nilIface (ZP (.bool true) (Qg (Ah (ZP (.string nm) (ZC [0] (A5 ad nm hnz hn) h fun w h=>ZP .nilIface (Qu (ZP .nilIface (ZP (.bool false) (Qf (Kn (Aa ?_))))))))))))))))))))))))))))))))))))))))
 have h:=(h.pkr [9]).dirOpen hja
 refine Ah (ZP (.map (some da.mb)) (ZP (.string old) (ZG h (A4 (v':=.tuple #[Hg kx gx,.bool true]) (Gks (kv:=da.es.map Bd) true old 0 rfl) (by rw [B9 hx];rfl)) (ZP (.tuple #[Hg kx gx,.bool true]) (ZP (Hg kx gx) (ZP (.bool true) (ZN [Ii 0,Ii 0] 34 h fun k3 w h=>ZSs [Ii kx,Ii gx] 0 rfl h fun w h=>ZP (.bool true) (Qn (Aa (Aa ?_))))))))))
 have h:=(h.pkr [1,1]).dirBack (d:=da) hja
 refine Ah (ZP (.bool true) (ZP (.bool false) (Qf (Kn (Aa (Ds 11 [1,2,4] h fun w h=>Dp 0 16 (Pp b) [1,2,4] h (Dp 1 17 (Pp b) [1,2,4] h (Dp 2 19 (Pt b 4) [1,2,4] h (Dq 3 23 [1,2,4] rfl h (Gl 4 (.map (some dm)) 1) (Dq 4 15 [1,2,4] rfl h (Gla 0 [Ii kx,Ii gx] 0) (Dq 5 31 [1,2,4] rfl h (A4 (v':=.tuple #[.map (some dx.mb),.bool true]) (Gkd (kv:=ds.map Bt) true ((kx:Int),gx) 2 rfl) (by rw [show Af (ds.map Bt) ((kx:Int),gx)=_ from hdx▸C1 hdd hjx];rfl)) (Dp 6 63 (.tuple #[.map (some dx.mb),.bool true]) [1,2,4] h (Dp 7 383 (.map (some dx.mb)) [1,2,4] h (Dp 8 767 (.bool true) [1,2,4] h (Dp 9 511 (.map (some dx.mb)) [1,2,4] h (Dp 10 1023 (.bool true) [1,2,4] h (Dd (Ai (Qt (ZP (.bool true) (ZP (.bool true) (ZP (Pp b) (ZG h (Gla 0 [Ii kb,Ii gb] 8) (ZG h (Gla 0 [Ii kx,Ii gx] 1) (ZC [3,3,3,3,0,6,6] (E8 ad b most tb dm pm ps gs vl vg T Sl Sg l ds pn hl hr sm ti ((kx:Int),gx) ((kb:Int),gb) hdA rk hrk hcl) h fun w h=>ZP (.bool false) (Qf (Kn (Aa ?_))))))))))))))))))))))))))))
 have h:=(h.pkr [4]).dirOpen hjb
 refine Ah (ZP (.map (some db.mb)) (ZP (.string nm) (ZG h (A4 (v':=.tuple #[Hg 0 0,.bool false]) (Gks (kv:=db.es.map Bd) true nm 0 rfl) (by rw [Ed hy];rfl)) (ZP (.tuple #[Hg 0 0,.bool false]) (ZP (Hg 0 0) (ZP (.bool false) (ZN [Ii 0,Ii 0] 34 h fun k4 w h=>ZSs [Ii 0,Ii 0] 0 rfl h fun w h=>ZP (.bool false) (Qn (Aa (Av (Aa ?_)))))))))))
 have h:=(h.pkr [1,1]).dirBack (d:=db) hjb
 refine Ah (ZP (.bool false) (ZP (.bool false) (Zx (Zx (Zx (ZP (.bool false) (ZP (.bool false) (Qf (Qs (ZP (.bool false) (ZP (.bool false) (Qf (Aa ?_)))))))))))))
 have h:=h.dirOpen hjb
 refine Ah (ZP (.map (some db.mb)) (ZG h (E3 (K:=9) (E:=34) (by kernel_rfl) 0 rfl) ?_))
 obtain ⟨b5,hb5⟩:=nmB (decide (((db.es.map Bd).length:Int)≥60))
 refine ZB hb5 (ZP (.bool b5) (ZM1 (v:=Hg ka ga) b5 h (fun hB=>by subst hB;exact Gla 0 [Ii ka,Ii ga] 13) (ZM1 (v:=Hg kb gb) b5 h (fun hB=>by subst hB;exact Gla 0 [Ii kb,Ii gb] 12) ?_)))
 obtain ⟨b6,hb6⟩:=nmB (!((decide ((ka:Int)=(kb:Int)))&&(decide (ga=gb))))
 refine ZM1 (v:=.bool b6) b5 h (fun hB=>by subst hB;exact by subst hb6;exact Ez (n1:=(ka:Int)) (g1:=ga) (n2:=(kb:Int)) (g2:=gb) (by kernel_rfl)) ?_
 obtain ⟨b7,hb7⟩:=nmB (b5&&b6)
 refine ZBc b5 hb7 (ZP (.bool b7) (Qn (Zi (b7) (fun hc8=>?_) fun hc8=>?_)))
 have q9:=hb7.symm.trans hc8
 have q10:=aL q9
 have q11:=aR q9
 have q12:=hb5.symm.trans q10
 have q12:=dcT q12
 have q13:=hb6.symm.trans q11
 have q14:=nT q13
 have q15:=ndA q14
 refine Aa ?_
 have h:=h.dirBack (d:=db) hjb
 exact Ah (ZG h (Gr 0 (Ag ad 9) 13 rfl (Ff (c:=9) (by decide) rfl)) (ZP (Ag ad 9) (Qr (B7 (Ar (ZR [Ag ad 9] [2,2,2,2,0,1,1] h ⟨rfl,rfl⟩))))))
 have q16:=hb7.symm.trans hc8
 exfalso;first|omega|(simp only [List.length_map] at *;omega)|(revert hc8;subst hb7;subst hb6;subst hb5;simp;done)|(revert hc8;subst hb7;subst hb6;subst hb5;simp;omega)
theorem Adz (hdd:(ds.map (·.h)).Nodup) (ka:Nat) (ga:Int) (Na:ND) (hla:l[ka]?=some (some Na)) (haa:Bk ps gs (ka:Int) ga=some Na.nb) (ja:Nat) (da:DN) (hja:ds[ja]?=some da) (hda:da.h=((ka:Int),ga)) (kb:Nat) (gb:Int) (Nb:ND) (hlb:l[kb]?=some (some Nb)) (hab:Bk ps gs (kb:Int) gb=some Nb.nb) (jb:Nat) (db:DN) (hjb:ds[jb]?=some db) (hdb:db.h=((kb:Int),gb)) (old nm:ByteArray) (hoz:old.size≤9223372036854775807) (hnz:nm.size≤9223372036854775807) (ho:A0 old) (hn:A0 nm) (kx:Nat) (gx:Int) (hx:Af da.es old=some ((kx:Int),gx)) (jx:Nat) (dx:DN) (hjx:ds[jx]?=some dx) (hdx:dx.h=((kx:Int),gx)) {A:List AN} {ts:List Int} (sm:Sim most ps gs l ds pn A ts) (ti:TI most ts A) (hdA:∃ M∈A,M.h=(((kb:Int),gb):Hdl)∧M.kind=2) (rk:Hdl→Nat) (hrk:∀ d,upA A d≠d→rk (upA A d)<rk d) (hcl:¬B8 A (((kx:Int),gx):Hdl) (((kb:Int),gb):Hdl)) (ky:Nat) (gy:Int) (hy:Af db.es nm=some ((ky:Int),gy)) (hyx:¬((ky:Int)=(kx:Int)∧gy=gx)) (hyf:∀ d∈ds,d.h≠((ky:Int),gy)):Au Tryz.prog 20 #[Pp b,Hg ka ga,.string old,Hg kb gb,.string nm] (Ra B ad b tb most dm pm ps gs vl vg T Sl Sg l ds pn) (fun u L=>u=Ag ad 8∧L=(Ra B ad b tb most dm pm ps gs vl vg T Sl Sg l ds pn)):=by
 refine Zo 154 Tryz.func20 fun E w0 w h=>?_
 have h:=(h.eS [10] 6 rfl).eS [4] 7 rfl
 refine Qs (ZN [Ii ka,Ii ga] 34 h fun k1 w h=>ZN [Ii kb,Ii gb] 34 h fun k2 w h=>ZP .nilIface (Qm (ZP (Pp b) (ZG h (Gla 0 [Ii ka,Ii ga] 1) (ZC [4,4,4,4,3] (A7 ad b most tb dm pm ps gs vl vg T Sl Sg l ds pn hl hr (ka:Int) ga ka Na hla haa ja da hja hda hdd) h fun w h=>ZP (.tuple #[.map (some da.mb),.nilIface]) (ZP (.map (some da.mb)) (ZP .nilIface (ZP (.map (some da.mb)) (ZP .nilIface (Qu (ZP .nilIface (ZP (.bool false) (Fs (ZP (Pp b) (ZG h (Gla 0 [Ii kb,Ii gb] 5) (ZC [0,0,0,0,0] (A7 ad b most tb dm pm ps gs vl vg T Sl Sg l ds pn hl hr (kb:Int) gb kb Nb hlb hab jb db hjb hdb hdd) h fun w h=>ZP (.tuple #[.map (some db.mb),.nilIface]) (ZP (.map (some db.mb)) (ZP .nilIface (ZP (.map (some db.mb)) (ZP .nilIface (Qu (ZP .nilIface (ZP (.bool true) (Qg (Ah (ZP (.string old) (ZC [7] (A5 ad old hoz ho) h fun w h=>ZP .nilIface (Qu (ZP .nilIface (ZP (.bool true) (Qg (Ah (ZP (.string nm) (ZC [0] (A5 ad nm hnz hn) h fun w h=>ZP .nilIface (Qu (ZP .nilIface (ZP (.bool false) (Qf (Kn (Aa ?_))))))))))))))))))))))))))))))))))))))))
 have h:=(h.pkr [8]).dirOpen hja
 refine Ah (ZP (.map (some da.mb)) (ZP (.string old) (ZG h (A4 (v':=.tuple #[Hg kx gx,.bool true]) (Gks (kv:=da.es.map Bd) true old 0 rfl) (by rw [B9 hx];rfl)) (ZP (.tuple #[Hg kx gx,.bool true]) (ZP (Hg kx gx) (ZP (.bool true) (ZN [Ii 0,Ii 0] 34 h fun k3 w h=>ZSs [Ii kx,Ii gx] 0 rfl h fun w h=>ZP (.bool true) (Qn (Aa (Aa ?_))))))))))
 have h:=(h.pkr [1,1]).dirBack (d:=da) hja
 refine Ah (ZP (.bool true) (ZP (.bool false) (Qf (Kn (Aa (Ds 11 [1,2,4] h fun w h=>Dp 0 16 (Pp b) [1,2,4] h (Dp 1 17 (Pp b) [1,2,4] h (Dp 2 19 (Pt b 4) [1,2,4] h (Dq 3 23 [1,2,4] rfl h (Gl 4 (.map (some dm)) 1) (Dq 4 15 [1,2,4] rfl h (Gla 0 [Ii kx,Ii gx] 0) (Dq 5 31 [1,2,4] rfl h (A4 (v':=.tuple #[.map (some dx.mb),.bool true]) (Gkd (kv:=ds.map Bt) true ((kx:Int),gx) 2 rfl) (by rw [show Af (ds.map Bt) ((kx:Int),gx)=_ from hdx▸C1 hdd hjx];rfl)) (Dp 6 63 (.tuple #[.map (some dx.mb),.bool true]) [1,2,4] h (Dp 7 383 (.map (some dx.mb)) [1,2,4] h (Dp 8 767 (.bool true) [1,2,4] h (Dp 9 511 (.map (some dx.mb)) [1,2,4] h (Dp 10 1023 (.bool true) [1,2,4] h (Dd (Ai (Qt (ZP (.bool true) (ZP (.bool true) (ZP (Pp b) (ZG h (Gla 0 [Ii kb,Ii gb] 8) (ZG h (Gla 0 [Ii kx,Ii gx] 1) (ZC [3,3,3,3,0,5,5] (E8 ad b most tb dm pm ps gs vl vg T Sl Sg l ds pn hl hr sm ti ((kx:Int),gx) ((kb:Int),gb) hdA rk hrk hcl) h fun w h=>ZP (.bool false) (Qf (Kn (Aa ?_))))))))))))))))))))))))))))
 have h:=(h.pkr [4]).dirOpen hjb
 refine Ah (ZP (.map (some db.mb)) (ZP (.string nm) (ZG h (A4 (v':=.tuple #[Hg ky gy,.bool true]) (Gks (kv:=db.es.map Bd) true nm 0 rfl) (by rw [B9 hy];rfl)) (ZP (.tuple #[Hg ky gy,.bool true]) (ZP (Hg ky gy) (ZP (.bool true) (ZN [Ii 0,Ii 0] 34 h fun k4 w h=>ZSs [Ii ky,Ii gy] 0 rfl h fun w h=>ZP (.bool true) (Qn (Aa (Av (Aa ?_)))))))))))
 have h:=(h.pkr [1,1]).dirBack (d:=db) hjb
 refine Ah (ZP (.bool true) (ZP (.bool true) (ZG h (Gla 0 [Ii ky,Ii gy] 1) (ZG h (Gla 0 [Ii kx,Ii gx] 8) ?_))))
 obtain ⟨b5,hb5⟩:=nmB ((decide ((ky:Int)=(kx:Int)))&&(decide (gy=gx)))
 refine Kc (v:=.bool b5) (by kernel_rfl) h (by subst hb5;exact Fm (n1:=(ky:Int)) (g1:=gy) (n2:=(kx:Int)) (g2:=gx) (by kernel_rfl)) ?_
 refine ZP (.bool b5) (ZP (.bool b5) (Qn (Zi (b5) (fun hc6=>?_) fun hc6=>?_)))
 have q7:=hb5.symm.trans hc6
 have q8:=aL q7
 have q9:=aR q7
 have q8:=dcT q8
 have q9:=dcT q9
 exfalso;first|omega|(simp only [List.length_map] at *;omega)|(revert hc6;subst hb5;simp;done)|(revert hc6;subst hb5;simp;omega)
 have q10:=hb5.symm.trans hc6
 have q11:=ndA q10
 exact Qs (ZP (.bool true) (ZP (.bool true) (Qg (Qs (ZP (Pp b) (ZG h (Gla 0 [Ii kx,Ii gx] 8) (ZG h (Gla 0 [Ii ky,Ii gy] 1) (ZC [2,2,2,2,0,1,1] (Add ad b most tb dm pm ps gs vl vg T Sl Sg l ds pn hl hr (kx:Int) gx (ky:Int) gy hdd jx dx hjx hdx hyf) h fun w h=>ZP (Ag ad 8) (Qm (ZP (Ag ad 8) (ZP (.bool true) (Qg (Qs (ZP (Ag ad 8) (ZP (Ag ad 8) (Qr (B7 (Ar (ZR [Ag ad 8] [0,0,0,0,0,0,0] h ⟨rfl,rfl⟩)))))))))))))))))))
theorem Aan (hdd:(ds.map (·.h)).Nodup) (ka:Nat) (ga:Int) (Na:ND) (hla:l[ka]?=some (some Na)) (haa:Bk ps gs (ka:Int) ga=some Na.nb) (ja:Nat) (da:DN) (hja:ds[ja]?=some da) (hda:da.h=((ka:Int),ga)) (kb:Nat) (gb:Int) (Nb:ND) (hlb:l[kb]?=some (some Nb)) (hab:Bk ps gs (kb:Int) gb=some Nb.nb) (jb:Nat) (db:DN) (hjb:ds[jb]?=some db) (hdb:db.h=((kb:Int),gb)) (old nm:ByteArray) (hoz:old.size≤9223372036854775807) (hnz:nm.size≤9223372036854775807) (ho:A0 old) (hn:A0 nm) (kx:Nat) (gx:Int) (hx:Af da.es old=some ((kx:Int),gx)) (jx:Nat) (dx:DN) (hjx:ds[jx]?=some dx) (hdx:dx.h=((kx:Int),gx)) {A:List AN} {ts:List Int} (sm:Sim most ps gs l ds pn A ts) (ti:TI most ts A) (hdA:∃ M∈A,M.h=(((kb:Int),gb):Hdl)∧M.kind=2) (rk:Hdl→Nat) (hrk:∀ d,upA A d≠d→rk (upA A d)<rk d) (hcl:¬B8 A (((kx:Int),gx):Hdl) (((kb:Int),gb):Hdl)) (ky:Nat) (gy:Int) (hy:Af db.es nm=some ((ky:Int),gy)) (hyx:¬((ky:Int)=(kx:Int)∧gy=gx)) (jy:Nat) (dy:DN) (hjy:ds[jy]?=some dy) (hdy:dy.h=((ky:Int),gy)) (hful:0<dy.es.length):Au Tryz.prog 20 #[Pp b,Hg ka ga,.string old,Hg kb gb,.string nm] (Ra B ad b tb most dm pm ps gs vl vg T Sl Sg l ds pn) (fun u L=>u=Ag ad 11∧L=(Ra B ad b tb most dm pm ps gs vl vg T Sl Sg l ds pn)):=by
 refine Zo 154 Tryz.func20 fun E w0 w h=>?_
 have h:=(h.eS [10] 6 rfl).eS [4] 7 rfl
 refine Qs (ZN [Ii ka,Ii ga] 34 h fun k1 w h=>ZN [Ii kb,Ii gb] 34 h fun k2 w h=>ZP .nilIface (Qm (ZP (Pp b) (ZG h (Gla 0 [Ii ka,Ii ga] 1) (ZC [4,4,4,4,3] (A7 ad b most tb dm pm ps gs vl vg T Sl Sg l ds pn hl hr (ka:Int) ga ka Na hla haa ja da hja hda hdd) h fun w h=>ZP (.tuple #[.map (some da.mb),.nilIface]) (ZP (.map (some da.mb)) (ZP .nilIface (ZP (.map (some da.mb)) (ZP .nilIface (Qu (ZP .nilIface (ZP (.bool false) (Fs (ZP (Pp b) (ZG h (Gla 0 [Ii kb,Ii gb] 5) (ZC [0,0,0,0,0] (A7 ad b most tb dm pm ps gs vl vg T Sl Sg l ds pn hl hr (kb:Int) gb kb Nb hlb hab jb db hjb hdb hdd) h fun w h=>ZP (.tuple #[.map (some db.mb),.nilIface]) (ZP (.map (some db.mb)) (ZP .nilIface (ZP (.map (some db.mb)) (ZP .nilIface (Qu (ZP .nilIface (ZP (.bool true) (Qg (Ah (ZP (.string old) (ZC [7] (A5 ad old hoz ho) h fun w h=>ZP .nilIface (Qu (ZP .nilIface (ZP (.bool true) (Qg (Ah (ZP (.string nm) (ZC [0] (A5 ad nm hnz hn) h fun w h=>ZP .nilIface (Qu (ZP .nilIface (ZP (.bool false) (Qf (Kn (Aa ?_))))))))))))))))))))))))))))))))))))))))
 have h:=(h.pkr [8]).dirOpen hja
 refine Ah (ZP (.map (some da.mb)) (ZP (.string old) (ZG h (A4 (v':=.tuple #[Hg kx gx,.bool true]) (Gks (kv:=da.es.map Bd) true old 0 rfl) (by rw [B9 hx];rfl)) (ZP (.tuple #[Hg kx gx,.bool true]) (ZP (Hg kx gx) (ZP (.bool true) (ZN [Ii 0,Ii 0] 34 h fun k3 w h=>ZSs [Ii kx,Ii gx] 0 rfl h fun w h=>ZP (.bool true) (Qn (Aa (Aa ?_))))))))))
 have h:=(h.pkr [1,1]).dirBack (d:=da) hja
 refine Ah (ZP (.bool true) (ZP (.bool false) (Qf (Kn (Aa (Ds 11 [1,2,4] h fun w h=>Dp 0 16 (Pp b) [1,2,4] h (Dp 1 17 (Pp b) [1,2,4] h (Dp 2 19 (Pt b 4) [1,2,4] h (Dq 3 23 [1,2,4] rfl h (Gl 4 (.map (some dm)) 1) (Dq 4 15 [1,2,4] rfl h (Gla 0 [Ii kx,Ii gx] 0) (Dq 5 31 [1,2,4] rfl h (A4 (v':=.tuple #[.map (some dx.mb),.bool true]) (Gkd (kv:=ds.map Bt) true ((kx:Int),gx) 2 rfl) (by rw [show Af (ds.map Bt) ((kx:Int),gx)=_ from hdx▸C1 hdd hjx];rfl)) (Dp 6 63 (.tuple #[.map (some dx.mb),.bool true]) [1,2,4] h (Dp 7 383 (.map (some dx.mb)) [1,2,4] h (Dp 8 767 (.bool true) [1,2,4] h (Dp 9 511 (.map (some dx.mb)) [1,2,4] h (Dp 10 1023 (.bool true) [1,2,4] h (Dd (Ai (Qt (ZP (.bool true) (ZP (.bool true) (ZP (Pp b) (ZG h (Gla 0 [Ii kb,Ii gb] 8) (ZG h (Gla 0 [Ii kx,Ii gx] 1) (ZC [3,3,3,3,0,5,5] (E8 ad b most tb dm pm ps gs vl vg T Sl Sg l ds pn hl hr sm ti ((kx:Int),gx) ((kb:Int),gb) hdA rk hrk hcl) h fun w h=>ZP (.bool false) (Qf (Kn (Aa ?_))))))))))))))))))))))))))))
 have h:=(h.pkr [4]).dirOpen hjb
 refine Ah (ZP (.map (some db.mb)) (ZP (.string nm) (ZG h (A4 (v':=.tuple #[Hg ky gy,.bool true]) (Gks (kv:=db.es.map Bd) true nm 0 rfl) (by rw [B9 hy];rfl)) (ZP (.tuple #[Hg ky gy,.bool true]) (ZP (Hg ky gy) (ZP (.bool true) (ZN [Ii 0,Ii 0] 34 h fun k4 w h=>ZSs [Ii ky,Ii gy] 0 rfl h fun w h=>ZP (.bool true) (Qn (Aa (Av (Aa ?_)))))))))))
 have h:=(h.pkr [1,1]).dirBack (d:=db) hjb
 refine Ah (ZP (.bool true) (ZP (.bool true) (ZG h (Gla 0 [Ii ky,Ii gy] 1) (ZG h (Gla 0 [Ii kx,Ii gx] 8) ?_))))
 obtain ⟨b5,hb5⟩:=nmB ((decide ((ky:Int)=(kx:Int)))&&(decide (gy=gx)))
 refine Kc (v:=.bool b5) (by kernel_rfl) h (by subst hb5;exact Fm (n1:=(ky:Int)) (g1:=gy) (n2:=(kx:Int)) (g2:=gx) (by kernel_rfl)) ?_
 refine ZP (.bool b5) (ZP (.bool b5) (Qn (Zi (b5) (fun hc6=>?_) fun hc6=>?_)))
 have q7:=hb5.symm.trans hc6
 have q8:=aL q7
 have q9:=aR q7
 have q8:=dcT q8
 have q9:=dcT q9
 exfalso;first|omega|(simp only [List.length_map] at *;omega)|(revert hc6;subst hb5;simp;done)|(revert hc6;subst hb5;simp;omega)
 have q10:=hb5.symm.trans hc6
 have q11:=ndA q10
 exact Qs (ZP (.bool true) (ZP (.bool true) (Qg (Qs (ZP (Pp b) (ZG h (Gla 0 [Ii kx,Ii gx] 8) (ZG h (Gla 0 [Ii ky,Ii gy] 1) (ZC [2,2,2,2,0,1,1] (Zj ad b most tb dm pm ps gs vl vg T Sl Sg l ds pn hl hr (kx:Int) gx (ky:Int) gy hdd jx dx hjx hdx jy dy hjy hdy hful) h fun w h=>ZP (Ag ad 11) (Qm (ZP (Ag ad 11) (ZP (.bool true) (Qg (Qs (ZP (Ag ad 11) (ZP (Ag ad 11) (Qr (B7 (Ar (ZR [Ag ad 11] [0,0,0,0,0,0,0] h ⟨rfl,rfl⟩)))))))))))))))))))
end
end Go.Proofs.YtpojpkhpddnmjaaGreatDoor
