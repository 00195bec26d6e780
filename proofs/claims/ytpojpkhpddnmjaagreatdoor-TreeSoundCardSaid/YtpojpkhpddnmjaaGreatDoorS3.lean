/- Lemmas: part 3. -/
import Derived.Test.YtpojpkhpddnmjaaGreatDoorS2
import Derived.Deep.RegionWith
import Derived.Laws.Concat
import Derived.Sort.Walk0
set_option linter.all false
set_option maxRecDepth 100000
set_option maxHeartbeats 20000000
namespace Go.Proofs.YtpojpkhpddnmjaaGreatDoor
open Go.RowKit
def Bv (n:Nat):ByteArray:=⟨(List.replicate n (0:UInt8)).toArray⟩
theorem El (n:Nat):(Bv n).size=n:=by simp [Bv,ByteArray.size]
theorem Yq (n:Int) (w:World) (h0:0≤n) (h1:n≤140737488355328):Calls Tryz.prog 94 #[.int .i64 n] w fun e w'=>e=.returned (.string (Bv n.toNat))∧Chg Nil w w':=by
  obtain ⟨m,rfl⟩:∃ m:Nat,n=m:=⟨n.toNat,by omega⟩
  rw [Int.toNat_natCast]
  have hmk:=Aar w m (by omega)
  have hcv:(convert 167 9 (.slice (some ⟨w.heap.size,0,none⟩) m m)).run Tryz.prog (w.alloc (.cells (Dv (List.replicate m 0)).toArray 5))=.ok (.string (Bv m)) (w.alloc (.cells (Dv (List.replicate m 0)).toArray 5)):=by
    have:=run_convert_bytes_back (P:=Tryz.prog) (w.alloc (.cells (Dv (List.replicate m 0)).toArray 5)) 167 9 5 ⟨w.heap.size,0,none⟩ m (List.replicate m 0) Tryz.underlying167 Tryz.underlying5 Tryz.underlying9 (fun j hj=>by
      rw [Addr.add_lit,Be (Bu w _)]
      have hj':j<m:=by simpa using hj
      simp [Dv,hj'])
    simpa [Bv] using this
  go_enter Tryz.func94,Tryz.ntmps94
  go_wp2_with fail
  go_ret
  exact ⟨rfl,(Chg.refl _ _).alloc _⟩
def P2 (h:List Bool) (k:Nat):List Bool:=(h++List.replicate (k+1 - h.length) true).set k false
def G2 (h:List Bool) (k:Nat):Nat→List Bool
  | 0=>h
  | j+1=>P2 (G2 h k j) (k+j)
theorem Y0 (h:List Bool) (k:Nat):(P2 h k).length=max h.length (k+1):=by simp [P2];omega
theorem Mu (h:List Bool) (k:Nat):∀ j,(G2 h k j).length≤max h.length (k+j)
  | 0=>by simp [G2];omega
  | j+1=>by
    have:=Mu h k j
    simp only [G2,Y0];omega
theorem Ld {a b:ByteArray} (h:a.data.toList=b.data.toList):a=b:=by
  obtain ⟨⟨x⟩⟩:=a
  obtain ⟨⟨y⟩⟩:=b
  simp only at h
  subst h;rfl
theorem Gz (a b:ByteArray):(a++b).data.toList=a.data.toList++b.data.toList:=by simp
theorem Ia (a:ByteArray) (i j:Nat):(a.extract i j).data.toList=(a.data.toList.take j).drop i:=by simp [List.drop_take]
def Bi (s:ByteArray) (h:List Bool) (p:Int) (t:ByteArray):ByteArray×List Bool×Nat:=
  if p<0∨4096<p∨4096 - p<t.size then (s,h,2) else if t.size=0 then (s,h,0) else (⟨(E5 s.data.toList p.toNat t.data.toList).toArray⟩,G2 h (p.toNat/64) ((p.toNat+t.size - 1)/64+1 - p.toNat/64),0)
theorem Vh (s t:ByteArray) (p:Nat):(⟨(E5 s.data.toList p t.data.toList).toArray⟩:ByteArray).size=max s.size (p+t.size):=by
  have h1:t.data.toList.length=t.size:=Array.length_toList
  have h2:s.data.toList.length=s.size:=Array.length_toList
  show (E5 s.data.toList p t.data.toList).toArray.size=_
  rw [List.size_toArray,Of,h1,h2]
theorem Zy (s t:ByteArray) (p:Nat) (hp:s.size<p):(s++Bv (p - s.size)).extract 0 p++t=⟨(E5 s.data.toList p t.data.toList).toArray⟩:=by
  apply Ld
  have h2:s.data.toList.length=s.size:=Array.length_toList
  have h1:t.data.toList.length=t.size:=Array.length_toList
  rw [Gz,Ia,Gz,List.drop_zero]
  simp only [E5,h2]
  rw [List.drop_eq_nil_of_le (by omega),List.append_nil]
  rfl
theorem S4 (s t:ByteArray) (p:Nat) (hp:p≤s.size):s.extract 0 p++t++s.extract (p+t.size) s.size=⟨(E5 s.data.toList p t.data.toList).toArray⟩:=by
  apply Ld
  have h1:t.data.toList.length=t.size:=Array.length_toList
  have h2:s.data.toList.length=s.size:=Array.length_toList
  rw [Gz,Gz,Ia,Ia]
  simp only [E5,h1,h2]
  have e:p - s.size=0:=by omega
  rw [e,List.replicate_zero,List.append_nil,List.drop_zero,List.take_of_length_le (l:=s.data.toList) (i:=s.size) (by omega)]
theorem Vf (a:ByteArray):a++⟨#[]⟩=a:=by
  apply Ld;rw [Gz];simp
theorem Ach (s t:ByteArray) (p:Nat) (hp:p≤s.size) (hq:s.size≤p+t.size):s.extract 0 p++t=⟨(E5 s.data.toList p t.data.toList).toArray⟩:=by
  rw [← S4 s t p hp]
  have:s.extract (p+t.size) s.size=⟨#[]⟩:=by
    apply Ld
    rw [Ia]
    have h2:s.data.toList.length=s.size:=Array.length_toList
    rw [List.drop_eq_nil_of_le (by simp;omega)]
  rw [this]
  apply Ld
  rw [Gz,Gz,Gz];simp
def Z4 (s:ByteArray) (p n:Int):ByteArray×Bool×Nat:=
  if p<0∨n<0 then (⟨#[]⟩,false,2) else if (s.size:Int)≤p then (⟨#[]⟩,true,0) else if (s.size:Int) - p≤n then (s.extract p.toNat s.size,true,0) else (s.extract p.toNat (p+n).toNat,false,0)
def Ji (h:List Bool):Nat:=h.countP fun x=>!x
theorem R3 (h:List Bool) (k:Nat) (x:Bool) (hx:h[k]?=some x):Ji (h.take (k+1))=Ji (h.take k)+if x then 0 else 1:=by
  have hk:=(List.getElem?_eq_some_iff.1 hx).1
  rw [List.take_add_one,hx]
  unfold Ji
  rw [List.countP_append]
  cases x<;>simp
def Pq (h:List Bool) (n:Nat):List Bool:=h.mapIdx fun k x=>if n≤k*64 then true else x
def Bd (s:ByteArray) (h:List Bool) (n:Int):ByteArray×List Bool×Nat:=
  if n<0∨4096<n then (s,h,2) else if (s.size:Int)≤n then (s++Bv (n.toNat - s.size),h,0) else (s.extract 0 n.toNat,Pq h n.toNat,0)
theorem Acy (h:List Bool) (n:Nat):(Pq h n).length=h.length:=by simp [Pq]
def Ht (h:List Bool) (n k:Nat):List Bool:=h.mapIdx fun i x=>if i<k∧n≤i*64 then true else x
theorem Yu (h:List Bool) (n k:Nat):(Ht h n k).length=h.length:=by simp [Ht]
theorem U7 (h:List Bool) (n:Nat):Ht h n 0=h:=by
  apply List.ext_getElem?
  intro i
  simp [Ht]
theorem Zp (h:List Bool) (n k:Nat) (hk:h.length≤k):Ht h n k=Pq h n:=by
  apply List.ext_getElem?
  intro i
  simp only [Ht,Pq,List.getElem?_mapIdx]
  cases hi:h[i]? with
  | none=>rfl
  | some x=>
    have:=(List.getElem?_eq_some_iff.1 hi).1
    simp only [Option.map_some]
    congr 1
    by_cases c:n≤i*64
    · rw [if_pos ⟨by omega,c⟩,if_pos c]
    · rw [if_neg (fun h=>c h.2),if_neg c]
theorem Acr (h:List Bool) (n k:Nat) (hk:k<h.length) (hn:n≤k*64):(Ht h n k).set k true=Ht h n (k+1):=by
  apply List.ext_getElem?
  intro i
  simp only [Ht,List.getElem?_set,List.getElem?_mapIdx,List.length_mapIdx]
  by_cases c:k=i
  · subst c
    rw [if_pos rfl,if_pos hk,List.getElem?_eq_getElem hk,Option.map_some,if_pos ⟨by omega,hn⟩]
  · rw [if_neg c]
    cases hi:h[i]? with
    | none=>rfl
    | some x=>
      simp only [Option.map_some]
      congr 1
      by_cases c2:i<k∧n≤i*64
      · rw [if_pos c2,if_pos ⟨by omega,c2.2⟩]
      · rw [if_neg c2,if_neg (fun h=>c2 ⟨by omega,h.2⟩)]
theorem Yi (h:List Bool) (n k:Nat) (hn:¬n≤k*64):Ht h n k=Ht h n (k+1):=by
  apply List.ext_getElem?
  intro i
  simp only [Ht,List.getElem?_mapIdx]
  cases hi:h[i]? with
  | none=>rfl
  | some x=>
    simp only [Option.map_some]
    congr 1
    by_cases c2:i<k∧n≤i*64
    · rw [if_pos c2,if_pos ⟨by omega,c2.2⟩]
    · rw [if_neg c2,if_neg (fun h=>by
        by_cases e:i=k
        · subst e;exact hn h.2
        · exact c2 ⟨by omega,h.2⟩)]
structure G1 (d:Fh) (s:ByteArray) (h:List Bool):Prop where
  holds:La d s.data.toList
  keys:∀ k:Nat,(Ae d.kv (k:Int)).isSome=(h[k]?==some false)
theorem G1.size {d:Fh} {s:ByteArray} {h:List Bool} (a:G1 d s h):d.size=s.size:=by rw [a.holds.size];exact Array.length_toList
theorem X6:G1 ⟨0,[]⟩ ⟨#[]⟩ []:=⟨Y8,fun k=>rfl⟩
theorem X7 (kv:Du) (i:Nat) (c:UInt8) (q:Nat):(Ae (Pn kv i c) (q:Int)).isSome=((Ae kv (q:Int)).isSome||decide (q=i/64)):=by
  unfold Pn
  rw [Iw]
  by_cases h:q=i/64
  · subst h;simp
  · rw [if_neg (by omega)];simp [h]
theorem O5:∀ (s:List UInt8) (kv:Du) (i q:Nat),(Ae (F1 kv i s) (q:Int)).isSome=((Ae kv (q:Int)).isSome||decide (0<s.length∧i/64≤q∧q≤(i+s.length - 1)/64))
  | [],kv,i,q=>by simp [F1]
  | c::s,kv,i,q=>by
    unfold F1
    rw [O5 s (Pn kv i c) (i+1) q,X7,Bool.or_assoc]
    congr 1
    rw [Bool.eq_iff_iff]
    simp only [Bool.or_eq_true,decide_eq_true_eq,List.length_cons]
    constructor
    · rintro (h|⟨h1,h2,h3⟩)
      · subst h;omega
      · omega
    · rintro ⟨_,h2,h3⟩
      by_cases e:q=i/64
      · exact .inl e
      · right;omega
theorem Yr (h:List Bool) (k q:Nat):((P2 h k)[q]?==some false)=((h[q]?==some false)||decide (q=k)):=by
  unfold P2
  rw [List.getElem?_set]
  by_cases e:k=q
  · subst e
    simp;omega
  · have e':¬q=k:=fun x=>e x.symm
    rw [if_neg e]
    simp only [e',decide_false,Bool.or_false]
    by_cases c:q<h.length
    · rw [List.getElem?_append_left c]
    · rw [List.getElem?_append_right (by omega),List.getElem?_replicate,List.getElem?_eq_none (by omega)]
      split<;>rfl
theorem P8 (h:List Bool) (k:Nat):∀ (j q:Nat),((G2 h k j)[q]?==some false)=((h[q]?==some false)||decide (k≤q∧q<k+j))
  | 0,q=>by
    have:¬(k≤q∧q<k+0):=by omega
    simp only [G2,this,decide_false,Bool.or_false]
  | j+1,q=>by
    rw [G2,Yr,P8 h k j q,Bool.or_assoc]
    congr 1
    rw [Bool.eq_iff_iff]
    simp only [Bool.or_eq_true,decide_eq_true_eq]
    omega
theorem G1.write {d:Fh} {s:ByteArray} {h:List Bool} (a:G1 d s h) (p:Int) (t:ByteArray):(Cl d p t).2=(Bi s h p t).2.2∧G1 (Cl d p t).1 (Bi s h p t).1 (Bi s h p t).2.1:=by
  have hl:t.data.toList.length=t.size:=Array.length_toList
  by_cases hbad:p<0∨4096<p∨4096 - p<t.size
  · rw [Cl,if_pos hbad,Bi,if_pos hbad];exact ⟨rfl,a⟩
  by_cases h0:t.size=0
  · rw [Cl,if_neg hbad,if_pos h0,Bi,if_neg hbad,if_pos h0];exact ⟨rfl,a⟩
  obtain ⟨p,rfl⟩:∃ k:Nat,p=k:=⟨p.toNat,by omega⟩
  obtain ⟨w1,w2⟩:=a.holds.write p t (by omega) (by omega) (by omega)
  refine ⟨by rw [w1,Bi,if_neg hbad,if_neg h0],?_⟩
  have e1:Cl d p t=(⟨max d.size (p+t.size),F1 d.kv p t.data.toList⟩,0):=by rw [Cl,if_neg hbad,if_neg h0];rfl
  have e2:Bi s h p t=(⟨(E5 s.data.toList p t.data.toList).toArray⟩,G2 h (p/64) ((p+t.size - 1)/64+1 - p/64),0):=by rw [Bi,if_neg hbad,if_neg h0];rfl
  rw [e1] at w2 ⊢
  rw [e2]
  refine ⟨by simpa using w2,fun k=>?_⟩
  show (Ae (F1 d.kv p t.data.toList) (k:Int)).isSome=_
  rw [O5,P8,a.keys,hl]
  congr 1
  rw [Bool.eq_iff_iff]
  simp only [decide_eq_true_eq]
  omega
theorem X0 {kv:Du} (n q:Nat):(Ae (Jr (kv.filter fun p=>!decide ((n:Int)≤p.1*64)) n) (q:Int)).isSome=((Ae kv (q:Int)).isSome&&!decide (n≤q*64)):=by
  have hf:∀ q:Nat,Ae (kv.filter fun p=>!decide ((n:Int)≤p.1*64)) (q:Int)=if (n:Int)≤q*64 then none else Ae kv (q:Int):=fun q=>by
    rw [Ij (q:Int) (fun k=>!decide ((n:Int)≤k*64)) kv]
    by_cases c:(n:Int)≤q*64<;>simp [c]
  have base:(Ae (kv.filter fun p=>!decide ((n:Int)≤p.1*64)) (q:Int)).isSome=((Ae kv (q:Int)).isSome&&!decide (n≤q*64)):=by
    rw [hf]
    by_cases c:n≤q*64
    · rw [if_pos (by omega)];simp [c]
    · rw [if_neg (by omega)];simp [c]
  unfold Jr
  split
  · exact base
  · rename_i l hg
    rw [Iw]
    by_cases e:(q:Int)=((n/64:Nat):Int)
    · rw [if_pos e,← base,e,hg];rfl
    · rw [if_neg e];exact base
theorem Ab8 (h:List Bool) (n q:Nat):((Pq h n)[q]?==some false)=((h[q]?==some false)&&!decide (n≤q*64)):=by
  unfold Pq
  rw [List.getElem?_mapIdx]
  cases h[q]? with
  | none=>simp
  | some x=>
    by_cases c:n≤q*64
    · simp [c]
    · simp [c]
theorem G1.resize {d:Fh} {s:ByteArray} {h:List Bool} (a:G1 d s h) (n:Int):(B4 d n).2=(Bd s h n).2.2∧G1 (B4 d n).1 (Bd s h n).1 (Bd s h n).2.1:=by
  have hs:=a.size
  have hl:s.data.toList.length=s.size:=Array.length_toList
  by_cases hbad:n<0∨4096<n
  · rw [B4,if_pos hbad,Bd,if_pos hbad];exact ⟨rfl,a⟩
  obtain ⟨n,rfl⟩:∃ k:Nat,n=k:=⟨n.toNat,by omega⟩
  obtain ⟨w1,w2⟩:=a.holds.resize n (by omega)
  by_cases c:n<d.size
  · have e1:B4 d n=(⟨n,Jr (d.kv.filter fun p=>!decide ((n:Int)≤p.1*64)) n⟩,0):=by rw [B4,if_neg hbad,if_pos (by omega)];simp
    have e2:Bd s h n=(s.extract 0 n,Pq h n,0):=by rw [Bd,if_neg hbad,if_neg (by omega)];rfl
    rw [e1] at w2 ⊢
    rw [e2]
    refine ⟨rfl,?_,fun k=>?_⟩
    · have:(s.extract 0 n).data.toList=Je s.data.toList n:=by
        rw [Ia,List.drop_zero]
        unfold Je
        rw [show n - s.data.toList.length=0 by omega];simp
      rw [this];exact w2
    · show (Ae (Jr (d.kv.filter fun p=>!decide ((n:Int)≤p.1*64)) n) (k:Int)).isSome=_
      rw [X0,Ab8,a.keys]
  · have e1:B4 d n=(⟨n,d.kv⟩,0):=by rw [B4,if_neg hbad,if_neg (by omega)];simp
    have e2:Bd s h n=(s++Bv (n - s.size),h,0):=by rw [Bd,if_neg hbad,if_pos (by omega)];rfl
    rw [e1] at w2 ⊢
    rw [e2]
    refine ⟨rfl,?_,a.keys⟩
    have:(s++Bv (n - s.size)).data.toList=Je s.data.toList n:=by
      rw [Gz]
      unfold Je
      rw [hl,List.take_of_length_le (by omega)];rfl
    rw [this];exact w2
theorem G1.read {d:Fh} {s:ByteArray} {h:List Bool} (a:G1 d s h) (p n:Int):Aas d p n=Z4 s p n:=by
  have hs:=a.size
  have hl:s.data.toList.length=s.size:=Array.length_toList
  by_cases hbad:p<0∨n<0
  · rw [Aas,if_pos hbad,Z4,if_pos hbad]
  rw [Aas,if_neg hbad,Z4,if_neg hbad]
  obtain ⟨p,rfl⟩:∃ k:Nat,p=k:=⟨p.toNat,by omega⟩
  rw [Int.toNat_natCast]
  by_cases h1:(s.size:Int)≤p
  · have hm:Kg d.size p n=0:=by unfold Kg;omega
    rw [if_pos h1,hm]
    have:decide ((d.size:Int) - ((0:Nat):Int)≤(p:Int))=true:=by rw [decide_eq_true_eq];omega
    rw [this];simp [N0]
  · rw [if_neg h1]
    by_cases h2:(s.size:Int) - p≤n
    · have hm:Kg d.size p n=s.size - p:=by unfold Kg;omega
      rw [if_pos h2,hm,a.holds.read p (s.size - p) (by omega)]
      have:decide ((d.size:Int) - ((s.size - p:Nat):Int)≤(p:Int))=true:=by rw [decide_eq_true_eq];omega
      rw [this]
      congr 1
      apply Ld
      rw [Ia]
      show (s.data.toList.drop p).take (s.size - p)=_
      rw [List.take_of_length_le (by rw [List.length_drop];omega),List.take_of_length_le (i:=s.size) (by omega)]
    · have hm:Kg d.size p n=n.toNat:=by unfold Kg;omega
      rw [if_neg h2,hm,a.holds.read p n.toNat (by omega)]
      have:decide ((d.size:Int) - ((n.toNat:Nat):Int)≤(p:Int))=false:=by rw [decide_eq_false_iff_not];omega
      rw [this]
      congr 1
      apply Ld
      rw [Ia]
      show (s.data.toList.drop p).take n.toNat=_
      rw [show ((p:Int)+n).toNat=p+n.toNat by omega,List.drop_take,Nat.add_sub_cancel_left]
theorem Or (h:List Bool):∀ n,n≤h.length→((List.range n).filter fun k=>h[k]?==some false).length=Ji (h.take n)
  | 0,_=>by simp [Ji]
  | n+1,hn=>by
    obtain ⟨x,hx⟩:∃ x,h[n]?=some x:=⟨h[n],List.getElem?_eq_getElem (by omega)⟩
    rw [List.range_succ,List.filter_append,List.length_append,Or h n (by omega),R3 h n x hx]
    cases x<;>simp [hx]
theorem G1.blocks {d:Fh} {s:ByteArray} {h:List Bool} (a:G1 d s h) (hd:(d.kv.map (·.1)).Nodup):d.kv.length=Ji h:=by
  have hfull:=a.holds.full
  have e1:Ji h=((List.range h.length).filter fun k=>h[k]?==some false).length:=by rw [Or h h.length (Nat.le_refl _),List.take_length]
  rw [e1]
  have e2:d.kv.length=(d.kv.map fun p=>p.1.toNat).length:=by simp
  rw [e2]
  refine List.Perm.length_eq ((List.perm_ext_iff_of_nodup ?_ ?_).2 fun k=>?_)
  · have:(d.kv.map fun p=>p.1.toNat)=(d.kv.map (·.1)).map Int.toNat:=by simp
    rw [this]
    simp only [List.Nodup,List.pairwise_map] at hd ⊢
    have aux:∀ l:Du,(∀ p∈l,0≤p.1)→List.Pairwise (fun a b=>a.1≠b.1) l→List.Pairwise (fun a b:Int×List UInt8=>a.1.toNat≠b.1.toNat) l:=by
      intro l
      induction l with
      | nil=>intro _ _;exact List.Pairwise.nil
      | cons x l ih=>
        intro hp hw
        obtain ⟨h1,h2⟩:=List.pairwise_cons.1 hw
        refine List.pairwise_cons.2 ⟨fun y hy e=>h1 y hy ?_,ih (fun p hp'=>hp p (List.mem_cons_of_mem _ hp')) h2⟩
        have:=hp x (List.mem_cons_self ..)
        have:=hp y (List.mem_cons_of_mem _ hy)
        omega
    exact aux d.kv (fun p hp=>(hfull p hp).2.1) hd
  · exact List.filter_sublist.nodup List.nodup_range
  · have hk:=a.keys k
    constructor
    · intro hm
      obtain ⟨p,hp,e⟩:=List.mem_map.1 hm
      have h0:=(hfull p hp).2.1
      have hg:(Ae d.kv (k:Int)).isSome=true:=by
        cases hg:Ae d.kv (k:Int) with
        | some _=>rfl
        | none=>
          exfalso
          have:∀ l:Du,Ae l (k:Int)=none→∀ p∈l,p.1≠(k:Int):=by
            intro l
            induction l with
            | nil=>intro _ p hp;cases hp
            | cons x l ih=>
              intro hn p hp
              unfold Ae at hn
              split at hn
              · cases hn
              · rename_i c
                rcases List.mem_cons.1 hp with rfl|hp
                · exact fun e=>c e.symm
                · exact ih hn p hp
          exact this d.kv hg p hp (by omega)
      rw [hk] at hg
      have hh:h[k]?=some false:=by simpa using hg
      exact List.mem_filter.2 ⟨List.mem_range.2 (List.getElem?_eq_some_iff.1 hh).1,hg⟩
    · intro hm
      have hg:=(List.mem_filter.1 hm).2
      rw [← hk] at hg
      obtain ⟨l,hl⟩:=Option.isSome_iff_exists.1 hg
      exact List.mem_map.2 ⟨_,Ki hl,by simp⟩
def Ad7 (A:List AN):Prop:=∀ M∈A,M.s.size≤4096∧M.holes.length≤64
theorem Ad7.at_ {L:List RN} (h:Ad7 (L.map RN.a)) {j:Nat} {N:RN} (hx:L[j]?=some N):N.a.s.size≤4096∧N.a.holes.length≤64:=h _ (List.mem_map.2 ⟨N,List.mem_of_getElem? hx,rfl⟩)
def atF {α:Type} (A:List AN) (h:Hdl) (e:Nat→α) (f:AN→α):α:=match Bp A h with|none=>e 10|some N=>if N.kind=1 then f N else e 8
section
variable {α:Type} {A:List AN} {h:Hdl} {e:Nat→α} {f:AN→α} {N:AN}
theorem Hn (h1:Bp A h=none):atF A h e f=e 10:=by unfold atF;rw [h1]
theorem Im (h1:Bp A h=some N) (h2:¬N.kind=1):atF A h e f=e 8:=by unfold atF;rw [h1];exact if_neg h2
theorem Gn (h1:Bp A h=some N) (h2:N.kind=1):atF A h e f=f N:=by unfold atF;rw [h1];exact if_pos h2
end
def wrA (p:Int) (t:ByteArray) (N:AN):AN:=⟨N.h,N.kind,N.change+(if (Bi N.s N.holes p t).2.2=0∧¬t.size=0 then 1 else 0),(Bi N.s N.holes p t).1,(Bi N.s N.holes p t).2.1,N.es,N.pins⟩
def rzA (p:Int) (N:AN):AN:=⟨N.h,N.kind,N.change+(if (Bd N.s N.holes p).2.2=0 then 1 else 0),(Bd N.s N.holes p).1,(Bd N.s N.holes p).2.1,N.es,N.pins⟩
def Ep (A:List AN) (h:Hdl) (p:Int) (t:ByteArray):Nat:=atF A h id fun N=>(Bi N.s N.holes p t).2.2
def E9 (A:List AN) (h:Hdl) (p:Int) (t:ByteArray):List AN:=atF A h (fun _=>A) fun _=>Cy A h (wrA p t)
def D1 (A:List AN) (h:Hdl) (p:Int):Nat:=atF A h id fun N=>(Bd N.s N.holes p).2.2
def Ec (A:List AN) (h:Hdl) (p:Int):List AN:=atF A h (fun _=>A) fun _=>Cy A h (rzA p)
def lsE (es:List Bk) (c m:Int):List Bk×Nat:=((es.drop c.toNat).take m.toNat,min c.toNat es.length+min m.toNat (es.length - min c.toNat es.length))
def Gm (A:List AN) (h:Hdl) (c m:Int):List Bk×Nat×Nat:=
  match Bp A h with
  | none=>([],0,10)
  | some N=>if N.kind=2 then (if c<0∨m<0 then ([],0,2) else ((lsE N.es c m).1,(lsE N.es c m).2,0)) else ([],0,7)
section
variable {A:List AN} {h:Hdl} {c m:Int} {N:AN}
theorem Aet (h1:Bp A h=none):Gm A h c m=([],0,10):=by unfold Gm;rw [h1]
theorem Aer (h1:Bp A h=some N) (h2:¬N.kind=2):Gm A h c m=([],0,7):=by unfold Gm;rw [h1];exact if_neg h2
theorem Afd (h1:Bp A h=some N) (h2:N.kind=2) (h3:c<0∨m<0):Gm A h c m=([],0,2):=by unfold Gm;rw [h1];simp only [if_pos h2,if_pos h3]
theorem Ae7 (h1:Bp A h=some N) (h2:N.kind=2) (h3:¬(c<0∨m<0)):Gm A h c m=((lsE N.es c m).1,(lsE N.es c m).2,0):=by unfold Gm;rw [h1];simp only [if_pos h2,if_neg h3]
end
theorem Afn {es:List Bk} {c m:Int} {k0 k:Nat} {ls:List Bk} (h0:k0=min c.toNat es.length) (hk0:k0≤k) (hk:k≤es.length) (hm:k - k0≤m.toNat) (hl:ls=(es.drop k0).take (k - k0)) (he:k=es.length∨k - k0=m.toNat):lsE es c m=(ls,k):=by
  have e1:(es.drop c.toNat)=es.drop k0:=by
    by_cases q:c.toNat≤es.length
    · rw [h0,Nat.min_eq_left q]
    · rw [h0,Nat.min_eq_right (by omega),List.drop_of_length_le (by omega),List.drop_of_length_le (by omega)]
  unfold lsE
  rw [e1,← h0,hl]
  have e2:k0+min m.toNat (es.length - k0)=k:=by omega
  rw [e2]
  congr 1
  rcases he with he|he
  · rw [List.take_of_length_le (i:=m.toNat) (by rw [List.length_drop];omega),List.take_of_length_le (by rw [List.length_drop];omega)]
  · rw [he]
theorem Qk (nm:ByteArray) (h:Hdl):∀ (es:List Bk) (s:Bool×List Bk),(es.foldl (C9 nm h) s).2.Perm (if (es.foldl (C9 nm h) s).1&&!s.1 then (nm,h)::(s.2++es) else s.2++es)∧(s.1=true→(es.foldl (C9 nm h) s).1=true)
  | [],s=>⟨by simp,fun h=>h⟩
  | e::es,s=>by
    obtain ⟨h1,h2⟩:=Qk nm h es (C9 nm h s e)
    show ((es.foldl (C9 nm h) (C9 nm h s e)).2.Perm (if (es.foldl (C9 nm h) (C9 nm h s e)).1&&!s.1 then (nm,h)::(s.2++e::es) else s.2++e::es))∧(s.1=true→(es.foldl (C9 nm h) (C9 nm h s e)).1=true)
    generalize hz:es.foldl (C9 nm h) (C9 nm h s e)=z at h1 h2 ⊢
    by_cases c:(!s.1&&Lt nm e.1)=true
    · have hs:s.1=false:=by simp only [Bool.and_eq_true,Bool.not_eq_true'] at c;exact c.1
      have e1:C9 nm h s e=(true,s.2++[(nm,h)]++[e]):=if_pos c
      rw [e1] at h1 h2
      have h3:z.1=true:=h2 rfl
      rw [h3,hs] at *
      simp only [Bool.not_true,Bool.and_false,Bool.false_eq_true,if_false,Bool.not_false,Bool.and_true,if_true] at h1 ⊢
      refine ⟨h1.trans ?_,fun q=>by cases q⟩
      rw [List.append_assoc,List.append_assoc]
      exact List.perm_middle
    · have e1:C9 nm h s e=(s.1,s.2++[e]):=if_neg c
      rw [e1] at h1 h2
      have e2:s.2++[e]++es=s.2++e::es:=by simp
      rw [e2] at h1
      exact ⟨h1,h2⟩
theorem E2 (nm:ByteArray) (h:Hdl) (es:List Bk):(Bj nm h es).Perm ((nm,h)::es):=by
  obtain ⟨h1,_⟩:=Qk nm h es (false,[])
  unfold Bj
  change (Lr nm h es).2.Perm (if (Lr nm h es).1&&!false then (nm,h)::([]++es) else []++es) at h1
  by_cases c:(Lr nm h es).1=true
  · rw [if_pos c]
    rw [c] at h1
    simpa using h1
  · rw [if_neg c]
    have c':(Lr nm h es).1=false:=by simpa using c
    rw [c'] at h1
    simp only [Bool.not_false,Bool.and_true,Bool.false_eq_true,if_false,List.nil_append] at h1
    exact (h1.append_right _).trans (List.perm_append_comm)
theorem Dt.enter {L:List RN} {c:Int} (hok:Dt (L.map RN.a) c) {j:Nat} {N N':RN} (hx:L[j]?=some N) {nm:ByteArray} {x:Hdl} (h:N'.a=⟨N.a.h,N.a.kind,N.a.change,N.a.s,N.a.holes,Bj nm x N.a.es,N.a.pins⟩) (hK:∃ K∈L.map RN.a,K.h=x) (hno:∀ e∈N.a.es,e.1≠nm) (hlt:N.a.es.length<60):Dt ((L.set j N').map RN.a) c:=by
  have hm:N.a∈L.map RN.a:=List.mem_map.2 ⟨N,List.mem_of_getElem? hx,rfl⟩
  have hp:=E2 nm x N.a.es
  refine hok.setN hx (by rw [h]) (fun e he=>?_) ?_ ?_ (by rw [h];exact hok.rng N.a hm)
  · rw [h] at he
    rcases List.mem_cons.1 (hp.subset he) with rfl|he
    · exact hK
    · exact hok.ent N.a hm e he
  · rw [h];show (Bj nm x N.a.es).length≤60;rw [hp.length_eq,List.length_cons];omega
  · rw [h];show ((Bj nm x N.a.es).map (·.1)).Nodup
    rw [(hp.map (·.1)).nodup_iff,List.map_cons,List.nodup_cons]
    exact ⟨fun q=>by obtain ⟨e,he,q⟩:=List.mem_map.1 q;exact hno e he q,hok.nms N.a hm⟩
theorem Fz {L:List RN} {j:Nat} {N N':RN} (hx:L[j]?=some N) (h1:N'.a.h=N.a.h) {x:Hdl} (h:∃ K∈L.map RN.a,K.h=x):∃ K∈(L.set j N').map RN.a,K.h=x:=by
  obtain ⟨K,hK,rfl⟩:=h
  obtain ⟨K',hK',rfl⟩:=List.mem_map.1 hK
  obtain ⟨k,hk⟩:=List.getElem?_of_mem hK'
  obtain ⟨K2,h2,h3⟩:=U3 (N':=N') hx h1 hk rfl
  exact ⟨K2.a,List.mem_map.2 ⟨K2,List.mem_of_getElem? h2,rfl⟩,h3⟩
theorem Aez {L:List RN} {x:Hdl} (h:∃ K∈L.map RN.a,K.h=x):∃ (k:Nat) (K:RN),L[k]?=some K∧K.a.h=x:=by
  obtain ⟨K,hK,rfl⟩:=h
  obtain ⟨K',hK',rfl⟩:=List.mem_map.1 hK
  obtain ⟨k,hk⟩:=List.getElem?_of_mem hK'
  exact ⟨k,K',hk,rfl⟩
theorem Mh {L:List RN} {i j:Nat} {M N:RN} (h1:L[i]?=some M) (h2:L[j]?=some N) (hn:(L.map fun N=>N.a.h).Nodup) (hl:¬0<N.a.es.length) {k:Nat} {e:Bk} (he:M.a.es[k]?=some e):M.a.h≠N.a.h:=fun q=>by
  have:=Ot hn h1 h2 q
  subst this;rw [h1] at h2;cases h2
  have:=(List.getElem?_eq_some_iff.1 he).1
  omega
theorem Wh {L:List RN} {i j:Nat} {M N:RN} (h1:L[i]?=some M) (h2:L[j]?=some N) (h:M.a.h≠N.a.h):i≠j:=fun e=>by
  subst e;rw [h1] at h2;cases h2;exact h rfl
theorem Adg {L:List RN} (hn:(L.map fun N=>N.a.h).Nodup) {i j:Nat} {M N:RN} (h1:L[i]?=some M) (h2:L[j]?=some N) (h:M.a.h=N.a.h):i=j∧M=N:=by
  have:=Ot hn h1 h2 h
  subst this;rw [h1] at h2;cases h2;exact ⟨rfl,rfl⟩
theorem Xy {A:List AN} {h:Hdl} (hn:(A.map (·.h)).Nodup):((C3 A h).map (·.h)).Nodup:=by
  unfold C3
  split
  · split
    · exact (List.filter_sublist.map _).nodup hn
    · refine (List.filter_sublist.map _).nodup ?_
      have:(Ao A h).map (·.h)=A.map (·.h):=by
        unfold Ao Cy
        rw [List.map_map]
        refine List.map_congr_left fun N _=>?_
        simp only [Function.comp]
        split<;>rfl
      rw [this];exact hn
  · exact hn
theorem Sx {L L2:List RN} {h:Hdl} (hA:L2.map RN.a=C3 (L.map RN.a) h) {c:Int} (hok:Dt (L.map RN.a) c):(L2.map fun N=>N.a.h).Nodup:=by
  have:=Xy (h:=h) hok.nod
  rw [← hA,List.map_map] at this
  exact this
def itU (A:List AN):Nat→Hdl→Hdl
  | 0,d=>d
  | k+1,d=>upA A (itU A k d)
def Ca (A:List AN) (h d:Hdl):Prop:=∃ k,itU A k d=h
theorem Oa {A:List AN} {h d:Hdl} {k:Nat} (hf:upA A (itU A k d)=itU A k d) (hno:∀ j,j≤k→itU A j d≠h):¬Ca A h d:=fun ⟨i,hi⟩=>by
  by_cases c:i≤k
  · exact hno i c hi
  · have:∀ q,itU A (k+q) d=itU A k d:=fun q=>by
      induction q with
      | zero=>rfl
      | succ q ih=>show upA A (itU A (k+q) d)=_;rw [ih,hf]
    have h2:=this (i - k)
    rw [show k+(i - k)=i by omega,hi] at h2
    exact hno k (Nat.le_refl _) h2.symm
def Eq (A:List AN) (a:Hdl) (old:ByteArray) (b:Hdl) (nm:ByteArray) (h:Hdl) (y:Option Hdl):List AN:=
  let A2:=match y with|none=>Aw (Al A a old) b nm h|some y=>C3 (Aw (Al (Al A a old) b nm) b nm h) y
  if a=b then Ao A2 a else Ao (Ao A2 a) b
open Classical in
noncomputable def tRename (A:List AN) (a:Hdl) (old:ByteArray) (b:Hdl) (nm:ByteArray):Nat×List AN:=
  match Bp A a with
  | none=>(10,A)
  | some F=>if F.kind=2 then (match Bp A b with
    | none=>(10,A)
    | some T=>if T.kind=2 then (if Hr old=0 then (if Hr nm=0 then (match Ee F.es old with
      | none=>(5,A)
      | some h=>match Bp A h with
        | none=>(0,A)
        | some X=>if X.kind=2∧Ca A h b then (3,A) else (match Ee T.es nm with
          | none=>if 60≤T.es.length∧a≠b then (9,A) else (0,Eq A a old b nm h none)
          | some y=>if y=h then (0,A) else match Bp A y with
            | none=>(0,A)
            | some Y=>if X.kind=1∧Y.kind=2 then (7,A) else if X.kind=2∧Y.kind=1 then (8,A) else if 0<Y.es.length then (11,A) else (0,Eq A a old b nm h (some y)))) else (4,A)) else (4,A)) else (7,A)) else (7,A)
section
variable {A:List AN} {a b h y:Hdl} {old nm:ByteArray} {F T X Y:AN}
theorem Ad1 (h1:Bp A a=none):tRename A a old b nm=(10,A):=by unfold tRename;rw [h1]
theorem Xs (h1:Bp A a=some F) (h2:¬F.kind=2):tRename A a old b nm=(7,A):=by unfold tRename;rw [h1];exact if_neg h2
theorem Afi (h1:Bp A a=some F) (h2:F.kind=2) (h3:Bp A b=none):tRename A a old b nm=(10,A):=by unfold tRename;rw [h1];simp only [if_pos h2];rw [h3]
theorem Aaa (h1:Bp A a=some F) (h2:F.kind=2) (h3:Bp A b=some T) (h4:¬T.kind=2):tRename A a old b nm=(7,A):=by unfold tRename;rw [h1];simp only [if_pos h2];rw [h3];exact if_neg h4
section
variable (h1:Bp A a=some F) (h2:F.kind=2) (h3:Bp A b=some T) (h4:T.kind=2)
include h1 h2 h3 h4
theorem Q8 (h5:¬A0 old):tRename A a old b nm=(4,A):=by
  unfold tRename;rw [h1];simp only [if_pos h2];rw [h3];simp only [if_pos h4];rw [C5 h5];rfl
theorem W7 (h5:A0 old) (h6:¬A0 nm):tRename A a old b nm=(4,A):=by
  unfold tRename;rw [h1];simp only [if_pos h2];rw [h3];simp only [if_pos h4];rw [Bg h5,C5 h6];rfl
section
variable (h5:A0 old) (h6:A0 nm)
include h5 h6
theorem Nv (h7:Ee F.es old=none):tRename A a old b nm=(5,A):=by
  unfold tRename;rw [h1];simp only [if_pos h2];rw [h3];simp only [if_pos h4];rw [Bg h5,Bg h6,h7];rfl
section
variable (h7:Ee F.es old=some h) (h8:Bp A h=some X)
include h7 h8
theorem Nr (h9:X.kind=2) (hA:Ca A h b):tRename A a old b nm=(3,A):=by
  unfold tRename;rw [h1];simp only [if_pos h2];rw [h3];simp only [if_pos h4];rw [Bg h5,Bg h6,h7];simp only [if_true];rw [h8];exact if_pos ⟨h9,hA⟩
section
variable (h9:¬(X.kind=2∧Ca A h b))
include h9
theorem Np (hB:Ee T.es nm=none) (hC:60≤T.es.length∧a≠b):tRename A a old b nm=(9,A):=by
  unfold tRename;rw [h1];simp only [if_pos h2];rw [h3];simp only [if_pos h4];rw [Bg h5,Bg h6,h7];simp only [if_true];rw [h8];simp only [if_neg h9];rw [hB];exact if_pos hC
theorem Ls (hB:Ee T.es nm=none) (hC:¬(60≤T.es.length∧a≠b)):tRename A a old b nm=(0,Eq A a old b nm h none):=by
  unfold tRename;rw [h1];simp only [if_pos h2];rw [h3];simp only [if_pos h4];rw [Bg h5,Bg h6,h7];simp only [if_true];rw [h8];simp only [if_neg h9];rw [hB];exact if_neg hC
section
variable (hB:Ee T.es nm=some y)
include hB
theorem Me (hC:y=h):tRename A a old b nm=(0,A):=by
  unfold tRename;rw [h1];simp only [if_pos h2];rw [h3];simp only [if_pos h4];rw [Bg h5,Bg h6,h7];simp only [if_true];rw [h8];simp only [if_neg h9];rw [hB];exact if_pos hC
section
variable (hC:¬y=h) (hD:Bp A y=some Y)
include hC hD
theorem R9 (hE:X.kind=1∧Y.kind=2):tRename A a old b nm=(7,A):=by
  unfold tRename;rw [h1];simp only [if_pos h2];rw [h3];simp only [if_pos h4];rw [Bg h5,Bg h6,h7];simp only [if_true];rw [h8];simp only [if_neg h9];rw [hB];simp only [if_neg hC];rw [hD];exact if_pos hE
theorem Ku (hE:¬(X.kind=1∧Y.kind=2)) (hF:X.kind=2∧Y.kind=1):tRename A a old b nm=(8,A):=by
  unfold tRename;rw [h1];simp only [if_pos h2];rw [h3];simp only [if_pos h4];rw [Bg h5,Bg h6,h7];simp only [if_true];rw [h8];simp only [if_neg h9];rw [hB];simp only [if_neg hC];rw [hD];simp only [if_neg hE];exact if_pos hF
theorem Hl (hE:¬(X.kind=1∧Y.kind=2)) (hF:¬(X.kind=2∧Y.kind=1)) (hG:0<Y.es.length):tRename A a old b nm=(11,A):=by
  unfold tRename;rw [h1];simp only [if_pos h2];rw [h3];simp only [if_pos h4];rw [Bg h5,Bg h6,h7];simp only [if_true];rw [h8];simp only [if_neg h9];rw [hB];simp only [if_neg hC];rw [hD];simp only [if_neg hE,if_neg hF];exact if_pos hG
theorem Mc (hE:¬(X.kind=1∧Y.kind=2)) (hF:¬(X.kind=2∧Y.kind=1)) (hG:¬0<Y.es.length):tRename A a old b nm=(0,Eq A a old b nm h (some y)):=by
  unfold tRename;rw [h1];simp only [if_pos h2];rw [h3];simp only [if_pos h4];rw [Bg h5,Bg h6,h7];simp only [if_true];rw [h8];simp only [if_neg h9];rw [hB];simp only [if_neg hC];rw [hD];simp only [if_neg hE,if_neg hF];exact if_neg hG
end
end
end
end
end
end
end
def shp (A:List AN):List (Hdl×Int×List Bk):=A.map fun M=>(M.h,M.kind,M.es)
theorem W4 (A:List AN) (x:Hdl):A7 A x=((shp A).map fun t=>Ez t.2.2 x).sum:=by unfold A7 shp;rw [List.map_map];rfl
theorem P0 (A:List AN) (x:Hdl):A4 A x=match (shp A).find? fun t:Hdl×Int×List Bk=>t.1==x with|some t=>decide (t.2.1=2)|none=>false:=by
  unfold A4 Bp shp
  rw [List.find?_map]
  show _=match (A.find? fun M=>M.h==x).map (fun M:AN=>((M.h,M.kind,M.es):Hdl×Int×List Bk)) with|some t=>decide (t.2.1=2)|none=>false
  cases A.find? fun M=>M.h==x<;>rfl
theorem Aai (A:List AN) (x:Hdl):upA A x=match (shp A).find? fun t:Hdl×Int×List Bk=>t.2.2.any fun e=>e.2==x with|some t=>t.1|none=>x:=by
  unfold upA shp
  rw [List.find?_map]
  show _=match (A.find? fun M=>M.es.any fun e=>e.2==x).map (fun M:AN=>((M.h,M.kind,M.es):Hdl×Int×List Bk)) with|some t=>t.1|none=>x
  cases A.find? fun M=>M.es.any fun e=>e.2==x<;>rfl
theorem D2 {A B:List AN} (h:shp A=shp B) (x:Hdl):A7 A x=A7 B x:=by rw [W4,W4,h]
theorem On {A B:List AN} (h:shp A=shp B) (x:Hdl):A4 A x=A4 B x:=by rw [P0,P0,h]
theorem R2 {A B:List AN} (h:shp A=shp B) (x:Hdl):upA A x=upA B x:=by rw [Aai,Aai,h]
theorem Ox {A B:List AN} (h:shp A=shp B) {M N:AN} (h1:M.h=N.h) (h2:M.kind=N.kind) (h3:M.es=N.es):C4 A M=C4 B N:=by
  unfold C4
  rw [h2,h3,h1,D2 h]
  have:(fun e:Bk=>A4 A e.2)=fun e=>A4 B e.2:=funext fun e=>On h e.2
  rw [this]
theorem Hx (A:List AN) (d:Hdl) (f:AN→AN) (hf:∀ M,(f M).h=M.h∧(f M).kind=M.kind∧(f M).es=M.es):shp (Cy A d f)=shp A:=by
  unfold shp Cy
  rw [List.map_map]
  refine List.map_congr_left fun M _=>?_
  simp only [Function.comp]
  split
  · obtain ⟨h1,h2,h3⟩:=hf M;rw [h1,h2,h3]
  · rfl
theorem Bn (A:List AN) (d:Hdl):shp (Ao A d)=shp A:=Hx A d _ fun _=>⟨rfl,rfl,rfl⟩
theorem Hj (A:List AN) (d:Hdl) (x:Int):shp (Gv A d x)=shp A:=Hx A d _ fun _=>⟨rfl,rfl,rfl⟩
theorem Af8 (A:List AN) (d:Hdl) (p:Int) (t:ByteArray):shp (Cy A d (wrA p t))=shp A:=Hx A d _ fun _=>⟨rfl,rfl,rfl⟩
theorem Afv (A:List AN) (d:Hdl) (p:Int):shp (Cy A d (rzA p))=shp A:=Hx A d _ fun _=>⟨rfl,rfl,rfl⟩
theorem Cu {A:List AN} {h:Hdl} {M:AN} (hg:Bp A h=some M):M∈A∧M.h=h:=⟨List.mem_of_find?_eq_some hg,by simpa using List.find?_some hg⟩
theorem Cm {A:List AN} (hn:(A.map (·.h)).Nodup) {M:AN} (hM:M∈A):Bp A M.h=some M:=by
  unfold Bp
  induction A with
  | nil=>cases hM
  | cons x A ih=>
    rw [List.map_cons,List.nodup_cons] at hn
    rw [List.find?_cons]
    rcases List.mem_cons.1 hM with rfl|hM
    · simp
    · have:x.h≠M.h:=fun e=>hn.1 (e▸List.mem_map.2 ⟨M,hM,rfl⟩)
      simp only [show (x.h==M.h)=false by simpa using this]
      exact ih hn.2 hM
theorem Qy (A:List AN) (d:Hdl) (f:AN→AN) (hf:∀ M,(f M).h=M.h):(Cy A d f).map (·.h)=A.map (·.h):=by
  unfold Cy
  rw [List.map_map]
  refine List.map_congr_left fun M _=>?_
  simp only [Function.comp]
  split
  · exact hf M
  · rfl
theorem Aaq (A:List AN) (d x:Hdl) (f:AN→AN) (hf:∀ M,(f M).h=M.h):Bp (Cy A d f) x=(Bp A x).map fun M=>if x=d then f M else M:=by
  unfold Bp Cy
  induction A with
  | nil=>rfl
  | cons y A ih=>
    rw [List.map_cons,List.find?_cons,List.find?_cons]
    have e:(if y.h==d then f y else y).h=y.h:=by split;exact hf y;rfl
    rw [e]
    by_cases c:y.h=x
    · subst c
      simp only [beq_self_eq_true]
      by_cases q:y.h=d<;>simp [q]
    · simp only [show (y.h==x)=false by simpa using c]
      exact ih
theorem Xb {A:List AN} (hn:(A.map (·.h)).Nodup) {D:AN} (hD:D∈A) (f:AN→AN) (g:AN→Nat):((Cy A D.h f).map g).sum+g D=(A.map g).sum+g (f D):=by
  induction A with
  | nil=>cases hD
  | cons x A ih=>
    rw [List.map_cons,List.nodup_cons] at hn
    unfold Cy at ih ⊢
    rw [List.map_cons,List.map_cons,List.sum_cons,List.map_cons,List.sum_cons]
    rcases List.mem_cons.1 hD with rfl|hD
    · have:A.map (fun N=>if N.h==D.h then f N else N)=A:=by
        conv=>rhs;rw [← List.map_id A]
        refine List.map_congr_left fun N hN=>?_
        have:N.h≠D.h:=fun e=>hn.1 (e▸List.mem_map.2 ⟨N,hN,rfl⟩)
        simp [this]
      rw [this];simp only [beq_self_eq_true,if_true];omega
    · have h1:x.h≠D.h:=fun e=>hn.1 (e▸List.mem_map.2 ⟨D,hD,rfl⟩)
      have:=ih hn.2 hD
      simp only [show (x.h==D.h)=false by simpa using h1,Bool.false_eq_true,if_false]
      omega
theorem Aeh (nm:ByteArray) (x:Hdl) (es:List Bk) (h:Hdl):Ez (Bj nm x es) h=Ez es h+if x=h then 1 else 0:=by
  unfold Ez
  rw [(E2 nm x es).countP_eq,List.countP_cons]
  by_cases c:x=h<;>simp [c]
theorem Ly {es:List Bk} (hn:(es.map (·.1)).Nodup) {e:Bk} (he:e∈es):es.filter (fun x=>decide (x.1=e.1))=[e]:=by
  induction es with
  | nil=>cases he
  | cons y es ih=>
    rw [List.map_cons,List.nodup_cons] at hn
    rcases List.mem_cons.1 he with rfl|he
    · rw [List.filter_cons,if_pos (by simp)]
      congr 1
      rw [List.filter_eq_nil_iff]
      intro z hz
      simp only [decide_eq_true_eq]
      exact fun q=>hn.1 (q▸List.mem_map.2 ⟨z,hz,rfl⟩)
    · rw [List.filter_cons,if_neg (by simp only [decide_eq_true_eq];exact fun q=>hn.1 (q▸List.mem_map.2 ⟨e,he,rfl⟩))]
      exact ih hn.2 he
theorem Jg {α:Type} (l:List α) (p q:α→Bool):l.countP p=(l.filter fun x=>q x).countP p+(l.filter fun x=>!q x).countP p:=by
  induction l with
  | nil=>rfl
  | cons a l ih=>
    by_cases c:q a<;>by_cases d:p a<;>simp [c,d,ih,List.countP_cons]<;>omega
theorem Adb {es:List Bk} (hn:(es.map (·.1)).Nodup) {e:Bk} (he:e∈es) (h:Hdl):Ez (es.filter fun x=>!decide (x.1=e.1)) h+(if e.2=h then 1 else 0)=Ez es h:=by
  unfold Ez
  have:=Jg es (fun x=>x.2==h) (fun x=>decide (x.1=e.1))
  rw [Ly hn he] at this
  rw [this]
  by_cases c:e.2=h<;>simp [c,Nat.add_comm]
section
variable {A:List AN} (hn:(A.map (·.h)).Nodup)
include hn
theorem Hb {D:AN} (hD:D∈A) (nm:ByteArray) (x h:Hdl):A7 (Aw A D.h nm x) h=A7 A h+if x=h then 1 else 0:=by
  have:=Xb hn hD (fun N=>⟨N.h,N.kind,N.change,N.s,N.holes,Bj nm x N.es,N.pins⟩) fun M=>Ez M.es h
  unfold A7 Aw
  have h2:=Aeh nm x D.es h
  simp only at this
  omega
theorem Dn {D:AN} (hD:D∈A) (hm:(D.es.map (·.1)).Nodup) {e:Bk} (he:e∈D.es) (h:Hdl):A7 (Al A D.h e.1) h+(if e.2=h then 1 else 0)=A7 A h:=by
  have:=Xb hn hD (fun N=>⟨N.h,N.kind,N.change,N.s,N.holes,N.es.filter fun x=>!decide (x.1=e.1),N.pins⟩) fun M=>Ez M.es h
  unfold A7 Al
  have h2:=Adb hm he h
  simp only at this
  omega
end
theorem K0 (A:List AN) (N:AN) (hN:N.es=[]) (h:Hdl):A7 (A++[N]) h=A7 A h:=by
  unfold A7;rw [List.map_append,List.sum_append];simp [Ez,hN]
theorem G6 (A:List AN) (p:AN→Bool) (hp:∀ M∈A,p M=false→M.es=[]) (h:Hdl):A7 (A.filter p) h=A7 A h:=by
  unfold A7
  induction A with
  | nil=>rfl
  | cons x A ih=>
    have:=ih fun M hM=>hp M (List.mem_cons_of_mem _ hM)
    rw [List.filter_cons]
    split
    · rw [List.map_cons,List.sum_cons,this,List.map_cons,List.sum_cons]
    · rename_i c
      rw [this,List.map_cons,List.sum_cons,hp x (by simp) (by simpa using c)]
      simp [Ez]
theorem K3 {A:List AN} {M:AN} (hM:M∈A) {e:Bk} (he:e∈M.es):0<A7 A e.2:=by
  unfold A7
  have h1:0<Ez M.es e.2:=by unfold Ez;rw [List.countP_pos_iff];exact ⟨e,he,by simp⟩
  have:Ez M.es e.2≤(A.map fun M=>Ez M.es e.2).sum:=by
    clear h1
    induction A with
    | nil=>cases hM
    | cons x A ih=>
      rw [List.map_cons,List.sum_cons]
      rcases List.mem_cons.1 hM with rfl|hM
      · omega
      · have:=ih hM;omega
  omega
theorem I7 {A:List AN} {h:Hdl} (hp:0<A7 A h):∃ M∈A,∃ e∈M.es,e.2=h:=by
  unfold A7 at hp
  induction A with
  | nil=>simp at hp
  | cons x A ih=>
    rw [List.map_cons,List.sum_cons] at hp
    by_cases c:0<Ez x.es h
    · unfold Ez at c
      rw [List.countP_pos_iff] at c
      obtain ⟨e,he,q⟩:=c
      exact ⟨x,by simp,e,he,by simpa using q⟩
    · obtain ⟨M,hM,e,he,q⟩:=ih (by omega)
      exact ⟨M,by simp [hM],e,he,q⟩
theorem Wo {A:List AN} {h:Hdl} (h1:A7 A h≤1) {M N:AN} (hM:M∈A) (hN:N∈A) {e f:Bk} (he:e∈M.es) (hf:f∈N.es) (h2:e.2=h) (h3:f.2=h):M=N:=by
  unfold A7 at h1
  have hc:∀ {K:AN} {q:Bk},q∈K.es→q.2=h→0<Ez K.es h:=fun hq e=>by unfold Ez;rw [List.countP_pos_iff];exact ⟨_,hq,by simpa using e⟩
  have c1:=hc he h2
  have c2:=hc hf h3
  clear he hf
  induction A with
  | nil=>cases hM
  | cons x A ih=>
    rw [List.map_cons,List.sum_cons] at h1
    have hs:∀ {K:AN},K∈A→Ez K.es h≤(A.map fun M=>Ez M.es h).sum:=fun {K} hK=>by
      clear ih hM hN h1
      induction A with
      | nil=>cases hK
      | cons y A ih=>
        rw [List.map_cons,List.sum_cons]
        rcases List.mem_cons.1 hK with rfl|hK
        · omega
        · have:=ih hK;omega
    rcases List.mem_cons.1 hM with e1|hM2<;>rcases List.mem_cons.1 hN with e2|hN2
    · exact e1.trans e2.symm
    · have:=hs hN2;rw [e1] at c1;omega
    · have:=hs hM2;rw [e2] at c2;omega
    · exact ih (by omega) hM2 hN2
theorem Kf (A:List AN) (h:Hdl):(upA A h=h∧∀ M∈A,∀ e∈M.es,e.2≠h)∨∃ M∈A,∃ e∈M.es,e.2=h∧upA A h=M.h:=by
  unfold upA
  cases hq:A.find? fun M=>M.es.any fun e=>e.2==h with
  | none=>
    refine .inl ⟨rfl,fun M hM e he q=>?_⟩
    have:=List.find?_eq_none.1 hq M hM
    exact this (List.any_eq_true.2 ⟨e,he,by simpa using q⟩)
  | some M=>
    have h1:=List.find?_some hq
    obtain ⟨e,he,q⟩:=List.any_eq_true.1 h1
    exact .inr ⟨M,List.mem_of_find?_eq_some hq,e,he,by simpa using q,rfl⟩
theorem Ln {A:List AN} {h:Hdl} (h1:A7 A h≤1) {M:AN} (hM:M∈A) {e:Bk} (he:e∈M.es) (h2:e.2=h):upA A h=M.h:=by
  rcases Kf A h with ⟨_,hno⟩|⟨N,hN,f,hf,h3,h4⟩
  · exact absurd h2 (hno M hM e he)
  · rw [h4,Wo h1 hN hM hf he h3 h2]
theorem Ns {A:List AN} {h:Hdl} (h1:A7 A h=0):upA A h=h:=by
  rcases Kf A h with ⟨q,_⟩|⟨N,hN,f,hf,h3,_⟩
  · exact q
  · have:=K3 hN hf;rw [h3] at this;omega
structure TI0 (most:Nat) (ts:List Int) (lz:Hdl→Nat) (A:List AN):Prop where
  num:(A.map (·.h.1)).Nodup
  gen:∀ M∈A,∃ k:Nat,k<most∧M.h=((k:Int),Av ts k - 1)
  kind:∀ M∈A,M.kind=1∨M.kind=2
  ent:∀ M∈A,∀ e∈M.es,∃ K∈A,K.h=e.2
  few:∀ M∈A,M.es.length≤60
  nms:∀ M∈A,(M.es.map (·.1)).Nodup
  file:∀ M∈A,M.kind=1→M.es=[]
  dir:∀ M∈A,M.kind=2→M.pins=0∧M.s=⟨#[]⟩∧M.holes=[]
  root:∃ M∈A,M.h=(0,0)∧M.kind=2
  one:∀ M∈A,M.kind=2→A7 A M.h+lz M.h=if M.h=(0,0) then 0 else 1
  lnk8:∀ M∈A,M.kind=1→A7 A M.h≤8
  txt:Ad7 A
  pos:∀ M∈A,0≤M.pins
def Fb (A:List AN) (rk:Hdl→Nat):Prop:=∀ M∈A,∀ e∈M.es,A4 A e.2=true→rk M.h<rk e.2
def J5 (A:List AN):Prop:=∀ M∈A,M.kind=1→0<M.pins∨0<A7 A M.h
structure TI (most:Nat) (ts:List Int) (A:List AN):Prop where
  base:TI0 most ts (fun _=>0) A
  rank:∃ rk,Fb A rk
  held:J5 A
def lz0:Hdl→Nat:=fun _=>0
theorem Uw {A:List AN} (h:(A.map (·.h.1)).Nodup):(A.map (·.h)).Nodup:=by
  have e:A.map (·.h.1)=(A.map (·.h)).map (·.1):=by rw [List.map_map];rfl
  rw [e] at h
  exact (List.pairwise_map.1 h).imp fun hne e=>hne (congrArg Prod.fst e)
theorem B7 {A:List AN} {d:Hdl} {f:AN→AN} {M:AN} (h:M∈Cy A d f):∃ N∈A,M=if N.h=d then f N else N:=by
  unfold Cy at h
  obtain ⟨N,hN,rfl⟩:=List.mem_map.1 h
  refine ⟨N,hN,?_⟩
  by_cases c:N.h=d<;>simp [c]
theorem Dl {A:List AN} {d:Hdl} {f:AN→AN} {N:AN} (h:N∈A):(if N.h=d then f N else N)∈Cy A d f:=by
  unfold Cy
  refine List.mem_map.2 ⟨N,h,?_⟩
  by_cases c:N.h=d<;>simp [c]
theorem Dc {A:List AN} (hn:(A.map (·.h)).Nodup) {M:AN} (hM:M∈A):A4 A M.h=decide (M.kind=2):=by unfold A4;rw [Cm hn hM]
theorem I1 {A:List AN} {x:Hdl} (h:A4 A x=true):∃ M∈A,M.h=x∧M.kind=2:=by
  unfold A4 at h
  split at h
  · rename_i M hM
    exact ⟨M,(Cu hM).1,(Cu hM).2,by simpa using h⟩
  · cases h
section
variable {most:Nat} {ts:List Int} {lz:Hdl→Nat} {A:List AN}
theorem TI0.nod (h:TI0 most ts lz A):(A.map (·.h)).Nodup:=Uw h.num
theorem TI0.upd (h:TI0 most ts lz A) (lz':Hdl→Nat) {D:AN} (hD:D∈A) (f:AN→AN) (hf:∀ M,(f M).h=M.h∧(f M).kind=M.kind) (hent:∀ e∈(f D).es,∃ K∈A,K.h=e.2) (hfew:(f D).es.length≤60) (hnms:((f D).es.map (·.1)).Nodup)
    (hfile:D.kind=1→(f D).es=[]) (hdir:D.kind=2→(f D).pins=0∧(f D).s=⟨#[]⟩∧(f D).holes=[]) (hone:∀ M∈A,M.kind=2→A7 (Cy A D.h f) M.h+lz' M.h=if M.h=(0,0) then 0 else 1) (h8:∀ M∈A,M.kind=1→A7 (Cy A D.h f) M.h≤8)
    (htx:(f D).s.size≤4096∧(f D).holes.length≤64) (hpos:0≤(f D).pins):TI0 most ts lz' (Cy A D.h f):=by
  have hn:=h.nod
  have key:∀ {N:AN},N∈A→N.h=D.h→N=D:=fun {N} hN e=>by
    have h1:=Cm hn hN
    rw [e,Cm hn hD] at h1
    exact (Option.some.inj h1).symm
  have hm:∀ {M:AN},M∈Cy A D.h f→(M∈A∧M.h≠D.h)∨M=f D:=fun {M} hM=>by
    obtain ⟨N,hN,rfl⟩:=B7 hM
    by_cases c:N.h=D.h
    · rw [if_pos c,key hN c];exact .inr rfl
    · rw [if_neg c];exact .inl ⟨hN,c⟩
  have hh:(Cy A D.h f).map (·.h)=A.map (·.h):=Qy A D.h f fun M=>(hf M).1
  have hex:∀ {x:Hdl},(∃ K∈A,K.h=x)→∃ K∈Cy A D.h f,K.h=x:=fun {x} ⟨K,hK,e⟩=>by
    have:x∈(Cy A D.h f).map (·.h):=by rw [hh,← e];exact List.mem_map.2 ⟨K,hK,rfl⟩
    obtain ⟨K',h1,h2⟩:=List.mem_map.1 this
    exact ⟨K',h1,h2⟩
  have e1:(Cy A D.h f).map (·.h.1)=A.map (·.h.1):=by
    have:=congrArg (List.map Prod.fst) hh
    rwa [List.map_map,List.map_map] at this
  refine ⟨by rw [e1];exact h.num,fun M hM=>?_,fun M hM=>?_,fun M hM e he=>?_,fun M hM=>?_,fun M hM=>?_,fun M hM hk=>?_,fun M hM hk=>?_,?_,fun M hM hk=>?_,fun M hM hk=>?_,fun M hM=>?_,fun M hM=>?_⟩
  · rcases hm hM with ⟨hM,_⟩|rfl
    · exact h.gen M hM
    · rw [(hf D).1];exact h.gen D hD
  · rcases hm hM with ⟨hM,_⟩|rfl
    · exact h.kind M hM
    · rw [(hf D).2];exact h.kind D hD
  · rcases hm hM with ⟨hM,_⟩|rfl
    · exact hex (h.ent M hM e he)
    · exact hex (hent e he)
  · rcases hm hM with ⟨hM,_⟩|rfl
    · exact h.few M hM
    · exact hfew
  · rcases hm hM with ⟨hM,_⟩|rfl
    · exact h.nms M hM
    · exact hnms
  · rcases hm hM with ⟨hM,_⟩|rfl
    · exact h.file M hM hk
    · exact hfile (by rw [← (hf D).2];exact hk)
  · rcases hm hM with ⟨hM,_⟩|rfl
    · exact h.dir M hM hk
    · exact hdir (by rw [← (hf D).2];exact hk)
  · obtain ⟨M,hM,e,hk⟩:=h.root
    refine ⟨_,Dl (d:=D.h) (f:=f) hM,?_,?_⟩
    · split
      · rw [(hf M).1];exact e
      · exact e
    · split
      · rw [(hf M).2];exact hk
      · exact hk
  · rcases hm hM with ⟨hM,_⟩|rfl
    · exact hone M hM hk
    · rw [(hf D).1];exact hone D hD (by rw [← (hf D).2];exact hk)
  · rcases hm hM with ⟨hM,_⟩|rfl
    · exact h8 M hM hk
    · rw [(hf D).1];exact h8 D hD (by rw [← (hf D).2];exact hk)
  · rcases hm hM with ⟨hM,_⟩|rfl
    · exact h.txt M hM
    · exact htx
  · rcases hm hM with ⟨hM,_⟩|rfl
    · exact h.pos M hM
    · exact hpos
theorem TI0.num1 (h:TI0 most ts lz A) {D:AN} (hD:D∈A) (f:AN→AN) (hf:∀ M,(f M).h=M.h∧(f M).kind=M.kind∧(f M).es=M.es) (hdir:D.kind=2→(f D).pins=0∧(f D).s=⟨#[]⟩∧(f D).holes=[]) (htx:(f D).s.size≤4096∧(f D).holes.length≤64) (hpos:0≤(f D).pins):TI0 most ts lz (Cy A D.h f):=by
  have hs:=Hx A D.h f hf
  refine h.upd lz hD f (fun M=>⟨(hf M).1,(hf M).2.1⟩) (by rw [(hf D).2.2];exact h.ent D hD) (by rw [(hf D).2.2];exact h.few D hD) (by rw [(hf D).2.2];exact h.nms D hD) (fun q=>by rw [(hf D).2.2];exact h.file D hD q) hdir (fun M hM hk=>?_) (fun M hM hk=>?_) htx hpos
  · rw [D2 hs];exact h.one M hM hk
  · rw [D2 hs];exact h.lnk8 M hM hk
theorem TI0.touch (h:TI0 most ts lz A) {D:AN} (hD:D∈A):TI0 most ts lz (Ao A D.h):=
  h.num1 hD _ (fun _=>⟨rfl,rfl,rfl⟩) (h.dir D hD) (h.txt D hD) (h.pos D hD)
theorem TI0.enter (h:TI0 most ts lz A) {D X:AN} (hD:D∈A) (hX:X∈A) (hk:D.kind=2) {nm:ByteArray} (hno:∀ e∈D.es,e.1≠nm) (hlt:D.es.length<60) (h8:X.kind=1→A7 A X.h<8) (lz':Hdl→Nat) (hz:∀ M∈A,M.kind=2→lz' M.h+(if X.h=M.h then 1 else 0)=lz M.h):TI0 most ts lz' (Aw A D.h nm X.h):=by
  have hp:=E2 nm X.h D.es
  refine h.upd lz' hD _ (fun _=>⟨rfl,rfl⟩) (fun e he=>?_) ?_ ?_ (fun q=>by rw [hk] at q;cases q) (h.dir D hD) (fun M hM hkM=>?_) (fun M hM hkM=>?_) (h.txt D hD) (h.pos D hD)
  · rcases List.mem_cons.1 (hp.subset he) with rfl|he
    · exact ⟨X,hX,rfl⟩
    · exact h.ent D hD e he
  · show (Bj nm X.h D.es).length≤60;rw [hp.length_eq,List.length_cons];omega
  · show ((Bj nm X.h D.es).map (·.1)).Nodup
    rw [(hp.map (·.1)).nodup_iff,List.map_cons,List.nodup_cons]
    exact ⟨fun q=>by obtain ⟨e,he,q⟩:=List.mem_map.1 q;exact hno e he q,h.nms D hD⟩
  · have h1:=Hb h.nod hD nm X.h M.h
    have h2:=h.one M hM hkM
    have h3:=hz M hM hkM
    show A7 (Aw A D.h nm X.h) M.h+_=_
    rw [h1];omega
  · have h1:=Hb h.nod hD nm X.h M.h
    show A7 (Aw A D.h nm X.h) M.h≤8
    rw [h1]
    by_cases c:X.h=M.h
    · rw [if_pos c]
      have e:X=M:=by
        have h1:=Cm h.nod hX
        rw [c,Cm h.nod hM] at h1
        exact (Option.some.inj h1).symm
      have:=h8 (e▸hkM)
      rw [c] at this;omega
    · rw [if_neg c];exact h.lnk8 M hM hkM
theorem TI0.leave (h:TI0 most ts lz A) {D:AN} (hD:D∈A) (hk:D.kind=2) {e:Bk} (he:e∈D.es) (lz':Hdl→Nat) (hz:∀ M∈A,M.kind=2→lz' M.h=lz M.h+if e.2=M.h then 1 else 0):TI0 most ts lz' (Al A D.h e.1):=by
  refine h.upd lz' hD _ (fun _=>⟨rfl,rfl⟩) (fun x hx=>h.ent D hD x (List.mem_filter.1 hx).1) (Nat.le_trans (List.length_filter_le _ _) (h.few D hD)) ((List.filter_sublist.map _).nodup (h.nms D hD)) (fun q=>by rw [hk] at q;cases q) (h.dir D hD) (fun M hM hkM=>?_) (fun M hM hkM=>?_) (h.txt D hD) (h.pos D hD)
  · have h1:=Dn h.nod hD (h.nms D hD) he M.h
    have h2:=h.one M hM hkM
    have h3:=hz M hM hkM
    show A7 (Al A D.h e.1) M.h+_=_
    omega
  · have h1:=Dn h.nod hD (h.nms D hD) he M.h
    have h2:=h.lnk8 M hM hkM
    show A7 (Al A D.h e.1) M.h≤8
    omega
theorem TI0.filter (h:TI0 most ts lz A) (p:AN→Bool) (hp:∀ M∈A,p M=false→M.es=[]∧A7 A M.h=0∧M.h≠(0,0)):TI0 most ts lz (A.filter p):=by
  have hl:∀ x,A7 (A.filter p) x=A7 A x:=G6 A p fun M hM q=>(hp M hM q).1
  have hs:∀ {M:AN},M∈A.filter p→M∈A:=fun hM=>(List.mem_filter.1 hM).1
  refine ⟨(List.filter_sublist.map _).nodup h.num,fun M hM=>h.gen M (hs hM),fun M hM=>h.kind M (hs hM),fun M hM e he=>?_,fun M hM=>h.few M (hs hM),fun M hM=>h.nms M (hs hM),fun M hM=>h.file M (hs hM),fun M hM=>h.dir M (hs hM),?_,fun M hM hk=>by rw [hl];exact h.one M (hs hM) hk,fun M hM hk=>by rw [hl];exact h.lnk8 M (hs hM) hk,fun M hM=>h.txt M (hs hM),fun M hM=>h.pos M (hs hM)⟩
  · obtain ⟨K,hK,e2⟩:=h.ent M (hs hM) e he
    refine ⟨K,List.mem_filter.2 ⟨hK,?_⟩,e2⟩
    cases c:p K with
    | true=>rfl
    | false=>
      have:=(hp K hK c).2.1
      have:=K3 (hs hM) he
      rw [← e2] at this;omega
  · obtain ⟨M,hM,e,hk⟩:=h.root
    refine ⟨M,List.mem_filter.2 ⟨hM,?_⟩,e,hk⟩
    cases c:p M with
    | true=>rfl
    | false=>exact absurd e (hp M hM c).2.2
end
theorem Qi (A:List AN) (d x:Hdl) (f:AN→AN) (hf:∀ M,(f M).h=M.h∧(f M).kind=M.kind):A4 (Cy A d f) x=A4 A x:=by
  unfold A4
  rw [Aaq A d x f fun M=>(hf M).1]
  cases Bp A x with
  | none=>rfl
  | some M=>
    simp only [Option.map_some]
    split
    · rw [(hf M).2]
    · rfl
theorem Aah {A:List AN} {x:Hdl} (h:∃ K∈A,K.h=x) (N:AN):Bp (A++[N]) x=Bp A x:=by
  unfold Bp
  rw [List.find?_append]
  obtain ⟨K,hK,e⟩:=h
  cases hq:A.find? fun M=>M.h==x with
  | none=>exact absurd (by simpa using e) (List.find?_eq_none.1 hq K hK)
  | some M=>rfl
theorem Qw {A:List AN} {x:Hdl} (h:∃ K∈A,K.h=x) (N:AN):A4 (A++[N]) x=A4 A x:=by unfold A4;rw [Aah h]
theorem Rd {A:List AN} (hn:(A.map (·.h)).Nodup) (p:AN→Bool) {x:Hdl} (h:A4 (A.filter p) x=true):A4 A x=true:=by
  obtain ⟨M,hM,e,hk⟩:=I1 h
  have hM:=(List.mem_filter.1 hM).1
  rw [← e,Dc hn hM];exact decide_eq_true hk
theorem M6 (A:List AN) (d:Hdl) (nm:ByteArray) (x y:Hdl):A4 (Aw A d nm x) y=A4 A y:=Qi A d y _ fun _=>⟨rfl,rfl⟩
theorem J8 (A:List AN) (d:Hdl) (nm:ByteArray) (y:Hdl):A4 (Al A d nm) y=A4 A y:=Qi A d y _ fun _=>⟨rfl,rfl⟩
theorem Hw {A:List AN} {rk:Hdl→Nat} (h:Fb A rk) {d:Hdl} {nm:ByteArray} {x:Hdl} (hx:A4 A x=true→rk d<rk x):Fb (Aw A d nm x) rk:=fun M hM e he hd=>by
  have hd':A4 A e.2=true:=by rw [← M6 A d nm x];exact hd
  obtain ⟨N,hN,rfl⟩:=B7 hM
  by_cases c:N.h=d
  · rw [if_pos c] at he ⊢
    rcases List.mem_cons.1 ((E2 nm x N.es).subset he) with rfl|he
    · show rk N.h<rk x;rw [c];exact hx hd'
    · exact h N hN e he hd'
  · rw [if_neg c] at he ⊢;exact h N hN e he hd'
theorem R6 {A:List AN} {rk:Hdl→Nat} (h:Fb A rk) (d:Hdl) (nm:ByteArray):Fb (Al A d nm) rk:=fun M hM e he hd=>by
  have hd':A4 A e.2=true:=by rw [← J8 A d nm];exact hd
  obtain ⟨N,hN,rfl⟩:=B7 hM
  by_cases c:N.h=d
  · rw [if_pos c] at he ⊢;exact h N hN e (List.mem_filter.1 he).1 hd'
  · rw [if_neg c] at he ⊢;exact h N hN e he hd'
theorem Fo {A B:List AN} {rk:Hdl→Nat} (h:Fb A rk) (hs:shp B=shp A):Fb B rk:=fun M hM e he hd=>by
  have:(M.h,M.kind,M.es)∈shp A:=by rw [← hs];exact List.mem_map.2 ⟨M,hM,rfl⟩
  obtain ⟨N,hN,q⟩:=List.mem_map.1 this
  have e1:N.h=M.h:=congrArg Prod.fst q
  have e2:N.es=M.es:=congrArg (fun t:Hdl×Int×List Bk=>t.2.2) q
  rw [← e1]
  exact h N hN e (by rw [e2];exact he) (by rw [← On hs];exact hd)
theorem K5 {A:List AN} {rk:Hdl→Nat} (hn:(A.map (·.h)).Nodup) (h:Fb A rk) (p:AN→Bool):Fb (A.filter p) rk:=fun M hM e he hd=>h M (List.mem_filter.1 hM).1 e he (Rd hn p hd)
theorem Vq {A:List AN} {rk:Hdl→Nat} (h:Fb A rk) (hent:∀ M∈A,∀ e∈M.es,∃ K∈A,K.h=e.2) {N:AN} (hN:N.es=[]):Fb (A++[N]) rk:=fun M hM e he hd=>by
  rcases List.mem_append.1 hM with hM|hM
  · rw [Qw (hent M hM e he)] at hd
    exact h M hM e he hd
  · obtain rfl:=List.mem_singleton.1 hM
    rw [hN] at he;cases he
theorem Rp {A:List AN} {rk rk':Hdl→Nat} (h:Fb A rk) (hent:∀ M∈A,∀ e∈M.es,∃ K∈A,K.h=e.2) (hs:∀ K∈A,rk' K.h=rk K.h):Fb A rk':=fun M hM e he hd=>by
  obtain ⟨K,hK,e2⟩:=hent M hM e he
  rw [hs M hM,← e2,hs K hK,e2];exact h M hM e he hd
section
variable {most:Nat} {ts:List Int} {lz:Hdl→Nat} {A:List AN}
theorem TI0.lzc (h:TI0 most ts lz A) {lz':Hdl→Nat} (hz:∀ M∈A,M.kind=2→lz' M.h=lz M.h):TI0 most ts lz' A:=
  ⟨h.num,h.gen,h.kind,h.ent,h.few,h.nms,h.file,h.dir,h.root,fun M hM hk=>by rw [hz M hM hk];exact h.one M hM hk,h.lnk8,h.txt,h.pos⟩
theorem TI0.touchH (h:TI0 most ts lz A) {d:Hdl} (hd:∃ M∈A,M.h=d):TI0 most ts lz (Ao A d):=by
  obtain ⟨M,hM,rfl⟩:=hd;exact h.touch hM
theorem TI0.same (h:TI0 most ts lz A) {M N:AN} (hM:M∈A) (hN:N∈A) (e:M.h=N.h):M=N:=by
  have h1:=Cm h.nod hM
  rw [e,Cm h.nod hN] at h1
  exact (Option.some.inj h1).symm
theorem Oc {A:List AN} {d x:Hdl} {f:AN→AN} (hf:∀ M,(f M).h=M.h) (h:∃ K∈A,K.h=x):∃ K∈Cy A d f,K.h=x:=by
  obtain ⟨K,hK,e⟩:=h
  refine ⟨_,Dl (d:=d) (f:=f) hK,?_⟩
  split
  · rw [hf];exact e
  · exact e
theorem J5.shp {A B:List AN} (h:J5 A) (hs:shp B=shp A) (hp:∀ M∈B,∃ N∈A,N.h=M.h∧(M.kind=1→N.kind=1∧(0<N.pins→0<M.pins))):J5 B:=fun M hM hk=>by
  obtain ⟨N,hN,e,q⟩:=hp M hM
  rw [D2 hs,← e]
  rcases h N hN (q hk).1 with h1|h1
  · exact .inl ((q hk).2 h1)
  · exact .inr h1
theorem J5.touch {A:List AN} (h:J5 A) (d:Hdl):J5 (Ao A d):=h.shp (Bn A d) fun M hM=>by
  obtain ⟨N,hN,rfl⟩:=B7 hM
  refine ⟨N,hN,?_⟩
  split<;>exact ⟨rfl,fun q=>⟨q,fun p=>p⟩⟩
theorem J5.enter {A:List AN} (hn:(A.map (·.h)).Nodup) {D:AN} (hD:D∈A) {nm:ByteArray} {x:Hdl} (h:∀ M∈A,M.kind=1→M.h≠x→0<M.pins∨0<A7 A M.h):J5 (Aw A D.h nm x):=fun M hM hk=>by
  obtain ⟨N,hN,rfl⟩:=B7 hM
  have e:(if N.h=D.h then (⟨N.h,N.kind,N.change,N.s,N.holes,Bj nm x N.es,N.pins⟩:AN) else N).h=N.h∧(if N.h=D.h then (⟨N.h,N.kind,N.change,N.s,N.holes,Bj nm x N.es,N.pins⟩:AN) else N).kind=N.kind∧(if N.h=D.h then (⟨N.h,N.kind,N.change,N.s,N.holes,Bj nm x N.es,N.pins⟩:AN) else N).pins=N.pins:=by split<;>exact ⟨rfl,rfl,rfl⟩
  rw [e.1,e.2.2,Hb hn hD]
  rw [e.2.1] at hk
  by_cases c:N.h=x
  · right;rw [if_pos c.symm];omega
  · rcases h N hN hk c with q|q
    · exact .inl q
    · right;omega
theorem Fm {A:List AN} {k:Nat} (h:Ey A k=false) {M:AN} (hM:M∈A):M.h.1≠(k:Int):=fun e=>by
  unfold Ey at h
  rw [List.any_eq_false] at h
  exact h M hM (decide_eq_true e)
theorem TI0.app (h:TI0 most ts lz A) {k:Nat} (hk:k<most) (hlen:ts.length=most) (hu:Ey A k=false) {kind:Int} (hkd:kind=1∨kind=2) (lz':Hdl→Nat) (hz:∀ M∈A,lz' M.h=lz M.h) (hz2:kind=2→lz' ((k:Int),Av ts k)=1):TI0 most (ts.set k (Av ts k+1)) lz' (A++[C7 ((k:Int),Av ts k) kind]):=by
  have hno:∀ M∈A,M.h≠((k:Int),Av ts k):=fun M hM e=>Fm hu hM (congrArg Prod.fst e)
  have hl0:A7 A ((k:Int),Av ts k)=0:=by
    cases c:A7 A ((k:Int),Av ts k) with
    | zero=>rfl
    | succ n=>
      obtain ⟨M,hM,e,he,q⟩:=I7 (A:=A) (h:=((k:Int),Av ts k)) (by omega)
      obtain ⟨K,hK,q2⟩:=h.ent M hM e he
      exact absurd (q2.trans q) (hno K hK)
  have hx0:((k:Int),Av ts k)≠((0,0):Hdl):=fun e=>by
    obtain ⟨M,hM,e2,_⟩:=h.root
    exact hno M hM (e2.trans e.symm)
  have hla:∀ x,A7 (A++[C7 ((k:Int),Av ts k) kind]) x=A7 A x:=K0 A _ rfl
  have hts:∀ j:Nat,j≠k→Av (ts.set k (Av ts k+1)) j=Av ts j:=fun j hj=>by
    show (ts.set k (Av ts k+1)).getD j 0=ts.getD j 0
    rw [List.getD_eq_getElem?_getD,List.getD_eq_getElem?_getD,List.getElem?_set_ne (Ne.symm hj)]
  have htk:Av (ts.set k (Av ts k+1)) k=Av ts k+1:=In (List.getElem?_set_self (by omega))
  have hm:∀ {M:AN},M∈A++[C7 ((k:Int),Av ts k) kind]→M∈A∨M=C7 ((k:Int),Av ts k) kind:=fun hM=>(List.mem_append.1 hM).imp id fun q=>List.mem_singleton.1 q
  refine ⟨?_,fun M hM=>?_,fun M hM=>?_,fun M hM e he=>?_,fun M hM=>?_,fun M hM=>?_,fun M hM hk=>?_,fun M hM hk=>?_,?_,fun M hM hk=>?_,fun M hM hk=>?_,fun M hM=>?_,fun M hM=>?_⟩
  · rw [List.map_append]
    refine List.nodup_append.2 ⟨h.num,by simp,fun a ha b hb e=>?_⟩
    obtain ⟨M,hM,rfl⟩:=List.mem_map.1 ha
    simp only [List.map_cons,List.map_nil,List.mem_singleton] at hb
    exact Fm hu hM (e.trans hb)
  · rcases hm hM with hM|rfl
    · obtain ⟨j,hj,e⟩:=h.gen M hM
      have:j≠k:=fun q=>Fm hu hM (by rw [e,q])
      exact ⟨j,hj,by rw [hts j this];exact e⟩
    · exact ⟨k,hk,by show ((k:Int),Av ts k)=_;rw [htk];exact Prod.ext rfl (by show Av ts k=Av ts k+1 - 1;omega)⟩
  · rcases hm hM with hM|rfl
    · exact h.kind M hM
    · exact hkd
  · rcases hm hM with hM|rfl
    · obtain ⟨K,hK,q⟩:=h.ent M hM e he;exact ⟨K,List.mem_append_left _ hK,q⟩
    · cases he
  · rcases hm hM with hM|rfl
    · exact h.few M hM
    · exact Nat.zero_le _
  · rcases hm hM with hM|rfl
    · exact h.nms M hM
    · exact List.nodup_nil
  · rcases hm hM with hM|rfl
    · exact h.file M hM hk
    · rfl
  · rcases hm hM with hM|rfl
    · exact h.dir M hM hk
    · exact ⟨rfl,rfl,rfl⟩
  · obtain ⟨M,hM,q⟩:=h.root;exact ⟨M,List.mem_append_left _ hM,q⟩
  · rw [hla]
    rcases hm hM with hM|rfl
    · rw [hz M hM];exact h.one M hM hk
    · show A7 A ((k:Int),Av ts k)+lz' ((k:Int),Av ts k)=if ((k:Int),Av ts k)=(0,0) then 0 else 1
      rw [hl0,hz2 hk,if_neg hx0]
  · rw [hla]
    rcases hm hM with hM|rfl
    · exact h.lnk8 M hM hk
    · show A7 A ((k:Int),Av ts k)≤8;omega
  · rcases hm hM with hM|rfl
    · exact h.txt M hM
    · exact ⟨Nat.zero_le _,Nat.zero_le _⟩
  · rcases hm hM with hM|rfl
    · exact h.pos M hM
    · exact Int.le_refl 0
theorem TI.sweep {most:Nat} {ts:List Int} {A:List AN} (h:TI0 most ts lz0 A) (hr:∃ rk,Fb A rk):TI most ts (Gf A):=by
  have hp:∀ M∈A,Eg A M=false→M.es=[]∧A7 A M.h=0∧M.h≠(0,0):=fun M hM q=>by
    unfold Eg at q
    simp only [Bool.or_eq_false_iff,decide_eq_false_iff_not] at q
    obtain ⟨q1,_,q3⟩:=q
    have hk:M.kind=1:=(h.kind M hM).resolve_right q1
    rw [Dg q1] at q3
    refine ⟨h.file M hM hk,by omega,fun e=>?_⟩
    obtain ⟨R,hR,e2,hk2⟩:=h.root
    have:=h.same hM hR (e.trans e2.symm)
    rw [this] at q1;exact q1 hk2
  obtain ⟨rk,hr⟩:=hr
  refine ⟨h.filter _ hp,⟨rk,K5 h.nod hr _⟩,fun M hM hk=>?_⟩
  have hM2:=List.mem_filter.1 hM
  have hl:=G6 A (Eg A) (fun M hM q=>(hp M hM q).1) M.h
  unfold Gf
  rw [hl]
  have q:=hM2.2
  have hk2:¬M.kind=2:=by omega
  unfold Eg at q
  rw [Dg hk2] at q
  simp only [Bool.or_eq_true,decide_eq_true_eq] at q
  rcases q with q|q|q
  · exact absurd q hk2
  · exact .inl q
  · exact .inr (by omega)
end
theorem Ff {es:List Bk} {nm:ByteArray} (h:Ee es nm=none):∀ e∈es,e.1≠nm:=fun e he q=>by
  unfold Ee at h
  rw [Option.map_eq_none_iff,List.find?_eq_none] at h
  exact h e he (decide_eq_true q)
theorem Hc {es:List Bk} {nm:ByteArray} {x:Hdl} (h:Ee es nm=some x):∃ e∈es,e.1=nm∧e.2=x:=by
  unfold Ee at h
  obtain ⟨e,h1,h2⟩:=Option.map_eq_some_iff.1 h
  exact ⟨e,List.mem_of_find?_eq_some h1,by simpa using List.find?_some h1,h2⟩
theorem Lj {most:Nat} {A:List AN} {k:Nat} (h:H1 most A=some k):k<most∧Ey A k=false:=by
  unfold H1 at h
  exact ⟨List.mem_range.1 (List.mem_of_find?_eq_some h),by simpa using List.find?_some h⟩
theorem Ov {most:Nat} {A:List AN} {h:Hdl} {nm:ByteArray} {kind:Int} {k e:Nat} (q:B2 most A h nm kind=(some k,e)):e=0∧∃ D,Bp A h=some D∧D.kind=2∧Hr nm=0∧(kind=1∨kind=2)∧Ee D.es nm=none∧D.es.length<60∧H1 most A=some k:=by
  unfold B2 at q
  split at q
  · cases q
  · rename_i D hD
    split at q
    · rename_i h2
      split at q
      · rename_i h3
        split at q
        · rename_i h4
          split at q
          · cases q
          · rename_i h5
            split at q
            · cases q
            · rename_i h6
              split at q
              · cases q
              · rename_i k' h7
                cases q
                exact ⟨rfl,D,hD,h2,h3,h4,h5,by omega,h7⟩
        · cases q
      · cases q
    · cases q
theorem Ti {A:List AN} {x d:Hdl} {nm:ByteArray} (q:C0 A x d nm=0):∃ X D,Bp A x=some X∧Bp A d=some D∧D.kind=2∧Hr nm=0∧¬X.kind=2∧Ee D.es nm=none∧D.es.length<60∧C4 A X<8:=by
  unfold C0 at q
  split at q
  · cases q
  · rename_i X hX
    split at q
    · cases q
    · rename_i D hD
      split at q
      · rename_i h2
        split at q
        · rename_i h3
          split at q
          · cases q
          · rename_i h4
            split at q
            · cases q
            · rename_i h5
              split at q
              · cases q
              · rename_i h6
                exact ⟨X,D,hX,hD,h2,h3,h4,h5,by omega,by omega⟩
        · cases q
      · cases q
theorem Vi {A:List AN} {h:Hdl} {nm:ByteArray} (q:(Ba A h nm).2=0):∃ D,Bp A h=some D∧D.kind=2∧Hr nm=0∧Ee D.es nm=some (Ba A h nm).1:=by
  unfold Ba at q ⊢
  split at q
  · cases q
  · rename_i D hD
    split at q
    · rename_i h2
      split at q
      · rename_i h3
        split at q
        · rename_i x h4
          refine ⟨D,hD,h2,h3,?_⟩
          simp only [if_pos h2,if_pos h3,h4]
        · cases q
      · cases q
    · cases q
theorem U8 {A:List AN} {d:Hdl} {nm:ByteArray} (q:Cf A d nm=0):∃ D,Bp A d=some D∧D.kind=2∧Hr nm=0∧Ee D.es nm=some (Ba A d nm).1∧∀ K,Bp A (Ba A d nm).1=some K→K.es=[]:=by
  unfold Cf at q
  by_cases c:(Ba A d nm).2=0
  · rw [if_pos c] at q
    obtain ⟨D,h1,h2,h3,h4⟩:=Vi c
    refine ⟨D,h1,h2,h3,h4,fun K hK=>?_⟩
    rw [hK] at q
    simp only at q
    split at q
    · cases q
    · rename_i h5;exact List.eq_nil_of_length_eq_zero (by omega)
  · rw [if_neg c] at q;exact absurd q c
section
variable {most:Nat} {ts:List Int} {A:List AN}
theorem TI.create (h:TI most ts A) (hlen:ts.length=most) {d:Hdl} {nm:ByteArray} {kind:Int} {k e:Nat} (q:B2 most A d nm kind=(some k,e)):TI most (ts.set k (Av ts k+1)) (F5 A ts d nm kind k):=by
  obtain ⟨_,D,h1,h2,_,h4,h5,h6,h7⟩:=Ov q
  obtain ⟨hk,hu⟩:=Lj h7
  obtain ⟨hD,rfl⟩:=Cu h1
  have b:=h.base
  have hno:∀ M∈A,M.h≠((k:Int),Av ts k):=fun M hM e=>Fm hu hM (congrArg Prod.fst e)
  have a1:=b.app hk hlen hu h4 (fun x=>if x=((k:Int),Av ts k) then 1 else 0) (fun M hM=>if_neg (hno M hM)) (fun _=>if_pos rfl)
  have hD1:D∈A++[C7 ((k:Int),Av ts k) kind]:=List.mem_append_left _ hD
  have hN1:C7 ((k:Int),Av ts k) kind∈A++[C7 ((k:Int),Av ts k) kind]:=List.mem_append_right _ (by simp)
  have hl0:A7 (A++[C7 ((k:Int),Av ts k) kind]) ((k:Int),Av ts k)=0:=by
    rw [K0 A _ rfl]
    cases c:A7 A ((k:Int),Av ts k) with
    | zero=>rfl
    | succ n=>
      obtain ⟨M,hM,e,he,q⟩:=I7 (A:=A) (h:=((k:Int),Av ts k)) (by omega)
      obtain ⟨K,hK,q2⟩:=b.ent M hM e he
      exact absurd (q2.trans q) (hno K hK)
  have a2:=a1.enter hD1 hN1 h2 (Ff h5) h6 (fun _=>by show A7 _ ((k:Int),Av ts k)<8;omega) lz0 (fun M hM _=>by
    show 0+(if ((k:Int),Av ts k)=M.h then 1 else 0)=if M.h=((k:Int),Av ts k) then 1 else 0
    by_cases c:M.h=((k:Int),Av ts k)
    · rw [if_pos c,if_pos c.symm]
    · rw [if_neg c,if_neg (fun e=>c e.symm)])
  refine ⟨a2.touchH (Oc (fun _=>rfl) ⟨D,hD1,rfl⟩),?_,?_⟩
  · obtain ⟨rk,hr⟩:=h.rank
    refine ⟨fun x=>if x=((k:Int),Av ts k) then rk D.h+1 else rk x,Fo (Hw (Vq (Rp hr b.ent fun K hK=>if_neg (hno K hK)) b.ent rfl) fun _=>?_) (Bn _ _)⟩
    show (if D.h=((k:Int),Av ts k) then _ else rk D.h)<if ((k:Int),Av ts k)=((k:Int),Av ts k) then rk D.h+1 else _
    rw [if_neg (hno D hD),if_pos rfl];omega
  · refine (J5.enter a1.nod hD1 fun M hM hk hne=>?_).touch _
    rcases List.mem_append.1 hM with hM|hM
    · rw [K0 A _ rfl];exact h.held M hM hk
    · exact absurd (by rw [List.mem_singleton.1 hM];rfl) hne
theorem TI.link (h:TI most ts A) {x d:Hdl} {nm:ByteArray} (q:C0 A x d nm=0):TI most ts (K8 A x d nm):=by
  obtain ⟨X,D,h0,h1,h2,_,h4,h5,h6,h7⟩:=Ti q
  obtain ⟨hX,rfl⟩:=Cu h0
  obtain ⟨hD,rfl⟩:=Cu h1
  have b:=h.base
  rw [Dg h4] at h7
  have a2:=b.enter hD hX h2 (Ff h5) h6 (fun _=>by omega) lz0 (fun M hM hk=>by
    show 0+(if X.h=M.h then 1 else 0)=0
    rw [if_neg]
    intro e;rw [b.same hX hM e] at h4;exact h4 hk)
  refine ⟨(a2.touchH (Oc (fun _=>rfl) ⟨D,hD,rfl⟩)).touchH (Oc (fun _=>rfl) (Oc (fun _=>rfl) ⟨X,hX,rfl⟩)),?_,?_⟩
  · obtain ⟨rk,hr⟩:=h.rank
    refine ⟨rk,Fo (Fo (Hw hr fun q=>?_) (Bn _ _)) (Bn _ _)⟩
    rw [Dc b.nod hX] at q;exact absurd (of_decide_eq_true q) h4
  · exact ((J5.enter b.nod hD fun M hM hk _=>h.held M hM hk).touch _).touch _
theorem TI.lose {lz:Hdl→Nat} (b:TI0 most ts lz A) (hr:∃ rk,Fb A rk) {K:AN} (hK:K∈A) (he:K.es=[]) (hz:lz=fun x=>if K.kind=2∧x=K.h then 1 else 0) (hh:K.kind=2→J5 A):TI most ts (C3 A K.h):=by
  unfold C3
  rw [Cm b.nod hK]
  simp only
  by_cases hk:K.kind=2
  · rw [if_pos hk]
    have h1:=b.one K hK hk
    rw [hz] at h1
    simp only [hk,true_and,if_true] at h1
    have hp:∀ M∈A,(!(M.h==K.h))=false→M.es=[]∧A7 A M.h=0∧M.h≠(0,0):=fun M hM q=>by
      have e:M.h=K.h:=by simpa using q
      have:=b.same hM hK e
      subst this
      by_cases c:M.h=(0,0)
      · rw [if_pos c] at h1;omega
      · rw [if_neg c] at h1;exact ⟨he,by omega,c⟩
    obtain ⟨rk,hr⟩:=hr
    refine ⟨(b.filter _ hp).lzc fun M hM _=>?_,⟨rk,K5 b.nod hr _⟩,fun M hM hk1=>?_⟩
    · have q:=(List.mem_filter.1 hM).2
      have:M.h≠K.h:=by simpa using q
      rw [hz];exact (if_neg fun c=>this c.2).symm
    · have hl:=G6 A (fun N=>!(N.h==K.h)) (fun M hM q=>(hp M hM q).1) M.h
      unfold Ex
      rw [hl];exact hh hk M (List.mem_filter.1 hM).1 hk1
  · rw [if_neg hk]
    have b0:TI0 most ts lz0 A:=b.lzc fun M _ _=>by rw [hz];exact (if_neg fun c=>hk c.1).symm
    obtain ⟨rk,hr⟩:=hr
    exact TI.sweep (b0.touch hK) ⟨rk,Fo hr (Bn _ _)⟩
theorem TI.remove (h:TI most ts A) {d:Hdl} {nm:ByteArray} (q:Cf A d nm=0):TI most ts (Dx A d nm):=by
  obtain ⟨D,h1,h2,_,h4,h5⟩:=U8 q
  obtain ⟨e,he,rfl,h6⟩:=Hc h4
  obtain ⟨hD,rfl⟩:=Cu h1
  have b:=h.base
  obtain ⟨K,hK,h7⟩:=b.ent D hD e he
  have hKe:=h5 K (by rw [← h6,← h7];exact Cm b.nod hK)
  have hne:K.h≠D.h:=fun c=>by
    have:=b.same hK hD c
    rw [this] at hKe;rw [hKe] at he;cases he
  have a1:=b.leave hD h2 he (fun x=>if K.kind=2∧x=K.h then 1 else 0) (fun M hM hk=>by
    show (if K.kind=2∧M.h=K.h then 1 else 0)=0+if e.2=M.h then 1 else 0
    rw [← h7,Nat.zero_add]
    by_cases c:K.h=M.h
    · rw [if_pos c,if_pos ⟨by rw [b.same hK hM c];exact hk,c.symm⟩]
    · rw [if_neg c,if_neg fun q=>c q.2.symm])
  have a2:=a1.touchH (d:=D.h) (Oc (fun _=>rfl) ⟨D,hD,rfl⟩)
  have hK1:K∈Al A D.h e.1:=by have:=Dl (d:=D.h) (f:=fun N=>⟨N.h,N.kind,N.change,N.s,N.holes,N.es.filter fun x=>!decide (x.1=e.1),N.pins⟩) hK;rwa [if_neg hne] at this
  have hK2:K∈Ao (Al A D.h e.1) D.h:=by have:=Dl (d:=D.h) (f:=fun N=>⟨N.h,N.kind,N.change+1,N.s,N.holes,N.es,N.pins⟩) hK1;rwa [if_neg hne] at this
  obtain ⟨rk,hr⟩:=h.rank
  have:=TI.lose a2 ⟨rk,Fo (R6 hr D.h e.1) (Bn _ _)⟩ hK2 hKe rfl (fun hk=>J5.touch (fun M hM hk1=>by
    obtain ⟨N,hN,rfl⟩:=B7 hM
    have h8:=Dn b.nod hD (b.nms D hD) he N.h
    have e1:(if N.h=D.h then (⟨N.h,N.kind,N.change,N.s,N.holes,N.es.filter fun x=>!decide (x.1=e.1),N.pins⟩:AN) else N).h=N.h∧(if N.h=D.h then (⟨N.h,N.kind,N.change,N.s,N.holes,N.es.filter fun x=>!decide (x.1=e.1),N.pins⟩:AN) else N).kind=N.kind∧(if N.h=D.h then (⟨N.h,N.kind,N.change,N.s,N.holes,N.es.filter fun x=>!decide (x.1=e.1),N.pins⟩:AN) else N).pins=N.pins:=by split<;>exact ⟨rfl,rfl,rfl⟩
    rw [e1.1,e1.2.2]
    rw [e1.2.1] at hk1
    rw [if_neg fun c=>by rw [← b.same hK hN (h7.trans c)] at hk1;omega] at h8
    rcases h.held N hN hk1 with q|q
    · exact .inl q
    · exact .inr (by omega)) _)
  unfold Dx
  rw [← h6,← h7]
  exact this
end
section
variable {P:Program} {w0 w:World} {En:Ent} {L:List Res} {a:Act} {K:Act→World→Prop} {Q:Exit→Act→World→Prop} {rest:List Oper} {ops:Array Oper} {dst:Option Tmp} {T:TypeId} {n1 n2:Operand} {ty:TypeId} {pos:String} {after:Array Edge} {g:Option (Nat×Bool)} {E:TypeId} {α:Type} {enc:α→List Value} {x0:α} {z:Value} {n bytes:Nat}
theorem Qp (h:enc x0=[z]):∀ n:Nat,(List.replicate n x0).flatMap enc=List.replicate n z
  | 0=>rfl
  | n+1=>by rw [List.replicate_succ,List.flatMap_cons,Qp h n,h,List.replicate_succ];rfl
theorem Afh (x0:α) (n:Nat) (henc:enc x0=[z]) (hx:(a.eval n1,a.eval n2,P.underlying T,(P.info? E).map (fun i=>(i.zero,i.size,i.bytes)))=(.int .i64 (n:Int),.int .i64 (n:Int),some (.slice E),some (some z,1,bytes))) (hz:z.cells=#[z]) (hb:bytes*n≤281474976710656) (hn:n≤9223372036854775807) (h:Own w0 En L w)
    (hK:∀ v w',Own w0 En (Bf true v E 1 enc (List.replicate n x0)::L) w'→K (a.put dst v) w'):Oper.wp P ⟨dst,.makeSlice T n1 n2,ty,pos,after,g⟩ a w K Q:=by
  simp only [Prod.mk.injEq] at hx
  obtain ⟨h1,h2,h3,h4⟩:=hx
  have hrun:=V5 (P:=P) h3 h4 hz w n hb hn
  unfold Oper.wp
  simp [execOp,h1,h2,hrun,Result.andThen,Oper.upon]
  refine hK _ _ (h.push ((Chg.refl Nil w).alloc _) (r:=Bf true (.slice (some ⟨w.heap.size,0,none⟩) n n) E 1 enc (List.replicate n x0)) ?_ fun b hb=>?_)
  · show Bc _ _ _ _ _ _ _
    rw [List.length_replicate,Qp henc]
    exact (Iv hn (Bu w _)).own.1
  · have:b=w.heap.size:=by
      have hb':Gx (Value.slice (some ⟨w.heap.size,0,none⟩) n n) b:=hb
      simpa [Gx] using hb'
    omega
theorem Afz (hg:Region.wanted ⟨dst,.makeSlice T n1 n2,ty,pos,after,g⟩ (yielded ops a.tmps)=true) (x0:α) (n:Nat) (henc:enc x0=[z]) (hx:(a.eval n1,a.eval n2,P.underlying T,(P.info? E).map (fun i=>(i.zero,i.size,i.bytes)))=(.int .i64 (n:Int),.int .i64 (n:Int),some (.slice E),some (some z,1,bytes))) (hz:z.cells=#[z]) (hb:bytes*n≤281474976710656) (hn:n≤9223372036854775807) (h:Own w0 En L w)
    (hK:∀ v w',Own w0 En (Bf true v E 1 enc (List.replicate n x0)::L) w'→LW P ops Q rest (a.put dst v) w'):LW P ops Q (⟨dst,.makeSlice T n1 n2,ty,pos,after,g⟩::rest) a w:=
  ⟨sqg hg (Afh x0 n henc hx hz hb hn h fun v w' h=>(hK v w' h).out)⟩
end
def midM {X:Type} (w0:World) (E:Ent) (A:X→Act) (R:X→List Res) (G:X→Prop):Act→World→Prop:=fun a w=>∃ x,G x∧a=A x∧Own w0 E (R x) w
theorem ZMd {P:Program} {a:Act} {w:World} {Q:Exit→Act→World→Prop} {X:Type} {c:Code} (w0:World) (E:Ent) (wr:List (Nat×Nat)) (ov:X→List (Nat×Value)) (J:X→Nat→Value) (R:X→List Res) (G:X→Prop) (h:CW P c (Mid (midM w0 E (fun x=>Zl a wr (ov x) (J x)) R G) Q) a w)
    (hM:∀ a' w,midM w0 E (fun x=>Zl a wr (ov x) (J x)) R G a' w→Q .normal a' w):CW P c Q a w:=c_mid _ h hM
section
variable {P:Program} {w0:World} {E:Ent} {L:List Res} {w:World} {a:Act}
theorem Tz {LV HV:Option Value} {l h n:Nat} (hlo:Fi 0 LV=some (l:Int)) (hhi:Fi (n:Int) HV=some (h:Int)) (hlh:l≤h) (hn:h≤n):(Instr.sliceBounds false n n LV HV none).run P w=.ok (l,h,n) w:=by
  have e1:(0:Int)≤(l:Int)∧(l:Int)≤(h:Int):=by omega
  have e2:(0:Int)≤(h:Int)∧(h:Int)≤(n:Int):=by omega
  have e3:(l:Int).toNat=l:=Int.toNat_natCast l
  have e4:(h:Int).toNat=h:=Int.toNat_natCast h
  rcases I6 hlo with ⟨rfl,hl⟩|⟨kl,rfl⟩<;>rcases I6 hhi with ⟨rfl,hh⟩|⟨kh,rfl⟩
  · obtain rfl:l=0:=by omega
    obtain rfl:h=n:=by omega
    rfl
  · obtain rfl:l=0:=by omega
    simp only [Instr.sliceBounds,Instr.sliceBound,asIntOf,Sem.run_bind,Sem.run_pure,Result.andThen_ok]
    simp [e2,hn,hlh]
  · obtain rfl:h=n:=by omega
    simp [Instr.sliceBounds,Instr.sliceBound,asIntOf,e1,hlh,hn]
  · simp [Instr.sliceBounds,Instr.sliceBound,asIntOf,e1,e2,hlh,hn]
theorem V8 {dst:Option Tmp} {T:TypeId} {x:Operand} {lo hi:Option Operand} {ty:TypeId} {pos:String} {after:Array Edge} {g:Option (Nat×Bool)} (s:ByteArray) {LV HV:Option Value} (l h:Nat)
    (hx:(a.eval x,P.underlying T,lo.map a.eval,hi.map a.eval)=(.string s,some .string,LV,HV)) (hlo:Fi 0 LV=some (l:Int)) (hhi:Fi (s.size:Int) HV=some (h:Int)) (hlh:l≤h) (hn:h≤s.size) :
    Cp P w0 E L ⟨dst,.slice T x lo hi none,ty,pos,after,g⟩ a (.string (s.extract l h)):=fun w ho=>by
  simp only [Prod.mk.injEq] at hx
  obtain ⟨h1,h3,e4,e5⟩:=hx
  have hb:=Tz (P:=P) (w:=w) hlo hhi hlh hn
  simp only [execOp,Instr.sliceAt,h1,e4,e5,Option.map_none,Sem.run_bind,run_underlying h3,Result.andThen_ok,Instr.slice,hb,Sem.run_pure,Option.isSome_none,Bool.false_eq_true,if_false]
theorem Ad3 {T:TypeId} {n k:Nat} (hT:P.underlying T=some (.int .i64)) (hk:0<k) (hn:n≤9223372036854775807):(binOp .quo T (.int .i64 (n:Int)) (.int .i64 (k:Int))).run P w=.ok (.int .i64 ((n/k:Nat):Int)) w:=by
  have h1:¬(k:Int)=0:=by omega
  have h2:((n:Int)).tdiv (k:Int)=((n/k:Nat):Int):=by rw [Int.tdiv_eq_ediv_of_nonneg (by omega)];rfl
  have h3:n/k≤n:=Nat.div_le_self n k
  have h4:IntKind.i64.wrap ((n:Int)/(k:Int))=((n/k:Nat):Int):=by
    have e:(n:Int)/(k:Int)=((n/k:Nat):Int):=rfl
    rw [e];generalize n/k=q at h3 ⊢;exact IntWalk.i64_in _ ⟨by omega,by omega⟩
  have h5:¬k=0:=by omega
  simp [binOp,run_underlying hT,Op.intDiv,h1,h2,h4,h5]
theorem Ae3 {dst:Option Tmp} {T ty':TypeId} {x y:Operand} {ty:TypeId} {pos:String} {after:Array Edge} {g:Option (Nat×Bool)} (n k:Nat)
    (hx:(a.eval x,a.eval y,P.underlying T)=(.int .i64 (n:Int),.int .i64 (k:Int),some (.int .i64))) (hk:0<k) (hn:n≤9223372036854775807) :
    Cp P w0 E L ⟨dst,.binOp .quo T x y ty',ty,pos,after,g⟩ a (.int .i64 ((n/k:Nat):Int)):=fun w ho=>by
  simp only [Prod.mk.injEq] at hx
  obtain ⟨h1,h2,h3⟩:=hx
  simp only [execOp,h1,h2,Sem.run_bind,Ad3 h3 hk hn,Result.andThen_ok,Sem.run_pure,eqGuard]
  rfl
theorem Own.shape {r:Res} {v:Value} {n:Nat} {xs:List Value} (h:Own w0 E L w) (i:Nat) (hi:L[i]?=some r) (hr:J6 r v n xs):∃ ad cap,v=.slice ad n cap:=by
  obtain ⟨⟨ad,cap,e,_⟩,_⟩:=hr w (h.fact i hi)
  exact ⟨ad,cap,e⟩
end
theorem M7 {P:Program} {a:Act} {w0:World} {E:Ent} {L:List Res} {dst:Option Tmp} {x y:Operand} {T T2 ty:TypeId} {pos:String} {after:Array Edge} {g:Option (Nat×Bool)} {s t:ByteArray} (hx:(a.eval x,a.eval y)=(.string s,.string t)) (hl:s.size+t.size≤9223372036854775807) :
    Cp P w0 E L ⟨dst,.binOp .add T x y T2,ty,pos,after,g⟩ a (.string (s++t)):=fun w _=>by
  simp only [Prod.mk.injEq] at hx
  simp [execOp,hx.1,hx.2,binOp_string_add,run_string_add_sum w s t hl,Result.andThen,eqGuard]
theorem Gj (n:Int) (h0:0≤n) (h1:n≤140737488355328):Ap Tryz.prog 94 #[Ii n] [] fun u L=>u=.string (Bv n.toNat)∧L=[]:=N6 fun w=>Yq n w h0 h1
theorem Wg {s:ByteArray} {h:List Bool} {p:Int} {t:ByteArray} (hb:p<0∨4096<p∨4096 - p<t.size):Bi s h p t=(s,h,2):=if_pos hb
theorem Af4 {s:ByteArray} {h:List Bool} {p:Int} {t:ByteArray} (hb:¬(p<0∨4096<p∨4096 - p<t.size)) (h0:t.size=0):Bi s h p t=(s,h,0):=by unfold Bi;rw [if_neg hb,if_pos h0]
theorem bw_ok {s:ByteArray} {h:List Bool} {p:Int} {t:ByteArray} (hb:¬(p<0∨4096<p∨4096 - p<t.size)) (h0:¬t.size=0) {j:Nat} (hj:p=(j:Int)) {s':ByteArray} {h':List Bool} (hs:s'=⟨(E5 s.data.toList j t.data.toList).toArray⟩) (hh:h'=G2 h (j/64) ((j+t.size - 1)/64+1 - j/64)):Bi s h p t=(s',h',0):=by
  unfold Bi;rw [if_neg hb,if_neg h0,hs,hh,hj,Int.toNat_natCast]
theorem H2 (s:ByteArray) (n:Nat):(s++Bv n).size=s.size+n:=by rw [ByteArray.size_append,El]
theorem Aaz {hs ls:List Bool} (h:ls=hs++List.replicate (ls.length - hs.length) true) (hl:hs.length≤ls.length):ls++[true]=hs++List.replicate ((ls++[true]).length - hs.length) true:=by
  rw [List.length_append,List.length_singleton,show ls.length+1 - hs.length=(ls.length - hs.length)+1 by omega,List.replicate_succ',← List.append_assoc,← h]
theorem Fn:(⟨#[]⟩:ByteArray).size=0:=rfl
theorem G9 {t:ByteArray}:t.size=0↔t=(⟨#[]⟩:ByteArray):=⟨fun h=>K9 h,fun h=>by rw [h];rfl⟩
theorem V4 (h:List Bool) {k0 kq:Nat} (hk:k0≤kq):(G2 h k0 (kq - k0)++List.replicate (kq+1 - (G2 h k0 (kq - k0)).length) true).set kq false=G2 h k0 (kq+1 - k0):=by
  have e:kq+1 - k0=(kq - k0)+1:=by omega
  rw [e];show _=P2 (G2 h k0 (kq - k0)) (k0+(kq - k0))
  have e2:k0+(kq - k0)=kq:=by omega
  rw [e2];rfl
theorem Rz (vl:Value) (L:List RN) (j:Nat) (N:RN) (hx:L[j]?=some N) (hsz:N.a.s.size≤4096) (hho:N.a.holes.length≤64) (p:Int) (t:ByteArray) (htz:t.size≤100000) (hp:-9223372036854775808≤p∧p≤9223372036854775807)  : Ap Tryz.prog 76 #[Pt N.nb 4,Ii p,.string t] [rRL vl L] (fun u L'=>∃ v',u=Ii (((Bi N.a.s N.a.holes p t).2.2:Nat):Int)∧L'=[rRL vl (L.set j (⟨N.nb,v',N.ve,⟨N.a.h,N.a.kind,N.a.change,(Bi N.a.s N.a.holes p t).1,(Bi N.a.s N.a.holes p t).2.1,N.a.es,N.a.pins⟩⟩:RN))]):=by
 refine Zo 107 Tryz.func76 fun E w0 w h=>?_
 refine Qs (ZP (Ii 0) (Qu (ZP (Ii p) ?_)))
 obtain ⟨b1,hb1⟩:=nmB (decide (p<0))
 refine ZB hb1 (ZP (.bool b1) ?_)
 rcases Bool.eq_false_or_eq_true b1 with hc2|hc2
 subst hc2
 have q3:=hb1.symm
 have q3:=dcT q3
 refine Zx (Zx (ZP (.bool true) (ZP (.bool true) (Zx (Zx (Zx (Zx (Zx (ZP (.bool true) (Qg (Qs (ZP (Ii 2) (Qr (Au (ZR [Ii 2] [0] h ?_)))))))))))))))
 have hT:Bi N.a.s N.a.holes p t=_:=Wg (by omega)
 exact ⟨N.vh,by rw [hT];rfl,by rw [hT];exact congrArg (fun l=>[rRL vl l]) (Hz L j N hx).symm⟩
 subst hc2
 have q4:=hb1.symm
 have q4:=dcF q4
 refine ZP (Ii p) ?_
 obtain ⟨b5,hb5⟩:=nmB (decide (p>4096))
 refine ZB hb5 (ZP (.bool b5) (ZP (.bool b5) ?_))
 rcases Bool.eq_false_or_eq_true b5 with hc6|hc6
 subst hc6
 have q7:=hb5.symm
 have q7:=dcT q7
 refine Zx (Zx (Zx (Zx (Zx (ZP (.bool true) (Qg (Qs (ZP (Ii 2) (Qr (Au (ZR [Ii 2] [0] h ?_)))))))))))
 have hT:Bi N.a.s N.a.holes p t=_:=Wg (by omega)
 exact ⟨N.vh,by rw [hT];rfl,by rw [hT];exact congrArg (fun l=>[rRL vl l]) (Hz L j N hx).symm⟩
 subst hc6
 have q8:=hb5.symm
 have q8:=dcF q8
 refine ZP (.string t) (ZP (Ii (t.size:Int)) (ZP (Ii p) (ZG h (Gw (4096 - p)) ?_)))
 obtain ⟨b9,hb9⟩:=nmB (decide ((t.size:Int)>4096 - p))
 refine ZB hb9 (ZP (.bool b9) (Qn (Zi (b9) (fun hc10=>?_) fun hc10=>?_)))
 have q11:=hb9.symm.trans hc10
 have q11:=dcT q11
 refine Qs (ZP (Ii 2) (Qr (Au (ZR [Ii 2] [0] h ?_))))
 have hT:Bi N.a.s N.a.holes p t=_:=Wg (by omega)
 exact ⟨N.vh,by rw [hT];rfl,by rw [hT];exact congrArg (fun l=>[rRL vl l]) (Hz L j N hx).symm⟩
 have q12:=hb9.symm.trans hc10
 have q12:=dcF q12
 refine Kw (ZP (.string t) (ZG h (A1 (v:=.bool (t.toList==(⟨#[]⟩:ByteArray).toList)) (v':=.bool (decide (t=(⟨#[]⟩:ByteArray)))) (Ax fun _=>by kernel_rfl) Pk) (Qn (Zd (t=(⟨#[]⟩:ByteArray)) (fun hc13=>?_) fun hc13=>?_))))
 refine Qs (ZP (Ii 0) (Qr (Au (ZR [Ii 0] [0] h ?_))))
 have hT:Bi N.a.s N.a.holes p t=_:=Af4 (by omega) (G9.2 (by assumption))
 exact ⟨N.vh,by rw [hT];rfl,by rw [hT];exact congrArg (fun l=>[rRL vl l]) (Hz L j N hx).symm⟩
 refine Kw ?_
 have h:=h.rtOpen hx
 have hz:¬t.size=0:=fun e=>absurd (G9.1 e) (by assumption)
 obtain ⟨pn,hpn⟩:∃ n:Nat,p=(n:Int):=⟨p.toNat,by omega⟩
 refine ZP (Ii p) (ZP (Pt N.nb 4) (ZP (Pt N.nb 4) (ZP (Pt N.nb 4) (ZG h (Gl 4 (.string N.a.s) 0) (ZP (Ii (N.a.s.size:Int)) (ZP (.bool (decide (p>(N.a.s.size:Int)))) (Qn ?_)))))))
 refine ZMd (X:=ByteArray×(Nat→Value)) w0 E [(32,47)] (fun ⟨sN,JM1⟩=>[]) (fun ⟨sN,JM1⟩=>JM1) (fun ⟨sN,JM1⟩=>[Bx true N.nb [Ii N.a.h.1,Ii N.a.h.2,Ii N.a.kind,Ii N.a.change,.string sN,N.vh,N.ve,Ii N.a.pins] 93,Bf true N.vh 4 1 hlC N.a.holes,Bf true N.ve 107 3 e3C N.a.es,Mk L j,Bf true vl 88 1 ptB (L.map RN.nb)]) (fun ⟨sN,JM1⟩=>(p>(N.a.s.size:Int)∧sN=N.a.s++(Bv (p - (N.a.s.size:Int)).toNat))∨(¬p>(N.a.s.size:Int)∧sN=N.a.s)) ?_ ?_
 refine Zd (p>(N.a.s.size:Int)) (fun hc14=>?_) fun hc14=>?_
 refine Ds 17 [] h fun w h=>Dp 0 16382 (Pt N.nb 4) [] h (Dp 1 8161 (Pt N.nb 4) [] h (Dp 2 8163 (Pt N.nb 4) [] h (Dp 3 8167 (Pt N.nb 4) [] h (Dp 5 2015 (Ii p) [] h (Dp 6 63 (Pt N.nb 4) [] h (Dp 7 127 (Pt N.nb 4) [] h (Dp 8 255 (Pt N.nb 4) [] h ?_)))))))
 refine Ay [4,9] (by kernel_rfl) rfl ?_
 refine Oq [] rfl (by kernel_rfl) (v:=.string N.a.s) (Jm 4 [.string N.a.s] (.string N.a.s) (by kernel_rfl) 0 rfl) h (by kernel_rfl) ?_ ?_
 refine Aq 9 [] rfl h (Gl 4 (.string N.a.s) 0) (Dp 10 1023 (Ii (N.a.s.size:Int)) [] h (Dq 11 2047 [] rfl h (Gw (p - (N.a.s.size:Int))) ?_))
 refine Ad 12 [] [] (Gj (p - (N.a.s.size:Int)) (by omega) (by omega)) h ?_
 rintro v_ L_ w ⟨rfl,rfl⟩ h
 refine ⟨by kernel_rfl,?_⟩
 refine Dq (v:=.string (N.a.s++(Bv (p - (N.a.s.size:Int)).toNat))) 13 8191 [] rfl h (M7 (s:=N.a.s) (t:=(Bv (p - (N.a.s.size:Int)).toNat)) (by kernel_rfl) (by (try simp only [ByteArray.size_append,ByteArray.size_extract,El,Fn]);omega)) (Dp 14 16383 (Pt N.nb 4) [] h (Dp 15 32767 (Pt N.nb 4) [] h (As 16 [] 4 [.string (N.a.s++(Bv (p - (N.a.s.size:Int)).toNat))] [Ii N.a.h.1,Ii N.a.h.2,Ii N.a.kind,Ii N.a.change,.string (N.a.s++(Bv (p - (N.a.s.size:Int)).toNat)),N.vh,N.ve,Ii N.a.pins] 0 rfl h fun w h=>Dd (F2 ?_))))
 have hQ15:(p>(N.a.s.size:Int)∧(N.a.s++(Bv (p - (N.a.s.size:Int)).toNat))=N.a.s++(Bv (p - (N.a.s.size:Int)).toNat))∨(¬p>(N.a.s.size:Int)∧(N.a.s++(Bv (p - (N.a.s.size:Int)).toNat))=N.a.s):=(.inl ⟨by omega,rfl⟩)
 refine Dr (fun j=>⟨N.a.s++(Bv (p - (N.a.s.size:Int)).toNat),j⟩) hQ15 (by kernel_rfl) [0,0,0,0,0] (by kernel_rfl) h
 refine Oq [] rfl (by kernel_rfl) (v:=.string N.a.s) (Jm 4 [.string N.a.s] (.string N.a.s) (by kernel_rfl) 0 rfl) h (by kernel_rfl) ?_ ?_
 refine Dp 10 1023 (Ii (N.a.s.size:Int)) [] h (Dq 11 2047 [] rfl h (Gw (p - (N.a.s.size:Int))) ?_)
 refine Ay [4,12] (by kernel_rfl) rfl ?_
 refine Oq [] rfl (by kernel_rfl) (v:=.string N.a.s) (Jm 4 [.string N.a.s] (.string N.a.s) (by kernel_rfl) 0 rfl) h (by kernel_rfl) ?_ ?_
 refine Ad 12 [] [] (Gj (p - (N.a.s.size:Int)) (by omega) (by omega)) h ?_
 rintro v_ L_ w ⟨rfl,rfl⟩ h
 refine ⟨by kernel_rfl,?_⟩
 refine Dq (v:=.string (N.a.s++(Bv (p - (N.a.s.size:Int)).toNat))) 13 8191 [] rfl h (M7 (s:=N.a.s) (t:=(Bv (p - (N.a.s.size:Int)).toNat)) (by kernel_rfl) (by (try simp only [ByteArray.size_append,ByteArray.size_extract,El,Fn]);omega)) (Dp 14 16383 (Pt N.nb 4) [] h (Dp 15 32767 (Pt N.nb 4) [] h (As 16 [] 4 [.string (N.a.s++(Bv (p - (N.a.s.size:Int)).toNat))] [Ii N.a.h.1,Ii N.a.h.2,Ii N.a.kind,Ii N.a.change,.string (N.a.s++(Bv (p - (N.a.s.size:Int)).toNat)),N.vh,N.ve,Ii N.a.pins] 0 rfl h fun w h=>Dd (F2 ?_))))
 have hQ16:(p>(N.a.s.size:Int)∧(N.a.s++(Bv (p - (N.a.s.size:Int)).toNat))=N.a.s++(Bv (p - (N.a.s.size:Int)).toNat))∨(¬p>(N.a.s.size:Int)∧(N.a.s++(Bv (p - (N.a.s.size:Int)).toNat))=N.a.s):=(.inl ⟨by omega,rfl⟩)
 refine Dr (fun j=>⟨N.a.s++(Bv (p - (N.a.s.size:Int)).toNat),j⟩) hQ16 (by kernel_rfl) [0,0,0,0,0] (by kernel_rfl) h
 refine De #[Ii (p - (N.a.s.size:Int))] [] [] rfl (by kernel_rfl) (Gj (p - (N.a.s.size:Int)) (by omega) (by omega)) (fun _=>by kernel_rfl) h ?_ ?_
 rintro v_ L_ w ⟨rfl,rfl⟩ h
 refine ⟨by kernel_rfl,?_⟩
 refine Aq 4 [] rfl h (Gl 4 (.string N.a.s) 0) (Dq (v:=.string (N.a.s++(Bv (p - (N.a.s.size:Int)).toNat))) 13 8191 [] rfl h (M7 (s:=N.a.s) (t:=(Bv (p - (N.a.s.size:Int)).toNat)) (by kernel_rfl) (by (try simp only [ByteArray.size_append,ByteArray.size_extract,El,Fn]);omega)) (Dp 14 16383 (Pt N.nb 4) [] h (Dp 15 32767 (Pt N.nb 4) [] h (As 16 [] 4 [.string (N.a.s++(Bv (p - (N.a.s.size:Int)).toNat))] [Ii N.a.h.1,Ii N.a.h.2,Ii N.a.kind,Ii N.a.change,.string (N.a.s++(Bv (p - (N.a.s.size:Int)).toNat)),N.vh,N.ve,Ii N.a.pins] 0 rfl h fun w h=>Dd (F2 ?_)))))
 have hQ17:(p>(N.a.s.size:Int)∧(N.a.s++(Bv (p - (N.a.s.size:Int)).toNat))=N.a.s++(Bv (p - (N.a.s.size:Int)).toNat))∨(¬p>(N.a.s.size:Int)∧(N.a.s++(Bv (p - (N.a.s.size:Int)).toNat))=N.a.s):=(.inl ⟨by omega,rfl⟩)
 refine Dr (fun j=>⟨N.a.s++(Bv (p - (N.a.s.size:Int)).toNat),j⟩) hQ17 (by kernel_rfl) [0,0,0,0,0] (by kernel_rfl) h
 exact Bb
 exact Bb
 refine Bz (F2 ?_)
 have hQ18:(p>(N.a.s.size:Int)∧N.a.s=N.a.s++(Bv (p - (N.a.s.size:Int)).toNat))∨(¬p>(N.a.s.size:Int)∧N.a.s=N.a.s):=(.inr ⟨by omega,rfl⟩)
 refine Dr (fun j=>⟨N.a.s,j⟩) hQ18 (by kernel_rfl) [0,0,0,0,0] (by kernel_rfl) h
 rintro a_ w ⟨⟨sN,JM1⟩,hG,rfl,h⟩
 have hF:(p>(N.a.s.size:Int)∧sN=N.a.s++(Bv (p - (N.a.s.size:Int)).toNat))∨(¬p>(N.a.s.size:Int)∧sN=N.a.s):=hG
 have hFs:pn≤sN.size∧sN.size≤4096:=by rcases hF with ⟨h1,e⟩|⟨h1,e⟩<;>rw [e]<;>(try rw [H2])<;>omega
 refine Af (Qs (ZP (.string (⟨#[]⟩:ByteArray)) (Qu (ZP (Ii p) (ZP (.string t) (ZP (Ii (t.size:Int)) (ZG h (Gw (p+(t.size:Int))) (ZP (Pt N.nb 4) (ZP (Pt N.nb 4) (ZP (Pt N.nb 4) (ZG h (Gl 4 (.string sN) 0) (ZP (Ii (sN.size:Int)) (ZP (.bool (decide (p+(t.size:Int)<(sN.size:Int)))) (Qn ?_))))))))))))))
 refine ZMd (X:=ByteArray×(Nat→Value)) w0 E [(58,66)] (fun ⟨tl,JM2⟩=>[(7,.string tl)]) (fun ⟨tl,JM2⟩=>JM2) (fun ⟨tl,JM2⟩=>[Bx true N.nb [Ii N.a.h.1,Ii N.a.h.2,Ii N.a.kind,Ii N.a.change,.string sN,N.vh,N.ve,Ii N.a.pins] 93,Bf true N.vh 4 1 hlC N.a.holes,Bf true N.ve 107 3 e3C N.a.es,Mk L j,Bf true vl 88 1 ptB (L.map RN.nb)]) (fun ⟨tl,JM2⟩=>((sN.extract 0 pn)++t)++tl=⟨(E5 N.a.s.data.toList pn t.data.toList).toArray⟩∧tl.size≤4096) ?_ ?_
 refine Zd (p+(t.size:Int)<(sN.size:Int)) (fun hc19=>?_) fun hc19=>?_
 refine Ah (ZP (Pt N.nb 4) (ZP (Pt N.nb 4) (ZP (Pt N.nb 4) (ZG h (Gl 4 (.string sN) 0) (ZP (Ii p) (ZP (.string t) (ZP (Ii (t.size:Int)) (ZG h (Gw (p+(t.size:Int))) ?_))))))))
 obtain ⟨j20,hj20⟩:∃ n:Nat,p+(t.size:Int)=(n:Int):=⟨(p+(t.size:Int)).toNat,by omega⟩
 refine ZG h (V8 sN (LV:=(some (Ii (p+(t.size:Int))))) (HV:=none) j20 sN.size (by kernel_rfl) (bnd hj20) rfl (by first|omega|(rw [H2];omega)) (by first|omega|(rw [H2];omega))) (ZP (.string (sN.extract j20 sN.size)) (Ct (F2 ?_)))
 have hQ21:((sN.extract 0 pn)++t)++(sN.extract j20 sN.size)=⟨(E5 N.a.s.data.toList pn t.data.toList).toArray⟩∧(sN.extract j20 sN.size).size≤4096:=⟨by rcases hF with ⟨h1,e⟩|⟨h1,e⟩;(exfalso;have e2:=congrArg ByteArray.size e;rw [H2] at e2;omega);(have e2:=congrArg ByteArray.size e;rw [e,show j20=pn+t.size by omega];exact S4 _ _ _ (by omega)),by rw [ByteArray.size_extract];omega⟩
 refine Dr (fun j=>⟨(sN.extract j20 sN.size),j⟩) hQ21 (by kernel_rfl) [0,0,0,0,0] (by kernel_rfl) h
 refine Bz (F2 ?_)
 have hQ22:((sN.extract 0 pn)++t)++(⟨#[]⟩:ByteArray)=⟨(E5 N.a.s.data.toList pn t.data.toList).toArray⟩∧(⟨#[]⟩:ByteArray).size≤4096:=⟨by rcases hF with ⟨h1,e⟩|⟨h1,e⟩<;>rw [Vf,e];(rw [show (p - (N.a.s.size:Int)).toNat=pn - N.a.s.size by omega];exact Zy _ _ _ (by omega));(have e2:=congrArg ByteArray.size e;exact Ach _ _ _ (by omega) (by omega)),by decide⟩
 refine Dr (fun j=>⟨(⟨#[]⟩:ByteArray),j⟩) hQ22 (by kernel_rfl) [0,0,0,0,0] (by kernel_rfl) h
 rintro a_ w ⟨⟨tl,JM2⟩,hG,rfl,h⟩
 obtain ⟨hts,htl⟩:((sN.extract 0 pn)++t)++tl=⟨(E5 N.a.s.data.toList pn t.data.toList).toArray⟩∧tl.size≤4096:=hG
 refine Af (Qs (ZP (Pt N.nb 4) (ZP (Pt N.nb 4) (ZP (Pt N.nb 4) (ZP (Pt N.nb 4) (ZG h (Gl 4 (.string sN) 0) (ZP (Ii p) (ZG h (V8 sN (LV:=none) (HV:=(some (Ii p))) 0 pn (by kernel_rfl) rfl (bnd hpn) (by first|omega|(rw [H2];omega)) (by first|omega|(rw [H2];omega))) (ZP (.string t) (ZG h (M7 (s:=(sN.extract 0 pn)) (t:=t) (by kernel_rfl) (by (try simp only [ByteArray.size_append,ByteArray.size_extract,El,Fn]);omega)) (ZP (.string tl) (ZG h (M7 (s:=((sN.extract 0 pn)++t)) (t:=tl) (by kernel_rfl) (by (try simp only [ByteArray.size_append,ByteArray.size_extract,El,Fn]);omega)) (ZP (Pt N.nb 4) (ZP (Pt N.nb 4) (ZS 4 [.string (((sN.extract 0 pn)++t)++tl)] [Ii N.a.h.1,Ii N.a.h.2,Ii N.a.kind,Ii N.a.change,.string (((sN.extract 0 pn)++t)++tl),N.vh,N.ve,Ii N.a.pins] 0 rfl h fun w h=>Qu (ZP (Ii p) (ZG h (Ae3 pn 64 (by rw [hpn];kernel_rfl) (by omega) (by omega)) (ZP (Ii ((pn/64:Nat):Int)) (Qn (Ar ?_))))))))))))))))))))
 refine ZL (X:=Nat×List Bool×Value×(Nat→Value)) [(9,9),(82,109)] (fun ⟨kq,hs,vq,J0⟩=>[(8,Ii kq)]) (fun ⟨kq,hs,vq,J0⟩=>J0) (fun ⟨kq,hs,vq,J0⟩=>[Bx true N.nb [Ii N.a.h.1,Ii N.a.h.2,Ii N.a.kind,Ii N.a.change,.string (((sN.extract 0 pn)++t)++tl),vq,N.ve,Ii N.a.pins] 93,Bf true vq 4 1 hlC hs,Bf true N.ve 107 3 e3C N.a.es,Mk L j,Bf true vl 88 1 ptB (L.map RN.nb)]) (fun ⟨kq,hs,vq,J0⟩=>pn/64≤kq∧kq≤(pn+t.size - 1)/64+1∧hs=G2 N.a.holes (pn/64) (kq - pn/64)) (fun ⟨kq,hs,vq,J0⟩=>(pn+t.size - 1)/64+1 - kq) (fun j=>⟨pn/64,N.a.holes,N.vh,j⟩) ⟨by omega,by omega,by rw [Nat.sub_self];rfl⟩ [0,0,0,0,0] h ?_
 rintro ⟨kq,hs,vq,J0⟩ w hG h
 obtain ⟨hk0,hk1,hhs⟩:pn/64≤kq∧kq≤(pn+t.size - 1)/64+1∧hs=G2 N.a.holes (pn/64) (kq - pn/64):=hG
 have hsl:=Mu N.a.holes (pn/64) (kq - pn/64)
 rw [← hhs] at hsl
 refine Qt (ZP (Ii kq) (ZP (Ii p) (ZP (.string t) (ZP (Ii (t.size:Int)) (ZG h (Gw (p+(t.size:Int))) (ZG h (Gw ((p+(t.size:Int)) - 1)) ?_))))))
 obtain ⟨j23,hj23⟩:∃ n:Nat,(p+(t.size:Int)) - 1=(n:Int):=⟨((p+(t.size:Int)) - 1).toNat,by omega⟩
 refine ZG h (Ae3 j23 64 (by rw [hj23];kernel_rfl) (by omega) (by omega)) (ZP (.bool (decide ((kq:Int)≤((j23/64:Nat):Int)))) (Qn (Zd ((kq:Int)≤((j23/64:Nat):Int)) (fun hc24=>?_) fun hc24=>?_)))
 refine Kn (Aa (Ar (Qs (ZP (Pt N.nb 4) (ZP (Pt N.nb 4) (ZP (Pt N.nb 5) (ZG h (Gl 5 (vq) 0) (ZP vq (Qn (Aa (Ar ?_)))))))))))
 refine ZL (X:=List Bool×Value×(Nat→Value)) [(96,102)] (fun ⟨ls,vi,J1⟩=>[(9,vi)]) (fun ⟨ls,vi,J1⟩=>J1) (fun ⟨ls,vi,J1⟩=>[Bx true N.nb [Ii N.a.h.1,Ii N.a.h.2,Ii N.a.kind,Ii N.a.change,.string (((sN.extract 0 pn)++t)++tl),vq,N.ve,Ii N.a.pins] 93,Bf true vi 4 1 hlC ls,Bf true N.ve 107 3 e3C N.a.es,Mk L j,Bf true vl 88 1 ptB (L.map RN.nb)]) (fun ⟨ls,vi,J1⟩=>ls=hs++List.replicate (ls.length - hs.length) true∧hs.length≤ls.length∧(ls.length=hs.length∨ls.length≤kq+1)) (fun ⟨ls,vi,J1⟩=>kq+1 - ls.length) (fun j=>⟨hs,vq,j⟩) ⟨by simp,by omega,by omega⟩ [0,0,0,0,0] h ?_
 rintro ⟨ls,vi,J1⟩ w hG h
 obtain ⟨hls,hls1,hls2⟩:ls=hs++List.replicate (ls.length - hs.length) true∧hs.length≤ls.length∧(ls.length=hs.length∨ls.length≤kq+1):=hG
 refine Qt (ZP vi (ZG h (M4 (by kernel_rfl) 1 rfl) (ZP (Ii kq) (ZP (.bool (decide ((ls.length:Int)≤(kq:Int)))) (Qn (Zd ((ls.length:Int)≤(kq:Int)) (fun hc25=>?_) fun hc25=>?_))))))
 refine Kn (Ar (Ah (ZP vi ?_)))
 refine G0 rfl (fun b=>.slice (some ⟨b,0,none⟩) 1 1) [.bool true] 4 (fun _=>by kernel_rfl) h ?_;intro k26 w h
 refine Hp (b:=k26) (o:=0) rfl 1 true (by kernel_rfl) h 2 rfl 0 rfl (Fq 0 (by kernel_rfl)) (by (try simp only [List.length_append,List.length_cons,List.length_nil,List.length_map]);omega) ?_;intro v27 w h
 refine ZP v27 (Ct ?_)
 refine B9 ?_
 have hQ28:((ls++[true])=hs++List.replicate ((ls++[true]).length - hs.length) true∧hs.length≤(ls++[true]).length∧((ls++[true]).length=hs.length∨(ls++[true]).length≤kq+1))∧(kq+1 - (ls++[true]).length)<(kq+1 - ls.length):=⟨⟨Aaz hls hls1,by (try simp only [List.length_append,List.length_cons,List.length_nil]);omega,by (try simp only [List.length_append,List.length_cons,List.length_nil]);omega⟩,by (try simp only [List.length_append,List.length_cons,List.length_nil]);omega⟩
 refine Bo (fun j=>⟨ls++[true],v27,j⟩) hQ28 (by kernel_rfl) [1,1,1,1,1] (by kernel_rfl) h
 refine Dk (Eh (E8 (Ev (Af (Qs (ZP vi (ZP (Ii kq) ?_)))))))
 have hi29:kq<ls.length:=by omega
 obtain ⟨x30,hx31⟩:∃ x,ls[kq]?=some x:=⟨_,List.getElem?_eq_getElem hi29⟩
 refine ZG h (I3 kq (by kernel_rfl) hi29 1 rfl) ?_
 refine Fa rfl (b:=Df vi) (B1 vi+kq*1) [.bool false] h 1 rfl (by kernel_rfl) (Wi W5 hx31 0 false (by kernel_rfl) (by kernel_rfl)) ?_;intro w h
 refine Qn (Ah (ZP (Pt N.nb 4) (ZP vi (ZP (Pt N.nb 4) (ZP (Pt N.nb 5) ?_)))))
 refine I4 rfl (h.slv 1 rfl) 5 [Ii N.a.h.1,Ii N.a.h.2,Ii N.a.kind,Ii N.a.change,.string (((sN.extract 0 pn)++t)++tl),vi,N.ve,Ii N.a.pins] h 0 rfl (by kernel_rfl) ?_;intro w h
 refine Ct ?_
 refine B9 (Af ?_)
 refine Ah (ZP (Ii kq) (ZG h (A1 (v:=Ii (IntKind.i64.wrap ((kq:Int)+1))) (v':=Ii ((kq+1:Nat):Int)) (Ax fun _=>by kernel_rfl) (wr (by omega))) (ZP (Ii ((kq+1:Nat):Int)) (Ct ?_))))
 have hQ32:(pn/64≤(kq+1)∧(kq+1)≤(pn+t.size - 1)/64+1∧(ls.set kq false)=G2 N.a.holes (pn/64) ((kq+1) - pn/64))∧((pn+t.size - 1)/64+1 - (kq+1))<((pn+t.size - 1)/64+1 - kq):=⟨⟨by omega,by omega,by rw [hls,show ls.length - hs.length=kq+1 - hs.length by omega,hhs];exact V4 _ hk0⟩,by omega⟩
 refine Bo (fun j=>⟨(kq+1),ls.set kq false,vi,j⟩) hQ32 (by kernel_rfl) [0,0,0,0,0] (by kernel_rfl) h
 refine Dk (Eh (E8 (Ev (Af (Qs (ZP (Ii 0) (Qr ?_)))))))
 have h:=Own.rtClose hx (⟨N.nb,vq,N.ve,⟨N.a.h,N.a.kind,N.a.change,((sN.extract 0 pn)++t)++tl,hs,N.a.es,N.a.pins⟩⟩:RN) rfl h
 refine ZR [Ii 0] [0] h ?_
 have hT:Bi N.a.s N.a.holes p t=_:=bw_ok (by omega) (fun e=>absurd (G9.1 e) (by assumption)) hpn hts (h':=hs) (by rw [hhs,show kq=(pn+t.size - 1)/64+1 by omega])
 exact ⟨vq,by rw [hT];rfl,by rw [hT];rfl⟩
theorem Acb {s:ByteArray} {h:List Bool} {p:Int} (hb:p<0∨4096<p):Bd s h p=(s,h,2):=if_pos hb
theorem Rc {s:ByteArray} {h:List Bool} {p:Int} (hb:¬(p<0∨4096<p)) (h1:(s.size:Int)≤p) {j:Nat} (hj:p=(j:Int)):Bd s h p=(s++Bv (j - s.size),h,0):=by unfold Bd;rw [if_neg hb,if_pos h1,hj,Int.toNat_natCast]
theorem Af3 {s:ByteArray} {h:List Bool} {p:Int} (hb:¬(p<0∨4096<p)) (h1:¬(s.size:Int)≤p) {j:Nat} (hj:p=(j:Int)):Bd s h p=(s.extract 0 j,Pq h j,0):=by unfold Bd;rw [if_neg hb,if_neg h1,hj,Int.toNat_natCast]
theorem Po (vl:Value) (L:List RN) (j:Nat) (N:RN) (hx:L[j]?=some N) (hsz:N.a.s.size≤4096) (hho:N.a.holes.length≤64) (p:Int) (hp:-9223372036854775808≤p∧p≤9223372036854775807)  : Ap Tryz.prog 78 #[Pt N.nb 4,Ii p] [rRL vl L] (fun u L'=>∃ v',u=Ii (((Bd N.a.s N.a.holes p).2.2:Nat):Int)∧L'=[rRL vl (L.set j (⟨N.nb,v',N.ve,⟨N.a.h,N.a.kind,N.a.change,(Bd N.a.s N.a.holes p).1,(Bd N.a.s N.a.holes p).2.1,N.a.es,N.a.pins⟩⟩:RN))]):=by
 refine Zo 61 Tryz.func78 fun E w0 w h=>?_
 refine Qs (ZP (Ii 0) (Qu (ZP (Ii p) ?_)))
 obtain ⟨b1,hb1⟩:=nmB (decide (p<0))
 refine ZB hb1 (ZP (.bool b1) ?_)
 rcases Bool.eq_false_or_eq_true b1 with hc2|hc2
 subst hc2
 have q3:=hb1.symm
 have q3:=dcT q3
 refine Zx (Zx (ZP (.bool true) (Qg (Qs (ZP (Ii 2) (Qr (Au (ZR [Ii 2] [0] h ?_))))))))
 have hT:Bd N.a.s N.a.holes p=_:=Acb (by omega)
 exact ⟨N.vh,by rw [hT];rfl,by rw [hT];exact congrArg (fun l=>[rRL vl l]) (Hz L j N hx).symm⟩
 subst hc2
 have q4:=hb1.symm
 have q4:=dcF q4
 refine ZP (Ii p) ?_
 obtain ⟨b5,hb5⟩:=nmB (decide (p>4096))
 refine ZB hb5 (ZP (.bool b5) (Qn (Zi (b5) (fun hc6=>?_) fun hc6=>?_)))
 have q7:=hb5.symm.trans hc6
 have q7:=dcT q7
 refine Qs (ZP (Ii 2) (Qr (Au (ZR [Ii 2] [0] h ?_))))
 have hT:Bd N.a.s N.a.holes p=_:=Acb (by omega)
 exact ⟨N.vh,by rw [hT];rfl,by rw [hT];exact congrArg (fun l=>[rRL vl l]) (Hz L j N hx).symm⟩
 have q8:=hb5.symm.trans hc6
 have q8:=dcF q8
 refine Kw ?_
 have h:=h.rtOpen hx
 obtain ⟨pn,hpn⟩:∃ n:Nat,p=(n:Int):=⟨p.toNat,by omega⟩
 refine ZP (Ii p) (ZP (Pt N.nb 4) (ZP (Pt N.nb 4) (ZP (Pt N.nb 4) (ZG h (Gl 4 (.string N.a.s) 0) (ZP (Ii (N.a.s.size:Int)) (ZP (.bool (decide (p≥(N.a.s.size:Int)))) (Qn (Zd (p≥(N.a.s.size:Int)) (fun hc9=>?_) fun hc9=>?_))))))))
 refine Aa (Ds 17 [] h fun w h=>Dp 0 16382 (Pt N.nb 4) [] h (Dp 1 8161 (Pt N.nb 4) [] h (Dp 2 8163 (Pt N.nb 4) [] h (Dp 3 8167 (Pt N.nb 4) [] h (Dp 5 2015 (Ii p) [] h (Dp 6 63 (Pt N.nb 4) [] h (Dp 7 127 (Pt N.nb 4) [] h (Dp 8 255 (Pt N.nb 4) [] h ?_))))))))
 refine Ay [4,9] (by kernel_rfl) rfl ?_
 refine Oq [] rfl (by kernel_rfl) (v:=.string N.a.s) (Jm 4 [.string N.a.s] (.string N.a.s) (by kernel_rfl) 0 rfl) h (by kernel_rfl) ?_ ?_
 refine Aq 9 [] rfl h (Gl 4 (.string N.a.s) 0) (Dp 10 1023 (Ii (N.a.s.size:Int)) [] h (Dq 11 2047 [] rfl h (Gw (p - (N.a.s.size:Int))) ?_))
 refine Ad 12 [] [] (Gj (p - (N.a.s.size:Int)) (by omega) (by omega)) h ?_
 rintro v_ L_ w ⟨rfl,rfl⟩ h
 refine ⟨by kernel_rfl,?_⟩
 refine Dq (v:=.string (N.a.s++(Bv (p - (N.a.s.size:Int)).toNat))) 13 8191 [] rfl h (M7 (s:=N.a.s) (t:=(Bv (p - (N.a.s.size:Int)).toNat)) (by kernel_rfl) (by (try simp only [ByteArray.size_append,ByteArray.size_extract,El,Fn]);omega)) (Dp 14 16383 (Pt N.nb 4) [] h (Dp 15 32767 (Pt N.nb 4) [] h (As 16 [] 4 [.string (N.a.s++(Bv (p - (N.a.s.size:Int)).toNat))] [Ii N.a.h.1,Ii N.a.h.2,Ii N.a.kind,Ii N.a.change,.string (N.a.s++(Bv (p - (N.a.s.size:Int)).toNat)),N.vh,N.ve,Ii N.a.pins] 0 rfl h fun w h=>Dd (Af (Qs (ZP (Ii 0) (Qr (Au ?_))))))))
 have h:=Own.rtClose hx (⟨N.nb,N.vh,N.ve,⟨N.a.h,N.a.kind,N.a.change,N.a.s++(Bv (p - (N.a.s.size:Int)).toNat),N.a.holes,N.a.es,N.a.pins⟩⟩:RN) rfl h
 refine ZR [Ii 0] [0] h ?_
 have hT:Bd N.a.s N.a.holes p=_:=Rc (by omega) (by omega) hpn
 exact ⟨N.vh,by rw [hT];rfl,by rw [hT,← show (p - (N.a.s.size:Int)).toNat=pn - N.a.s.size by omega];rfl⟩
 refine Oq [] rfl (by kernel_rfl) (v:=.string N.a.s) (Jm 4 [.string N.a.s] (.string N.a.s) (by kernel_rfl) 0 rfl) h (by kernel_rfl) ?_ ?_
 refine Dp 10 1023 (Ii (N.a.s.size:Int)) [] h (Dq 11 2047 [] rfl h (Gw (p - (N.a.s.size:Int))) ?_)
 refine Ay [4,12] (by kernel_rfl) rfl ?_
 refine Oq [] rfl (by kernel_rfl) (v:=.string N.a.s) (Jm 4 [.string N.a.s] (.string N.a.s) (by kernel_rfl) 0 rfl) h (by kernel_rfl) ?_ ?_
 refine Ad 12 [] [] (Gj (p - (N.a.s.size:Int)) (by omega) (by omega)) h ?_
 rintro v_ L_ w ⟨rfl,rfl⟩ h
 refine ⟨by kernel_rfl,?_⟩
 refine Dq (v:=.string (N.a.s++(Bv (p - (N.a.s.size:Int)).toNat))) 13 8191 [] rfl h (M7 (s:=N.a.s) (t:=(Bv (p - (N.a.s.size:Int)).toNat)) (by kernel_rfl) (by (try simp only [ByteArray.size_append,ByteArray.size_extract,El,Fn]);omega)) (Dp 14 16383 (Pt N.nb 4) [] h (Dp 15 32767 (Pt N.nb 4) [] h (As 16 [] 4 [.string (N.a.s++(Bv (p - (N.a.s.size:Int)).toNat))] [Ii N.a.h.1,Ii N.a.h.2,Ii N.a.kind,Ii N.a.change,.string (N.a.s++(Bv (p - (N.a.s.size:Int)).toNat)),N.vh,N.ve,Ii N.a.pins] 0 rfl h fun w h=>Dd (Af (Qs (ZP (Ii 0) (Qr (Au ?_))))))))
 have h:=Own.rtClose hx (⟨N.nb,N.vh,N.ve,⟨N.a.h,N.a.kind,N.a.change,N.a.s++(Bv (p - (N.a.s.size:Int)).toNat),N.a.holes,N.a.es,N.a.pins⟩⟩:RN) rfl h
 refine ZR [Ii 0] [0] h ?_
 have hT:Bd N.a.s N.a.holes p=_:=Rc (by omega) (by omega) hpn
 exact ⟨N.vh,by rw [hT];rfl,by rw [hT,← show (p - (N.a.s.size:Int)).toNat=pn - N.a.s.size by omega];rfl⟩
 refine De #[Ii (p - (N.a.s.size:Int))] [] [] rfl (by kernel_rfl) (Gj (p - (N.a.s.size:Int)) (by omega) (by omega)) (fun _=>by kernel_rfl) h ?_ ?_
 rintro v_ L_ w ⟨rfl,rfl⟩ h
 refine ⟨by kernel_rfl,?_⟩
 refine Aq 4 [] rfl h (Gl 4 (.string N.a.s) 0) (Dq (v:=.string (N.a.s++(Bv (p - (N.a.s.size:Int)).toNat))) 13 8191 [] rfl h (M7 (s:=N.a.s) (t:=(Bv (p - (N.a.s.size:Int)).toNat)) (by kernel_rfl) (by (try simp only [ByteArray.size_append,ByteArray.size_extract,El,Fn]);omega)) (Dp 14 16383 (Pt N.nb 4) [] h (Dp 15 32767 (Pt N.nb 4) [] h (As 16 [] 4 [.string (N.a.s++(Bv (p - (N.a.s.size:Int)).toNat))] [Ii N.a.h.1,Ii N.a.h.2,Ii N.a.kind,Ii N.a.change,.string (N.a.s++(Bv (p - (N.a.s.size:Int)).toNat)),N.vh,N.ve,Ii N.a.pins] 0 rfl h fun w h=>Dd (Af (Qs (ZP (Ii 0) (Qr (Au ?_)))))))))
 have h:=Own.rtClose hx (⟨N.nb,N.vh,N.ve,⟨N.a.h,N.a.kind,N.a.change,N.a.s++(Bv (p - (N.a.s.size:Int)).toNat),N.a.holes,N.a.es,N.a.pins⟩⟩:RN) rfl h
 refine ZR [Ii 0] [0] h ?_
 have hT:Bd N.a.s N.a.holes p=_:=Rc (by omega) (by omega) hpn
 exact ⟨N.vh,by rw [hT];rfl,by rw [hT,← show (p - (N.a.s.size:Int)).toNat=pn - N.a.s.size by omega];rfl⟩
 exact Bb
 exact Bb
 refine Ks (ZP (Pt N.nb 4) (ZP (Pt N.nb 4) (ZP (Pt N.nb 4) (ZP (Pt N.nb 4) (ZG h (Gl 4 (.string N.a.s) 0) (ZP (Ii p) (ZG h (V8 N.a.s (LV:=none) (HV:=(some (Ii p))) 0 pn (by kernel_rfl) rfl (bnd hpn) (by first|omega|(simp;omega)) (by first|omega|(simp;omega))) (ZP (Pt N.nb 4) (ZP (Pt N.nb 4) (ZS 4 [.string (N.a.s.extract 0 pn)] [Ii N.a.h.1,Ii N.a.h.2,Ii N.a.kind,Ii N.a.change,.string (N.a.s.extract 0 pn),N.vh,N.ve,Ii N.a.pins] 0 rfl h fun w h=>Qu (ZP (Ii 0) (Qn (Ar ?_)))))))))))))
 refine ZL (X:=Nat×List Bool×(Nat→Value)) [(44,62)] (fun ⟨kq,ls,J0⟩=>[(5,Ii kq)]) (fun ⟨kq,ls,J0⟩=>J0) (fun ⟨kq,ls,J0⟩=>[Bx true N.nb [Ii N.a.h.1,Ii N.a.h.2,Ii N.a.kind,Ii N.a.change,.string (N.a.s.extract 0 pn),N.vh,N.ve,Ii N.a.pins] 93,Bf true N.vh 4 1 hlC ls,Bf true N.ve 107 3 e3C N.a.es,Mk L j,Bf true vl 88 1 ptB (L.map RN.nb)]) (fun ⟨kq,ls,J0⟩=>kq≤N.a.holes.length∧ls=Ht N.a.holes pn kq) (fun ⟨kq,ls,J0⟩=>N.a.holes.length - kq) (fun j=>⟨0,N.a.holes,j⟩) ⟨by omega,(U7 _ _).symm⟩ [0,0,0,0,0] h ?_
 rintro ⟨kq,ls,J0⟩ w hG h
 obtain ⟨hkq,hls⟩:kq≤N.a.holes.length∧ls=Ht N.a.holes pn kq:=hG
 have hcl:ls.length=N.a.holes.length:=by rw [hls];exact Yu N.a.holes pn kq
 refine Qt (ZP (Ii kq) (ZP (Pt N.nb 4) (ZP (Pt N.nb 4) (ZP (Pt N.nb 5) (ZG h (Gl 5 (N.vh) 0) (ZG h (M4 (by kernel_rfl) 1 rfl) (ZP (.bool (decide ((kq:Int)<(ls.length:Int)))) (Qn (Zd ((kq:Int)<(ls.length:Int)) (fun hc10=>?_) fun hc10=>?_)))))))))
 refine Kn (Aa (Ar (Qs (ZP (Ii kq) (ZG h (Gw ((kq:Int)*64)) (ZP (Ii p) (ZP (.bool (decide ((kq:Int)*64≥p))) (Qn (Zd ((kq:Int)*64≥p) (fun hc11=>?_) fun hc11=>?_)))))))))
 refine Ah (ZP (Pt N.nb 4) (ZP (Pt N.nb 4) (ZP (Pt N.nb 5) (ZG h (Gl 5 (N.vh) 0) (ZP (Ii kq) ?_)))))
 have hi12:kq<ls.length:=by omega
 obtain ⟨x13,hx14⟩:∃ x,ls[kq]?=some x:=⟨_,List.getElem?_eq_getElem hi12⟩
 refine ZG h (I3 kq (by kernel_rfl) hi12 1 rfl) ?_
 refine Fa rfl (b:=Df N.vh) (B1 N.vh+kq*1) [.bool true] h 1 rfl (by kernel_rfl) (Wi W5 hx14 0 true (by kernel_rfl) (by kernel_rfl)) ?_;intro w h
 refine Ct ?_
 refine B9 (Af ?_)
 refine Ah (ZP (Ii kq) (ZG h (A1 (v:=Ii (IntKind.i64.wrap ((kq:Int)+1))) (v':=Ii ((kq+1:Nat):Int)) (Ax fun _=>by kernel_rfl) (wr (by omega))) (ZP (Ii ((kq+1:Nat):Int)) (Ct ?_))))
 have hQ15:((kq+1)≤N.a.holes.length∧(ls.set kq true)=Ht N.a.holes pn (kq+1))∧(N.a.holes.length - (kq+1))<(N.a.holes.length - kq):=⟨⟨by omega,by rw [hls];exact Acr _ _ _ (by omega) (by omega)⟩,by omega⟩
 refine Bo (fun j=>⟨(kq+1),ls.set kq true,j⟩) hQ15 (by kernel_rfl) [0,0,0,0,0] (by kernel_rfl) h
 refine Bz ?_
 refine B9 (Af ?_)
 refine Ah (ZP (Ii kq) (ZG h (A1 (v:=Ii (IntKind.i64.wrap ((kq:Int)+1))) (v':=Ii ((kq+1:Nat):Int)) (Ax fun _=>by kernel_rfl) (wr (by omega))) (ZP (Ii ((kq+1:Nat):Int)) (Ct ?_))))
 have hQ16:((kq+1)≤N.a.holes.length∧ls=Ht N.a.holes pn (kq+1))∧(N.a.holes.length - (kq+1))<(N.a.holes.length - kq):=⟨⟨by omega,by rw [hls];exact Yi _ _ _ (by omega)⟩,by omega⟩
 refine Bo (fun j=>⟨(kq+1),ls,j⟩) hQ16 (by kernel_rfl) [0,0,0,0,0] (by kernel_rfl) h
 refine Dk (Eh (E8 (Ev (Af (Qs (ZP (Ii 0) (Qr ?_)))))))
 have h:=Own.rtClose hx (⟨N.nb,N.vh,N.ve,⟨N.a.h,N.a.kind,N.a.change,N.a.s.extract 0 pn,ls,N.a.es,N.a.pins⟩⟩:RN) rfl h
 refine ZR [Ii 0] [0] h ?_
 have hT:Bd N.a.s N.a.holes p=_:=Af3 (by omega) (by omega) hpn
 rw [Zp _ _ _ (by omega)] at hls
 exact ⟨N.vh,by rw [hT];rfl,by rw [hT,← hls];rfl⟩
theorem Vj {s:ByteArray} {h:List Bool} {p:Int} {t:ByteArray} (h1:s.size≤4096) (h2:h.length≤64):(Bi s h p t).1.size≤4096∧(Bi s h p t).2.1.length≤64:=by
  unfold Bi
  split
  · exact ⟨h1,h2⟩
  · rename_i hb
    split
    · exact ⟨h1,h2⟩
    · rename_i h0
      refine ⟨?_,?_⟩
      · show (⟨(E5 s.data.toList p.toNat t.data.toList).toArray⟩:ByteArray).size≤4096
        rw [Vh];omega
      · have:=Mu h (p.toNat/64) ((p.toNat+t.size - 1)/64+1 - p.toNat/64)
        show (G2 h (p.toNat/64) ((p.toNat+t.size - 1)/64+1 - p.toNat/64)).length≤64
        omega
theorem Ua {s:ByteArray} {h:List Bool} {p:Int} (h1:s.size≤4096) (h2:h.length≤64):(Bd s h p).1.size≤4096∧(Bd s h p).2.1.length≤64:=by
  unfold Bd
  split
  · exact ⟨h1,h2⟩
  · rename_i hb
    split
    · refine ⟨?_,h2⟩
      show (s++Bv (p.toNat - s.size)).size≤4096
      rw [H2];omega
    · refine ⟨?_,?_⟩
      · show (s.extract 0 p.toNat).size≤4096
        rw [ByteArray.size_extract];omega
      · show (Pq h p.toNat).length≤64
        rw [Acy];exact h2
section
variable {most:Nat} {ts:List Int} {A:List AN}
theorem TI.file1 (h:TI most ts A) {D:AN} (hD:D∈A) (hk:D.kind=1) (f:AN→AN) (hf:∀ M,(f M).h=M.h∧(f M).kind=M.kind∧(f M).es=M.es) (htx:(f D).s.size≤4096∧(f D).holes.length≤64) (hp:D.pins≤(f D).pins):TI most ts (Cy A D.h f):=by
  have b:=h.base
  have hs:=Hx A D.h f hf
  obtain ⟨rk,hr⟩:=h.rank
  refine ⟨b.num1 hD f hf (fun q=>by omega) htx (by have:=b.pos D hD;omega),⟨rk,Fo hr hs⟩,h.held.shp hs fun M hM=>?_⟩
  obtain ⟨N,hN,rfl⟩:=B7 hM
  refine ⟨N,hN,?_⟩
  by_cases c:N.h=D.h
  · have:=b.same hN hD c;subst this
    rw [if_pos rfl]
    exact ⟨(hf N).1.symm,fun _=>⟨hk,fun p=>by omega⟩⟩
  · rw [if_neg c];exact ⟨rfl,fun q=>⟨q,fun p=>p⟩⟩
theorem Aat {h:Hdl} (q:Ei A h=0):∃ D∈A,D.h=h∧D.kind=1∧Bp A h=some D:=by
  unfold Ei at q
  split at q
  · cases q
  · rename_i D hD
    split at q
    · rename_i hk;exact ⟨D,(Cu hD).1,(Cu hD).2,hk,hD⟩
    · cases q
theorem TI.pin (h:TI most ts A) {x:Hdl} (q:Ei A x=0):TI most ts (Gv A x 1):=by
  obtain ⟨D,hD,rfl,hk,_⟩:=Aat q
  exact h.file1 hD hk _ (fun _=>⟨rfl,rfl,rfl⟩) (h.base.txt D hD) (by show D.pins≤D.pins+1;omega)
theorem Qe {h:Hdl} (q:Ch A h=0):∃ D∈A,D.h=h∧D.kind=1∧D.pins≠0∧Bp A h=some D:=by
  unfold Ch at q
  split at q
  · cases q
  · rename_i D hD
    split at q
    · rename_i hk
      split at q
      · cases q
      · rename_i hp;exact ⟨D,(Cu hD).1,(Cu hD).2,hk,hp,hD⟩
    · cases q
theorem TI.unpin (h:TI most ts A) {x:Hdl} (q:Ch A x=0):TI most ts (Gf (Gv A x (-1))):=by
  obtain ⟨D,hD,rfl,hk,hp,_⟩:=Qe q
  obtain ⟨rk,hr⟩:=h.rank
  have:=h.base.pos D hD
  exact TI.sweep (h.base.num1 hD _ (fun _=>⟨rfl,rfl,rfl⟩) (fun q=>by omega) (h.base.txt D hD) (by show 0≤D.pins+-1;omega)) ⟨rk,Fo hr (Hj _ _ _)⟩
theorem TI.write (h:TI most ts A) (x:Hdl) (p:Int) (t:ByteArray):TI most ts (E9 A x p t):=by
  unfold E9 atF
  split
  · exact h
  · rename_i D hD
    split
    · rename_i hk
      obtain ⟨hD1,rfl⟩:=Cu hD
      exact h.file1 hD1 hk _ (fun _=>⟨rfl,rfl,rfl⟩) (Vj (h.base.txt D hD1).1 (h.base.txt D hD1).2) (Int.le_refl _)
    · exact h
theorem TI.resize (h:TI most ts A) (x:Hdl) (p:Int):TI most ts (Ec A x p):=by
  unfold Ec atF
  split
  · exact h
  · rename_i D hD
    split
    · rename_i hk
      obtain ⟨hD1,rfl⟩:=Cu hD
      exact h.file1 hD1 hk _ (fun _=>⟨rfl,rfl,rfl⟩) (Ua (h.base.txt D hD1).1 (h.base.txt D hD1).2) (Int.le_refl _)
    · exact h
theorem O4 (A:List AN) (d:Hdl):∀ k,itU A (k+1) d=itU A k (upA A d)
  | 0=>rfl
  | k+1=>by show upA A (itU A (k+1) d)=upA A (itU A k (upA A d));rw [O4 A d k]
theorem P7 {x y:Hdl} (hne:y≠x):Ca A x y↔Ca A x (upA A y):=by
  constructor
  · rintro ⟨k,hk⟩
    cases k with
    | zero=>exact absurd hk hne
    | succ k=>exact ⟨k,by rw [← O4];exact hk⟩
  · rintro ⟨k,hk⟩;exact ⟨k+1,by rw [O4];exact hk⟩
theorem TI.oneDir (h:TI most ts A) {M:AN} (hM:M∈A) {e:Bk} (he:e∈M.es) (hd:A4 A e.2=true):A7 A e.2≤1∧upA A e.2=M.h:=by
  obtain ⟨K,hK,e1,hk⟩:=I1 hd
  have h1:A7 A e.2≤1:=by
    have:=h.base.one K hK hk
    rw [e1] at this
    split at this<;>omega
  exact ⟨h1,Ln h1 hM he rfl⟩
open Classical in
theorem TI.rerank (h:TI most ts A) {x d:Hdl} (hc:¬Ca A x d):∃ rk:Hdl→Nat,rk d<rk x∧∀ M∈A,∀ e∈M.es,e.2≠x→A4 A e.2=true→rk M.h<rk e.2:=by
  obtain ⟨rk,hr⟩:=h.rank
  refine ⟨fun y=>if Ca A x y then rk y+(rk d+1) else rk y,?_,fun M hM e he hne hd=>?_⟩
  · show (if Ca A x d then _ else rk d)<if Ca A x x then rk x+(rk d+1) else _
    rw [if_neg hc,if_pos ⟨0,rfl⟩];omega
  · have hu:=(h.oneDir hM he hd).2
    have h1:=hr M hM e he hd
    show (if Ca A x M.h then rk M.h+(rk d+1) else rk M.h)<if Ca A x e.2 then rk e.2+(rk d+1) else rk e.2
    by_cases c:Ca A x M.h
    · rw [if_pos c,if_pos ((P7 hne).2 (by rw [hu];exact c))];omega
    · rw [if_neg c,if_neg (fun q=>c (by rw [← hu];exact (P7 hne).1 q))];exact h1
theorem TI.climbEnds (h:TI most ts A):∃ rk:Hdl→Nat,∀ d,upA A d≠d→rk (upA A d)<rk d:=by
  obtain ⟨rk,hr⟩:=h.rank
  obtain ⟨B,hB⟩:∃ B:Nat,∀ M∈A,rk M.h<B:=by
    clear hr h
    induction A with
    | nil=>exact ⟨0,fun M hM=>by cases hM⟩
    | cons x A ih=>
      obtain ⟨B,hB⟩:=ih
      refine ⟨max B (rk x.h+1),fun M hM=>?_⟩
      rcases List.mem_cons.1 hM with rfl|hM
      · omega
      · have:=hB M hM;omega
  refine ⟨fun y=>if A4 A y=true then rk y else B,fun d hd=>?_⟩
  rcases Kf A d with ⟨q,_⟩|⟨M,hM,e,he,rfl,q⟩
  · exact absurd q hd
  · rw [q]
    have hMd:M.kind=2:=(h.base.kind M hM).resolve_left fun k1=>by rw [h.base.file M hM k1] at he;cases he
    show (if A4 A M.h=true then rk M.h else B)<if A4 A e.2=true then rk e.2 else B
    rw [if_pos (by rw [Dc h.base.nod hM];exact decide_eq_true hMd)]
    by_cases c:A4 A e.2=true
    · rw [if_pos c];exact hr M hM e he c
    · rw [if_neg c];exact hB M hM
end
theorem Gu (A:List AN) (a:Hdl) (old:ByteArray) (b:Hdl) (nm:ByteArray):(tRename A a old b nm).2=A∨∃ F T h X,Bp A a=some F∧F.kind=2∧Bp A b=some T∧T.kind=2∧Ee F.es old=some h∧Bp A h=some X∧¬(X.kind=2∧Ca A h b)∧
    ((Ee T.es nm=none∧¬(60≤T.es.length∧a≠b)∧tRename A a old b nm=(0,Eq A a old b nm h none))∨∃ y Y,Ee T.es nm=some y∧¬y=h∧Bp A y=some Y∧¬(X.kind=1∧Y.kind=2)∧¬(X.kind=2∧Y.kind=1)∧Y.es=[]∧tRename A a old b nm=(0,Eq A a old b nm h (some y))):=by
  by_cases h1:∃ F,Bp A a=some F
  rotate_left
  · left;rw [Ad1 (by cases c:Bp A a with|none=>rfl|some F=>exact absurd ⟨F,c⟩ h1)]
  obtain ⟨F,h1⟩:=h1
  by_cases h2:F.kind=2
  rotate_left
  · left;rw [Xs h1 h2]
  by_cases h3:∃ T,Bp A b=some T
  rotate_left
  · left;rw [Afi h1 h2 (by cases c:Bp A b with|none=>rfl|some F=>exact absurd ⟨F,c⟩ h3)]
  obtain ⟨T,h3⟩:=h3
  by_cases h4:T.kind=2
  rotate_left
  · left;rw [Aaa h1 h2 h3 h4]
  by_cases h5:A0 old
  rotate_left
  · left;rw [Q8 h1 h2 h3 h4 h5]
  by_cases h6:A0 nm
  rotate_left
  · left;rw [W7 h1 h2 h3 h4 h5 h6]
  by_cases h7:∃ h,Ee F.es old=some h
  rotate_left
  · left;rw [Nv h1 h2 h3 h4 h5 h6 (by cases c:Ee F.es old with|none=>rfl|some F=>exact absurd ⟨F,c⟩ h7)]
  obtain ⟨h,h7⟩:=h7
  cases h8:Bp A h with
  | none=>
    left;unfold tRename;rw [h1];simp only [if_pos h2];rw [h3];simp only [if_pos h4];rw [Bg h5,Bg h6,h7];simp only [if_true];rw [h8]
  | some X=>
    by_cases h9:X.kind=2∧Ca A h b
    · left;rw [Nr h1 h2 h3 h4 h5 h6 h7 h8 h9.1 h9.2]
    cases hB:Ee T.es nm with
    | none=>
      by_cases hC:60≤T.es.length∧a≠b
      · left;rw [Np h1 h2 h3 h4 h5 h6 h7 h8 h9 hB hC]
      · exact .inr ⟨F,T,h,X,h1,h2,h3,h4,h7,h8,h9,.inl ⟨hB,hC,Ls h1 h2 h3 h4 h5 h6 h7 h8 h9 hB hC⟩⟩
    | some y=>
      by_cases hC:y=h
      · left;rw [Me h1 h2 h3 h4 h5 h6 h7 h8 h9 hB hC]
      cases hD:Bp A y with
      | none=>
        left;unfold tRename;rw [h1];simp only [if_pos h2];rw [h3];simp only [if_pos h4];rw [Bg h5,Bg h6,h7];simp only [if_true];rw [h8];simp only [if_neg h9];rw [hB];simp only [if_neg hC];rw [hD]
      | some Y=>
        by_cases hE:X.kind=1∧Y.kind=2
        · left;rw [R9 h1 h2 h3 h4 h5 h6 h7 h8 h9 hB hC hD hE]
        by_cases hF:X.kind=2∧Y.kind=1
        · left;rw [Ku h1 h2 h3 h4 h5 h6 h7 h8 h9 hB hC hD hE hF]
        by_cases hG:0<Y.es.length
        · left;rw [Hl h1 h2 h3 h4 h5 h6 h7 h8 h9 hB hC hD hE hF hG]
        · exact .inr ⟨F,T,h,X,h1,h2,h3,h4,h7,h8,h9,.inr ⟨y,Y,hB,hC,hD,hE,hF,List.eq_nil_of_length_eq_zero (by omega),Mc h1 h2 h3 h4 h5 h6 h7 h8 h9 hB hC hD hE hF hG⟩⟩
theorem Wd {A:List AN} {d:Hdl} (h:∀ M∈A,M.h≠d):Ao A d=A:=by
  unfold Ao Cy
  conv=>rhs;rw [← List.map_id A]
  refine List.map_congr_left fun N hN=>?_
  simp [h N hN]
theorem TI.touchA {most:Nat} {ts:List Int} {A:List AN} (h:TI most ts A) (d:Hdl):TI most ts (Ao A d):=by
  by_cases c:∃ M∈A,M.h=d
  · obtain ⟨rk,hr⟩:=h.rank
    exact ⟨h.base.touchH c,⟨rk,Fo hr (Bn _ _)⟩,h.held.touch d⟩
  · rw [Wd fun M hM e=>c ⟨M,hM,e⟩];exact h
structure Lft (A B:List AN):Prop where
  ent:∀ M∈B,∀ e∈M.es,∃ N∈A,N.h=M.h∧e∈N.es
  nod:∀ M∈B,∃ N∈A,N.h=M.h∧N.kind=M.kind∧N.pins=M.pins
  nod':∀ N∈A,∃ M∈B,M.h=N.h∧M.kind=N.kind∧M.es.Sublist N.es
  dir:∀ x,A4 B x=A4 A x
theorem Ix (A:List AN) (d:Hdl) (nm:ByteArray):Lft A (Al A d nm):=by
  refine ⟨fun M hM e he=>?_,fun M hM=>?_,fun N hN=>?_,J8 A d nm⟩
  · obtain ⟨N,hN,rfl⟩:=B7 hM
    refine ⟨N,hN,?_⟩
    by_cases c:N.h=d
    · rw [if_pos c] at he ⊢;exact ⟨rfl,(List.mem_filter.1 he).1⟩
    · rw [if_neg c] at he ⊢;exact ⟨rfl,he⟩
  · obtain ⟨N,hN,rfl⟩:=B7 hM
    refine ⟨N,hN,?_⟩
    split<;>exact ⟨rfl,rfl,rfl⟩
  · refine ⟨_,Dl (d:=d) (f:=fun N=>⟨N.h,N.kind,N.change,N.s,N.holes,N.es.filter fun x=>!decide (x.1=nm),N.pins⟩) hN,?_⟩
    split
    · exact ⟨rfl,rfl,List.filter_sublist⟩
    · exact ⟨rfl,rfl,List.Sublist.refl _⟩
theorem Lft.trans {A B C:List AN} (h:Lft A B) (g:Lft B C):Lft A C:=by
  refine ⟨fun M hM e he=>?_,fun M hM=>?_,fun N hN=>?_,fun x=>(g.dir x).trans (h.dir x)⟩
  · obtain ⟨N,hN,e1,h1⟩:=g.ent M hM e he
    obtain ⟨K,hK,e2,h2⟩:=h.ent N hN e h1
    exact ⟨K,hK,e2.trans e1,h2⟩
  · obtain ⟨N,hN,e1,e2,e3⟩:=g.nod M hM
    obtain ⟨K,hK,f1,f2,f3⟩:=h.nod N hN
    exact ⟨K,hK,f1.trans e1,f2.trans e2,f3.trans e3⟩
  · obtain ⟨M,hM,e1,e2,e3⟩:=h.nod' N hN
    obtain ⟨K,hK,f1,f2,f3⟩:=g.nod' M hM
    exact ⟨K,hK,f1.trans e1,f2.trans e2,f3.trans e3⟩
theorem Ql {A:List AN} {d:Hdl} {nm:ByteArray} {M:AN} (hM:M∈Al A d nm) (hd:M.h=d):∀ e∈M.es,e.1≠nm:=fun e he=>by
  obtain ⟨N,hN,rfl⟩:=B7 hM
  by_cases c:N.h=d
  · rw [if_pos c] at he;simpa using (List.mem_filter.1 he).2
  · rw [if_neg c] at hd;exact absurd hd c
theorem Tt {A:List AN} (hn:(A.map (·.h)).Nodup) {D:AN} (hD:D∈A) {e:Bk} (he:e∈D.es) (hl:D.es.length≤60) {M:AN} (hM:M∈Al A D.h e.1) (hd:M.h=D.h):M.es.length<60:=by
  obtain ⟨N,hN,rfl⟩:=B7 hM
  by_cases c:N.h=D.h
  · have h1:=Cm hn hN
    rw [c,Cm hn hD] at h1
    obtain rfl:=Option.some.inj h1
    rw [if_pos rfl]
    show (D.es.filter fun x=>!decide (x.1=e.1)).length<60
    have:=(List.length_filter_lt_length_iff_exists (p:=fun x:Bk=>!decide (x.1=e.1)) (l:=D.es)).2 ⟨e,he,by simp⟩
    omega
  · rw [if_neg c] at hd;exact absurd hd c
section
variable {most:Nat} {ts:List Int} {A:List AN}
theorem TI.relay (h:TI most ts A) {B:List AN} {lz lz':Hdl→Nat} (hl:Lft A B) (b:TI0 most ts lz B) {X T:AN} (hX:X∈B) (hT:T∈B) (hk:T.kind=2) {nm:ByteArray} (hno:∀ e∈T.es,e.1≠nm) (hlt:T.es.length<60) (h8:X.kind=1→A7 B X.h<8) (h0:X.kind=2→A7 B X.h=0) (hc:X.kind=2→¬Ca A X.h T.h)
    (hz:∀ M∈B,M.kind=2→lz' M.h+(if X.h=M.h then 1 else 0)=lz M.h):TI0 most ts lz' (Aw B T.h nm X.h)∧∃ rk,Fb (Aw B T.h nm X.h) rk:=by
  refine ⟨b.enter hT hX hk hno hlt h8 lz' hz,?_⟩
  by_cases c:X.kind=2
  · obtain ⟨rk,h1,h2⟩:=h.rerank (hc c)
    refine ⟨rk,Hw (fun M hM e he hd=>?_) fun _=>h1⟩
    obtain ⟨N,hN,e1,e2⟩:=hl.ent M hM e he
    rw [← e1]
    refine h2 N hN e e2 (fun q=>?_) (by rw [← hl.dir];exact hd)
    have:=K3 hM he
    rw [q,h0 c] at this;omega
  · obtain ⟨rk,hr⟩:=h.rank
    refine ⟨rk,Hw (fun M hM e he hd=>?_) fun q=>?_⟩
    · obtain ⟨N,hN,e1,e2⟩:=hl.ent M hM e he
      rw [← e1];exact hr N hN e e2 (by rw [← hl.dir];exact hd)
    · rw [Dc b.nod hX] at q;exact absurd (of_decide_eq_true q) c
theorem I8 {lz:Hdl→Nat} (b:TI0 most ts lz A) {D:AN} (hD:D∈A) {e:Bk} (he:e∈D.es) {P:Hdl→Prop} (h:∀ M∈A,M.kind=1→P M.h→0<M.pins∨0<A7 A M.h):∀ M∈Al A D.h e.1,M.kind=1→(P M.h∧M.h≠e.2)→0<M.pins∨0<A7 (Al A D.h e.1) M.h:=fun M hM hk ⟨hp,hne⟩=>by
  obtain ⟨N,hN,e1,e2,e3⟩:=(Ix A D.h e.1).nod M hM
  have h8:=Dn b.nod hD (b.nms D hD) he M.h
  rw [if_neg (fun q=>hne q.symm)] at h8
  rw [← e1] at hp
  rcases h N hN (e2.trans hk) hp with q|q
  · exact .inl (by omega)
  · rw [e1] at q;exact .inr (by omega)
end
section
variable {most:Nat} {ts:List Int} {A:List AN}
theorem TI0.lnk_dir {lz:Hdl→Nat} (b:TI0 most ts lz A) {X:AN} (hX:X∈A) (hk:X.kind=2):A7 A X.h≤1:=by
  have:=b.one X hX hk
  split at this<;>omega
theorem TI.rename (h:TI most ts A) (a:Hdl) (old:ByteArray) (b:Hdl) (nm:ByteArray):TI most ts (tRename A a old b nm).2:=by
  rcases Gu A a old b nm with q|⟨F,T,hh,X,h1,h2,h3,h4,h7,h8,h9,hc⟩
  · rw [q];exact h
  obtain ⟨hF,rfl⟩:=Cu h1
  obtain ⟨hT,rfl⟩:=Cu h3
  obtain ⟨hX,rfl⟩:=Cu h8
  obtain ⟨e,he,rfl,hex⟩:=Hc h7
  have b0:=h.base
  have hpos:0<A7 A X.h:=by have:=K3 hF he;rwa [hex] at this
  have l1:∀ x,A7 (Al A F.h e.1) x+(if X.h=x then 1 else 0)=A7 A x:=fun x=>by have:=Dn b0.nod hF (b0.nms F hF) he x;rwa [hex] at this
  have b1:=b0.leave hF h2 he (fun x=>if X.kind=2∧x=X.h then 1 else 0) (fun M hM hk=>by
    show (if X.kind=2∧M.h=X.h then 1 else 0)=0+if e.2=M.h then 1 else 0
    rw [hex,Nat.zero_add]
    by_cases c:X.h=M.h
    · rw [if_pos c,if_pos ⟨by rw [b0.same hX hM c];exact hk,c.symm⟩]
    · rw [if_neg c,if_neg fun q=>c q.2.symm])
  have L1:=Ix A F.h e.1
  have hcl:X.kind=2→¬Ca A X.h T.h:=fun hk q=>h9 ⟨hk,q⟩
  have fin:∀ {C:List AN},TI most ts C→TI most ts (if F.h=T.h then Ao C F.h else Ao (Ao C F.h) T.h):=fun {C} hC=>by
    split
    · exact hC.touchA _
    · exact (hC.touchA _).touchA _
  have held1:=I8 b0 hF he (P:=fun _=>True) fun M hM hk _=>h.held M hM hk
  rcases hc with ⟨hB,hC,hr⟩|⟨y,Y,hB,hC,hD,hE,hG,hes,hr⟩
  · rw [hr]
    obtain ⟨X1,hX1,x1,x2,_⟩:=L1.nod' X hX
    obtain ⟨T1,hT1,t1,t2,t3⟩:=L1.nod' T hT
    have hlt:T1.es.length<60:=by
      by_cases c:F.h=T.h
      · exact Tt b0.nod hF he (b0.few F hF) hT1 (t1.trans c.symm)
      · have:=t3.length_le;have:T.es.length<60:=Nat.lt_of_not_le fun q=>hC ⟨q,c⟩;omega
    have hX0:=l1 X.h
    rw [if_pos rfl] at hX0
    have r:=h.relay L1 b1 hX1 hT1 (t2.trans h4) (fun x hx=>Ff hB x (t3.subset hx)) hlt (fun hk=>by rw [x1];have:=b0.lnk8 X hX (x2.symm.trans hk);omega) (fun hk=>by rw [x1];have:=b0.lnk_dir hX (x2.symm.trans hk);omega) (fun hk=>by rw [x1,t1];exact hcl (x2.symm.trans hk)) (lz':=lz0) (fun M hM hk=>by
      show 0+(if X1.h=M.h then 1 else 0)=if X.kind=2∧M.h=X.h then 1 else 0
      rw [x1]
      by_cases c:X.h=M.h
      · have:=b1.same hX1 hM (x1.trans c)
        rw [if_pos c,if_pos ⟨by rw [← x2,this];exact hk,c.symm⟩]
      · rw [if_neg c,if_neg fun q=>c q.2.symm])
    have hd:J5 (Aw (Al A F.h e.1) T1.h nm X1.h):=J5.enter b1.nod hT1 fun M hM hk hne=>held1 M hM hk ⟨trivial,by rw [hex,← x1];exact hne⟩
    rw [x1,t1] at r hd
    exact fin ⟨r.1,r.2,hd⟩
  · rw [hr]
    obtain ⟨hY,rfl⟩:=Cu hD
    obtain ⟨ey,hey,rfl,hyy⟩:=Hc hB
    have hYT:Y.h≠T.h:=fun c=>by
      have:=b0.same hY hT c
      rw [this] at hes;rw [hes] at hey;cases hey
    obtain ⟨T1,hT1,t1,t2,hey1⟩:∃ T1∈Al A F.h e.1,T1.h=T.h∧T1.kind=T.kind∧ey∈T1.es:=by
      refine ⟨_,Dl (d:=F.h) (f:=fun N=>⟨N.h,N.kind,N.change,N.s,N.holes,N.es.filter fun x=>!decide (x.1=e.1),N.pins⟩) hT,?_⟩
      by_cases c:T.h=F.h
      · rw [if_pos c]
        refine ⟨rfl,rfl,List.mem_filter.2 ⟨hey,?_⟩⟩
        have:=b0.same hT hF c
        subst this
        simp only [Bool.not_eq_true',decide_eq_false_iff_not]
        intro q
        rw [q,h7] at hB
        exact hC (Option.some.inj hB).symm
      · rw [if_neg c];exact ⟨rfl,rfl,hey⟩
    have k1:T1.kind=2:=t2.trans h4
    have l2:∀ x,A7 (Al (Al A F.h e.1) T1.h ey.1) x+(if Y.h=x then 1 else 0)=A7 (Al A F.h e.1) x:=fun x=>by have:=Dn b1.nod hT1 (b1.nms T1 hT1) hey1 x;rwa [hyy] at this
    obtain ⟨Y1,hY1,y1,y2,y3⟩:=L1.nod' Y hY
    have b2:=b1.leave hT1 k1 hey1 (fun x=>(if X.kind=2∧x=X.h then 1 else 0)+if Y.kind=2∧x=Y.h then 1 else 0) (fun M hM hk=>by
      show (if X.kind=2∧M.h=X.h then 1 else 0)+(if Y.kind=2∧M.h=Y.h then 1 else 0)=(if X.kind=2∧M.h=X.h then 1 else 0)+if ey.2=M.h then 1 else 0
      rw [hyy]
      congr 1
      by_cases c:Y.h=M.h
      · have:=b1.same hY1 hM (y1.trans c)
        rw [if_pos c,if_pos ⟨by rw [← y2,this];exact hk,c.symm⟩]
      · rw [if_neg c,if_neg fun q=>c q.2.symm])
    have L2:=L1.trans (Ix (Al A F.h e.1) T1.h ey.1)
    obtain ⟨X2,hX2,x1,x2,_⟩:=L2.nod' X hX
    obtain ⟨T2,hT2,u1,u2,u3⟩:=(Ix (Al A F.h e.1) T1.h ey.1).nod' T1 hT1
    obtain ⟨Y2,hY2,z1,z2,z3⟩:=L2.nod' Y hY
    have z4:Y2.es=[]:=by rw [hes] at z3;exact List.sublist_nil.1 z3
    have hX0:=l1 X.h
    rw [if_pos rfl] at hX0
    have hX3:=l2 X.h
    have r:=h.relay L2 b2 hX2 hT2 (u2.trans k1) (Ql hT2 u1) (Tt b1.nod hT1 hey1 (b1.few T1 hT1) hT2 u1) (fun hk=>by rw [x1];have:=b0.lnk8 X hX (x2.symm.trans hk);omega) (fun hk=>by rw [x1];have:=b0.lnk_dir hX (x2.symm.trans hk);omega) (fun hk=>by rw [x1,u1,t1];exact hcl (x2.symm.trans hk)) (lz':=fun x=>if Y2.kind=2∧x=Y2.h then 1 else 0) (fun M hM hk=>by
      show (if Y2.kind=2∧M.h=Y2.h then 1 else 0)+(if X2.h=M.h then 1 else 0)=(if X.kind=2∧M.h=X.h then 1 else 0)+if Y.kind=2∧M.h=Y.h then 1 else 0
      rw [x1,z1,z2,Nat.add_comm]
      congr 1
      by_cases c:X.h=M.h
      · have:=b2.same hX2 hM (x1.trans c)
        rw [if_pos c,if_pos ⟨by rw [← x2,this];exact hk,c.symm⟩]
      · rw [if_neg c,if_neg fun q=>c q.2.symm])
    have hd:Y2.kind=2→J5 (Aw (Al (Al A F.h e.1) T1.h ey.1) T2.h ey.1 X2.h):=fun hk=>J5.enter b2.nod hT2 fun M hM hk1 hne=>I8 b1 hT1 hey1 (P:=fun x=>x≠X.h) (fun M hM hk hne=>held1 M hM hk ⟨trivial,by rw [hex];exact hne⟩) M hM hk1 ⟨by rw [← x1];exact hne,fun q=>by
      rw [hyy,← z1] at q
      rw [b2.same hM hY2 q] at hk1
      omega⟩
    have hY3:Y2∈Aw (Al (Al A F.h e.1) T1.h ey.1) T2.h ey.1 X2.h:=by
      have:=Dl (d:=T2.h) (f:=fun N=>⟨N.h,N.kind,N.change,N.s,N.holes,Bj ey.1 X2.h N.es,N.pins⟩) hY2
      rwa [if_neg (fun q=>hYT (z1.symm.trans (q.trans (u1.trans t1))))] at this
    have t:=TI.lose r.1 r.2 hY3 z4 rfl hd
    rw [x1,u1,t1,z1] at t
    exact fin t
end
section
open Go.RowKit Go.MapKept
section
variable {P:Program} {a:Act} {w w0:World} {E:Ent} {L:List Res} {dst:Option Tmp} {x y:Operand} {T T2 ty:TypeId} {pos:String} {after:Array Edge} {g:Option (Nat×Bool)}
theorem strq (s t:ByteArray):(s.toList==t.toList)=decide (s=t):=by
  by_cases h:s=t
  · subst h;simp
  · rw [decide_eq_false h,← beq_toListBytes,Bool.eq_false_iff];exact fun e=>h ((MapKept.bytes_beq _ _).1 e)
end
end
theorem Nt (x y:ByteArray):Lt x y=decide (x.toList<y.toList):=bytesLess_eq _ _
theorem Ur {x y z:ByteArray} (h:Lt x y=true) (g:Lt y z=true):Lt x z=true:=by
  rw [Nt,decide_eq_true_eq] at *
  exact List.lt_trans h g
theorem Uv {x y:ByteArray} (h:x.toList=y.toList):x=y:=by
  have:=strq x y
  rw [h] at this
  simpa using this
theorem Ack (x y:ByteArray) (h:Lt x y=false) (hne:x≠y):Lt y x=true:=by
  rw [Nt,decide_eq_false_iff_not] at h
  rw [Nt,decide_eq_true_eq]
  refine Classical.byContradiction fun g=>hne (Uv ?_)
  exact List.le_antisymm (List.not_lt.1 g) (List.not_lt.1 h)
def Vn (nm:ByteArray) (h:Hdl):List Bk→List Bk
  | []=>[(nm,h)]
  | e::r=>if Lt nm e.1 then (nm,h)::e::r else e::Vn nm h r
theorem Ug (nm:ByteArray) (h:Hdl):∀ (es acc:List Bk),es.foldl (C9 nm h) (true,acc)=(true,acc++es)
  | [],acc=>by simp
  | e::es,acc=>by
    rw [List.foldl_cons]
    have:C9 nm h (true,acc) e=(true,acc++[e]):=if_neg (by simp)
    rw [this,Ug nm h es];simp
theorem P4 (nm:ByteArray) (h:Hdl):∀ (es acc:List Bk),(if (es.foldl (C9 nm h) (false,acc)).1 then (es.foldl (C9 nm h) (false,acc)).2 else (es.foldl (C9 nm h) (false,acc)).2++[(nm,h)])=acc++Vn nm h es
  | [],acc=>by simp [Vn]
  | e::es,acc=>by
    rw [List.foldl_cons]
    by_cases c:Lt nm e.1=true
    · have:C9 nm h (false,acc) e=(true,acc++[(nm,h)]++[e]):=if_pos (by simp [c])
      rw [this,Ug];simp [Vn,c]
    · have:C9 nm h (false,acc) e=(false,acc++[e]):=if_neg (by simp [c])
      rw [this,P4 nm h es (acc++[e])];simp [Vn,c]
theorem Wk (nm:ByteArray) (h:Hdl) (es:List Bk):Bj nm h es=Vn nm h es:=by
  have:=P4 nm h es []
  unfold Bj Lr
  simpa using this
def X8 (es:List Bk):Prop:=es.Pairwise fun e f=>Lt e.1 f.1=true
theorem Adu {es:List Bk} (hs:X8 es) {nm:ByteArray} (hno:∀ e∈es,e.1≠nm) (h:Hdl):X8 (Bj nm h es):=by
  rw [Wk]
  induction es with
  | nil=>exact List.pairwise_singleton _ _
  | cons e r ih=>
    obtain ⟨h1,h2⟩:=List.pairwise_cons.1 hs
    unfold Vn
    by_cases c:Lt nm e.1=true
    · rw [if_pos c]
      refine List.pairwise_cons.2 ⟨fun f hf=>?_,hs⟩
      rcases List.mem_cons.1 hf with rfl|hf
      · exact c
      · exact Ur c (h1 f hf)
    · rw [if_neg c]
      refine List.pairwise_cons.2 ⟨fun f hf=>?_,ih h2 fun e he=>hno e (List.mem_cons_of_mem _ he)⟩
      have hp:=E2 nm h r
      rw [Wk] at hp
      rcases List.mem_cons.1 (hp.subset hf) with rfl|hf
      · exact Ack _ _ (by simpa using c) (fun q=>hno e (by simp) q.symm)
      · exact h1 f hf
def Srt (A:List AN):Prop:=∀ M∈A,X8 M.es
theorem Srt.same {A B:List AN} (h:Srt A) (hs:shp B=shp A):Srt B:=fun M hM=>by
  have:(M.h,M.kind,M.es)∈shp A:=by rw [← hs];exact List.mem_map.2 ⟨M,hM,rfl⟩
  obtain ⟨N,hN,q⟩:=List.mem_map.1 this
  have e2:N.es=M.es:=congrArg (fun t:Hdl×Int×List Bk=>t.2.2) q
  rw [← e2];exact h N hN
theorem Srt.filter {A:List AN} (h:Srt A) (p:AN→Bool):Srt (A.filter p):=fun M hM=>h M (List.mem_filter.1 hM).1
theorem Srt.leave {A:List AN} (h:Srt A) (d:Hdl) (nm:ByteArray):Srt (Al A d nm):=fun M hM=>by
  obtain ⟨N,hN,rfl⟩:=B7 hM
  split
  · exact (h N hN).sublist List.filter_sublist
  · exact h N hN
theorem Srt.enter {A:List AN} (h:Srt A) {d:Hdl} {nm:ByteArray} (hno:∀ M∈A,M.h=d→∀ e∈M.es,e.1≠nm) (x:Hdl):Srt (Aw A d nm x):=fun M hM=>by
  obtain ⟨N,hN,rfl⟩:=B7 hM
  by_cases c:N.h=d
  · rw [if_pos c];exact Adu (h N hN) (hno N hN c) x
  · rw [if_neg c];exact h N hN
theorem Srt.app {A:List AN} (h:Srt A) {N:AN} (hN:N.es=[]):Srt (A++[N]):=fun M hM=>by
  rcases List.mem_append.1 hM with hM|hM
  · exact h M hM
  · rw [List.mem_singleton.1 hM,hN];exact List.Pairwise.nil
theorem Srt.lose {A:List AN} (h:Srt A) (x:Hdl):Srt (C3 A x):=by
  unfold C3
  split
  · split
    · exact h.filter _
    · exact (h.same (Bn _ _)).filter _
  · exact h
def Cnt (A:List AN) (c:Int):Prop:=∀ M∈A,0≤M.change∧M.change≤c∧M.pins≤c
theorem Cnt.mono {A:List AN} {c d:Int} (h:Cnt A c) (hc:c≤d):Cnt A d:=fun M hM=>by have:=h M hM;omega
theorem Cnt.upd {A:List AN} {c e:Int} (h:Cnt A c) (he:c≤e) (d:Hdl) (f:AN→AN) (hf:∀ M∈A,0≤(f M).change∧(f M).change≤e∧(f M).pins≤e):Cnt (Cy A d f) e:=fun M hM=>by
  obtain ⟨N,hN,rfl⟩:=B7 hM
  split
  · exact hf N hN
  · have:=h N hN;omega
theorem Cnt.touch {A:List AN} {c:Int} (h:Cnt A c) (d:Hdl):Cnt (Ao A d) (c+1):=h.upd (by omega) d _ fun M hM=>by have:=h M hM;exact ⟨by show 0≤M.change+1;omega,by show M.change+1≤c+1;omega,by show M.pins≤c+1;omega⟩
theorem Cnt.enter {A:List AN} {c:Int} (h:Cnt A c) (d:Hdl) (nm:ByteArray) (x:Hdl):Cnt (Aw A d nm x) c:=h.upd (by omega) d _ fun M hM=>h M hM
theorem Cnt.leave {A:List AN} {c:Int} (h:Cnt A c) (d:Hdl) (nm:ByteArray):Cnt (Al A d nm) c:=h.upd (by omega) d _ fun M hM=>h M hM
theorem Cnt.pin {A:List AN} {c:Int} (h:Cnt A c) (d:Hdl) {x:Int} (hx:x≤1):Cnt (Gv A d x) (c+1):=h.upd (by omega) d _ fun M hM=>by have:=h M hM;exact ⟨by show 0≤M.change;omega,by show M.change≤c+1;omega,by show M.pins+x≤c+1;omega⟩
theorem Cnt.filter {A:List AN} {c:Int} (h:Cnt A c) (p:AN→Bool):Cnt (A.filter p) c:=fun M hM=>h M (List.mem_filter.1 hM).1
theorem Cnt.app {A:List AN} {c:Int} (h:Cnt A c) (hc:0≤c) (x:Hdl) (kind:Int):Cnt (A++[C7 x kind]) c:=fun M hM=>by
  rcases List.mem_append.1 hM with hM|hM
  · exact h M hM
  · rw [List.mem_singleton.1 hM];exact ⟨Int.le_refl 0,hc,hc⟩
theorem Cnt.lose {A:List AN} {c:Int} (h:Cnt A c) (x:Hdl):Cnt (C3 A x) (c+1):=by
  unfold C3
  split
  · split
    · exact (h.filter _).mono (by omega)
    · exact (h.touch x).filter _
  · exact h.mono (by omega)
theorem Cnt.wr {A:List AN} {c:Int} (h:Cnt A c) (d:Hdl) (p:Int) (t:ByteArray):Cnt (E9 A d p t) (c+1):=by
  unfold E9 atF
  split
  · exact h.mono (by omega)
  · split
    · refine h.upd (by omega) d _ fun M hM=>?_
      have:=h M hM
      refine ⟨?_,?_,by show M.pins≤c+1;omega⟩
      · show 0≤M.change+(if _ then 1 else 0);split<;>omega
      · show M.change+(if _ then 1 else 0)≤c+1;split<;>omega
    · exact h.mono (by omega)
theorem Cnt.rz {A:List AN} {c:Int} (h:Cnt A c) (d:Hdl) (p:Int):Cnt (Ec A d p) (c+1):=by
  unfold Ec atF
  split
  · exact h.mono (by omega)
  · split
    · refine h.upd (by omega) d _ fun M hM=>?_
      have:=h M hM
      refine ⟨?_,?_,by show M.pins≤c+1;omega⟩
      · show 0≤M.change+(if _ then 1 else 0);split<;>omega
      · show M.change+(if _ then 1 else 0)≤c+1;split<;>omega
    · exact h.mono (by omega)
theorem Cnt.create {A:List AN} {c:Int} (h:Cnt A c) (hc:0≤c) (ts:List Int) (d:Hdl) (nm:ByteArray) (kind:Int) (k:Nat):Cnt (F5 A ts d nm kind k) (c+1):=((h.app hc _ _).enter _ _ _).touch _
theorem Cnt.link {A:List AN} {c:Int} (h:Cnt A c) (x d:Hdl) (nm:ByteArray):Cnt (K8 A x d nm) (c+3):=(((h.enter _ _ _).touch _).touch _).mono (by omega)
theorem Cnt.remove {A:List AN} {c:Int} (h:Cnt A c) (d:Hdl) (nm:ByteArray):Cnt (Dx A d nm) (c+3):=(((h.leave _ _).touch _).lose _).mono (by omega)
theorem Cnt.rename {A:List AN} {c:Int} (h:Cnt A c) (a:Hdl) (old:ByteArray) (b:Hdl) (nm:ByteArray):Cnt (tRename A a old b nm).2 (c+3):=by
  have key:∀ h' y,Cnt (Eq A a old b nm h' y) (c+3):=fun h' y=>by
    have h2:Cnt (match y with|none=>Aw (Al A a old) b nm h'|some y=>C3 (Aw (Al (Al A a old) b nm) b nm h') y) (c+1):=by
      cases y with
      | none=>exact ((h.leave _ _).enter _ _ _).mono (by omega)
      | some y=>exact (((h.leave _ _).leave _ _).enter _ _ _).lose _
    unfold Eq
    simp only
    split
    · exact (h2.touch _).mono (by omega)
    · exact ((h2.touch _).touch _).mono (by omega)
  rcases Gu A a old b nm with q|⟨F,T,hh,X,_,_,_,_,_,_,_,⟨_,_,hr⟩|⟨y,Y,_,_,_,_,_,_,hr⟩⟩
  · rw [q];exact h.mono (by omega)
  · rw [hr];exact key hh none
  · rw [hr];exact key hh (some y)
theorem TI0.few_nodes {most:Nat} {ts:List Int} {lz:Hdl→Nat} {A:List AN} (h:TI0 most ts lz A):A.length≤most:=by
  have:=List.Nodup.length_le_of_subset h.num (l₂:=(List.range most).map fun k:Nat=>(k:Int)) fun x hx=>by
    obtain ⟨M,hM,rfl⟩:=List.mem_map.1 hx
    obtain ⟨k,hk,e⟩:=h.gen M hM
    exact List.mem_map.2 ⟨k,List.mem_range.2 hk,(congrArg Prod.fst e).symm⟩
  simpa using this
theorem TI.rtok {most:Nat} {ts:List Int} {A:List AN} (h:TI most ts A) (hm:most≤300) {c:Int} (hc:Cnt A c):Dt A c:=
  ⟨Nat.le_trans h.base.few_nodes hm,h.base.nod,h.base.ent,h.base.few,h.base.nms,fun M hM=>⟨(hc M hM).1,(hc M hM).2.1,h.base.pos M hM,(hc M hM).2.2⟩⟩
theorem TI.new {most:Nat} (h1:1≤most):TI most ((List.replicate most (0:Int)).set 0 1) [C7 (0,0) 2]:=by
  have hm:∀ {M:AN},M∈[C7 (0,0) 2]→M=C7 (0,0) 2:=fun h=>List.mem_singleton.1 h
  have ht:Av ((List.replicate most (0:Int)).set 0 1) 0=1:=In (List.getElem?_set_self (by rw [List.length_replicate];omega))
  refine ⟨⟨by simp,fun M hM=>⟨0,h1,?_⟩,fun M hM=>?_,fun M hM e he=>?_,fun M hM=>?_,fun M hM=>?_,fun M hM hk=>?_,fun M hM hk=>?_,⟨C7 (0,0) 2,by simp,rfl,rfl⟩,fun M hM hk=>?_,fun M hM hk=>?_,fun M hM=>?_,fun M hM=>?_⟩,⟨fun _=>0,fun M hM e he=>?_⟩,fun M hM hk=>?_⟩
  all_goals obtain rfl:=hm hM
  · rw [ht];rfl
  · exact .inr rfl
  · cases he
  · exact Nat.zero_le _
  · exact List.nodup_nil
  · cases hk
  · exact ⟨rfl,rfl,rfl⟩
  · rfl
  · cases hk
  · exact ⟨Nat.zero_le _,Nat.zero_le _⟩
  · exact Int.le_refl 0
  · cases he
  · cases hk
theorem Srt.new:Srt [C7 (0,0) 2]:=fun M hM=>by rw [List.mem_singleton.1 hM];exact List.Pairwise.nil
theorem Srt.create {most:Nat} {A:List AN} (h:Srt A) {ts:List Int} {d:Hdl} {nm:ByteArray} {kind:Int} {k e:Nat} (q:B2 most A d nm kind=(some k,e)) (hn:(A.map (·.h)).Nodup):Srt (F5 A ts d nm kind k):=by
  obtain ⟨_,D,h1,h2,_,h4,h5,h6,h7⟩:=Ov q
  obtain ⟨_,hu⟩:=Lj h7
  refine ((h.app rfl).enter (fun M hM hd=>?_) _).same (Bn _ _)
  rcases List.mem_append.1 hM with hM|hM
  · have h8:=Cm hn hM
    rw [hd,h1] at h8
    rw [← Option.some.inj h8];exact Ff h5
  · rw [List.mem_singleton.1 hM];exact fun e he=>by cases he
theorem Srt.link {A:List AN} (h:Srt A) {x d:Hdl} {nm:ByteArray} (q:C0 A x d nm=0) (hn:(A.map (·.h)).Nodup):Srt (K8 A x d nm):=by
  obtain ⟨X,D,h0,h1,h2,_,h4,h5,h6,h7⟩:=Ti q
  refine ((h.enter (fun M hM hd=>?_) _).same (Bn _ _)).same (Bn _ _)
  have h8:=Cm hn hM
  rw [hd,h1] at h8
  rw [← Option.some.inj h8];exact Ff h5
theorem Srt.remove {A:List AN} (h:Srt A) (d:Hdl) (nm:ByteArray):Srt (Dx A d nm):=((h.leave _ _).same (Bn _ _)).lose _
theorem Srt.rename {A:List AN} (h:Srt A) (hn:(A.map (·.h)).Nodup) (a:Hdl) (old:ByteArray) (b:Hdl) (nm:ByteArray):Srt (tRename A a old b nm).2:=by
  have fin:∀ {C:List AN},Srt C→Srt (if a=b then Ao C a else Ao (Ao C a) b):=fun {C} hC=>by
    split
    · exact hC.same (Bn _ _)
    · exact (hC.same (Bn _ _)).same (Bn _ _)
  rcases Gu A a old b nm with q|⟨F,T,hh,X,_,_,h3,_,_,_,_,⟨hB,_,hr⟩|⟨y,Y,_,_,_,_,_,_,hr⟩⟩
  · rw [q];exact h
  · rw [hr]
    refine fin ((h.leave _ _).enter (fun M hM hd e he=>?_) _)
    obtain ⟨N,hN,e1,h2⟩:=(Ix A a old).ent M hM e he
    have h8:=Cm hn hN
    rw [e1,hd,h3] at h8
    rw [← Option.some.inj h8] at h2;exact Ff hB e h2
  · rw [hr]
    exact fin ((((h.leave _ _).leave _ _).enter (fun M hM hd=>Ql hM hd) _).lose _)
structure NdR (A:List AN) (N:ND) (M:AN):Prop where
  kind:N.kind=M.kind
  chg:N.change=M.change
  lnk:N.links=C4 A M
  dird:M.kind=2→N.dq=none∧N.upn=(upA A M.h).1∧N.upg=(upA A M.h).2
  filed:M.kind=1→N.upn=0∧N.upg=0∧∃ q,N.dq=some q∧G1 q.d M.s M.holes
structure ER (des es:List Bk):Prop where
  nd:(des.map (·.1)).Nodup
  perm:des.Perm es
structure Sim (most:Nat) (ps:List (Option Nat)) (gs:List Int) (l:List (Option ND)) (ds:List DN) (pn:List ((Int×Int)×Int)) (A:List AN) (ts:List Int):Prop where
  lps:ps.length=most
  lgs:gs.length=most
  ll:l.length=most
  gts:gs=ts
  nd:∀ k:Nat,k<most→(ps[k]?=some none∧l[k]?=some none∧∀ M∈A,M.h.1≠(k:Int))∨∃ N M,ps[k]?=some (some N.nb)∧l[k]?=some (some N)∧M∈A∧M.h=((k:Int),Av ts k - 1)∧NdR A N M
  dk:(ds.map (·.h)).Nodup
  dm:∀ d∈ds,∃ M∈A,M.h=d.h∧M.kind=2∧ER d.es M.es
  da:∀ M∈A,M.kind=2→∃ d∈ds,d.h=M.h
  pk:(pn.map (·.1)).Nodup
  pm:∀ p∈pn,0<p.2∧∃ M∈A,M.h=p.1∧M.kind=1∧M.pins=p.2
  pa:∀ M∈A,M.kind=1→0<M.pins→∃ p∈pn,p.1=M.h
theorem Ae2 {α β:Type} [DecidableEq α] {k:α} {v:β}:∀ {kv:List (α×β)},Ae kv k=some v→(k,v)∈kv
  | [],h=>by cases h
  | p::r,h=>by
    unfold Ae at h
    by_cases c:k=p.1
    · rw [if_pos c] at h;cases h;rw [c];simp
    · rw [if_neg c] at h;exact List.mem_cons_of_mem _ (Ae2 h)
theorem Ws {α β:Type} [DecidableEq α] {k:α} {v:β}:∀ {kv:List (α×β)},(kv.map (·.1)).Nodup→(k,v)∈kv→Ae kv k=some v
  | [],_,h=>by cases h
  | p::r,hn,h=>by
    rw [List.map_cons,List.nodup_cons] at hn
    unfold Ae
    rcases List.mem_cons.1 h with e|h
    · rw [← e];simp
    · have hne:k≠p.1:=fun c=>hn.1 (by rw [← c];exact List.mem_map.2 ⟨(k,v),h,rfl⟩)
      rw [if_neg hne];exact Ws hn.2 h
theorem Aa0 {α β:Type} [DecidableEq α] {k:α}:∀ {kv:List (α×β)},(∀ v,(k,v) ∉ kv)→Ae kv k=none
  | [],_=>rfl
  | p::r,h=>by
    unfold Ae
    rw [if_neg fun c=>h p.2 (by rw [c];simp)]
    exact Aa0 fun v hv=>h v (List.mem_cons_of_mem _ hv)
theorem ER.get {des es:List Bk} (h:ER des es) (nm:ByteArray):Ae des nm=Ee es nm:=by
  cases c:Ee es nm with
  | some x=>
    obtain ⟨e,he,rfl,rfl⟩:=Hc c
    exact Ws h.nd (h.perm.mem_iff.2 he)
  | none=>
    refine Aa0 fun v hv=>?_
    exact Ff c _ (h.perm.mem_iff.1 hv) rfl
theorem ER.len {des es:List Bk} (h:ER des es):des.length=es.length:=h.perm.length_eq
section
variable {most:Nat} {ps:List (Option Nat)} {gs:List Int} {l:List (Option ND)} {ds:List DN} {pn:List ((Int×Int)×Int)} {A:List AN} {ts:List Int}
theorem Sim.at_ (s:Sim most ps gs l ds pn A ts) (t:TI most ts A) (n g:Int):(Bm ps gs n g=none∧Bp A (n,g)=none)∨∃ (k:Nat) (N:ND) (M:AN),n=(k:Int)∧k<most∧l[k]?=some (some N)∧Bm ps gs n g=some N.nb∧Bp A (n,g)=some M∧M∈A∧M.h=(n,g)∧NdR A N M:=by
  by_cases hb:n<0∨(most:Int)≤n
  · left
    refine ⟨by unfold Bm;rw [s.lps,if_pos hb],?_⟩
    cases c:Bp A (n,g) with
    | none=>rfl
    | some M=>
      obtain ⟨hM,e⟩:=Cu c
      obtain ⟨k,hk,e2⟩:=t.base.gen M hM
      have:n=(k:Int):=congrArg Prod.fst (e.symm.trans e2)
      omega
  obtain ⟨k,rfl⟩:∃ k:Nat,n=(k:Int):=⟨n.toNat,by omega⟩
  have hk:k<most:=by omega
  have hg:gs[k]?=some (Av ts k):=by
    rw [s.gts]
    have:k<ts.length:=by rw [← s.gts,s.lgs];exact hk
    rw [List.getElem?_eq_getElem this]
    exact congrArg some (In (List.getElem?_eq_getElem this)).symm
  rcases s.nd k hk with ⟨h1,h2,h3⟩|⟨N,M,h1,h2,hM,he,hr⟩
  · left
    refine ⟨by rw [Hk h1 hg];rfl,?_⟩
    cases c:Bp A ((k:Int),g) with
    | none=>rfl
    | some M=>
      obtain ⟨hM,e⟩:=Cu c
      exact absurd (congrArg Prod.fst e) (h3 M hM)
  · by_cases c:Av ts k - 1=g
    · right
      refine ⟨k,N,M,rfl,hk,h2,by rw [Hk h1 hg];simp [c],?_,hM,by rw [he,c],hr⟩
      have:=Cm t.base.nod hM
      rwa [he,c] at this
    · left
      refine ⟨by rw [Hk h1 hg];simp [c],?_⟩
      cases q:Bp A ((k:Int),g) with
      | none=>rfl
      | some K=>
        obtain ⟨hK,e⟩:=Cu q
        obtain ⟨j,hj,e2⟩:=t.base.gen K hK
        rw [e] at e2
        have e3:(k:Int)=(j:Int):=congrArg Prod.fst e2
        have e4:g=Av ts j - 1:=congrArg Prod.snd e2
        have:k=j:=by omega
        subst this
        exact absurd e4.symm c
theorem Sim.dir_ (s:Sim most ps gs l ds pn A ts) (t:TI most ts A) {M:AN} (hM:M∈A) (hk:M.kind=2):∃ (j:Nat) (d:DN),ds[j]?=some d∧d.h=M.h∧ER d.es M.es:=by
  obtain ⟨d,hd,e⟩:=s.da M hM hk
  obtain ⟨j,hj⟩:=List.getElem?_of_mem hd
  obtain ⟨K,hK,e2,_,hr⟩:=s.dm d hd
  rw [t.base.same hK hM (e2.trans e)] at hr
  exact ⟨j,d,hj,e,hr⟩
theorem Sim.nodir (s:Sim most ps gs l ds pn A ts) (t:TI most ts A) {x:Hdl} (h:∀ M∈A,M.h=x→¬M.kind=2):∀ d∈ds,d.h≠x:=fun d hd e=>by
  obtain ⟨K,hK,e2,hk,_⟩:=s.dm d hd
  exact h K hK (e2.trans e) hk
theorem Sim.pin_ (s:Sim most ps gs l ds pn A ts) (t:TI most ts A) {M:AN} (hM:M∈A) (hk:M.kind=1):(Ae pn M.h).getD 0=M.pins:=by
  have hp:=t.base.pos M hM
  cases c:Ae pn M.h with
  | some v=>
    obtain ⟨_,K,hK,e,_,h2⟩:=s.pm _ (Ae2 c)
    rw [t.base.same hK hM e] at h2
    exact h2.symm
  | none=>
    show 0=M.pins
    by_cases q:0<M.pins
    · obtain ⟨p,hp,e⟩:=s.pa M hM hk q
      have:=Ws s.pk (show (M.h,p.2)∈pn by rw [← e];exact hp)
      rw [c] at this;cases this
    · omega
end
theorem Lb {A B:List AN} {M N:AN} (h1:N.h=M.h) (h2:N.kind=M.kind) (h3:N.kind=2→N.es=M.es) (hd:∀ e∈M.es,A4 B e.2=A4 A e.2) (hl:A7 B M.h=A7 A M.h):C4 B N=C4 A M:=by
  by_cases hk:N.kind=2
  · rw [D9 hk,D9 (h2▸hk),h3 hk]
    congr 2
    exact List.countP_congr fun e he=>by rw [hd e he]
  · rw [Dg hk,Dg (fun q=>hk (h2.trans q)),h1,hl]
theorem Nu {A B:List AN} {h:Hdl} (h1:A7 B h≤1) (h2:A7 B h=A7 A h) (hs:∀ M∈A,∀ e∈M.es,e.2=h→∃ N∈B,N.h=M.h∧e∈N.es):upA B h=upA A h:=by
  rcases Kf A h with ⟨q,hno⟩|⟨M,hM,e,he,e2,q⟩
  · rw [q]
    refine Ns ?_
    cases c:A7 B h with
    | zero=>rfl
    | succ n=>
      rw [h2] at c
      obtain ⟨M,hM,e,he,e2⟩:=I7 (A:=A) (h:=h) (by omega)
      exact absurd e2 (hno M hM e he)
  · obtain ⟨N,hN,e3,e4⟩:=hs M hM e he e2
    rw [q,← e3]
    exact Ln h1 hN e4 e2
theorem NdR.keep {A B:List AN} {N:ND} {M M':AN} (r:NdR A N M) (hM:M'=M) (hd:∀ e∈M.es,A4 B e.2=A4 A e.2) (hl:A7 B M.h=A7 A M.h) (hu:M.kind=2→upA B M.h=upA A M.h):NdR B N M':=by
  subst hM
  exact ⟨r.kind,r.chg,r.lnk.trans (Lb rfl rfl (fun _=>rfl) hd hl).symm,fun k=>by rw [hu k];exact r.dird k,r.filed⟩
structure NdD (A:List AN) (dl:Hdl→Int) (ud:Hdl→Prop) (N:ND) (M:AN):Prop where
  kind:N.kind=M.kind
  chg:N.change=M.change
  lnk:N.links=C4 A M+dl M.h
  dird:M.kind=2→N.dq=none∧(¬ud M.h→N.upn=(upA A M.h).1∧N.upg=(upA A M.h).2)
  filed:M.kind=1→N.upn=0∧N.upg=0∧∃ q,N.dq=some q∧G1 q.d M.s M.holes
structure Ej (most:Nat) (dl:Hdl→Int) (ud:Hdl→Prop) (ps:List (Option Nat)) (gs:List Int) (l:List (Option ND)) (A:List AN) (ts:List Int):Prop where
  lps:ps.length=most
  lgs:gs.length=most
  ll:l.length=most
  gts:gs=ts
  nd:∀ k:Nat,k<most→(ps[k]?=some none∧l[k]?=some none∧∀ M∈A,M.h.1≠(k:Int))∨∃ N M,ps[k]?=some (some N.nb)∧l[k]?=some (some N)∧M∈A∧M.h=((k:Int),Av ts k - 1)∧NdD A dl ud N M
structure Hi (ds:List DN) (A:List AN):Prop where
  dk:(ds.map (·.h)).Nodup
  dm:∀ d∈ds,∃ M∈A,M.h=d.h∧M.kind=2∧ER d.es M.es
  da:∀ M∈A,M.kind=2→∃ d∈ds,d.h=M.h
structure G5 (pn:List ((Int×Int)×Int)) (A:List AN):Prop where
  pk:(pn.map (·.1)).Nodup
  pm:∀ p∈pn,0<p.2∧∃ M∈A,M.h=p.1∧M.kind=1∧M.pins=p.2
  pa:∀ M∈A,M.kind=1→0<M.pins→∃ p∈pn,p.1=M.h
section
variable {most:Nat} {ps:List (Option Nat)} {gs:List Int} {l:List (Option ND)} {ds:List DN} {pn:List ((Int×Int)×Int)} {A:List AN} {ts:List Int}
theorem Sim.parts (s:Sim most ps gs l ds pn A ts):Ej most (fun _=>0) (fun _=>False) ps gs l A ts∧Hi ds A∧G5 pn A:=by
  refine ⟨⟨s.lps,s.lgs,s.ll,s.gts,fun k hk=>?_⟩,⟨s.dk,s.dm,s.da⟩,⟨s.pk,s.pm,s.pa⟩⟩
  rcases s.nd k hk with h|⟨N,M,h1,h2,h3,h4,r⟩
  · exact .inl h
  · exact .inr ⟨N,M,h1,h2,h3,h4,⟨r.kind,r.chg,by rw [r.lnk];simp,fun q=>⟨(r.dird q).1,fun _=>(r.dird q).2⟩,r.filed⟩⟩
theorem Sim.of (t:Ej most (fun _=>0) (fun _=>False) ps gs l A ts) (e:Hi ds A) (p:G5 pn A):Sim most ps gs l ds pn A ts:=by
  refine ⟨t.lps,t.lgs,t.ll,t.gts,fun k hk=>?_,e.dk,e.dm,e.da,p.pk,p.pm,p.pa⟩
  rcases t.nd k hk with h|⟨N,M,h1,h2,h3,h4,r⟩
  · exact .inl h
  · exact .inr ⟨N,M,h1,h2,h3,h4,⟨r.kind,r.chg,by rw [r.lnk];simp,fun q=>⟨(r.dird q).1,(r.dird q).2 id⟩,r.filed⟩⟩
variable {dl dl':Hdl→Int} {ud ud':Hdl→Prop} {lz:Hdl→Nat}
theorem Ej.map (s:Ej most dl ud ps gs l A ts) {B:List AN} {l':List (Option ND)} (hll:l'.length=l.length) (hB:∀ M∈B,∃ K∈A,K.h=M.h) (h0:∀ k,k<most→l[k]?=some none→l'[k]?=some none)
    (h1:∀ (k:Nat) (N:ND) (M:AN),k<most→l[k]?=some (some N)→M∈A→M.h=((k:Int),Av ts k - 1)→NdD A dl ud N M→∃ N' M',l'[k]?=some (some N')∧N'.nb=N.nb∧M'∈B∧M'.h=M.h∧NdD B dl' ud' N' M'):Ej most dl' ud' ps gs l' B ts:=by
  refine ⟨s.lps,s.lgs,hll.trans s.ll,s.gts,fun k hk=>?_⟩
  rcases s.nd k hk with ⟨a,b,c⟩|⟨N,M,a,b,c,d,r⟩
  · refine .inl ⟨a,h0 k hk b,fun M hM e=>?_⟩
    obtain ⟨K,hK,e2⟩:=hB M hM
    exact c K hK (by rw [e2];exact e)
  · obtain ⟨N',M',a',b',c',d',r'⟩:=h1 k N M hk b c d r
    exact .inr ⟨N',M',by rw [b'];exact a,a',c',d'.trans d,r'⟩
theorem Ej.set1 (s:Ej most dl ud ps gs l A ts) (hn:(A.map (·.h)).Nodup) {k:Nat} {N N':ND} {M:AN} (hl:l[k]?=some (some N)) (hM:M∈A) (hh:M.h=((k:Int),Av ts k - 1)) (hb:N'.nb=N.nb) (hd:∀ h,h≠M.h→dl' h=dl h) (hu:∀ h,h≠M.h→ud h→ud' h) (hr:NdD A dl ud N M→NdD A dl' ud' N' M):Ej most dl' ud' ps gs (l.set k (some N')) A ts:=by
  have hkl:=(List.getElem?_eq_some_iff.1 hl).1
  refine s.map (by simp) (fun M hM=>⟨M,hM,rfl⟩) (fun i hi q=>?_) (fun i P K hi q hK e r=>?_)
  · by_cases c:k=i
    · subst c;rw [hl] at q;cases q
    · rw [List.getElem?_set_ne c];exact q
  · by_cases c:k=i
    · subst c
      rw [hl] at q;cases q
      have:K=M:=by
        have h1:=Cm hn hK
        rw [e,← hh,Cm hn hM] at h1
        exact (Option.some.inj h1).symm
      subst this
      exact ⟨N',K,List.getElem?_set_self hkl,hb,hK,rfl,hr r⟩
    · refine ⟨P,K,by rw [List.getElem?_set_ne c];exact q,rfl,hK,rfl,?_⟩
      have hne:K.h≠M.h:=fun x=>c (by rw [e,hh] at x;have:=congrArg Prod.fst x;omega)
      exact ⟨r.kind,r.chg,by rw [r.lnk,hd _ hne],fun z=>⟨(r.dird z).1,fun w=>(r.dird z).2 fun v=>w (hu _ hne v)⟩,r.filed⟩
end
section
variable {most:Nat} {ps:List (Option Nat)} {gs:List Int} {l:List (Option ND)} {ds:List DN} {pn:List ((Int×Int)×Int)} {A:List AN} {ts:List Int} {dl dl':Hdl→Int} {ud ud':Hdl→Prop} {lz:Hdl→Nat}
theorem NdD.shp {B:List AN} {N:ND} {M M':AN} (r:NdD A dl ud N M) (hs:shp B=shp A) (h1:M'.h=M.h) (h2:M'.kind=M.kind) (h3:M'.es=M.es) (h4:M'.change=M.change) (h5:M'.s=M.s) (h6:M'.holes=M.holes):NdD B dl ud N M':=by
  refine ⟨r.kind.trans h2.symm,r.chg.trans h4.symm,?_,fun k=>?_,fun k=>?_⟩
  · rw [r.lnk,Ox hs h1 h2 h3,h1]
  · rw [h1,R2 hs];exact r.dird (h2▸k)
  · rw [h5,h6];exact r.filed (h2▸k)
theorem Ej.touch (s:Ej most dl ud ps gs l A ts) (hn:(A.map (·.h)).Nodup) {k:Nat} {N:ND} {M:AN} (hl:l[k]?=some (some N)) (hM:M∈A) (hh:M.h=((k:Int),Av ts k - 1)):Ej most dl ud ps gs (l.set k (some (Ab N))) (Ao A M.h) ts:=by
  have hkl:=(List.getElem?_eq_some_iff.1 hl).1
  have hs:=Bn A M.h
  refine s.map (by simp) (fun K hK=>?_) (fun i hi q=>?_) (fun i P K hi q hK e r=>?_)
  · obtain ⟨K',hK',rfl⟩:=B7 hK
    refine ⟨K',hK',?_⟩
    split<;>rfl
  · by_cases c:k=i
    · subst c;rw [hl] at q;cases q
    · rw [List.getElem?_set_ne c];exact q
  · have hm:=Dl (d:=M.h) (f:=fun N=>⟨N.h,N.kind,N.change+1,N.s,N.holes,N.es,N.pins⟩) hK
    by_cases c:k=i
    · subst c
      rw [hl] at q;cases q
      rw [if_pos (by rw [e,hh])] at hm
      refine ⟨Ab N,_,List.getElem?_set_self hkl,rfl,hm,rfl,?_⟩
      have r2:=r.shp (M':=⟨K.h,K.kind,K.change,K.s,K.holes,K.es,K.pins⟩) hs rfl rfl rfl rfl rfl rfl
      exact ⟨r2.kind,by show N.change+1=K.change+1;rw [r.chg],r2.lnk,r2.dird,r2.filed⟩
    · have hne:K.h≠M.h:=fun x=>c (by rw [e,hh] at x;have:=congrArg Prod.fst x;omega)
      rw [if_neg hne] at hm
      exact ⟨P,K,by rw [List.getElem?_set_ne c];exact q,rfl,hm,rfl,r.shp hs rfl rfl rfl rfl rfl rfl⟩
theorem Ej.links (s:Ej most dl ud ps gs l A ts) (hn:(A.map (·.h)).Nodup) {k:Nat} {N:ND} {M:AN} (hl:l[k]?=some (some N)) (hM:M∈A) (hh:M.h=((k:Int),Av ts k - 1)) (m:Int):Ej most (fun h=>dl h+if h=M.h then m else 0) ud ps gs (l.set k (some (Am N m))) A ts:=
  s.set1 hn hl hM hh rfl (fun h hne=>by show dl h+(if h=M.h then m else 0)=dl h;rw [if_neg hne];omega) (fun h _ q=>q) fun r=>
    ⟨r.kind,r.chg,by show N.links+m=C4 A M+(dl M.h+if M.h=M.h then m else 0);rw [if_pos rfl,r.lnk];omega,r.dird,r.filed⟩
theorem Ej.keepUp {un ug:Int} (s:Ej most dl ud ps gs l A ts) (hn:(A.map (·.h)).Nodup) {k:Nat} {N:ND} {M:AN} (hl:l[k]?=some (some N)) (hM:M∈A) (hh:M.h=((k:Int),Av ts k - 1)) (hk:M.kind=2) (z li:Int) (hu:upA A M.h=(un,ug)):Ej most (fun h=>dl h+if h=M.h then li - N.links else 0) (fun h=>ud h∧h≠M.h) ps gs (l.set k (some (keepN N 2 z li un ug))) A ts:=
  s.set1 hn hl hM hh rfl (fun h hne=>by show dl h+(if h=M.h then li - N.links else 0)=dl h;rw [if_neg hne];omega) (fun h hne q=>⟨q,hne⟩) fun r=>
    ⟨hk.symm,r.chg,by show li=C4 A M+(dl M.h+if M.h=M.h then li - N.links else 0);rw [if_pos rfl];have:=r.lnk;omega,fun q=>⟨(r.dird q).1,fun _=>by rw [hu];exact ⟨rfl,rfl⟩⟩,fun q=>by rw [hk] at q;cases q⟩
theorem Ej.ents (s:Ej most dl ud ps gs l A ts) {B:List AN} (hm:∀ M∈A,∃ M'∈B,M'.h=M.h∧M'.kind=M.kind∧M'.change=M.change∧M'.s=M.s∧M'.holes=M.holes∧C4 B M'+dl' M.h=C4 A M+dl M.h) (hB:∀ M∈B,∃ K∈A,K.h=M.h) (hu:∀ M∈A,M.kind=2→¬ud' M.h→¬ud M.h∧upA B M.h=upA A M.h):Ej most dl' ud' ps gs l B ts:=
  s.map rfl hB (fun _ _ q=>q) fun k N M hk q hM e r=>by
    obtain ⟨M',hM',h1,h2,h3,h4,h5,h6⟩:=hm M hM
    refine ⟨N,M',q,rfl,hM',h1,⟨r.kind.trans h2.symm,r.chg.trans h3.symm,by rw [r.lnk,h1,← h6],fun z=>⟨(r.dird (h2▸z)).1,fun w=>?_⟩,fun z=>by rw [h4,h5];exact r.filed (h2▸z)⟩⟩
    rw [h1] at w ⊢
    have:=hu M hM (h2▸z) w
    rw [this.2];exact (r.dird (h2▸z)).2 this.1
end
section
variable {most:Nat} {ps:List (Option Nat)} {gs:List Int} {l:List (Option ND)} {ds:List DN} {pn:List ((Int×Int)×Int)} {A:List AN} {ts:List Int} {dl dl':Hdl→Int} {ud ud':Hdl→Prop} {lz:Hdl→Nat}
theorem Sj (A:List AN) (nm:ByteArray) (x:Hdl) (es:List Bk):(Bj nm x es).countP (fun e=>A4 A e.2)=es.countP (fun e=>A4 A e.2)+if A4 A x=true then 1 else 0:=by
  rw [(E2 nm x es).countP_eq,List.countP_cons]
theorem Sr (A:List AN) {es:List Bk} (hn:(es.map (·.1)).Nodup) {e:Bk} (he:e∈es):(es.filter fun x=>!decide (x.1=e.1)).countP (fun e=>A4 A e.2)+(if A4 A e.2=true then 1 else 0)=es.countP (fun e=>A4 A e.2):=by
  have:=Jg es (fun x=>A4 A x.2) (fun x=>decide (x.1=e.1))
  rw [Ly hn he] at this
  rw [this]
  by_cases c:A4 A e.2=true<;>simp [c,Nat.add_comm]
theorem Ej.enter (s:Ej most dl ud ps gs l A ts) (b:TI0 most ts lz A) {D X:AN} (hD:D∈A) (hX:X∈A) (hk:D.kind=2) (nm:ByteArray):Ej most (fun h=>dl h - (if h=D.h∧X.kind=2 then 1 else 0) - (if h=X.h∧X.kind=1 then 1 else 0)) (fun h=>ud h∨(h=X.h∧X.kind=2)) ps gs l (Aw A D.h nm X.h) ts:=by
  have hid:∀ y,A4 (Aw A D.h nm X.h) y=A4 A y:=M6 A D.h nm X.h
  have hfe:(fun e:Bk=>A4 (Aw A D.h nm X.h) e.2)=fun e=>A4 A e.2:=funext fun e=>hid e.2
  have hl:∀ h,A7 (Aw A D.h nm X.h) h=A7 A h+if X.h=h then 1 else 0:=Hb b.nod hD nm X.h
  refine s.ents (fun M hM=>⟨_,Dl (d:=D.h) (f:=fun N=>⟨N.h,N.kind,N.change,N.s,N.holes,Bj nm X.h N.es,N.pins⟩) hM,?_⟩) (fun M hM=>?_) fun M hM k2 w=>?_
  · by_cases c:M.h=D.h
    · have:=b.same hM hD c
      subst this
      rw [if_pos rfl]
      refine ⟨rfl,rfl,rfl,rfl,rfl,?_⟩
      rw [D9 (N:=⟨M.h,M.kind,M.change,M.s,M.holes,Bj nm X.h M.es,M.pins⟩) hk,D9 hk,hfe]
      show 2+(((Bj nm X.h M.es).countP fun e=>A4 A e.2:Nat):Int)+_=_
      rw [Sj,Dc b.nod hX]
      have h1:¬(M.h=X.h∧X.kind=1):=fun q=>by rw [← b.same hM hX q.1] at q;omega
      rw [if_neg h1]
      by_cases c2:X.kind=2
      · simp [c2];omega
      · simp [c2]
    · rw [if_neg c]
      refine ⟨rfl,rfl,rfl,rfl,rfl,?_⟩
      have h0:¬(M.h=D.h∧X.kind=2):=fun q=>c q.1
      rw [if_neg h0]
      by_cases k2:M.kind=2
      · rw [D9 k2,D9 k2,hfe]
        have h1:¬(M.h=X.h∧X.kind=1):=fun q=>by rw [← b.same hM hX q.1] at q;omega
        rw [if_neg h1];omega
      · rw [Dg k2,Dg k2,hl]
        have k1:=(b.kind M hM).resolve_right k2
        by_cases c2:X.h=M.h
        · have:=b.same hX hM c2
          rw [if_pos c2,if_pos ⟨c2.symm,by rw [this];exact k1⟩];omega
        · rw [if_neg c2,if_neg fun q=>c2 q.1.symm];omega
  · obtain ⟨N,hN,rfl⟩:=B7 hM
    refine ⟨N,hN,?_⟩
    split<;>rfl
  · have hne:X.h≠M.h:=fun q=>w (.inr ⟨q.symm,by rw [b.same hX hM q];exact k2⟩)
    refine ⟨fun q=>w (.inl q),Nu (by rw [hl,if_neg hne];exact b.lnk_dir hM k2) (by rw [hl,if_neg hne];rfl) fun K hK e he _=>?_⟩
    refine ⟨_,Dl (d:=D.h) (f:=fun N=>⟨N.h,N.kind,N.change,N.s,N.holes,Bj nm X.h N.es,N.pins⟩) hK,?_⟩
    by_cases c:K.h=D.h
    · rw [if_pos c];exact ⟨rfl,(E2 nm X.h K.es).mem_iff.2 (List.mem_cons_of_mem _ he)⟩
    · rw [if_neg c];exact ⟨rfl,he⟩
theorem Ej.leave (s:Ej most dl ud ps gs l A ts) (b:TI0 most ts lz A) {D X:AN} (hD:D∈A) (hX:X∈A) (hk:D.kind=2) {e:Bk} (he:e∈D.es) (hx:e.2=X.h):Ej most (fun h=>dl h+(if h=D.h∧X.kind=2 then 1 else 0)+(if h=X.h∧X.kind=1 then 1 else 0)) (fun h=>ud h∨(h=X.h∧X.kind=2)) ps gs l (Al A D.h e.1) ts:=by
  have hid:∀ y,A4 (Al A D.h e.1) y=A4 A y:=J8 A D.h e.1
  have hfe:(fun z:Bk=>A4 (Al A D.h e.1) z.2)=fun z=>A4 A z.2:=funext fun z=>hid z.2
  have hl:∀ h,A7 (Al A D.h e.1) h+(if X.h=h then 1 else 0)=A7 A h:=fun h=>by have:=Dn b.nod hD (b.nms D hD) he h;rwa [hx] at this
  refine s.ents (fun M hM=>⟨_,Dl (d:=D.h) (f:=fun N=>⟨N.h,N.kind,N.change,N.s,N.holes,N.es.filter fun x=>!decide (x.1=e.1),N.pins⟩) hM,?_⟩) (fun M hM=>?_) fun M hM k2 w=>?_
  · by_cases c:M.h=D.h
    · have:=b.same hM hD c
      subst this
      rw [if_pos rfl]
      refine ⟨rfl,rfl,rfl,rfl,rfl,?_⟩
      rw [D9 (N:=⟨M.h,M.kind,M.change,M.s,M.holes,M.es.filter fun x=>!decide (x.1=e.1),M.pins⟩) hk,D9 hk,hfe]
      have h2:=Sr A (b.nms M hM) he
      rw [hx,Dc b.nod hX] at h2
      show 2+(((M.es.filter fun x=>!decide (x.1=e.1)).countP fun e=>A4 A e.2:Nat):Int)+_=_
      have h1:¬(M.h=X.h∧X.kind=1):=fun q=>by rw [← b.same hM hX q.1] at q;omega
      rw [if_neg h1]
      by_cases c2:X.kind=2
      · simp [c2] at h2 ⊢;omega
      · simp [c2] at h2 ⊢;omega
    · rw [if_neg c]
      refine ⟨rfl,rfl,rfl,rfl,rfl,?_⟩
      have h0:¬(M.h=D.h∧X.kind=2):=fun q=>c q.1
      rw [if_neg h0]
      by_cases k2:M.kind=2
      · rw [D9 k2,D9 k2,hfe]
        have h1:¬(M.h=X.h∧X.kind=1):=fun q=>by rw [← b.same hM hX q.1] at q;omega
        rw [if_neg h1];omega
      · have h2:=hl M.h
        rw [Dg k2,Dg k2]
        have k1:=(b.kind M hM).resolve_right k2
        by_cases c2:X.h=M.h
        · have:=b.same hX hM c2
          rw [if_pos c2] at h2
          rw [if_pos ⟨c2.symm,by rw [this];exact k1⟩];omega
        · rw [if_neg c2] at h2
          rw [if_neg fun q=>c2 q.1.symm];omega
  · obtain ⟨N,hN,rfl⟩:=B7 hM
    refine ⟨N,hN,?_⟩
    split<;>rfl
  · have hne:X.h≠M.h:=fun q=>w (.inr ⟨q.symm,by rw [b.same hX hM q];exact k2⟩)
    have h2:=hl M.h
    rw [if_neg hne] at h2
    refine ⟨fun q=>w (.inl q),Nu (by have:=b.lnk_dir hM k2;omega) (by omega) fun K hK z hz hzh=>?_⟩
    refine ⟨_,Dl (d:=D.h) (f:=fun N=>⟨N.h,N.kind,N.change,N.s,N.holes,N.es.filter fun x=>!decide (x.1=e.1),N.pins⟩) hK,?_⟩
    by_cases c:K.h=D.h
    · have:=b.same hK hD c
      subst this
      rw [if_pos rfl]
      refine ⟨rfl,List.mem_filter.2 ⟨hz,?_⟩⟩
      simp only [Bool.not_eq_true',decide_eq_false_iff_not]
      intro q
      have h3:=Ly (b.nms K hK) he
      have:z∈K.es.filter fun x=>decide (x.1=e.1):=List.mem_filter.2 ⟨hz,decide_eq_true q⟩
      rw [h3] at this
      rw [List.mem_singleton.1 this] at hzh
      exact hne (hx.symm.trans hzh)
    · rw [if_neg c];exact ⟨rfl,hz⟩
end
theorem T0 {α β:Type} [DecidableEq α] {k:α} {v:β}:∀ {kv:List (α×β)},(∀ p∈kv,p.1≠k)→Az kv k v=kv++[(k,v)]
  | [],_=>rfl
  | p::r,h=>by
    unfold Az
    rw [if_neg fun c=>h p (by simp) c.symm,T0 fun q hq=>h q (List.mem_cons_of_mem _ hq)]
    rfl
theorem Mt {α β:Type} [DecidableEq α] (k:α) (kv:List (α×β)) (hn:(kv.map (·.1)).Nodup):Ak kv k=kv.filter fun p=>!decide (p.1=k):=by
  have:=Io k (fun _=>true) kv hn
  rw [List.filter_eq_self.2 (fun _ _=>rfl)] at this
  simpa using this
section
variable {ds:List DN} {A:List AN} {most:Nat} {ts:List Int} {lz:Hdl→Nat}
theorem Hi.shp {B:List AN} (s:Hi ds A) (hs:shp B=shp A):Hi ds B:=by
  refine ⟨s.dk,fun d hd=>?_,fun M hM hk=>?_⟩
  · obtain ⟨M,hM,h1,h2,h3⟩:=s.dm d hd
    have:(M.h,M.kind,M.es)∈Go.Proofs.YtpojpkhpddnmjaaGreatDoor.shp B:=by rw [hs];exact List.mem_map.2 ⟨M,hM,rfl⟩
    obtain ⟨N,hN,q⟩:=List.mem_map.1 this
    refine ⟨N,hN,(congrArg Prod.fst q).trans h1,(congrArg (fun t:Hdl×Int×List Bk=>t.2.1) q).trans h2,?_⟩
    have e:N.es=M.es:=congrArg (fun t:Hdl×Int×List Bk=>t.2.2) q
    rw [e];exact h3
  · have:(M.h,M.kind,M.es)∈Go.Proofs.YtpojpkhpddnmjaaGreatDoor.shp A:=by rw [← hs];exact List.mem_map.2 ⟨M,hM,rfl⟩
    obtain ⟨N,hN,q⟩:=List.mem_map.1 this
    obtain ⟨d,hd,e⟩:=s.da N hN ((congrArg (fun t:Hdl×Int×List Bk=>t.2.1) q).trans hk)
    exact ⟨d,hd,e.trans (congrArg Prod.fst q)⟩
theorem Hi.upd (s:Hi ds A) (b:TI0 most ts lz A) {D:AN} (hD:D∈A) {j:Nat} {d:DN} (hj:ds[j]?=some d) (hd:d.h=D.h) {f:AN→AN} (hf:∀ M,(f M).h=M.h∧(f M).kind=M.kind) {d':DN} (hd':d'.h=d.h) (hr:ER d.es D.es→ER d'.es (f D).es):Hi (ds.set j d') (Cy A D.h f):=by
  have hjl:=(List.getElem?_eq_some_iff.1 hj).1
  have hkeys:(ds.set j d').map (·.h)=ds.map (·.h):=by
    rw [List.map_set,hd']
    exact Hz _ j _ (by rw [List.getElem?_map,hj];rfl)
  refine ⟨by rw [hkeys];exact s.dk,fun x hx=>?_,fun M hM hk=>?_⟩
  · obtain ⟨i,hi⟩:=List.getElem?_of_mem hx
    by_cases c:j=i
    rotate_left
    · rw [List.getElem?_set_ne c] at hi
      obtain ⟨M,hM,h1,h2,h3⟩:=s.dm x (List.mem_of_getElem? hi)
      have hm:=Dl (d:=D.h) (f:=f) hM
      have hne:M.h≠D.h:=fun q=>by
        have hp:=List.pairwise_iff_getElem.1 s.dk
        obtain ⟨hi1,hi2⟩:=List.getElem?_eq_some_iff.1 hi
        obtain ⟨hj1,hj2⟩:=List.getElem?_eq_some_iff.1 hj
        have e:x.h=d.h:=h1.symm.trans (q.trans hd.symm)
        rcases Nat.lt_or_gt_of_ne c with hlt|hlt
        · exact hp j i (by simpa using hj1) (by simpa using hi1) hlt (by simp only [List.getElem_map,hi2,hj2,e])
        · exact hp i j (by simpa using hi1) (by simpa using hj1) hlt (by simp only [List.getElem_map,hi2,hj2,e])
      rw [if_neg hne] at hm;exact ⟨M,hm,h1,h2,h3⟩
    · subst c
      rw [List.getElem?_set_self hjl] at hi
      obtain rfl:=Option.some.inj hi
      obtain ⟨M,hM,h1,h2,h3⟩:=s.dm d (List.mem_of_getElem? hj)
      have:=b.same hM hD (h1.trans hd)
      subst this
      have hm:=Dl (d:=M.h) (f:=f) hM
      rw [if_pos rfl] at hm
      exact ⟨f M,hm,(hf M).1.trans (h1.trans hd'.symm),(hf M).2.trans h2,hr h3⟩
  · obtain ⟨N,hN,rfl⟩:=B7 hM
    have e:(if N.h=D.h then f N else N).h=N.h∧(if N.h=D.h then f N else N).kind=N.kind:=by split;exact hf N;exact ⟨rfl,rfl⟩
    rw [e.2] at hk
    obtain ⟨x,hx,e2⟩:=s.da N hN hk
    have:x.h∈(ds.set j d').map (·.h):=by rw [hkeys];exact List.mem_map.2 ⟨x,hx,rfl⟩
    obtain ⟨y,hy,e3⟩:=List.mem_map.1 this
    exact ⟨y,hy,by rw [e.1];exact e3.trans e2⟩
theorem Hi.enter (s:Hi ds A) (b:TI0 most ts lz A) {D:AN} (hD:D∈A) {j:Nat} {d:DN} (hj:ds[j]?=some d) (hd:d.h=D.h) {nm:ByteArray} (hno:∀ e∈D.es,e.1≠nm) (x:Hdl):Hi (ds.set j { d with es:=Az d.es nm x }) (Aw A D.h nm x):=
  s.upd b hD hj hd (f:=fun N=>⟨N.h,N.kind,N.change,N.s,N.holes,Bj nm x N.es,N.pins⟩) (d':={ d with es:=Az d.es nm x }) (fun _=>⟨rfl,rfl⟩) rfl fun r=>by
    have hn:∀ p∈d.es,p.1≠nm:=fun p hp=>hno p (r.perm.mem_iff.1 hp)
    show ER (Az d.es nm x) (Bj nm x D.es)
    rw [T0 hn]
    refine ⟨?_,?_⟩
    · rw [List.map_append]
      refine List.nodup_append.2 ⟨r.nd,by simp,fun a ha c hc e=>?_⟩
      obtain ⟨p,hp,rfl⟩:=List.mem_map.1 ha
      simp only [List.map_cons,List.map_nil,List.mem_singleton] at hc
      exact hn p hp (e.trans hc)
    · exact ((r.perm.append_right _).trans (List.perm_append_comm)).trans (E2 nm x D.es).symm
theorem Hi.leave (s:Hi ds A) (b:TI0 most ts lz A) {D:AN} (hD:D∈A) {j:Nat} {d:DN} (hj:ds[j]?=some d) (hd:d.h=D.h) (nm:ByteArray):Hi (ds.set j { d with es:=Ak d.es nm }) (Al A D.h nm):=
  s.upd b hD hj hd (f:=fun N=>⟨N.h,N.kind,N.change,N.s,N.holes,N.es.filter fun x=>!decide (x.1=nm),N.pins⟩) (d':={ d with es:=Ak d.es nm }) (fun _=>⟨rfl,rfl⟩) rfl fun r=>by
    show ER (Ak d.es nm) (D.es.filter fun x=>!decide (x.1=nm))
    rw [Mt nm d.es r.nd]
    exact ⟨(List.filter_sublist.map _).nodup r.nd,r.perm.filter _⟩
theorem Hi.add (s:Hi ds A) {N:AN} (hN:N.es=[]) (hk:N.kind=2) (hno:∀ M∈A,M.h≠N.h) (mb:Nat):Hi (ds++[⟨N.h,mb,[]⟩]) (A++[N]):=by
  refine ⟨?_,fun d hd=>?_,fun M hM hkM=>?_⟩
  · rw [List.map_append]
    refine List.nodup_append.2 ⟨s.dk,by simp,fun a ha c hc e=>?_⟩
    obtain ⟨d,hd,rfl⟩:=List.mem_map.1 ha
    simp only [List.map_cons,List.map_nil,List.mem_singleton] at hc
    obtain ⟨M,hM,h1,_⟩:=s.dm d hd
    exact hno M hM (h1.trans (e.trans hc))
  · rcases List.mem_append.1 hd with hd|hd
    · obtain ⟨M,hM,h⟩:=s.dm d hd;exact ⟨M,List.mem_append_left _ hM,h⟩
    · obtain rfl:=List.mem_singleton.1 hd
      exact ⟨N,List.mem_append_right _ (by simp),rfl,hk,by rw [hN];exact ⟨List.nodup_nil,List.Perm.refl _⟩⟩
  · rcases List.mem_append.1 hM with hM|hM
    · obtain ⟨d,hd,e⟩:=s.da M hM hkM;exact ⟨d,List.mem_append_left _ hd,e⟩
    · obtain rfl:=List.mem_singleton.1 hM
      exact ⟨⟨M.h,mb,[]⟩,List.mem_append_right _ (by simp),rfl⟩
theorem Hi.addF (s:Hi ds A) {N:AN} (hk:¬N.kind=2):Hi ds (A++[N]):=by
  refine ⟨s.dk,fun d hd=>?_,fun M hM hkM=>?_⟩
  · obtain ⟨M,hM,h⟩:=s.dm d hd;exact ⟨M,List.mem_append_left _ hM,h⟩
  · rcases List.mem_append.1 hM with hM|hM
    · exact s.da M hM hkM
    · rw [List.mem_singleton.1 hM] at hkM;exact absurd hkM hk
theorem Hi.files (s:Hi ds A) (p:AN→Bool) (hp:∀ M∈A,M.kind=2→p M=true):Hi ds (A.filter p):=by
  refine ⟨s.dk,fun d hd=>?_,fun M hM hkM=>s.da M (List.mem_filter.1 hM).1 hkM⟩
  obtain ⟨M,hM,h1,h2,h3⟩:=s.dm d hd
  exact ⟨M,List.mem_filter.2 ⟨hM,hp M hM h2⟩,h1,h2,h3⟩
end
theorem Own.dirSub {w0 w:World} {E:Ent} {M:List Res} {ds ds':List DN} (h:Own w0 E (Ef ds::M) w) (hs:ds'.Sublist ds):Own w0 E (Ef ds'::M) w:=Own.allSub h (hs.map _)
theorem Afw {ds:List DN} (hn:(ds.map (·.h)).Nodup) (x:Hdl):Ak (ds.map Bq) x=(ds.filter fun d=>!(d.h==x)).map Bq:=by
  have e:(ds.map Bq).map (·.1)=ds.map (·.h):=by rw [List.map_map];rfl
  rw [Mt x _ (by rw [e];exact hn),List.filter_map]
  congr 1
  refine List.filter_congr fun d _=>?_
  show (!decide (d.h=x))=!(d.h==x)
  by_cases c:d.h=x<;>simp [c]
theorem Db {ps:List (Option Nat)} {gs:List Int} {k i nb:Nat} {g:Int} (h:Bm ps gs (i:Int) g=some nb) (hn:k≠i):Bm (ps.set k none) gs (i:Int) g=some nb:=by
  have hl:i<ps.length∧i<gs.length:=by
    unfold Bm at h
    split at h
    · cases h
    · rename_i hb
      refine ⟨by omega,?_⟩
      simp only [Int.toNat_natCast] at h
      split at h
      · rename_i h1 h2;exact (List.getElem?_eq_some_iff.1 h2).1
      · cases h
  rw [← h,Hk (List.getElem?_eq_getElem hl.1) (List.getElem?_eq_getElem hl.2),Hk (p:=ps[i]) (x:=gs[i]) (by rw [List.getElem?_set_ne hn,List.getElem?_eq_getElem hl.1]) (List.getElem?_eq_getElem hl.2)]
section
variable {B:Nat} (ad:Nat→Addr) (b most tb dm pm:Nat) (ps:List (Option Nat)) (gs:List Int) (vl vg:Value) (T:TypeId) (Sl Sg:Nat→Prop) (l:List (Option ND)) (ds:List DN) (pn:List ((Int×Int)×Int)) (hl:ps.length=gs.length) (hr:∀ x∈gs,0≤x∧x≤1000000) (k:Nat) (g:Int) (N:ND) (hlk:l[k]?=some (some N)) (ha:Bm ps gs (k:Int) g=some N.nb)
include B ad b most tb dm pm ps gs vl vg T Sl Sg l ds pn hl hr k g N hlk ha
theorem Ll (kd:Nat) (gd:Int) (Nd:ND) (hlkd:l[kd]?=some (some Nd)) (had:Bm ps gs (kd:Int) gd=some Nd.nb) (hne:k≠kd) (hkp:k<ps.length) (hdd:(ds.map (·.h)).Nodup) (j:Nat) (d:DN) (hj:ds[j]?=some d) (hdh:d.h=((k:Int),g)) (hli:0≤Nd.links∧Nd.links≤1000000):Ap Tryz.prog 56 #[Pp b,Hg k g,Hg kd gd] [Rb b tb most dm pm,B5 tb ps gs vl vg T Sl Sg,Cn l,Ci true dm hk (ds.map Bq),Ef ds,Ci true pm hk (pn.map Cz),Bs B ad [10]] (fun u L=>L=[Rb b tb most dm pm,B5 tb (ps.set k none) gs vl vg T Sl Sg,Cn ((l.set k none).set kd (some (Am Nd (-1)))),Ci true dm hk ((ds.filter fun d=>!(d.h==((k:Int),g))).map Bq),Ef (ds.filter fun d=>!(d.h==((k:Int),g))),Ci true pm hk (pn.map Cz),Bs B ad [10]]):=by
 refine Zo 41 Tryz.func56 fun E w0 w h=>?_
 refine Qs (ZN [Ii k,Ii g] 34 h fun k1 w h=>ZN [Ii kd,Ii gd] 34 h fun k2 w h=>Qn (Aa (Aa (Ds 11 [1,1,3] h fun w h=>Dp 0 16 (Pp b) [1,1,3] h (Dp 1 17 (Pp b) [1,1,3] h (Dp 2 19 (Pt b 4) [1,1,3] h (Dq 3 23 [1,1,3] rfl h (Gl 4 (.map (some dm)) 1) (Dq 4 15 [1,1,3] rfl h (Gla 0 [Ii k,Ii g] 0) (Dq 5 31 [1,1,3] rfl h (A1 (v':=.tuple #[.map (some d.mb),.bool true]) (Gkd (kv:=ds.map Bq) true ((k:Int),g) 2 rfl) (by rw [show Ae (ds.map Bq) ((k:Int),g)=_ from hdh▸Cs hdd hj];rfl)) (Dp 6 63 (.tuple #[.map (some d.mb),.bool true]) [1,1,3] h (Dp 7 383 (.map (some d.mb)) [1,1,3] h (Dp 8 767 (.bool true) [1,1,3] h (Dp 9 511 (.map (some d.mb)) [1,1,3] h (Dp 10 1023 (.bool true) [1,1,3] h (Dd (Af (Qs (ZP (.bool true) (Qg (Aa (Ds 6 [1,1] h fun w h=>Dp 0 16 (Pp b) [1,1] h (Dp 1 17 (Pp b) [1,1] h (Dp 2 19 (Pt b 4) [1,1] h (Dq 3 23 [1,1] rfl h (Gl 4 (.map (some dm)) 1) (Dq 4 15 [1,1] rfl h (Gla 0 [Ii k,Ii g] 0) ?_)))))))))))))))))))))))))
 refine Ay [5] (by kernel_rfl) rfl ?_
 refine Ik [1,1] rfl (by kernel_rfl) (K:=34) (E:=82) Dm ((k:Int),g) (by kernel_rfl) h 5 rfl ?_ ?_
 intro w h;refine ⟨by kernel_rfl,?_⟩
 refine Dd (Af (Aa (Ds 6 [1,1] h fun w h=>Dp 0 16 (Pp b) [1,1] h (Dp 1 17 (Pp b) [1,1] h (Dp 2 19 (Pp b) [1,1] h (Dq 3 23 [1,1] rfl h (Gl 0 (Pp tb) 1) (Dq 4 15 [1,1] rfl h (Gla 0 [Ii k,Ii g] 0) ?_)))))))
 refine Ad 5 [3,3,6] [4,4] (Jj ad tb k N.nb g ps gs vl vg T Sl Sg l hl hr hkp ha) h ?_
 rintro v_ L_ w ⟨rfl,rfl⟩ h
 refine ⟨by kernel_rfl,?_⟩
 refine Dd (Af (Qs (ZP (Pp b) (ZG h (Gla 0 [Ii kd,Ii gd] 3) ?_))))
 refine ZD [5,0,0,0] (Da ad b most tb dm pm (ps.set k none) gs vl vg T Sl Sg (l.set k none) ds pn (by rw [List.length_set];exact hl) hr (kd:Int) gd kd Nd (A3 hlkd hne) (Db had hne) (-1) (by omega) hli) h ?_;rintro _ L_ w rfl h
 refine Qr (Au ?_)
 rw [Afw hdd] at h
 have h:=(h.pkr [7]).dirSub (ds':=ds.filter fun d=>!(d.h==((k:Int),g))) List.filter_sublist
 exact ZR [] [1,1,1,4,0,3,0] h rfl
 exact Bb
theorem Lm (kd gd:Int) (hkp:k<ps.length) (hno:∀ d∈ds,d.h≠((k:Int),g)) (hli:0≤N.links∧N.links≤1000000) (hch:0≤N.change∧N.change≤1000000) (h0:N.links+-1=0∧(Ae pn ((k:Int),g)).getD 0=0):Ap Tryz.prog 56 #[Pp b,Hg k g,Hg kd gd] [Rb b tb most dm pm,B5 tb ps gs vl vg T Sl Sg,Cn l,Ci true dm hk (ds.map Bq),Ef ds,Ci true pm hk (pn.map Cz),Bs B ad [10]] (fun u L=>L=[Rb b tb most dm pm,B5 tb (ps.set k none) gs vl vg T Sl Sg,Cn (((l.set k (some (Am N (-1)))).set k (some (Ab (Am N (-1))))).set k none),Ci true dm hk (ds.map Bq),Ef ds,Ci true pm hk (pn.map Cz),Bs B ad [10]]):=by
 refine Zo 41 Tryz.func56 fun E w0 w h=>?_
 refine Qs (ZN [Ii k,Ii g] 34 h fun k1 w h=>ZN [Ii kd,Ii gd] 34 h fun k2 w h=>Qn (Aa (Aa (Ds 11 [1,1,3] h fun w h=>Dp 0 16 (Pp b) [1,1,3] h (Dp 1 17 (Pp b) [1,1,3] h (Dp 2 19 (Pt b 4) [1,1,3] h (Dq 3 23 [1,1,3] rfl h (Gl 4 (.map (some dm)) 1) (Dq 4 15 [1,1,3] rfl h (Gla 0 [Ii k,Ii g] 0) (Dq 5 31 [1,1,3] rfl h (A1 (v':=.tuple #[.map none,.bool false]) (Gkd (kv:=ds.map Bq) true ((k:Int),g) 2 rfl) (by rw [C6 hno];rfl)) (Dp 6 63 (.tuple #[.map none,.bool false]) [1,1,3] h (Dp 7 383 (.map none) [1,1,3] h (Dp 8 767 (.bool false) [1,1,3] h (Dp 9 511 (.map none) [1,1,3] h (Dp 10 1023 (.bool false) [1,1,3] h (Dd (Af (Qs (ZP (.bool false) (Fs (ZP (Pp b) (ZG h (Gla 0 [Ii k,Ii g] 1) ?_)))))))))))))))))))))
 refine ZD [2,2,2,5] (Da ad b most tb dm pm ps gs vl vg T Sl Sg l ds pn hl hr (k:Int) g k N hlk ha (-1) (by omega) hli) h ?_;rintro _ L_ w rfl h
 refine Qn (Aa (Ds 6 [0,4] h fun w h=>Dp 0 16 (Pp b) [0,4] h (Dp 1 17 (Pp b) [0,4] h (Dp 2 19 (Pp b) [0,4] h (Dq 3 23 [0,4] rfl h (Gl 0 (Pp tb) 0) (Dq 4 15 [0,4] rfl h (Gla 0 [Ii k,Ii g] 1) ?_))))))
 refine Ad 5 [1,1,1] [3,4] (Br ad tb ps gs vl vg T Sl Sg (l.set k (some (Am N (-1)))) hl hr (k:Int) g k (Am N (-1)) (C2 (C1 hlk)) ha hch) h ?_
 rintro v_ L_ w ⟨rfl,rfl⟩ h
 refine ⟨by kernel_rfl,?_⟩
 refine Dd (Af (Ah (ZP (Pp b) (ZG h (Gla 0 [Ii k,Ii g] 5) ?_))))
 refine ZD [3,0,0,5,0] (H7 ad b most tb dm pm ps gs vl vg T Sl Sg ((l.set k (some (Am N (-1)))).set k (some (Ab (Am N (-1))))) ds pn hl hr k g (Ab (Am N (-1))) (C2 (by rw [List.length_set];exact C1 hlk)) ha hkp h0) h ?_;rintro _ L_ w rfl h
 exact Ct (ZR [] [0,0,0,4,4,0,0] h rfl)
theorem Lg (kd gd:Int) (hkp:k<ps.length) (hno:∀ d∈ds,d.h≠((k:Int),g)) (hli:0≤N.links∧N.links≤1000000) (hch:0≤N.change∧N.change≤1000000) (h0:¬(N.links+-1=0∧(Ae pn ((k:Int),g)).getD 0=0)):Ap Tryz.prog 56 #[Pp b,Hg k g,Hg kd gd] [Rb b tb most dm pm,B5 tb ps gs vl vg T Sl Sg,Cn l,Ci true dm hk (ds.map Bq),Ef ds,Ci true pm hk (pn.map Cz),Bs B ad [10]] (fun u L=>L=[Rb b tb most dm pm,B5 tb ps gs vl vg T Sl Sg,Cn ((l.set k (some (Am N (-1)))).set k (some (Ab (Am N (-1))))),Ci true dm hk (ds.map Bq),Ef ds,Ci true pm hk (pn.map Cz),Bs B ad [10]]):=by
 refine Zo 41 Tryz.func56 fun E w0 w h=>?_
 refine Qs (ZN [Ii k,Ii g] 34 h fun k1 w h=>ZN [Ii kd,Ii gd] 34 h fun k2 w h=>Qn (Aa (Aa (Ds 11 [1,1,3] h fun w h=>Dp 0 16 (Pp b) [1,1,3] h (Dp 1 17 (Pp b) [1,1,3] h (Dp 2 19 (Pt b 4) [1,1,3] h (Dq 3 23 [1,1,3] rfl h (Gl 4 (.map (some dm)) 1) (Dq 4 15 [1,1,3] rfl h (Gla 0 [Ii k,Ii g] 0) (Dq 5 31 [1,1,3] rfl h (A1 (v':=.tuple #[.map none,.bool false]) (Gkd (kv:=ds.map Bq) true ((k:Int),g) 2 rfl) (by rw [C6 hno];rfl)) (Dp 6 63 (.tuple #[.map none,.bool false]) [1,1,3] h (Dp 7 383 (.map none) [1,1,3] h (Dp 8 767 (.bool false) [1,1,3] h (Dp 9 511 (.map none) [1,1,3] h (Dp 10 1023 (.bool false) [1,1,3] h (Dd (Af (Qs (ZP (.bool false) (Fs (ZP (Pp b) (ZG h (Gla 0 [Ii k,Ii g] 1) ?_)))))))))))))))))))))
 refine ZD [2,2,2,5] (Da ad b most tb dm pm ps gs vl vg T Sl Sg l ds pn hl hr (k:Int) g k N hlk ha (-1) (by omega) hli) h ?_;rintro _ L_ w rfl h
 refine Qn (Aa (Ds 6 [0,4] h fun w h=>Dp 0 16 (Pp b) [0,4] h (Dp 1 17 (Pp b) [0,4] h (Dp 2 19 (Pp b) [0,4] h (Dq 3 23 [0,4] rfl h (Gl 0 (Pp tb) 0) (Dq 4 15 [0,4] rfl h (Gla 0 [Ii k,Ii g] 1) ?_))))))
 refine Ad 5 [1,1,1] [3,4] (Br ad tb ps gs vl vg T Sl Sg (l.set k (some (Am N (-1)))) hl hr (k:Int) g k (Am N (-1)) (C2 (C1 hlk)) ha hch) h ?_
 rintro v_ L_ w ⟨rfl,rfl⟩ h
 refine ⟨by kernel_rfl,?_⟩
 refine Dd (Af (Ah (ZP (Pp b) (ZG h (Gla 0 [Ii k,Ii g] 5) ?_))))
 refine ZD [3,0,0,5,0] (H8 ad b most tb dm pm ps gs vl vg T Sl Sg ((l.set k (some (Am N (-1)))).set k (some (Ab (Am N (-1))))) ds pn hl hr k g (Ab (Am N (-1))) (C2 (by rw [List.length_set];exact C1 hlk)) ha hkp h0) h ?_;rintro _ L_ w rfl h
 exact Ct (ZR [] [0,0,0,4,4,0,0] h rfl)
end
section
variable {most:Nat} {ps:List (Option Nat)} {gs:List Int} {l:List (Option ND)} {ds:List DN} {pn:List ((Int×Int)×Int)} {A:List AN} {ts:List Int} {dl dl':Hdl→Int} {ud ud':Hdl→Prop} {lz:Hdl→Nat}
theorem Ej.app (s:Ej most dl ud ps gs l A ts) (b:TI0 most ts lz A) {kf:Nat} (hkf:kf<most) (hu:Ey A kf=false) {N:ND} {K:AN} (hK:K.h=((kf:Int),Av ts kf)) (hes:K.es=[]) (hdl:∀ M∈A,dl' M.h=dl M.h) (hud:∀ M∈A,ud M.h→ud' M.h) (hr:NdD (A++[K]) dl' ud' N K):Ej most dl' ud' (ps.set kf (some N.nb)) (gs.set kf (Av ts kf+1)) (l.set kf (some N)) (A++[K]) (ts.set kf (Av ts kf+1)):=by
  have hlts:ts.length=most:=by rw [← s.gts];exact s.lgs
  have htk:Av (ts.set kf (Av ts kf+1)) kf=Av ts kf+1:=In (List.getElem?_set_self (by omega))
  have hts:∀ j:Nat,j≠kf→Av (ts.set kf (Av ts kf+1)) j=Av ts j:=fun j hj=>by
    show (ts.set kf (Av ts kf+1)).getD j 0=ts.getD j 0
    rw [List.getD_eq_getElem?_getD,List.getD_eq_getElem?_getD,List.getElem?_set_ne (Ne.symm hj)]
  refine ⟨by rw [List.length_set];exact s.lps,by rw [List.length_set];exact s.lgs,by rw [List.length_set];exact s.ll,by rw [s.gts],fun k hk=>?_⟩
  by_cases c:kf=k
  · subst c
    refine .inr ⟨N,K,List.getElem?_set_self (by rw [s.lps];exact hk),List.getElem?_set_self (by rw [s.ll];exact hk),List.mem_append_right _ (by simp),by rw [hK,htk];exact Prod.ext rfl (by show Av ts kf=Av ts kf+1 - 1;omega),hr⟩
  · rw [List.getElem?_set_ne c,List.getElem?_set_ne c,hts k (Ne.symm c)]
    rcases s.nd k hk with ⟨h1,h2,h3⟩|⟨P,M,h1,h2,hM,he,r⟩
    · refine .inl ⟨h1,h2,fun M hM=>?_⟩
      rcases List.mem_append.1 hM with hM|hM
      · exact h3 M hM
      · rw [List.mem_singleton.1 hM,hK];exact fun e=>c (by have e2:(kf:Int)=(k:Int):=e;omega)
    · refine .inr ⟨P,M,h1,h2,List.mem_append_left _ hM,he,?_⟩
      have hl:=K0 A K hes
      refine ⟨r.kind,r.chg,?_,fun z=>⟨(r.dird z).1,fun w=>?_⟩,r.filed⟩
      · rw [r.lnk,hdl M hM,Lb (A:=A) (B:=A++[K]) rfl rfl (fun _=>rfl) (fun e he=>Qw (b.ent M hM e he) K) (hl M.h)]
      · have w2:¬ud M.h:=fun q=>w (hud M hM q)
        rw [Nu (A:=A) (B:=A++[K]) (by rw [hl];exact b.lnk_dir hM z) (hl M.h) fun X hX e he _=>⟨X,List.mem_append_left _ hX,rfl,he⟩]
        exact (r.dird z).2 w2
theorem Ej.free (s:Ej most dl ud ps gs l A ts) (b:TI0 most ts lz A) {k:Nat} {K:AN} (hK:K∈A) (hh:K.h=((k:Int),Av ts k - 1)) (hes:K.es=[]) (h0:A7 A K.h=0):Ej most dl ud (ps.set k none) gs (l.set k none) (A.filter fun N=>!(N.h==K.h)) ts:=by
  have hp:∀ M∈A,(!(M.h==K.h))=false→M.es=[]:=fun M hM q=>by
    have e:M.h=K.h:=by simpa using q
    rw [b.same hM hK e];exact hes
  have hl:=G6 A (fun N=>!(N.h==K.h)) hp
  refine ⟨by rw [List.length_set];exact s.lps,s.lgs,by rw [List.length_set];exact s.ll,s.gts,fun i hi=>?_⟩
  by_cases c:k=i
  · subst c
    refine .inl ⟨List.getElem?_set_self (by rw [s.lps];exact hi),List.getElem?_set_self (by rw [s.ll];exact hi),fun M hM e=>?_⟩
    obtain ⟨hM,q⟩:=List.mem_filter.1 hM
    have hn:M.h≠K.h:=by simpa using q
    obtain ⟨j,_,e2⟩:=b.gen M hM
    have:(j:Int)=(k:Int):=by rw [← e,e2]
    have:j=k:=by omega
    subst this
    exact hn (e2.trans hh.symm)
  · rw [List.getElem?_set_ne c,List.getElem?_set_ne c]
    rcases s.nd i hi with ⟨h1,h2,h3⟩|⟨P,M,h1,h2,hM,he,r⟩
    · exact .inl ⟨h1,h2,fun M hM=>h3 M (List.mem_filter.1 hM).1⟩
    · have hne:M.h≠K.h:=fun q=>c (by rw [he,hh] at q;have:=congrArg Prod.fst q;omega)
      refine .inr ⟨P,M,h1,h2,List.mem_filter.2 ⟨hM,by simpa using hne⟩,he,?_⟩
      refine ⟨r.kind,r.chg,?_,fun z=>⟨(r.dird z).1,fun w=>?_⟩,r.filed⟩
      · rw [r.lnk,Lb (A:=A) (B:=A.filter fun N=>!(N.h==K.h)) rfl rfl (fun _=>rfl) (fun e he=>?_) (hl M.h)]
        obtain ⟨X,hX,e2⟩:=b.ent M hM e he
        have hx:X.h≠K.h:=fun q=>by have:=K3 hM he;rw [← e2,q,h0] at this;omega
        have hn2:((A.filter fun N=>!(N.h==K.h)).map (·.h)).Nodup:=(List.filter_sublist.map _).nodup b.nod
        rw [← e2,Dc hn2 (List.mem_filter.2 ⟨hX,by simpa using hx⟩),Dc b.nod hX]
      · rw [Nu (A:=A) (B:=A.filter fun N=>!(N.h==K.h)) (by rw [hl];exact b.lnk_dir hM z) (hl M.h) fun X hX e he _=>⟨X,List.mem_filter.2 ⟨hX,?_⟩,rfl,he⟩]
        · exact (r.dird z).2 w
        · have:X.h≠K.h:=fun q=>by rw [b.same hX hK q,hes] at he;cases he
          simpa using this
theorem Hi.gone (s:Hi ds A) (x:Hdl):Hi (ds.filter fun d=>!(d.h==x)) (A.filter fun N=>!(N.h==x)):=by
  refine ⟨(List.filter_sublist.map _).nodup s.dk,fun d hd=>?_,fun M hM hk=>?_⟩
  · obtain ⟨hd,q⟩:=List.mem_filter.1 hd
    obtain ⟨M,hM,h1,h2,h3⟩:=s.dm d hd
    exact ⟨M,List.mem_filter.2 ⟨hM,by rw [h1];exact q⟩,h1,h2,h3⟩
  · obtain ⟨hM,q⟩:=List.mem_filter.1 hM
    obtain ⟨d,hd,e⟩:=s.da M hM hk
    exact ⟨d,List.mem_filter.2 ⟨hd,by rw [e];exact q⟩,e⟩
end
section
variable {most:Nat} {ps:List (Option Nat)} {gs:List Int} {l:List (Option ND)} {ds:List DN} {pn:List ((Int×Int)×Int)} {A:List AN} {ts:List Int} {dl dl':Hdl→Int} {ud ud':Hdl→Prop} {lz:Hdl→Nat}
theorem Ej.file (s:Ej most dl ud ps gs l A ts) (b:TI0 most ts lz A) {k:Nat} {N N':ND} {M:AN} (hl:l[k]?=some (some N)) (hM:M∈A) (hh:M.h=((k:Int),Av ts k - 1)) (hb:N'.nb=N.nb) (f:AN→AN) (hf:∀ M,(f M).h=M.h∧(f M).kind=M.kind∧(f M).es=M.es) (hr:NdD A dl ud N M→N'.kind=N.kind∧N'.links=N.links∧N'.change=(f M).change∧N'.upn=N.upn∧N'.upg=N.upg∧M.kind=1∧∃ q,N'.dq=some q∧G1 q.d (f M).s (f M).holes):Ej most dl ud ps gs (l.set k (some N')) (Cy A M.h f) ts:=by
  have hkl:=(List.getElem?_eq_some_iff.1 hl).1
  have hs:=Hx A M.h f hf
  refine s.map (by simp) (fun K hK=>?_) (fun i hi q=>?_) (fun i P K hi q hK e r=>?_)
  · obtain ⟨K',hK',rfl⟩:=B7 hK
    refine ⟨K',hK',?_⟩
    split
    · exact (hf K').1.symm
    · rfl
  · by_cases c:k=i
    · subst c;rw [hl] at q;cases q
    · rw [List.getElem?_set_ne c];exact q
  · have hm:=Dl (d:=M.h) (f:=f) hK
    by_cases c:k=i
    · subst c
      rw [hl] at q;cases q
      have:=b.same hK hM (e.trans hh.symm)
      subst this
      rw [if_pos rfl] at hm
      obtain ⟨h1,h2,h3,h4,h5,h6,q,h7,h8⟩:=hr r
      refine ⟨N',f K,List.getElem?_set_self hkl,hb,hm,(hf K).1,⟨by rw [h1,(hf K).2.1];exact r.kind,h3,?_,fun z=>?_,fun _=>?_⟩⟩
      · rw [h2,r.lnk,Ox hs (hf K).1 (hf K).2.1 (hf K).2.2,(hf K).1]
      · rw [(hf K).2.1] at z;omega
      · have:=r.filed h6
        exact ⟨h4.trans this.1,h5.trans this.2.1,q,h7,h8⟩
    · have hne:K.h≠M.h:=fun x=>c (by rw [e,hh] at x;have:=congrArg Prod.fst x;omega)
      rw [if_neg hne] at hm
      exact ⟨P,K,by rw [List.getElem?_set_ne c];exact q,rfl,hm,rfl,r.shp hs rfl rfl rfl rfl rfl rfl⟩
theorem Ej.same (s:Ej most dl ud ps gs l A ts) (b:TI0 most ts lz A) {d:Hdl} (f:AN→AN) (hf:∀ M,(f M).h=M.h∧(f M).kind=M.kind∧(f M).es=M.es∧(f M).change=M.change∧(f M).s=M.s∧(f M).holes=M.holes):Ej most dl ud ps gs l (Cy A d f) ts:=by
  have hs:=Hx A d f fun M=>⟨(hf M).1,(hf M).2.1,(hf M).2.2.1⟩
  refine s.map rfl (fun K hK=>?_) (fun i hi q=>q) (fun i P K hi q hK e r=>?_)
  · obtain ⟨K',hK',rfl⟩:=B7 hK
    refine ⟨K',hK',?_⟩
    split
    · exact (hf K').1.symm
    · rfl
  · have hm:=Dl (d:=d) (f:=f) hK
    refine ⟨P,_,q,rfl,hm,?_,?_⟩
    · split
      · exact (hf K).1
      · rfl
    · split
      · obtain ⟨h1,h2,h3,h4,h5,h6⟩:=hf K
        exact r.shp hs h1 h2 h3 h4 h5 h6
      · exact r.shp hs rfl rfl rfl rfl rfl rfl
theorem Hy (b:TI0 most ts lz A) {K:AN} (hK:K∈A) (hk:K.kind=1) (hh:∀ M∈A,M.kind=1→M.h≠K.h→0<M.pins∨0<A7 A M.h):Gf A=if 0<K.pins∨0<A7 A K.h then A else Ex A K.h:=by
  have hkeep:∀ M∈A,M.h≠K.h→Eg A M=true:=fun M hM hne=>by
    unfold Eg
    rcases b.kind M hM with k1|k2
    · have k2:¬M.kind=2:=by omega
      rw [Dg k2]
      rcases hh M hM k1 hne with q|q
      · simp [q]
      · simp [q]
    · simp [k2]
  have hK2:¬K.kind=2:=by omega
  unfold Gf Ex
  by_cases c:0<K.pins∨0<A7 A K.h
  · rw [if_pos c,List.filter_eq_self]
    intro M hM
    by_cases e:M.h=K.h
    · rw [b.same hM hK e]
      unfold Eg
      rw [Dg hK2]
      rcases c with q|q
      · simp [q]
      · simp [q]
    · exact hkeep M hM e
  · rw [if_neg c]
    refine List.filter_congr fun M hM=>?_
    by_cases e:M.h=K.h
    · rw [b.same hM hK e]
      unfold Eg
      rw [Dg hK2]
      have h1:¬0<K.pins:=fun q=>c (.inl q)
      have h2:¬0<A7 A K.h:=fun q=>c (.inr q)
      simp [h1,h2,hK2]
    · rw [hkeep M hM e];simp [e]
end
section
variable {pn:List ((Int×Int)×Int)} {A B:List AN}
theorem G5.keep (s:G5 pn A) (h1:∀ M∈A,M.kind=1→0<M.pins→∃ N∈B,N.h=M.h∧N.kind=1∧N.pins=M.pins) (h2:∀ N∈B,N.kind=1→0<N.pins→∃ M∈A,M.h=N.h∧M.kind=1∧0<M.pins):G5 pn B:=by
  refine ⟨s.pk,fun p hp=>?_,fun N hN hk hp=>?_⟩
  · obtain ⟨q,M,hM,e1,e2,e3⟩:=s.pm p hp
    obtain ⟨N,hN,f1,f2,f3⟩:=h1 M hM e2 (by omega)
    exact ⟨q,N,hN,f1.trans e1,f2,f3.trans e3⟩
  · obtain ⟨M,hM,e1,e2,e3⟩:=h2 N hN hk hp
    obtain ⟨p,hp,e⟩:=s.pa M hM e2 e3
    exact ⟨p,hp,e.trans e1⟩
theorem G5.updK (s:G5 pn A) (d:Hdl) (f:AN→AN) (hf:∀ M,(f M).h=M.h∧(f M).kind=M.kind∧(f M).pins=M.pins):G5 pn (Cy A d f):=by
  refine s.keep (fun M hM hk hp=>⟨_,Dl (d:=d) (f:=f) hM,?_⟩) fun N hN hk hp=>?_
  · split
    · exact ⟨(hf M).1,(hf M).2.1.trans hk,(hf M).2.2⟩
    · exact ⟨rfl,hk,rfl⟩
  · obtain ⟨M,hM,rfl⟩:=B7 hN
    by_cases c:M.h=d
    · rw [if_pos c] at hk hp ⊢
      exact ⟨M,hM,(hf M).1.symm,(hf M).2.1.symm.trans hk,by rw [← (hf M).2.2];exact hp⟩
    · rw [if_neg c] at hk hp ⊢;exact ⟨M,hM,rfl,hk,hp⟩
theorem G5.app (s:G5 pn A) {K:AN} (hK:K.pins=0):G5 pn (A++[K]):=by
  refine s.keep (fun M hM hk hp=>⟨M,List.mem_append_left _ hM,rfl,hk,rfl⟩) fun N hN hk hp=>?_
  rcases List.mem_append.1 hN with hN|hN
  · exact ⟨N,hN,rfl,hk,hp⟩
  · rw [List.mem_singleton.1 hN] at hp;omega
theorem G5.filter (s:G5 pn A) (p:AN→Bool) (hp:∀ M∈A,M.kind=1→0<M.pins→p M=true):G5 pn (A.filter p):=
  s.keep (fun M hM hk hq=>⟨M,List.mem_filter.2 ⟨hM,hp M hM hk hq⟩,rfl,hk,rfl⟩) fun N hN hk hq=>⟨N,(List.mem_filter.1 hN).1,rfl,hk,hq⟩
end
theorem Pz {α β:Type} [DecidableEq α] (k:α) (v:β):∀ (kv:List (α×β)),(kv.map (·.1)).Nodup→((Az kv k v).map (·.1)).Nodup∧∀ p,p∈Az kv k v↔p=(k,v)∨(p∈kv∧p.1≠k)
  | [],_=>⟨by simp [Az],fun p=>by simp [Az]⟩
  | q::r,hn=>by
    rw [List.map_cons,List.nodup_cons] at hn
    obtain ⟨h1,h2⟩:=Pz k v r hn.2
    unfold Az
    by_cases c:k=q.1
    · subst c
      rw [if_pos rfl]
      refine ⟨by rw [List.map_cons,List.nodup_cons];exact hn,fun p=>?_⟩
      have hr:∀ p∈r,p.1≠q.1:=fun p hp e=>hn.1 (by rw [← e];exact List.mem_map.2 ⟨p,hp,rfl⟩)
      constructor
      · intro hp
        rcases List.mem_cons.1 hp with e|hp
        · exact .inl e
        · exact .inr ⟨List.mem_cons_of_mem _ hp,hr p hp⟩
      · rintro (e|⟨hp,hne⟩)
        · rw [e];simp
        · rcases List.mem_cons.1 hp with e|hp
          · exact absurd (by rw [e]) hne
          · exact List.mem_cons_of_mem _ hp
    · rw [if_neg c]
      refine ⟨?_,fun p=>?_⟩
      · rw [List.map_cons,List.nodup_cons]
        refine ⟨fun hq=>?_,h1⟩
        obtain ⟨p,hp,e⟩:=List.mem_map.1 hq
        rcases (h2 p).1 hp with e2|⟨hp,_⟩
        · rw [e2] at e;exact c e
        · exact hn.1 (by rw [← e];exact List.mem_map.2 ⟨p,hp,rfl⟩)
      · rw [List.mem_cons,h2 p,List.mem_cons]
        constructor
        · rintro (e|e|⟨h,h'⟩)
          · exact .inr ⟨.inl e,by rw [e];exact fun x=>c x.symm⟩
          · exact .inl e
          · exact .inr ⟨.inr h,h'⟩
        · rintro (e|⟨e|h,h'⟩)
          · exact .inr (.inl e)
          · exact .inl e
          · exact .inr (.inr ⟨h,h'⟩)
section
variable {pn:List ((Int×Int)×Int)} {A B:List AN} {most:Nat} {ts:List Int} {lz:Hdl→Nat}
theorem Xl {A:List AN} {M:AN} {x:Int} {N:AN} (hN:N∈Gv A M.h x):(N∈A∧N.h≠M.h)∨∃ K∈A,K.h=M.h∧N.h=K.h∧N.kind=K.kind∧N.pins=K.pins+x:=by
  obtain ⟨K,hK,rfl⟩:=B7 hN
  by_cases c:K.h=M.h
  · rw [if_pos c];exact .inr ⟨K,hK,c,rfl,rfl,rfl⟩
  · rw [if_neg c];exact .inl ⟨hK,c⟩
theorem G5.put (s:G5 pn A) (b:TI0 most ts lz A) {M:AN} (hM:M∈A) (hk:M.kind=1) {x:Int} (hv:0<M.pins+x):G5 (Az pn M.h (M.pins+x)) (Gv A M.h x):=by
  obtain ⟨h1,h2⟩:=Pz M.h (M.pins+x) pn s.pk
  have hM1:=Dl (d:=M.h) (f:=fun N=>⟨N.h,N.kind,N.change,N.s,N.holes,N.es,N.pins+x⟩) hM
  rw [if_pos rfl] at hM1
  refine ⟨h1,fun p hp=>?_,fun N hN hkN hpN=>?_⟩
  · rcases (h2 p).1 hp with rfl|⟨hp,hne⟩
    · exact ⟨hv,_,hM1,rfl,hk,rfl⟩
    · obtain ⟨q,K,hK,e1,e2,e3⟩:=s.pm p hp
      have hm:=Dl (d:=M.h) (f:=fun N=>⟨N.h,N.kind,N.change,N.s,N.holes,N.es,N.pins+x⟩) hK
      rw [if_neg (fun c=>hne (e1.symm.trans c))] at hm
      exact ⟨q,K,hm,e1,e2,e3⟩
  · rcases Xl hN with ⟨hN,hne⟩|⟨K,hK,c,e,_,_⟩
    · obtain ⟨p,hp,e⟩:=s.pa N hN hkN hpN
      exact ⟨p,(h2 p).2 (.inr ⟨hp,by rw [e];exact hne⟩),e⟩
    · exact ⟨_,(h2 _).2 (.inl rfl),(e.trans c).symm⟩
theorem G5.del (s:G5 pn A) (b:TI0 most ts lz A) {M:AN} (hM:M∈A) {x:Int} (hv:M.pins+x=0):G5 (Ak pn M.h) (Gv A M.h x):=by
  rw [Mt M.h pn s.pk]
  refine ⟨(List.filter_sublist.map _).nodup s.pk,fun p hp=>?_,fun N hN hkN hpN=>?_⟩
  · obtain ⟨hp,hne⟩:=List.mem_filter.1 hp
    have hne:p.1≠M.h:=by simpa using hne
    obtain ⟨q,K,hK,e1,e2,e3⟩:=s.pm p hp
    have hm:=Dl (d:=M.h) (f:=fun N=>⟨N.h,N.kind,N.change,N.s,N.holes,N.es,N.pins+x⟩) hK
    rw [if_neg (fun c=>hne (e1.symm.trans c))] at hm
    exact ⟨q,K,hm,e1,e2,e3⟩
  · rcases Xl hN with ⟨hN,hne⟩|⟨K,hK,c,e,_,e3⟩
    · obtain ⟨p,hp,e⟩:=s.pa N hN hkN hpN
      exact ⟨p,List.mem_filter.2 ⟨hp,by rw [e];simpa using hne⟩,e⟩
    · rw [b.same hK hM c] at e3;omega
end
structure SD (most:Nat) (dl:Hdl→Int) (ud:Hdl→Prop) (ps:List (Option Nat)) (gs:List Int) (l:List (Option ND)) (ds:List DN) (pn:List ((Int×Int)×Int)) (A:List AN) (ts:List Int):Prop where
  T:Ej most dl ud ps gs l A ts
  E:Hi ds A
  P:G5 pn A
section
variable {most:Nat} {ps:List (Option Nat)} {gs:List Int} {l:List (Option ND)} {ds:List DN} {pn:List ((Int×Int)×Int)} {A:List AN} {ts:List Int} {dl dl':Hdl→Int} {ud ud':Hdl→Prop} {lz:Hdl→Nat}
theorem Sk {ts:List Int} {k:Nat} (hk:k<ts.length) (x:Int):Av (ts.set k x) k=x:=In (List.getElem?_set_self hk)
theorem Tr {ts:List Int} {k j:Nat} (hn:k≠j) (x:Int):Av (ts.set k x) j=Av ts j:=by
  show (ts.set k x).getD j 0=ts.getD j 0
  rw [List.getD_eq_getElem?_getD,List.getD_eq_getElem?_getD,List.getElem?_set_ne hn]
theorem S6 (b:TI0 most ts lz A) {x:Hdl} (h:∀ M∈A,M.h≠x):A7 A x=0:=by
  cases c:A7 A x with
  | zero=>rfl
  | succ n=>
    obtain ⟨M,hM,e,he,e2⟩:=I7 (A:=A) (h:=x) (by omega)
    obtain ⟨K,hK,e3⟩:=b.ent M hM e he
    exact absurd (e3.trans e2) (h K hK)
theorem Cc {A:List AN} {d:Hdl} {f:AN→AN} {M:AN} (hM:M∈A) (hne:M.h≠d):M∈Cy A d f:=by
  have:=Dl (d:=d) (f:=f) hM
  rwa [if_neg hne] at this
theorem G3 {A:List AN} {f:AN→AN} {M:AN} (hM:M∈A):f M∈Cy A M.h f:=by
  have:=Dl (d:=M.h) (f:=f) hM
  rwa [if_pos rfl] at this
theorem Jz {A:List AN} {d:Hdl} {M:AN} (hM:M∈A) (hne:M.h≠d):M∈Ex A d:=List.mem_filter.2 ⟨hM,by simpa using hne⟩
theorem L5 (A:List AN) (d x:Hdl) (f:AN→AN) (hf:∀ M,(f M).h=M.h):Ex (Cy A d f) x=Cy (Ex A x) d f:=by
  unfold Ex Cy
  rw [List.filter_map]
  congr 1
  refine List.filter_congr fun N _=>?_
  simp only [Function.comp]
  split
  · rw [hf]
  · rfl
theorem Mp (A:List AN) {d x:Hdl} (hn:d≠x) (f g:AN→AN) (hf:∀ M,(f M).h=M.h) (hg:∀ M,(g M).h=M.h):Cy (Cy A d f) x g=Cy (Cy A x g) d f:=by
  unfold Cy
  rw [List.map_map,List.map_map]
  refine List.map_congr_left fun N _=>?_
  simp only [Function.comp]
  by_cases c:N.h=d
  · have c2:¬N.h=x:=fun e=>hn (c.symm.trans e)
    have a1:(N.h==d)=true:=by simpa using c
    have a2:(N.h==x)=false:=by simpa using c2
    have a3:((f N).h==x)=false:=by rw [hf];exact a2
    simp only [a1,a2,a3,if_true,Bool.false_eq_true,if_false]
  · have a1:(N.h==d)=false:=by simpa using c
    by_cases c2:N.h=x
    · have a2:(N.h==x)=true:=by simpa using c2
      have a3:((g N).h==d)=false:=by rw [hg];exact a1
      simp only [a1,a2,a3,if_true,Bool.false_eq_true,if_false]
    · have a2:(N.h==x)=false:=by simpa using c2
      simp only [a1,a2,Bool.false_eq_true,if_false]
theorem Tm {A:List AN} (hn:(A.map (·.h)).Nodup) (d:Hdl) (f:AN→AN) (hf:∀ M,(f M).h=M.h):((Cy A d f).map (·.h)).Nodup:=by rw [Qy A d f hf];exact hn
theorem Kv {A:List AN} (hn:(A.map (·.h)).Nodup) (d:Hdl):((Ao A d).map (·.h)).Nodup:=Tm hn d _ fun _=>rfl
theorem Yo {A:List AN} (hn:(A.map (·.h)).Nodup) (d:Hdl) (nm:ByteArray) (x:Hdl):((Aw A d nm x).map (·.h)).Nodup:=Tm hn d _ fun _=>rfl
theorem G5.touch (s:G5 pn A) (d:Hdl):G5 pn (Ao A d):=s.updK d _ fun _=>⟨rfl,rfl,rfl⟩
theorem G5.enter (s:G5 pn A) (d:Hdl) (nm:ByteArray) (x:Hdl):G5 pn (Aw A d nm x):=s.updK d _ fun _=>⟨rfl,rfl,rfl⟩
theorem Ej.cong (s:Ej most dl ud ps gs l A ts) (hd:∀ M∈A,dl' M.h=dl M.h) (hu:∀ M∈A,M.kind=2→ud M.h→ud' M.h):Ej most dl' ud' ps gs l A ts:=
  s.map rfl (fun M hM=>⟨M,hM,rfl⟩) (fun _ _ q=>q) fun k N M hk q hM e r=>⟨N,M,q,rfl,hM,rfl,⟨r.kind,r.chg,by rw [r.lnk,hd M hM],fun z=>⟨(r.dird z).1,fun w=>(r.dird z).2 fun v=>w (hu M hM z v)⟩,r.filed⟩⟩
theorem Ej.upOk (s:Ej most dl ud ps gs l A ts) (hn:(A.map (·.h)).Nodup) {k:Nat} {N:ND} {M:AN} (hl:l[k]?=some (some N)) (hM:M∈A) (hh:M.h=((k:Int),Av ts k - 1)) (hu:upA A M.h=(N.upn,N.upg)):Ej most dl (fun h=>ud h∧h≠M.h) ps gs l A ts:=by
  have:=s.set1 hn hl hM hh (N':=N) (dl':=dl) (ud':=fun h=>ud h∧h≠M.h) rfl (fun _ _=>rfl) (fun h hne q=>⟨q,hne⟩) fun r=>⟨r.kind,r.chg,r.lnk,fun z=>⟨(r.dird z).1,fun _=>by rw [hu];exact ⟨rfl,rfl⟩⟩,r.filed⟩
  rwa [Jy l k _ hl] at this
theorem SD.of_ (s:Sim most ps gs l ds pn A ts):SD most (fun _=>0) (fun _=>False) ps gs l ds pn A ts:=⟨s.parts.1,s.parts.2.1,s.parts.2.2⟩
theorem SD.fin (s:SD most dl ud ps gs l ds pn A ts) (hd:∀ M∈A,dl M.h=0) (hu:∀ M∈A,M.kind=2→¬ud M.h):Sim most ps gs l ds pn A ts:=Sim.of (s.T.cong (fun M hM=>(hd M hM).symm) fun M hM k q=>hu M hM k q) s.E s.P
theorem SD.cong (s:SD most dl ud ps gs l ds pn A ts) (hd:∀ M∈A,dl' M.h=dl M.h) (hu:∀ M∈A,M.kind=2→ud M.h→ud' M.h):SD most dl' ud' ps gs l ds pn A ts:=⟨s.T.cong hd hu,s.E,s.P⟩
section
variable (s:SD most dl ud ps gs l ds pn A ts) (b:TI0 most ts lz A)
include s b
theorem SD.touch {k:Nat} {N:ND} {M:AN} (hl:l[k]?=some (some N)) (hM:M∈A) (hh:M.h=((k:Int),Av ts k - 1)):SD most dl ud ps gs (l.set k (some (Ab N))) ds pn (Ao A M.h) ts:=
  ⟨s.T.touch b.nod hl hM hh,s.E.shp (Bn _ _),s.P.updK _ _ fun _=>⟨rfl,rfl,rfl⟩⟩
theorem SD.links {k:Nat} {N:ND} {M:AN} (hl:l[k]?=some (some N)) (hM:M∈A) (hh:M.h=((k:Int),Av ts k - 1)) (m:Int):SD most (fun h=>dl h+if h=M.h then m else 0) ud ps gs (l.set k (some (Am N m))) ds pn A ts:=
  ⟨s.T.links b.nod hl hM hh m,s.E,s.P⟩
theorem SD.keepUp {un ug:Int} {k:Nat} {N:ND} {M:AN} (hl:l[k]?=some (some N)) (hM:M∈A) (hh:M.h=((k:Int),Av ts k - 1)) (hk:M.kind=2) (z li:Int) (hu:upA A M.h=(un,ug)):SD most (fun h=>dl h+if h=M.h then li - N.links else 0) (fun h=>ud h∧h≠M.h) ps gs (l.set k (some (keepN N 2 z li un ug))) ds pn A ts:=
  ⟨s.T.keepUp b.nod hl hM hh hk z li hu,s.E,s.P⟩
theorem SD.upOk {k:Nat} {N:ND} {M:AN} (hl:l[k]?=some (some N)) (hM:M∈A) (hh:M.h=((k:Int),Av ts k - 1)) (hu:upA A M.h=(N.upn,N.upg)):SD most dl (fun h=>ud h∧h≠M.h) ps gs l ds pn A ts:=
  ⟨s.T.upOk b.nod hl hM hh hu,s.E,s.P⟩
theorem SD.enter {D X:AN} (hD:D∈A) (hX:X∈A) (hk:D.kind=2) {j:Nat} {d:DN} (hj:ds[j]?=some d) (hd:d.h=D.h) {nm:ByteArray} (hno:∀ e∈D.es,e.1≠nm):SD most (fun h=>dl h - (if h=D.h∧X.kind=2 then 1 else 0) - (if h=X.h∧X.kind=1 then 1 else 0)) (fun h=>ud h∨(h=X.h∧X.kind=2)) ps gs l (ds.set j { d with es:=Az d.es nm X.h }) pn (Aw A D.h nm X.h) ts:=
  ⟨s.T.enter b hD hX hk nm,s.E.enter b hD hj hd hno X.h,s.P.updK _ _ fun _=>⟨rfl,rfl,rfl⟩⟩
theorem SD.leave {D X:AN} (hD:D∈A) (hX:X∈A) (hk:D.kind=2) {e:Bk} (he:e∈D.es) (hx:e.2=X.h) {j:Nat} {d:DN} (hj:ds[j]?=some d) (hd:d.h=D.h):SD most (fun h=>dl h+(if h=D.h∧X.kind=2 then 1 else 0)+(if h=X.h∧X.kind=1 then 1 else 0)) (fun h=>ud h∨(h=X.h∧X.kind=2)) ps gs l (ds.set j { d with es:=Ak d.es e.1 }) pn (Al A D.h e.1) ts:=
  ⟨s.T.leave b hD hX hk he hx,s.E.leave b hD hj hd e.1,s.P.updK _ _ fun _=>⟨rfl,rfl,rfl⟩⟩
theorem SD.goneD {k:Nat} {K:AN} (hK:K∈A) (hh:K.h=((k:Int),Av ts k - 1)) (hes:K.es=[]) (h0:A7 A K.h=0) (hk:K.kind=2):SD most dl ud (ps.set k none) gs (l.set k none) (ds.filter fun d=>!(d.h==K.h)) pn (Ex A K.h) ts:=
  ⟨s.T.free b hK hh hes h0,s.E.gone K.h,s.P.filter _ fun M hM k1 _=>by
    have:M.h≠K.h:=fun e=>by rw [b.same hM hK e] at k1;omega
    simpa using this⟩
theorem SD.goneF {k:Nat} {K:AN} (hK:K∈A) (hh:K.h=((k:Int),Av ts k - 1)) (hk:K.kind=1) (hp:K.pins=0) (h0:A7 A K.h=0):SD most dl ud (ps.set k none) gs (l.set k none) ds pn (Ex A K.h) ts:=
  ⟨s.T.free b hK hh (b.file K hK hk) h0,s.E.files _ fun M hM k2=>by
    have:M.h≠K.h:=fun e=>by rw [b.same hM hK e] at k2;omega
    simpa using this,s.P.filter _ fun M hM k1 q=>by
    have:M.h≠K.h:=fun e=>by rw [b.same hM hK e] at q;omega
    simpa using this⟩
end
theorem TI0.gone (b:TI0 most ts lz A) {K:AN} (hK:K∈A) (hes:K.es=[]) (h0:A7 A K.h=0) (hr:K.h≠(0,0)):TI0 most ts lz (Ex A K.h):=b.filter _ fun M hM q=>by
  have e:M.h=K.h:=by simpa using q
  rw [b.same hM hK e];exact ⟨hes,h0,hr⟩
theorem TI0.noroot (b:TI0 most ts lz A) {D X:AN} (hD:D∈A) (hX:X∈A) {e:Bk} (he:e∈D.es) (hx:e.2=X.h):X.h≠(0,0):=fun q=>by
  obtain ⟨R,hR,h1,h2⟩:=b.root
  have:=b.one R hR h2
  rw [h1,if_pos rfl] at this
  have h3:=K3 hD he
  rw [hx,q] at h3;omega
end
structure PZ where
  b:Nat
  tb:Nat
  dm:Nat
  pm:Nat
  ps:List (Option Nat)
  gs:List Int
  vl:Value
  vg:Value
  T:TypeId
  Sl:Nat→Prop
  Sg:Nat→Prop
  l:List (Option ND)
  ds:List DN
  pn:List ((Int×Int)×Int)
def PZ.core (most:Nat) (z:PZ):List Res:=[Bx true z.b [.pointer (some ⟨z.tb,0,none⟩),.int .i64 (most:Int),.int .i64 0,.int .i64 0,.map (some z.dm),.map (some z.pm)] 80,B5 z.tb z.ps z.gs z.vl z.vg z.T z.Sl z.Sg,Cn z.l,Ci true z.dm hk (z.ds.map Bq),Ef z.ds,Ci true z.pm hk (z.pn.map Cz)]
theorem PZ.core_wr (most:Nat) (z:PZ):∀ r∈z.core most,r.wr=true:=by
  unfold PZ.core
  intro r hr
  simp only [List.mem_cons,List.mem_nil_iff,or_false] at hr
  rcases hr with rfl|rfl|rfl|rfl|rfl|rfl<;>rfl
def rPT (most:Nat) (z:PZ):Res:=Ea (z.core most)
section
variable {P:Program} {f:FuncId} {args:Array Value} {most:Nat} {z:PZ} {M:List Res}
theorem Ap.pt {Φ:Value→PZ→Prop} (h:Ap P f args (z.core most++M) fun u L=>∃ z',Φ u z'∧L=z'.core most++M):Ap P f args (rPT most z::M) fun u L=>∃ z',Φ u z'∧L=rPT most z'::M:=fun E w0 w ho=>
  (h E w0 w ho.allSplit).mono fun e w' ⟨u,L,⟨z',hu,hL⟩,he,ho'⟩=>⟨u,_,⟨z',hu,rfl⟩,he,by subst hL;exact Own.allJoin _ (z'.core_wr most) ho'⟩
theorem Ap.ptq {Φ:Value→Prop} (h:Ap P f args (z.core most++M) fun u L=>Φ u∧L=z.core most++M):Ap P f args (rPT most z::M) fun u L=>Φ u∧L=rPT most z::M:=fun E w0 w ho=>
  (h E w0 w ho.allSplit).mono fun e w' ⟨u,L,⟨hu,hL⟩,he,ho'⟩=>⟨u,_,⟨hu,rfl⟩,he,by subst hL;exact Own.allJoin _ (z.core_wr most) ho'⟩
end
section
variable {w0 w:World} {E:Ent} {B:Nat} {ad:Nat→Addr}
theorem Own.envs {M:List Res} (h:Own w0 E (M++[A5 B ad]) w):∀ css:List (List Nat),(∀ cs∈css,∀ c∈cs,c∈Ip)→Own w0 E (css.map (Bs B ad)++(M++[A5 B ad])) w
  | [],_=>h
  | cs::css,hc=>(h.envs css fun x hx=>hc x (List.mem_cons_of_mem _ hx)).envSub cs ((css.map (Bs B ad)).length+M.length) (by
      rw [List.getElem?_append_right (by omega),Nat.add_sub_cancel_left,List.getElem?_append_right (by omega),Nat.sub_self];rfl) (hc cs (by simp))
end
theorem Ap.wide {P:Program} {f:FuncId} {args:Array Value} {B:Nat} {ad:Nat→Addr} (M X:List Res) (css:List (List Nat)) {Φ:Value→List Res→Prop} (hcs:∀ cs∈css,∀ c∈cs,c∈Ip) (h:Ap P f args (M++css.map (Bs B ad)) fun u L=>∃ M',Φ u M'∧L=M'++css.map (Bs B ad)):Ap P f args (M++(X++[A5 B ad])) fun u L=>∃ M',Φ u M'∧L=M'++(X++[A5 B ad]):=fun E w0 w ho=>by
  have h1:Own w0 E ((M++X)++[A5 B ad]) w:=by rw [List.append_assoc];exact ho
  have h2:=h1.envs css hcs
  have h3:Own w0 E ((M++css.map (Bs B ad))++(X++[A5 B ad])) w:=h2.perm (by simpa only [List.append_assoc] using List.perm_append_comm_assoc (css.map (Bs B ad)) M (X++[A5 B ad]))
  refine ((h.frame (X++[A5 B ad])) E w0 w h3).mono fun e w' ⟨u,L,⟨L1,⟨M',hu,e1⟩,e2⟩,he,ho'⟩=>⟨u,_,⟨M',hu,rfl⟩,he,?_⟩
  subst e1;subst e2
  have h4:Own w0 E ((M'++(X++[A5 B ad]))++css.map (Bs B ad)) w':=ho'.perm (by
    rw [List.append_assoc,List.append_assoc]
    exact List.Perm.append_left _ List.perm_append_comm)
  exact h4.left
def Pf (ps:List (Option Nat)) (gs:List Int) (l:List (Option ND)) (ds:List DN) (n g:Int) (c:Nat):Prop:=(c=9∧Bm ps gs n g=none)∨(c=6∧(∃ (k:Nat) (N:ND),l[k]?=some (some N)∧Bm ps gs n g=some N.nb)∧∀ d∈ds,d.h≠(n,g))
def NSz (A:List AN):Prop:=∀ M∈A,∀ e∈M.es,e.1.size≤100000
section
variable {A:List AN} (h:NSz A)
include h
theorem NSz.upd (d:Hdl) (f:AN→AN) (hf:∀ M∈A,∀ e∈(f M).es,e.1.size≤100000):NSz (Cy A d f):=fun M hM e he=>by
  obtain ⟨K,hK,rfl⟩:=B7 hM
  by_cases c:K.h=d
  · rw [if_pos c] at he;exact hf K hK e he
  · rw [if_neg c] at he;exact h K hK e he
theorem NSz.touch (d:Hdl):NSz (Ao A d):=h.upd d _ fun M hM e he=>h M hM e he
theorem NSz.pin (d:Hdl) (x:Int):NSz (Gv A d x):=h.upd d _ fun M hM e he=>h M hM e he
theorem NSz.leave (d:Hdl) (nm:ByteArray):NSz (Al A d nm):=h.upd d _ fun M hM e he=>h M hM e (List.mem_filter.1 he).1
theorem NSz.enter (d:Hdl) {nm:ByteArray} (hn:nm.size≤100000) (x:Hdl):NSz (Aw A d nm x):=h.upd d _ fun M hM e he=>by
  rcases List.mem_cons.1 ((E2 nm x M.es).mem_iff.1 he) with rfl|he
  · exact hn
  · exact h M hM e he
theorem NSz.filter (p:AN→Bool):NSz (A.filter p):=fun M hM=>h M (List.mem_filter.1 hM).1
theorem NSz.app {N:AN} (hN:N.es=[]):NSz (A++[N]):=fun M hM e he=>by
  rcases List.mem_append.1 hM with hM|hM
  · exact h M hM e he
  · rw [List.mem_singleton.1 hM,hN] at he;cases he
theorem NSz.lose (x:Hdl):NSz (C3 A x):=by
  unfold C3
  split
  · split
    · exact h.filter _
    · exact (h.touch _).filter _
  · exact h
theorem NSz.create (ts:List Int) (d:Hdl) {nm:ByteArray} (hn:nm.size≤100000) (kind:Int) (k:Nat):NSz (F5 A ts d nm kind k):=((h.app rfl).enter d hn _).touch _
theorem NSz.link (x d:Hdl) {nm:ByteArray} (hn:nm.size≤100000):NSz (K8 A x d nm):=((h.enter d hn x).touch _).touch _
theorem NSz.remove (d:Hdl) (nm:ByteArray):NSz (Dx A d nm):=((h.leave d nm).touch _).lose _
theorem NSz.wr (d:Hdl) (p:Int) (t:ByteArray):NSz (E9 A d p t):=by
  unfold E9 atF
  split
  · exact h
  · split
    · exact h.upd d _ fun M hM e he=>h M hM e he
    · exact h
theorem NSz.rz (d:Hdl) (p:Int):NSz (Ec A d p):=by
  unfold Ec atF
  split
  · exact h
  · split
    · exact h.upd d _ fun M hM e he=>h M hM e he
    · exact h
theorem NSz.rename (a:Hdl) (old:ByteArray) (b:Hdl) {nm:ByteArray} (hn:nm.size≤100000):NSz (tRename A a old b nm).2:=by
  have key:∀ B:List AN,NSz B→NSz (if a=b then Ao B a else Ao (Ao B a) b):=fun B hB=>by
    split
    · exact hB.touch _
    · exact (hB.touch _).touch _
  have hm:∀ x y,NSz (Eq A a old b nm x y):=fun x y=>by
    cases y with
    | none=>exact key _ ((h.leave _ _).enter _ hn _)
    | some y=>exact key _ ((((h.leave _ _).leave _ _).enter _ hn _).lose _)
  rcases Gu A a old b nm with q|⟨F,T,x,X,_,_,_,_,_,_,_,⟨_,_,q⟩|⟨y,Y,_,_,_,_,_,_,q⟩⟩
  · rw [q];exact h
  · rw [q];exact hm x none
  · rw [q];exact hm x (some y)
end
structure D6 (most:Nat) (z:PZ) (A:List AN) (ts:List Int) (c:Int):Prop where
  sim:Sim most z.ps z.gs z.l z.ds z.pn A ts
  ti:TI most ts A
  srt:Srt A
  nsz:NSz A
  cnt:Cnt A c
  tmr:∀ x∈ts,0≤x∧x≤c
  c0:0≤c∧c≤1000
  m1:1≤most
  m3:most≤300
section
variable {most:Nat} {z:PZ} {A:List AN} {ts:List Int} {c:Int} (s:D6 most z A ts c)
include s
theorem D6.hl:z.ps.length=z.gs.length:=by rw [s.sim.lps,s.sim.lgs]
theorem D6.hr:∀ x∈z.gs,0≤x∧x≤1000000:=fun x hx=>by rw [s.sim.gts] at hx;have:=s.tmr x hx;have:=s.c0;omega
theorem D6.hlen:ts.length=most:=by rw [← s.sim.gts];exact s.sim.lgs
theorem D6.more {d:Int} (h:c≤d) (hd:d≤1000):D6 most z A ts d:=⟨s.sim,s.ti,s.srt,s.nsz,s.cnt.mono h,fun x hx=>by have:=s.tmr x hx;omega,by have:=s.c0;omega,s.m1,s.m3⟩
theorem D6.who (n g:Int):(Bp A (n,g)=none∧Bm z.ps z.gs n g=none∧Pf z.ps z.gs z.l z.ds n g 9)∨∃ (k:Nat) (N:ND) (M:AN),n=(k:Int)∧k<most∧z.l[k]?=some (some N)∧Bm z.ps z.gs n g=some N.nb∧Bp A (n,g)=some M∧M∈A∧M.h=(n,g)∧M.h=((k:Int),Av ts k - 1)∧NdR A N M∧
    ((M.kind=1∧¬M.kind=2∧(∀ d∈z.ds,d.h≠(n,g))∧Pf z.ps z.gs z.l z.ds n g 6)∨(M.kind=2∧∃ (j:Nat) (d:DN),z.ds[j]?=some d∧d.h=(n,g)∧ER d.es M.es)):=by
  rcases s.sim.at_ s.ti n g with ⟨h1,h2⟩|⟨k,N,M,rfl,hk,h1,h2,h3,h4,h5,h6⟩
  · exact .inl ⟨h2,h1,.inl ⟨rfl,h1⟩⟩
  · obtain ⟨k',hk',e⟩:=s.ti.base.gen M h4
    have:k'=k:=by rw [h5] at e;have:=congrArg Prod.fst e;simp only at this;omega
    subst this
    refine .inr ⟨k',N,M,rfl,hk,h1,h2,h3,h4,h5,e,h6,?_⟩
    rcases s.ti.base.kind M h4 with k1|k2
    · have hno:=s.sim.nodir s.ti (x:=((k':Int),g)) fun K hK q=>by rw [s.ti.base.same hK h4 (q.trans h5.symm)];omega
      exact .inl ⟨k1,by omega,hno,.inr ⟨rfl,⟨k',N,h1,h2⟩,hno⟩⟩
    · obtain ⟨j,d,h7,h8,h9⟩:=s.sim.dir_ s.ti h4 k2
      exact .inr ⟨k2,j,d,h7,h8.trans h5,h9⟩
theorem D6.ch {N:ND} {M:AN} (hM:M∈A) (hr:NdR A N M):0≤N.change∧N.change≤1000000:=by
  have:=s.cnt M hM;have:=s.c0;rw [hr.chg];omega
theorem D6.li {N:ND} {M:AN} (hM:M∈A) (hr:NdR A N M):0≤N.links∧N.links≤1000000:=by
  rw [hr.lnk]
  rcases s.ti.base.kind M hM with k1|k2
  · rw [Dg (by omega)];have:=s.ti.base.lnk8 M hM k1;omega
  · rw [D9 k2];have:=s.ti.base.few M hM;have:=List.countP_le_length (p:=fun e:Bk=>A4 A e.2) (l:=M.es);omega
theorem D6.dd:(z.ds.map (·.h)).Nodup:=s.sim.dk
end
section
variable {B:Nat} (ad:Nat→Addr) (b most tb dm pm:Nat) (ps:List (Option Nat)) (gs:List Int) (vl vg:Value) (T:TypeId) (Sl Sg:Nat→Prop) (l:List (Option ND)) (ds:List DN) (pn:List ((Int×Int)×Int)) (hl:ps.length=gs.length) (hr:∀ x∈gs,0≤x∧x≤1000000) (n g:Int)
include B ad b most tb dm pm ps gs vl vg T Sl Sg l ds pn hl hr n g
theorem Ue (ha:Bm ps gs n g=none):Ap Tryz.prog 50 #[Pp b,Hg n g] (Ra B ad b tb most dm pm ps gs vl vg T Sl Sg l ds pn) (fun u L=>u=.tuple #[.map none,Ag ad 10]∧L=(Ra B ad b tb most dm pm ps gs vl vg T Sl Sg l ds pn)):=by
 refine Zo 33 Tryz.func50 fun E w0 w h=>?_
 have h:=h.eS [10] 6 rfl
 refine Qs (ZN [Ii n,Ii g] 34 h fun k1 w h=>ZP (.map none) (ZP .nilIface (Qn (Aa (Aa (Ds 12 [0,1] h fun w h=>Dp 0 528 (Pp b) [0,1] h (Dp 1 529 (Pp b) [0,1] h (Dp 2 531 (Pp b) [0,1] h (Dq 3 535 [0,1] rfl h (Gl 0 (Pp tb) 1) (Dq 4 527 [0,1] rfl h (Gla 0 [Ii n,Ii g] 0) ?_))))))))))
 refine Ay [5,9] (by kernel_rfl) rfl ?_
 refine De #[Pp tb,Hg n g] [3,3,1] [3,3] rfl (by kernel_rfl) (G8 ad tb ps gs vl vg T Sl Sg l hl hr n g ha) (fun _=>by kernel_rfl) h ?_ ?_
 rintro v_ L_ w ⟨rfl,rfl⟩ h
 refine ⟨by kernel_rfl,?_⟩
 refine Dp 6 575 (.tuple #[.agg #[Ii 0,Ii 0,Ii 0,Ii 0,Ii 0,Ii 0],Ag ad 10]) [3,3] h (Dp 7 895 (.agg #[Ii 0,Ii 0,Ii 0,Ii 0,Ii 0,Ii 0]) [3,3] h (Dp 8 1791 (Ag ad 10) [3,3] h ?_))
 refine Ay [9] (by kernel_rfl) rfl ?_
 refine B8 [4,4] rfl (by kernel_rfl) (fun b=>Pp b) [Ii 0,Ii 0,Ii 0,Ii 0,Ii 0,Ii 0] 46 (fun _=>by kernel_rfl) h ?_ ?_
 intro k2 w h;refine ⟨by kernel_rfl,?_⟩
 exact As 10 [4,4] 0 [Ii 0,Ii 0,Ii 0,Ii 0,Ii 0,Ii 0] [Ii 0,Ii 0,Ii 0,Ii 0,Ii 0,Ii 0] 0 rfl h fun w h=>Dp 11 2047 (Ag ad 10) [4,4] h (Dd (Af (Qs (ZP (Ag ad 10) (ZP (.bool true) (Qg (Qs (ZP (Ag ad 10) (ZP (.map none) (ZP (Ag ad 10) (Qr (Au (ZR [.map none,Ag ad 10] [5,1,1,3,3,3,3] h ⟨rfl,rfl⟩)))))))))))))
 exact Bb
 refine B8 [1,2] rfl (by kernel_rfl) (fun b=>Pp b) [Ii 0,Ii 0,Ii 0,Ii 0,Ii 0,Ii 0] 46 (fun _=>by kernel_rfl) h ?_ ?_
 intro k3 w h;refine ⟨by kernel_rfl,?_⟩
 refine Ad 5 [4,4,2] [4,4] (G8 ad tb ps gs vl vg T Sl Sg l hl hr n g ha) h ?_
 rintro v_ L_ w ⟨rfl,rfl⟩ h
 refine ⟨by kernel_rfl,?_⟩
 exact Dp 6 575 (.tuple #[.agg #[Ii 0,Ii 0,Ii 0,Ii 0,Ii 0,Ii 0],Ag ad 10]) [4,4] h (Dp 7 895 (.agg #[Ii 0,Ii 0,Ii 0,Ii 0,Ii 0,Ii 0]) [4,4] h (Dp 8 1791 (Ag ad 10) [4,4] h (As 10 [4,4] 0 [Ii 0,Ii 0,Ii 0,Ii 0,Ii 0,Ii 0] [Ii 0,Ii 0,Ii 0,Ii 0,Ii 0,Ii 0] 3 rfl h fun w h=>Dp 11 2047 (Ag ad 10) [4,4] h (Dd (Af (Qs (ZP (Ag ad 10) (ZP (.bool true) (Qg (Qs (ZP (Ag ad 10) (ZP (.map none) (ZP (Ag ad 10) (Qr (Au (ZR [.map none,Ag ad 10] [5,0,0,3,3,3,3] h ⟨rfl,rfl⟩))))))))))))))))
 exact Bb
theorem U6 (k:Nat) (N:ND) (hlk:l[k]?=some (some N)) (ha:Bm ps gs n g=some N.nb) (hno:∀ d∈ds,d.h≠(n,g)):Ap Tryz.prog 50 #[Pp b,Hg n g] (Ra B ad b tb most dm pm ps gs vl vg T Sl Sg l ds pn) (fun u L=>u=.tuple #[.map none,Ag ad 7]∧L=(Ra B ad b tb most dm pm ps gs vl vg T Sl Sg l ds pn)):=by
 refine Zo 33 Tryz.func50 fun E w0 w h=>?_
 have h:=(h.eS [10] 6 rfl).eS [7] 7 rfl
 refine Qs (ZN [Ii n,Ii g] 34 h fun k1 w h=>ZP (.map none) (ZP .nilIface (Qn (Aa (Aa (Ds 12 [0,2] h fun w h=>Dp 0 528 (Pp b) [0,2] h (Dp 1 529 (Pp b) [0,2] h (Dp 2 531 (Pp b) [0,2] h (Dq 3 535 [0,2] rfl h (Gl 0 (Pp tb) 1) (Dq 4 527 [0,2] rfl h (Gla 0 [Ii n,Ii g] 0) ?_))))))))))
 refine Ay [5,9] (by kernel_rfl) rfl ?_
 refine De #[Pp tb,Hg n g] [4,4,2] [3,4] rfl (by kernel_rfl) (Bh ad tb ps gs vl vg T Sl Sg l hl hr n g k N hlk ha) (fun _=>by kernel_rfl) h ?_ ?_
 rintro v_ L_ w ⟨rfl,rfl⟩ h
 refine ⟨by kernel_rfl,?_⟩
 refine Dp 6 575 (.tuple #[.agg #[Ii N.kind,Ii (Ai N),Ii N.links,Ii N.change,Ii N.upn,Ii N.upg],.nilIface]) [3,4] h (Dp 7 895 (.agg #[Ii N.kind,Ii (Ai N),Ii N.links,Ii N.change,Ii N.upn,Ii N.upg]) [3,4] h (Dp 8 1791 .nilIface [3,4] h ?_))
 refine Ay [9] (by kernel_rfl) rfl ?_
 refine B8 [4,5] rfl (by kernel_rfl) (fun b=>Pp b) [Ii 0,Ii 0,Ii 0,Ii 0,Ii 0,Ii 0] 46 (fun _=>by kernel_rfl) h ?_ ?_
 intro k2 w h;refine ⟨by kernel_rfl,?_⟩
 exact As 10 [4,5] 0 [Ii N.kind,Ii (Ai N),Ii N.links,Ii N.change,Ii N.upn,Ii N.upg] [Ii N.kind,Ii (Ai N),Ii N.links,Ii N.change,Ii N.upn,Ii N.upg] 0 rfl h fun w h=>Dp 11 2047 .nilIface [4,5] h (Dd (Af (Qs (ZP .nilIface (ZP (.bool false) (Qf (Kn (Aa (Ds 11 [4,5,5] h fun w h=>Dp 0 16 (Pp b) [4,5,5] h (Dp 1 17 (Pp b) [4,5,5] h (Dp 2 19 (Pt b 4) [4,5,5] h (Dq 3 23 [4,5,5] rfl h (Gl 4 (.map (some dm)) 1) (Dq 4 15 [4,5,5] rfl h (Gla 0 [Ii n,Ii g] 0) (Dq 5 31 [4,5,5] rfl h (A1 (v':=.tuple #[.map none,.bool false]) (Gkd (kv:=ds.map Bq) true (n,g) 2 rfl) (by rw [C6 hno];rfl)) (Dp 6 63 (.tuple #[.map none,.bool false]) [4,5,5] h (Dp 7 383 (.map none) [4,5,5] h (Dp 8 767 (.bool false) [4,5,5] h (Dp 9 511 (.map none) [4,5,5] h (Dp 10 1023 (.bool false) [4,5,5] h (Dd (Af (Qt (ZP (.bool false) (ZP (.bool true) (Qg (Aa (Ds 3 [5] h fun w h=>Dq 0 2 [5] rfl h (Gr 0 (Ag ad 7) 0 rfl (Fd (c:=7) (by decide) rfl)) (Dp 1 1 (.map none) [5] h (Dp 2 3 (Ag ad 7) [5] h (Dd (Af (Hs (Au (ZR [.map none,Ag ad 7] [6,1,1,4,4,4,4] h ⟨rfl,rfl⟩))))))))))))))))))))))))))))))))))
 exact Bb
 refine B8 [1,3] rfl (by kernel_rfl) (fun b=>Pp b) [Ii 0,Ii 0,Ii 0,Ii 0,Ii 0,Ii 0] 46 (fun _=>by kernel_rfl) h ?_ ?_
 intro k3 w h;refine ⟨by kernel_rfl,?_⟩
 refine Ad 5 [5,5,3] [4,5] (Bh ad tb ps gs vl vg T Sl Sg l hl hr n g k N hlk ha) h ?_
 rintro v_ L_ w ⟨rfl,rfl⟩ h
 refine ⟨by kernel_rfl,?_⟩
 exact Dp 6 575 (.tuple #[.agg #[Ii N.kind,Ii (Ai N),Ii N.links,Ii N.change,Ii N.upn,Ii N.upg],.nilIface]) [4,5] h (Dp 7 895 (.agg #[Ii N.kind,Ii (Ai N),Ii N.links,Ii N.change,Ii N.upn,Ii N.upg]) [4,5] h (Dp 8 1791 .nilIface [4,5] h (As 10 [4,5] 0 [Ii N.kind,Ii (Ai N),Ii N.links,Ii N.change,Ii N.upn,Ii N.upg] [Ii N.kind,Ii (Ai N),Ii N.links,Ii N.change,Ii N.upn,Ii N.upg] 3 rfl h fun w h=>Dp 11 2047 .nilIface [4,5] h (Dd (Af (Qs (ZP .nilIface (ZP (.bool false) (Qf (Kn (Aa (Ds 11 [4,5,5] h fun w h=>Dp 0 16 (Pp b) [4,5,5] h (Dp 1 17 (Pp b) [4,5,5] h (Dp 2 19 (Pt b 4) [4,5,5] h (Dq 3 23 [4,5,5] rfl h (Gl 4 (.map (some dm)) 1) (Dq 4 15 [4,5,5] rfl h (Gla 0 [Ii n,Ii g] 0) (Dq 5 31 [4,5,5] rfl h (A1 (v':=.tuple #[.map none,.bool false]) (Gkd (kv:=ds.map Bq) true (n,g) 2 rfl) (by rw [C6 hno];rfl)) (Dp 6 63 (.tuple #[.map none,.bool false]) [4,5,5] h (Dp 7 383 (.map none) [4,5,5] h (Dp 8 767 (.bool false) [4,5,5] h (Dp 9 511 (.map none) [4,5,5] h (Dp 10 1023 (.bool false) [4,5,5] h (Dd (Af (Qt (ZP (.bool false) (ZP (.bool true) (Qg (Aa (Ds 3 [5] h fun w h=>Dq 0 2 [5] rfl h (Gr 0 (Ag ad 7) 0 rfl (Fd (c:=7) (by decide) rfl)) (Dp 1 1 (.map none) [5] h (Dp 2 3 (Ag ad 7) [5] h (Dd (Af (Hs (Au (ZR [.map none,Ag ad 7] [6,0,0,4,4,4,4] h ⟨rfl,rfl⟩)))))))))))))))))))))))))))))))))))))
 exact Bb
theorem K4 (c:Nat) (hd:Pf ps gs l ds n g c):Ap Tryz.prog 50 #[Pp b,Hg n g] (Ra B ad b tb most dm pm ps gs vl vg T Sl Sg l ds pn) fun u L=>u=.tuple #[.map none,Ag ad (c+1)]∧L=(Ra B ad b tb most dm pm ps gs vl vg T Sl Sg l ds pn):=by
  rcases hd with ⟨rfl,h⟩|⟨rfl,⟨k,N,h1,h2⟩,h3⟩
  · exact Ue ad b most tb dm pm ps gs vl vg T Sl Sg l ds pn hl hr n g h
  · exact U6 ad b most tb dm pm ps gs vl vg T Sl Sg l ds pn hl hr n g k N h1 h2 h3
end
theorem Kj {B:Nat} (ad:Nat→Addr) (s:ByteArray) (hs:s.size≤9223372036854775807) (hbad:¬A0 s):Ap Tryz.prog 53 #[.string s] [Bs B ad [4]] fun u L=>u=Ag ad 4∧L=[Bs B ad [4]]:=
  (P9 ad s hs).mono fun u L h=>by
    rcases h with ⟨h0,_⟩|⟨_,h1,h2⟩
    · exact absurd h0 hbad
    · exact ⟨h1,h2⟩
def Afp (ps:List (Option Nat)) (gs:List Int) (l:List (Option ND)) (ds:List DN) (n g:Int) (s:ByteArray) (c:Nat) (m:Option Nat):Prop:=(Pf ps gs l ds n g c∧m=none)∨(c=3∧¬A0 s∧∃ (k:Nat) (N:ND) (j:Nat) (d:DN),l[k]?=some (some N)∧Bm ps gs n g=some N.nb∧ds[j]?=some d∧d.h=(n,g)∧m=some d.mb)
def LkE (ps:List (Option Nat)) (gs:List Int) (l:List (Option ND)) (ds:List DN) (n g:Int) (s:ByteArray) (c:Nat):Prop:=(∃ m,Afp ps gs l ds n g s c m)∨(c=4∧A0 s∧∃ (k:Nat) (N:ND) (j:Nat) (d:DN),l[k]?=some (some N)∧Bm ps gs n g=some N.nb∧ds[j]?=some d∧d.h=(n,g)∧Ae d.es s=none)
section
variable {B:Nat} (ad:Nat→Addr) (b most tb dm pm:Nat) (ps:List (Option Nat)) (gs:List Int) (vl vg:Value) (T:TypeId) (Sl Sg:Nat→Prop) (l:List (Option ND)) (ds:List DN) (pn:List ((Int×Int)×Int)) (hl:ps.length=gs.length) (hr:∀ x∈gs,0≤x∧x≤1000000) (n g:Int)
include B ad b most tb dm pm ps gs vl vg T Sl Sg l ds pn hl hr n g
theorem Ig (s:ByteArray) (hs:s.size≤9223372036854775807) (c:Nat) (hd:Pf ps gs l ds n g c):Ap Tryz.prog 48 #[Pp b,Hg n g,.string s] (Ra B ad b tb most dm pm ps gs vl vg T Sl Sg l ds pn) (fun u L=>u=.tuple #[.map none,Ag ad (c+1)]∧L=(Ra B ad b tb most dm pm ps gs vl vg T Sl Sg l ds pn)):=by
 refine Zo 19 Tryz.func48 fun E w0 w h=>?_
 exact Qs (ZN [Ii n,Ii g] 34 h fun k1 w h=>ZP (.map none) (ZP .nilIface (Qm (ZP (Pp b) (ZG h (Gla 0 [Ii n,Ii g] 0) (ZC [1,1,1,1,1,1,1] (K4 ad b most tb dm pm ps gs vl vg T Sl Sg l ds pn hl hr n g c hd) h fun w h=>ZP (.tuple #[.map none,Ag ad (c+1)]) (ZP (.map none) (ZP (Ag ad (c+1)) (ZP (.map none) (ZP (Ag ad (c+1)) (Qu (ZP (Ag ad (c+1)) (ZP (.bool true) (Qg (Qs (ZP (Ag ad (c+1)) (ZP (.map none) (ZP (Ag ad (c+1)) (Qr (Au (ZR [.map none,Ag ad (c+1)] [0,0,0,0,0,0,0] h ⟨rfl,rfl⟩)))))))))))))))))))))
theorem If (k:Nat) (N:ND) (hlk:l[k]?=some (some N)) (ha:Bm ps gs n g=some N.nb) (j:Nat) (d:DN) (hj:ds[j]?=some d) (hdh:d.h=(n,g)) (hdd:(ds.map (·.h)).Nodup) (s:ByteArray) (hs:s.size≤9223372036854775807) (hbad:¬A0 s):Ap Tryz.prog 48 #[Pp b,Hg n g,.string s] (Ra B ad b tb most dm pm ps gs vl vg T Sl Sg l ds pn) (fun u L=>u=.tuple #[.map (some d.mb),Ag ad 4]∧L=(Ra B ad b tb most dm pm ps gs vl vg T Sl Sg l ds pn)):=by
 refine Zo 19 Tryz.func48 fun E w0 w h=>?_
 have h:=(h.eS [10] 6 rfl).eS [4] 7 rfl
 exact Qs (ZN [Ii n,Ii g] 34 h fun k1 w h=>ZP (.map none) (ZP .nilIface (Qm (ZP (Pp b) (ZG h (Gla 0 [Ii n,Ii g] 0) (ZC [3,3,3,3,2] (A9 ad b most tb dm pm ps gs vl vg T Sl Sg l ds pn hl hr n g k N hlk ha j d hj hdh hdd) h fun w h=>ZP (.tuple #[.map (some d.mb),.nilIface]) (ZP (.map (some d.mb)) (ZP .nilIface (ZP (.map (some d.mb)) (ZP .nilIface (Qu (ZP .nilIface (ZP (.bool false) (Fs (ZP (.map (some d.mb)) (ZP (.string s) (ZC [6] (Kj ad s hs hbad) h fun w h=>ZP (.map (some d.mb)) (ZP (Ag ad 4) (Qr (ZR [.map (some d.mb),Ag ad 4] [1,1,1,1,3,3,3] h ⟨rfl,rfl⟩))))))))))))))))))))
theorem Ss (hdd:(ds.map (·.h)).Nodup) (s:ByteArray) (hs:s.size≤9223372036854775807) (c:Nat) (m:Option Nat) (hd:Afp ps gs l ds n g s c m):Ap Tryz.prog 48 #[Pp b,Hg n g,.string s] (Ra B ad b tb most dm pm ps gs vl vg T Sl Sg l ds pn) fun u L=>u=.tuple #[.map m,Ag ad (c+1)]∧L=(Ra B ad b tb most dm pm ps gs vl vg T Sl Sg l ds pn):=by
  rcases hd with ⟨h,rfl⟩|⟨rfl,h,k,N,j,d,h1,h2,h3,h4,rfl⟩
  · exact Ig ad b most tb dm pm ps gs vl vg T Sl Sg l ds pn hl hr n g s hs c h
  · exact If ad b most tb dm pm ps gs vl vg T Sl Sg l ds pn hl hr n g k N h1 h2 j d h3 h4 hdd s hs h
theorem Abb (hdd:(ds.map (·.h)).Nodup) (s:ByteArray) (hs:s.size≤9223372036854775807) (c:Nat) (m:Option Nat) (hd:Afp ps gs l ds n g s c m):Ap Tryz.prog 17 #[Pp b,Hg n g,.string s] (Ra B ad b tb most dm pm ps gs vl vg T Sl Sg l ds pn) (fun u L=>u=.tuple #[Hg 0 0,Ag ad (c+1)]∧L=(Ra B ad b tb most dm pm ps gs vl vg T Sl Sg l ds pn)):=by
 refine Zo 31 Tryz.func17 fun E w0 w h=>?_
 refine Qs (ZN [Ii n,Ii g] 34 h fun k1 w h=>ZN [Ii 0,Ii 0] 34 h fun k2 w h=>ZP .nilIface (Qm (ZP (Pp b) (ZG h (Gla 0 [Ii n,Ii g] 1) (ZP (.string s) (ZC [2,2,2,2,2,2,2] (Ss ad b most tb dm pm ps gs vl vg T Sl Sg l ds pn hl hr n g hdd s hs c m hd) h fun w h=>ZP (.tuple #[.map m,Ag ad (c+1)]) (ZP (.map m) (ZP (Ag ad (c+1)) (ZP (.map m) (ZP (Ag ad (c+1)) (Qu (ZP (Ag ad (c+1)) (ZP (.bool true) (Qg (Qs (ZP (Hg 0 0) (ZP (Ag ad (c+1)) (ZSs [Ii 0,Ii 0] 7 rfl h fun w h=>ZP (Ag ad (c+1)) (Qr (Au ?_))))))))))))))))))))
 refine B0 [Hg 0 0,Ag ad (c+1)] [0,0,0,0,0,0,0] h (by kernel_rfl) (Di 0 [Ii 0,Ii 0] (Hg 0 0) 7 rfl (by kernel_rfl) (Dy (by kernel_rfl) Dh)) ?_
 exact ⟨rfl,rfl⟩
theorem Ab4 (k:Nat) (N:ND) (hlk:l[k]?=some (some N)) (ha:Bm ps gs n g=some N.nb) (j:Nat) (d:DN) (hj:ds[j]?=some d) (hdh:d.h=(n,g)) (hdd:(ds.map (·.h)).Nodup) (s:ByteArray) (hs:s.size≤9223372036854775807) (hok:A0 s) (hx:Ae d.es s=none):Ap Tryz.prog 17 #[Pp b,Hg n g,.string s] (Ra B ad b tb most dm pm ps gs vl vg T Sl Sg l ds pn) (fun u L=>u=.tuple #[Hg 0 0,Ag ad 5]∧L=(Ra B ad b tb most dm pm ps gs vl vg T Sl Sg l ds pn)):=by
 refine Zo 31 Tryz.func17 fun E w0 w h=>?_
 have h:=((h.eS [10] 6 rfl).eS [4] 7 rfl).eS [5] 8 rfl
 refine Qs (ZN [Ii n,Ii g] 34 h fun k1 w h=>ZN [Ii 0,Ii 0] 34 h fun k2 w h=>ZP .nilIface (Qm (ZP (Pp b) (ZG h (Gla 0 [Ii n,Ii g] 1) (ZP (.string s) (ZC [5,5,5,5,4,3] (Cd ad b most tb dm pm ps gs vl vg T Sl Sg l ds pn hl hr n g k N hlk ha j d hj hdh hdd s hs hok) h fun w h=>?_))))))
 have h:=(h.pkr [9]).dirOpen hj
 refine ZP (.tuple #[.map (some d.mb),.nilIface]) (ZP (.map (some d.mb)) (ZP .nilIface (ZP (.map (some d.mb)) (ZP .nilIface (Qu (ZP .nilIface (ZP (.bool false) (Fs (ZP (.map (some d.mb)) (ZP (.string s) (ZG h (A1 (v':=.tuple #[Hg 0 0,.bool false]) (Gks (kv:=d.es.map A8) true s 0 rfl) (by rw [Eb hx];rfl)) (ZP (.tuple #[Hg 0 0,.bool false]) (ZP (Hg 0 0) (ZP (.bool false) (ZN [Ii 0,Ii 0] 34 h fun k3 w h=>ZSs [Ii 0,Ii 0] 0 rfl h fun w h=>ZP (.bool false) (Qu (ZP (.bool false) (ZP (.bool true) (Qg (Aa (Ds 4 [11] h fun w h=>Dp 0 2 (Hg 0 0) [11] h (Dq 1 5 [11] rfl h (Gr 0 (Ag ad 5) 0 rfl (Fd (c:=5) (by decide) rfl)) (As 2 [11] 0 [Ii 0,Ii 0] [Ii 0,Ii 0] 9 rfl h fun w h=>Dp 3 7 (Ag ad 5) [11] h (Dd (Af (Hs (Au ?_)))))))))))))))))))))))))))
 have h:=(h.pkr [1,1]).dirBack (d:=d) hj
 refine B0 [Hg 0 0,Ag ad 5] [2,2,2,2,0,6,6] h (by kernel_rfl) (Di 0 [Ii 0,Ii 0] (Hg 0 0) 8 rfl (by kernel_rfl) (Dy (by kernel_rfl) Dh)) ?_
 exact ⟨rfl,rfl⟩
theorem Uz (hdd:(ds.map (·.h)).Nodup) (s:ByteArray) (hs:s.size≤9223372036854775807) (c:Nat) (hd:LkE ps gs l ds n g s c):Ap Tryz.prog 17 #[Pp b,Hg n g,.string s] (Ra B ad b tb most dm pm ps gs vl vg T Sl Sg l ds pn) fun u L=>u=.tuple #[Hg 0 0,Ag ad (c+1)]∧L=(Ra B ad b tb most dm pm ps gs vl vg T Sl Sg l ds pn):=by
  rcases hd with ⟨m,h⟩|⟨rfl,h,k,N,j,d,h1,h2,h3,h4,h5⟩
  · exact Abb ad b most tb dm pm ps gs vl vg T Sl Sg l ds pn hl hr n g hdd s hs c m h
  · exact Ab4 ad b most tb dm pm ps gs vl vg T Sl Sg l ds pn hl hr n g k N h1 h2 j d h3 h4 hdd s hs h h5
end
section
variable {B:Nat} (ad:Nat→Addr) (b most tb dm pm:Nat) (ps:List (Option Nat)) (gs:List Int) (vl vg:Value) (T:TypeId) (Sl Sg:Nat→Prop) (l:List (Option ND)) (ds:List DN) (pn:List ((Int×Int)×Int)) (hl:ps.length=gs.length) (hr:∀ x∈gs,0≤x∧x≤1000000) (n g:Int)
include B ad b most tb dm pm ps gs vl vg T Sl Sg l ds pn hl hr n g
theorem Ac6 (s:ByteArray) (hs:s.size≤9223372036854775807) (kind:Int) (c:Nat) (hd:Pf ps gs l ds n g c):Ap Tryz.prog 28 #[Pp b,Hg n g,.string s,Ii kind] (Ra B ad b tb most dm pm ps gs vl vg T Sl Sg l ds pn) (fun u L=>u=.tuple #[Hg 0 0,Ag ad (c+1)]∧L=(Ra B ad b tb most dm pm ps gs vl vg T Sl Sg l ds pn)):=by
 refine Zo 94 Tryz.func28 fun E w0 w h=>?_
 refine Qs (ZN [Ii n,Ii g] 34 h fun k1 w h=>ZN [Ii 0,Ii 0] 34 h fun k2 w h=>ZP .nilIface (Qm (ZP (Pp b) (ZG h (Gla 0 [Ii n,Ii g] 1) (ZP (.string s) (ZC [2,2,2,2,2,2,2] (Ig ad b most tb dm pm ps gs vl vg T Sl Sg l ds pn hl hr n g s hs c hd) h fun w h=>ZP (.tuple #[.map none,Ag ad (c+1)]) (ZP (.map none) (ZP (Ag ad (c+1)) (ZP (.map none) (ZP (Ag ad (c+1)) (Qm (ZP (.map none) (ZP (.string s) (ZG h (A1 (v':=.tuple #[Hg 0 0,.bool false]) (Rj (K:=9) (E:=34) (z:=(Hg 0 0)) (ok:=true) (Cq (by kernel_rfl)) s (by kernel_rfl) (fun _=>by kernel_rfl)) rfl) (ZP (.tuple #[Hg 0 0,.bool false]) (ZP (Hg 0 0) (ZP (.bool false) (ZN [Ii 0,Ii 0] 34 h fun k3 w h=>ZSs [Ii 0,Ii 0] 0 rfl h fun w h=>ZP (.bool false) (Qn (Aa (Ar (Qs (ZP (Ag ad (c+1)) (ZP (.bool true) (ZP (.bool true) (Qg (Qs (ZP (Hg 0 0) (ZP (Ag ad (c+1)) (ZSs [Ii 0,Ii 0] 8 rfl h fun w h=>ZP (Ag ad (c+1)) (Qr (Cj (Au ?_)))))))))))))))))))))))))))))))))
 refine B0 [Hg 0 0,Ag ad (c+1)] [1,1,1,1,1,1,1] h (by kernel_rfl) (Di 0 [Ii 0,Ii 0] (Hg 0 0) 8 rfl (by kernel_rfl) (Dy (by kernel_rfl) Dh)) ?_
 exact ⟨rfl,rfl⟩
theorem Aak (k:Nat) (N:ND) (hlk:l[k]?=some (some N)) (ha:Bm ps gs n g=some N.nb) (j:Nat) (d:DN) (hj:ds[j]?=some d) (hdh:d.h=(n,g)) (hdd:(ds.map (·.h)).Nodup) (s:ByteArray) (hs:s.size≤9223372036854775807) (kind:Int) (hbad:¬A0 s):Ap Tryz.prog 28 #[Pp b,Hg n g,.string s,Ii kind] (Ra B ad b tb most dm pm ps gs vl vg T Sl Sg l ds pn) (fun u L=>u=.tuple #[Hg 0 0,Ag ad 4]∧L=(Ra B ad b tb most dm pm ps gs vl vg T Sl Sg l ds pn)):=by
 refine Zo 94 Tryz.func28 fun E w0 w h=>?_
 refine Qs (ZN [Ii n,Ii g] 34 h fun k1 w h=>ZN [Ii 0,Ii 0] 34 h fun k2 w h=>ZP .nilIface (Qm (ZP (Pp b) (ZG h (Gla 0 [Ii n,Ii g] 1) (ZP (.string s) (ZC [2,2,2,2,2,2,2] (If ad b most tb dm pm ps gs vl vg T Sl Sg l ds pn hl hr n g k N hlk ha j d hj hdh hdd s hs hbad) h fun w h=>?_))))))
 have h:=(h.pkr [4]).dirOpen hj
 refine ZP (.tuple #[.map (some d.mb),Ag ad 4]) (ZP (.map (some d.mb)) (ZP (Ag ad 4) (ZP (.map (some d.mb)) (ZP (Ag ad 4) (Qm (ZP (.map (some d.mb)) (ZP (.string s) (ZG h (A1 (v':=.tuple #[.agg #[Ii (((Ae d.es s).getD (0,0)).1),Ii (((Ae d.es s).getD (0,0)).2)],.bool ((Ae d.es s).isSome)]) (Gks (kv:=d.es.map A8) true s 0 rfl) (by rw [Jc];cases Ae d.es s<;>rfl)) (ZP (.tuple #[.agg #[Ii (((Ae d.es s).getD (0,0)).1),Ii (((Ae d.es s).getD (0,0)).2)],.bool ((Ae d.es s).isSome)]) (ZP (.agg #[Ii (((Ae d.es s).getD (0,0)).1),Ii (((Ae d.es s).getD (0,0)).2)]) (ZP (.bool ((Ae d.es s).isSome)) (ZN [Ii 0,Ii 0] 34 h fun k3 w h=>ZSs [Ii (((Ae d.es s).getD (0,0)).1),Ii (((Ae d.es s).getD (0,0)).2)] 0 rfl h fun w h=>ZP (.bool ((Ae d.es s).isSome)) (Qn (Aa (Ar (Qs (ZP (Ag ad 4) (ZP (.bool true) (ZP (.bool true) (Qg (Qs (ZP (Hg 0 0) (ZP (Ag ad 4) (ZSs [Ii 0,Ii 0] 9 rfl h fun w h=>ZP (Ag ad 4) (Qr (Cj (Au ?_)))))))))))))))))))))))))))
 have h:=(h.pkr [1,1]).dirBack (d:=d) hj
 refine B0 [Hg 0 0,Ag ad 4] [2,2,2,2,0,1,1] h (by kernel_rfl) (Di 0 [Ii 0,Ii 0] (Hg 0 0) 8 rfl (by kernel_rfl) (Dy (by kernel_rfl) Dh)) ?_
 exact ⟨rfl,rfl⟩
theorem Ac9 (k:Nat) (N:ND) (hlk:l[k]?=some (some N)) (ha:Bm ps gs n g=some N.nb) (j:Nat) (d:DN) (hj:ds[j]?=some d) (hdh:d.h=(n,g)) (hdd:(ds.map (·.h)).Nodup) (s:ByteArray) (hs:s.size≤9223372036854775807) (hok:A0 s) (kind:Int) (hki:¬(kind=1∨kind=2)):Ap Tryz.prog 28 #[Pp b,Hg n g,.string s,Ii kind] (Ra B ad b tb most dm pm ps gs vl vg T Sl Sg l ds pn) (fun u L=>u=.tuple #[Hg 0 0,Ag ad 3]∧L=(Ra B ad b tb most dm pm ps gs vl vg T Sl Sg l ds pn)):=by
 refine Zo 94 Tryz.func28 fun E w0 w h=>?_
 have h:=((h.eS [10] 6 rfl).eS [4] 7 rfl).eS [3] 8 rfl
 refine Qs (ZN [Ii n,Ii g] 34 h fun k1 w h=>ZN [Ii 0,Ii 0] 34 h fun k2 w h=>ZP .nilIface (Qm (ZP (Pp b) (ZG h (Gla 0 [Ii n,Ii g] 1) (ZP (.string s) (ZC [5,5,5,5,4,3] (Cd ad b most tb dm pm ps gs vl vg T Sl Sg l ds pn hl hr n g k N hlk ha j d hj hdh hdd s hs hok) h fun w h=>?_))))))
 have h:=(h.pkr [9]).dirOpen hj
 refine ZP (.tuple #[.map (some d.mb),.nilIface]) (ZP (.map (some d.mb)) (ZP .nilIface (ZP (.map (some d.mb)) (ZP .nilIface (Qm (ZP (.map (some d.mb)) (ZP (.string s) (ZG h (A1 (v':=.tuple #[.agg #[Ii (((Ae d.es s).getD (0,0)).1),Ii (((Ae d.es s).getD (0,0)).2)],.bool ((Ae d.es s).isSome)]) (Gks (kv:=d.es.map A8) true s 0 rfl) (by rw [Jc];cases Ae d.es s<;>rfl)) (ZP (.tuple #[.agg #[Ii (((Ae d.es s).getD (0,0)).1),Ii (((Ae d.es s).getD (0,0)).2)],.bool ((Ae d.es s).isSome)]) (ZP (.agg #[Ii (((Ae d.es s).getD (0,0)).1),Ii (((Ae d.es s).getD (0,0)).2)]) (ZP (.bool ((Ae d.es s).isSome)) (ZN [Ii 0,Ii 0] 34 h fun k3 w h=>ZSs [Ii (((Ae d.es s).getD (0,0)).1),Ii (((Ae d.es s).getD (0,0)).2)] 0 rfl h fun w h=>ZP (.bool ((Ae d.es s).isSome)) (Qn (Aa (Ar (Qs (ZP .nilIface (ZP (.bool false) (ZP (.bool false) (Qf (Qs (ZP (Ii kind) ?_))))))))))))))))))))))
 obtain ⟨b4,hb4⟩:=nmB (!(decide (kind=1)))
 refine ZB hb4 (ZP (.bool b4) (ZM1 (v:=Ii kind) b4 h (fun hB=>by subst hB;exact Gp (Ii kind)) ?_))
 obtain ⟨b5,hb5⟩:=nmB (!(decide (kind=2)))
 refine ZM1 (v:=.bool b5) b4 h (fun hB=>by subst hB;exact by subst hb5;exact Ax (v:=.bool (!(decide (kind=2)))) fun _=>by kernel_rfl) ?_
 obtain ⟨b6,hb6⟩:=nmB (b4&&b5)
 refine ZBc b4 hb6 (ZP (.bool b6) (Qn (Zi (b6) (fun hc7=>?_) fun hc7=>?_)))
 have q8:=hb6.symm.trans hc7
 have q9:=aL q8
 have q10:=aR q8
 have q11:=hb4.symm.trans q9
 have q12:(decide (kind=1))=false:=by simpa using q11
 have q12:=dcF q12
 have q13:=hb5.symm.trans q10
 have q14:(decide (kind=2))=false:=by simpa using q13
 have q14:=dcF q14
 refine Aa (Ds 4 [11] h fun w h=>Dp 0 2 (Hg 0 0) [11] h (Dq 1 5 [11] rfl h (Gr 0 (Ag ad 3) 0 rfl (Fd (c:=3) (by decide) rfl)) (As 2 [11] 0 [Ii 0,Ii 0] [Ii 0,Ii 0] 9 rfl h fun w h=>Dp 3 7 (Ag ad 3) [11] h (Dd (Af (Hs (Cj (Au ?_))))))))
 have h:=(h.pkr [1,1]).dirBack (d:=d) hj
 refine B0 [Hg 0 0,Ag ad 3] [2,2,2,2,0,6,6] h (by kernel_rfl) (Di 0 [Ii 0,Ii 0] (Hg 0 0) 8 rfl (by kernel_rfl) (Dy (by kernel_rfl) Dh)) ?_
 exact ⟨rfl,rfl⟩
 have q15:=hb6.symm.trans hc7
 exfalso;first|omega|(simp only [List.length_map] at *;omega)|(revert hc7;subst hb6;subst hb5;subst hb4;simp;done)|(revert hc7;subst hb6;subst hb5;subst hb4;simp;omega)
theorem Abf (k:Nat) (N:ND) (hlk:l[k]?=some (some N)) (ha:Bm ps gs n g=some N.nb) (j:Nat) (d:DN) (hj:ds[j]?=some d) (hdh:d.h=(n,g)) (hdd:(ds.map (·.h)).Nodup) (s:ByteArray) (hs:s.size≤9223372036854775807) (hok:A0 s) (kind:Int) (hki:kind=1∨kind=2) (x:Int×Int) (hx:Ae d.es s=some x):Ap Tryz.prog 28 #[Pp b,Hg n g,.string s,Ii kind] (Ra B ad b tb most dm pm ps gs vl vg T Sl Sg l ds pn) (fun u L=>u=.tuple #[Hg 0 0,Ag ad 6]∧L=(Ra B ad b tb most dm pm ps gs vl vg T Sl Sg l ds pn)):=by
 refine Zo 94 Tryz.func28 fun E w0 w h=>?_
 have h:=((h.eS [10] 6 rfl).eS [4] 7 rfl).eS [6] 8 rfl
 refine Qs (ZN [Ii n,Ii g] 34 h fun k1 w h=>ZN [Ii 0,Ii 0] 34 h fun k2 w h=>ZP .nilIface (Qm (ZP (Pp b) (ZG h (Gla 0 [Ii n,Ii g] 1) (ZP (.string s) (ZC [5,5,5,5,4,3] (Cd ad b most tb dm pm ps gs vl vg T Sl Sg l ds pn hl hr n g k N hlk ha j d hj hdh hdd s hs hok) h fun w h=>?_))))))
 have h:=(h.pkr [9]).dirOpen hj
 refine ZP (.tuple #[.map (some d.mb),.nilIface]) (ZP (.map (some d.mb)) (ZP .nilIface (ZP (.map (some d.mb)) (ZP .nilIface (Qm (ZP (.map (some d.mb)) (ZP (.string s) (ZG h (A1 (v':=.tuple #[Hg x.1 x.2,.bool true]) (Gks (kv:=d.es.map A8) true s 0 rfl) (by rw [Cb hx];rfl)) (ZP (.tuple #[Hg x.1 x.2,.bool true]) (ZP (Hg x.1 x.2) (ZP (.bool true) (ZN [Ii 0,Ii 0] 34 h fun k3 w h=>ZSs [Ii x.1,Ii x.2] 0 rfl h fun w h=>ZP (.bool true) (Qn (Aa (Ar (Qs (ZP .nilIface (ZP (.bool false) (ZP (.bool false) (Qf (Qs (ZP (Ii kind) ?_))))))))))))))))))))))
 obtain ⟨b4,hb4⟩:=nmB (!(decide (kind=1)))
 refine ZB hb4 (ZP (.bool b4) (ZM1 (v:=Ii kind) b4 h (fun hB=>by subst hB;exact Gp (Ii kind)) ?_))
 obtain ⟨b5,hb5⟩:=nmB (!(decide (kind=2)))
 refine ZM1 (v:=.bool b5) b4 h (fun hB=>by subst hB;exact by subst hb5;exact Ax (v:=.bool (!(decide (kind=2)))) fun _=>by kernel_rfl) ?_
 obtain ⟨b6,hb6⟩:=nmB (b4&&b5)
 refine ZBc b4 hb6 (ZP (.bool b6) (Qn (Zi (b6) (fun hc7=>?_) fun hc7=>?_)))
 have q8:=hb6.symm.trans hc7
 have q9:=aL q8
 have q10:=aR q8
 have q11:=hb4.symm.trans q9
 have q12:(decide (kind=1))=false:=by simpa using q11
 have q12:=dcF q12
 have q13:=hb5.symm.trans q10
 have q14:(decide (kind=2))=false:=by simpa using q13
 have q14:=dcF q14
 exfalso;first|omega|(simp only [List.length_map] at *;omega)|(revert hc7;subst hb6;subst hb5;subst hb4;simp;done)|(revert hc7;subst hb6;subst hb5;subst hb4;simp;omega)
 have q15:=hb6.symm.trans hc7
 refine Qs (ZP (.bool true) (ZP (.bool true) (Qg (Aa (Ds 4 [11] h fun w h=>Dp 0 2 (Hg 0 0) [11] h (Dq 1 5 [11] rfl h (Gr 0 (Ag ad 6) 0 rfl (Fd (c:=6) (by decide) rfl)) (As 2 [11] 0 [Ii 0,Ii 0] [Ii 0,Ii 0] 9 rfl h fun w h=>Dp 3 7 (Ag ad 6) [11] h (Dd (Af (Hs (Cj (Au ?_))))))))))))
 have h:=(h.pkr [1,1]).dirBack (d:=d) hj
 refine B0 [Hg 0 0,Ag ad 6] [2,2,2,2,0,6,6] h (by kernel_rfl) (Di 0 [Ii 0,Ii 0] (Hg 0 0) 8 rfl (by kernel_rfl) (Dy (by kernel_rfl) Dh)) ?_
 exact ⟨rfl,rfl⟩
theorem Acq (k:Nat) (N:ND) (hlk:l[k]?=some (some N)) (ha:Bm ps gs n g=some N.nb) (j:Nat) (d:DN) (hj:ds[j]?=some d) (hdh:d.h=(n,g)) (hdd:(ds.map (·.h)).Nodup) (s:ByteArray) (hs:s.size≤9223372036854775807) (hok:A0 s) (kind:Int) (hki:kind=1∨kind=2) (hx:Ae d.es s=none) (hfew:d.es.length<60) (hlen:ps.length≤300) (hfr:Fy ps=none):Ap Tryz.prog 28 #[Pp b,Hg n g,.string s,Ii kind] (Ra B ad b tb most dm pm ps gs vl vg T Sl Sg l ds pn) (fun u L=>u=.tuple #[Hg 0 0,Ag ad 9]∧L=(Ra B ad b tb most dm pm ps gs vl vg T Sl Sg l ds pn)):=by
 refine Zo 94 Tryz.func28 fun E w0 w h=>?_
 have h:=((h.eS [10] 6 rfl).eS [4] 7 rfl).eS [9] 8 rfl
 refine Qs (ZN [Ii n,Ii g] 34 h fun k1 w h=>ZN [Ii 0,Ii 0] 34 h fun k2 w h=>ZP .nilIface (Qm (ZP (Pp b) (ZG h (Gla 0 [Ii n,Ii g] 1) (ZP (.string s) (ZC [5,5,5,5,4,3] (Cd ad b most tb dm pm ps gs vl vg T Sl Sg l ds pn hl hr n g k N hlk ha j d hj hdh hdd s hs hok) h fun w h=>?_))))))
 have h:=(h.pkr [9]).dirOpen hj
 refine ZP (.tuple #[.map (some d.mb),.nilIface]) (ZP (.map (some d.mb)) (ZP .nilIface (ZP (.map (some d.mb)) (ZP .nilIface (Qm (ZP (.map (some d.mb)) (ZP (.string s) (ZG h (A1 (v':=.tuple #[Hg 0 0,.bool false]) (Gks (kv:=d.es.map A8) true s 0 rfl) (by rw [Eb hx];rfl)) (ZP (.tuple #[Hg 0 0,.bool false]) (ZP (Hg 0 0) (ZP (.bool false) (ZN [Ii 0,Ii 0] 34 h fun k3 w h=>ZSs [Ii 0,Ii 0] 0 rfl h fun w h=>ZP (.bool false) (Qn (Aa (Ar (Qs (ZP .nilIface (ZP (.bool false) (ZP (.bool false) (Qf (Qs (ZP (Ii kind) ?_))))))))))))))))))))))
 obtain ⟨b4,hb4⟩:=nmB (!(decide (kind=1)))
 refine ZB hb4 (ZP (.bool b4) (ZM1 (v:=Ii kind) b4 h (fun hB=>by subst hB;exact Gp (Ii kind)) ?_))
 obtain ⟨b5,hb5⟩:=nmB (!(decide (kind=2)))
 refine ZM1 (v:=.bool b5) b4 h (fun hB=>by subst hB;exact by subst hb5;exact Ax (v:=.bool (!(decide (kind=2)))) fun _=>by kernel_rfl) ?_
 obtain ⟨b6,hb6⟩:=nmB (b4&&b5)
 refine ZBc b4 hb6 (ZP (.bool b6) (Qn (Zi (b6) (fun hc7=>?_) fun hc7=>?_)))
 have q8:=hb6.symm.trans hc7
 have q9:=aL q8
 have q10:=aR q8
 have q11:=hb4.symm.trans q9
 have q12:(decide (kind=1))=false:=by simpa using q11
 have q12:=dcF q12
 have q13:=hb5.symm.trans q10
 have q14:(decide (kind=2))=false:=by simpa using q13
 have q14:=dcF q14
 exfalso;first|omega|(simp only [List.length_map] at *;omega)|(revert hc7;subst hb6;subst hb5;subst hb4;simp;done)|(revert hc7;subst hb6;subst hb5;subst hb4;simp;omega)
 have q15:=hb6.symm.trans hc7
 refine Qs (ZP (.bool false) (ZP (.bool false) (Qf (Qs (ZP (.map (some d.mb)) (ZG h (Ek (K:=9) (E:=34) (by kernel_rfl) 1 rfl) (ZP (.bool (decide (((d.es.map A8).length:Int)≥60))) (ZP (.bool (decide (((d.es.map A8).length:Int)≥60))) (Qn (Zd (((d.es.map A8).length:Int)≥60) (fun hc16=>?_) fun hc16=>?_))))))))))
 exfalso;first|omega|(simp only [List.length_map] at *;omega)|(revert hc16;simp;done)|(revert hc16;simp;omega)
 refine Bz ?_
 refine B9 (Af ?_)
 refine Qs (ZP (Pp b) (ZP (Pp b) (ZP (Pp b) (ZG h (Gl 0 (Pp tb) 3) (ZP (Ii kind) (ZC [4,10] (R7 ad tb kind ps gs vl vg T Sl Sg hki hlen hfr) h fun w h=>ZP (.tuple #[Hg 0 0,Ag ad 9]) (ZP (Hg 0 0) (ZP (Ag ad 9) (ZN [Ii 0,Ii 0] 34 h fun k17 w h=>ZSs [Ii 0,Ii 0] 0 rfl h fun w h=>ZP (Ag ad 9) (Qu (ZP (Ag ad 9) (ZP (.bool true) (Qg (Qs (ZP (Hg 0 0) (ZP (Ag ad 9) (ZSs [Ii 0,Ii 0] 11 rfl h fun w h=>ZP (Ag ad 9) (Qr (Au ?_)))))))))))))))))))
 have h:=(h.pkr [4,4]).dirBack (d:=d) hj
 refine B0 [Hg 0 0,Ag ad 9] [5,2,4,4,0,7,7] h (by kernel_rfl) (Di 0 [Ii 0,Ii 0] (Hg 0 0) 10 rfl (by kernel_rfl) (Dy (by kernel_rfl) Dh)) ?_
 exact ⟨rfl,rfl⟩
theorem Y4 (s:ByteArray) (ni gi:Int) (hai:Bm ps gs ni gi=none):Ap Tryz.prog 33 #[Pp b,Hg ni gi,Hg n g,.string s] (Ra B ad b tb most dm pm ps gs vl vg T Sl Sg l ds pn) (fun u L=>u=Ag ad 10∧L=(Ra B ad b tb most dm pm ps gs vl vg T Sl Sg l ds pn)):=by
 refine Zo 75 Tryz.func33 fun E w0 w h=>?_
 have h:=h.eS [10] 6 rfl
 refine Qs (ZN [Ii ni,Ii gi] 34 h fun k1 w h=>ZN [Ii n,Ii g] 34 h fun k2 w h=>ZP .nilIface (Qn (Aa (Ds 12 [1,2] h fun w h=>Dp 0 528 (Pp b) [1,2] h (Dp 1 529 (Pp b) [1,2] h (Dp 2 531 (Pp b) [1,2] h (Dq 3 535 [1,2] rfl h (Gl 0 (Pp tb) 1) (Dq 4 527 [1,2] rfl h (Gla 0 [Ii ni,Ii gi] 0) ?_))))))))
 refine Ay [5,9] (by kernel_rfl) rfl ?_
 refine De #[Pp tb,Hg ni gi] [4,4,2] [4,4] rfl (by kernel_rfl) (G8 ad tb ps gs vl vg T Sl Sg l hl hr ni gi hai) (fun _=>by kernel_rfl) h ?_ ?_
 rintro v_ L_ w ⟨rfl,rfl⟩ h
 refine ⟨by kernel_rfl,?_⟩
 refine Dp 6 575 (.tuple #[.agg #[Ii 0,Ii 0,Ii 0,Ii 0,Ii 0,Ii 0],Ag ad 10]) [4,4] h (Dp 7 895 (.agg #[Ii 0,Ii 0,Ii 0,Ii 0,Ii 0,Ii 0]) [4,4] h (Dp 8 1791 (Ag ad 10) [4,4] h ?_))
 refine Ay [9] (by kernel_rfl) rfl ?_
 refine B8 [5,5] rfl (by kernel_rfl) (fun b=>Pp b) [Ii 0,Ii 0,Ii 0,Ii 0,Ii 0,Ii 0] 46 (fun _=>by kernel_rfl) h ?_ ?_
 intro k3 w h;refine ⟨by kernel_rfl,?_⟩
 exact As 10 [5,5] 0 [Ii 0,Ii 0,Ii 0,Ii 0,Ii 0,Ii 0] [Ii 0,Ii 0,Ii 0,Ii 0,Ii 0,Ii 0] 0 rfl h fun w h=>Dp 11 2047 (Ag ad 10) [5,5] h (Dd (Af (Qt (ZP (Ag ad 10) (ZP (.bool true) (Qg (Qs (ZP (Ag ad 10) (ZP (Ag ad 10) (Qr (Au (ZR [Ag ad 10] [6,1,1,4,4,4,4] h ⟨rfl,rfl⟩))))))))))))
 exact Bb
 refine B8 [2,3] rfl (by kernel_rfl) (fun b=>Pp b) [Ii 0,Ii 0,Ii 0,Ii 0,Ii 0,Ii 0] 46 (fun _=>by kernel_rfl) h ?_ ?_
 intro k4 w h;refine ⟨by kernel_rfl,?_⟩
 refine Ad 5 [5,5,3] [5,5] (G8 ad tb ps gs vl vg T Sl Sg l hl hr ni gi hai) h ?_
 rintro v_ L_ w ⟨rfl,rfl⟩ h
 refine ⟨by kernel_rfl,?_⟩
 exact Dp 6 575 (.tuple #[.agg #[Ii 0,Ii 0,Ii 0,Ii 0,Ii 0,Ii 0],Ag ad 10]) [5,5] h (Dp 7 895 (.agg #[Ii 0,Ii 0,Ii 0,Ii 0,Ii 0,Ii 0]) [5,5] h (Dp 8 1791 (Ag ad 10) [5,5] h (As 10 [5,5] 0 [Ii 0,Ii 0,Ii 0,Ii 0,Ii 0,Ii 0] [Ii 0,Ii 0,Ii 0,Ii 0,Ii 0,Ii 0] 3 rfl h fun w h=>Dp 11 2047 (Ag ad 10) [5,5] h (Dd (Af (Qt (ZP (Ag ad 10) (ZP (.bool true) (Qg (Qs (ZP (Ag ad 10) (ZP (Ag ad 10) (Qr (Au (ZR [Ag ad 10] [6,0,0,4,4,4,4] h ⟨rfl,rfl⟩)))))))))))))))
 exact Bb
theorem Abo (s:ByteArray) (hs:s.size≤9223372036854775807) (ni gi:Int) (ki:Nat) (Ni:ND) (hlki:l[ki]?=some (some Ni)) (hai:Bm ps gs ni gi=some Ni.nb) (c:Nat) (hd:Pf ps gs l ds n g c):Ap Tryz.prog 33 #[Pp b,Hg ni gi,Hg n g,.string s] (Ra B ad b tb most dm pm ps gs vl vg T Sl Sg l ds pn) (fun u L=>u=Ag ad (c+1)∧L=(Ra B ad b tb most dm pm ps gs vl vg T Sl Sg l ds pn)):=by
 refine Zo 75 Tryz.func33 fun E w0 w h=>?_
 have h:=h.eS [10] 6 rfl
 refine Qs (ZN [Ii ni,Ii gi] 34 h fun k1 w h=>ZN [Ii n,Ii g] 34 h fun k2 w h=>ZP .nilIface (Qn (Aa (Ds 12 [1,2] h fun w h=>Dp 0 528 (Pp b) [1,2] h (Dp 1 529 (Pp b) [1,2] h (Dp 2 531 (Pp b) [1,2] h (Dq 3 535 [1,2] rfl h (Gl 0 (Pp tb) 1) (Dq 4 527 [1,2] rfl h (Gla 0 [Ii ni,Ii gi] 0) ?_))))))))
 refine Ay [5,9] (by kernel_rfl) rfl ?_
 refine De #[Pp tb,Hg ni gi] [4,4,2] [4,4] rfl (by kernel_rfl) (Bh ad tb ps gs vl vg T Sl Sg l hl hr ni gi ki Ni hlki hai) (fun _=>by kernel_rfl) h ?_ ?_
 rintro v_ L_ w ⟨rfl,rfl⟩ h
 refine ⟨by kernel_rfl,?_⟩
 refine Dp 6 575 (.tuple #[.agg #[Ii Ni.kind,Ii (Ai Ni),Ii Ni.links,Ii Ni.change,Ii Ni.upn,Ii Ni.upg],.nilIface]) [4,4] h (Dp 7 895 (.agg #[Ii Ni.kind,Ii (Ai Ni),Ii Ni.links,Ii Ni.change,Ii Ni.upn,Ii Ni.upg]) [4,4] h (Dp 8 1791 .nilIface [4,4] h ?_))
 refine Ay [9] (by kernel_rfl) rfl ?_
 refine B8 [5,5] rfl (by kernel_rfl) (fun b=>Pp b) [Ii 0,Ii 0,Ii 0,Ii 0,Ii 0,Ii 0] 46 (fun _=>by kernel_rfl) h ?_ ?_
 intro k3 w h;refine ⟨by kernel_rfl,?_⟩
 exact As 10 [5,5] 0 [Ii Ni.kind,Ii (Ai Ni),Ii Ni.links,Ii Ni.change,Ii Ni.upn,Ii Ni.upg] [Ii Ni.kind,Ii (Ai Ni),Ii Ni.links,Ii Ni.change,Ii Ni.upn,Ii Ni.upg] 0 rfl h fun w h=>Dp 11 2047 .nilIface [5,5] h (Dd (Af (Qt (ZP .nilIface (ZP (.bool false) (Fs (ZP (Pp b) (ZG h (Gla 0 [Ii n,Ii g] 4) (ZP (.string s) (ZC [6,1,1,4,4,4,4] (Ig ad b most tb dm pm ps gs vl vg T Sl Sg l ds pn hl hr n g s hs c hd) h fun w h=>ZP (.tuple #[.map none,Ag ad (c+1)]) (ZP (.map none) (ZP (Ag ad (c+1)) (ZP (.map none) (ZP (Ag ad (c+1)) (Qm (ZP (.map none) (ZP (.string s) (ZG h (A1 (v':=.tuple #[Hg 0 0,.bool false]) (Rj (K:=9) (E:=34) (z:=(Hg 0 0)) (ok:=true) (Cq (by kernel_rfl)) s (by kernel_rfl) (fun _=>by kernel_rfl)) rfl) (ZP (.tuple #[Hg 0 0,.bool false]) (ZP (Hg 0 0) (ZP (.bool false) (ZN [Ii 0,Ii 0] 34 h fun k4 w h=>ZSs [Ii 0,Ii 0] 0 rfl h fun w h=>ZP (.bool false) (Qn (Aa (Ar (Qs (ZP (Ag ad (c+1)) (ZP (.bool true) (ZP (.bool true) (Qg (Qs (ZP (Ag ad (c+1)) (ZP (Ag ad (c+1)) (Qr (Cj (Au (ZR [Ag ad (c+1)] [1,1,1,1,1,1,1] h ⟨rfl,rfl⟩)))))))))))))))))))))))))))))))))))))
 exact Bb
 refine B8 [2,3] rfl (by kernel_rfl) (fun b=>Pp b) [Ii 0,Ii 0,Ii 0,Ii 0,Ii 0,Ii 0] 46 (fun _=>by kernel_rfl) h ?_ ?_
 intro k5 w h;refine ⟨by kernel_rfl,?_⟩
 refine Ad 5 [5,5,3] [5,5] (Bh ad tb ps gs vl vg T Sl Sg l hl hr ni gi ki Ni hlki hai) h ?_
 rintro v_ L_ w ⟨rfl,rfl⟩ h
 refine ⟨by kernel_rfl,?_⟩
 exact Dp 6 575 (.tuple #[.agg #[Ii Ni.kind,Ii (Ai Ni),Ii Ni.links,Ii Ni.change,Ii Ni.upn,Ii Ni.upg],.nilIface]) [5,5] h (Dp 7 895 (.agg #[Ii Ni.kind,Ii (Ai Ni),Ii Ni.links,Ii Ni.change,Ii Ni.upn,Ii Ni.upg]) [5,5] h (Dp 8 1791 .nilIface [5,5] h (As 10 [5,5] 0 [Ii Ni.kind,Ii (Ai Ni),Ii Ni.links,Ii Ni.change,Ii Ni.upn,Ii Ni.upg] [Ii Ni.kind,Ii (Ai Ni),Ii Ni.links,Ii Ni.change,Ii Ni.upn,Ii Ni.upg] 3 rfl h fun w h=>Dp 11 2047 .nilIface [5,5] h (Dd (Af (Qt (ZP .nilIface (ZP (.bool false) (Fs (ZP (Pp b) (ZG h (Gla 0 [Ii n,Ii g] 4) (ZP (.string s) (ZC [6,0,0,4,4,4,4] (Ig ad b most tb dm pm ps gs vl vg T Sl Sg l ds pn hl hr n g s hs c hd) h fun w h=>ZP (.tuple #[.map none,Ag ad (c+1)]) (ZP (.map none) (ZP (Ag ad (c+1)) (ZP (.map none) (ZP (Ag ad (c+1)) (Qm (ZP (.map none) (ZP (.string s) (ZG h (A1 (v':=.tuple #[Hg 0 0,.bool false]) (Rj (K:=9) (E:=34) (z:=(Hg 0 0)) (ok:=true) (Cq (by kernel_rfl)) s (by kernel_rfl) (fun _=>by kernel_rfl)) rfl) (ZP (.tuple #[Hg 0 0,.bool false]) (ZP (Hg 0 0) (ZP (.bool false) (ZN [Ii 0,Ii 0] 34 h fun k6 w h=>ZSs [Ii 0,Ii 0] 0 rfl h fun w h=>ZP (.bool false) (Qn (Aa (Ar (Qs (ZP (Ag ad (c+1)) (ZP (.bool true) (ZP (.bool true) (Qg (Qs (ZP (Ag ad (c+1)) (ZP (Ag ad (c+1)) (Qr (Cj (Au (ZR [Ag ad (c+1)] [1,1,1,1,1,1,1] h ⟨rfl,rfl⟩))))))))))))))))))))))))))))))))))))))))
 exact Bb
theorem Aaw (k:Nat) (N:ND) (hlk:l[k]?=some (some N)) (ha:Bm ps gs n g=some N.nb) (j:Nat) (d:DN) (hj:ds[j]?=some d) (hdh:d.h=(n,g)) (hdd:(ds.map (·.h)).Nodup) (s:ByteArray) (hs:s.size≤9223372036854775807) (ni gi:Int) (ki:Nat) (Ni:ND) (hlki:l[ki]?=some (some Ni)) (hai:Bm ps gs ni gi=some Ni.nb) (hbad:¬A0 s):Ap Tryz.prog 33 #[Pp b,Hg ni gi,Hg n g,.string s] (Ra B ad b tb most dm pm ps gs vl vg T Sl Sg l ds pn) (fun u L=>u=Ag ad 4∧L=(Ra B ad b tb most dm pm ps gs vl vg T Sl Sg l ds pn)):=by
 refine Zo 75 Tryz.func33 fun E w0 w h=>?_
 have h:=h.eS [10] 6 rfl
 refine Qs (ZN [Ii ni,Ii gi] 34 h fun k1 w h=>ZN [Ii n,Ii g] 34 h fun k2 w h=>ZP .nilIface (Qn (Aa (Ds 12 [1,2] h fun w h=>Dp 0 528 (Pp b) [1,2] h (Dp 1 529 (Pp b) [1,2] h (Dp 2 531 (Pp b) [1,2] h (Dq 3 535 [1,2] rfl h (Gl 0 (Pp tb) 1) (Dq 4 527 [1,2] rfl h (Gla 0 [Ii ni,Ii gi] 0) ?_))))))))
 refine Ay [5,9] (by kernel_rfl) rfl ?_
 refine De #[Pp tb,Hg ni gi] [4,4,2] [4,4] rfl (by kernel_rfl) (Bh ad tb ps gs vl vg T Sl Sg l hl hr ni gi ki Ni hlki hai) (fun _=>by kernel_rfl) h ?_ ?_
 rintro v_ L_ w ⟨rfl,rfl⟩ h
 refine ⟨by kernel_rfl,?_⟩
 refine Dp 6 575 (.tuple #[.agg #[Ii Ni.kind,Ii (Ai Ni),Ii Ni.links,Ii Ni.change,Ii Ni.upn,Ii Ni.upg],.nilIface]) [4,4] h (Dp 7 895 (.agg #[Ii Ni.kind,Ii (Ai Ni),Ii Ni.links,Ii Ni.change,Ii Ni.upn,Ii Ni.upg]) [4,4] h (Dp 8 1791 .nilIface [4,4] h ?_))
 refine Ay [9] (by kernel_rfl) rfl ?_
 refine B8 [5,5] rfl (by kernel_rfl) (fun b=>Pp b) [Ii 0,Ii 0,Ii 0,Ii 0,Ii 0,Ii 0] 46 (fun _=>by kernel_rfl) h ?_ ?_
 intro k3 w h;refine ⟨by kernel_rfl,?_⟩
 refine As 10 [5,5] 0 [Ii Ni.kind,Ii (Ai Ni),Ii Ni.links,Ii Ni.change,Ii Ni.upn,Ii Ni.upg] [Ii Ni.kind,Ii (Ai Ni),Ii Ni.links,Ii Ni.change,Ii Ni.upn,Ii Ni.upg] 0 rfl h fun w h=>Dp 11 2047 .nilIface [5,5] h (Dd (Af (Qt (ZP .nilIface (ZP (.bool false) (Fs (ZP (Pp b) (ZG h (Gla 0 [Ii n,Ii g] 4) (ZP (.string s) (ZC [6,1,1,4,4,4,4] (If ad b most tb dm pm ps gs vl vg T Sl Sg l ds pn hl hr n g k N hlk ha j d hj hdh hdd s hs hbad) h fun w h=>?_))))))))))
 have h:=(h.pkr [4]).dirOpen hj
 refine ZP (.tuple #[.map (some d.mb),Ag ad 4]) (ZP (.map (some d.mb)) (ZP (Ag ad 4) (ZP (.map (some d.mb)) (ZP (Ag ad 4) (Qm (ZP (.map (some d.mb)) (ZP (.string s) (ZG h (A1 (v':=.tuple #[.agg #[Ii (((Ae d.es s).getD (0,0)).1),Ii (((Ae d.es s).getD (0,0)).2)],.bool ((Ae d.es s).isSome)]) (Gks (kv:=d.es.map A8) true s 0 rfl) (by rw [Jc];cases Ae d.es s<;>rfl)) (ZP (.tuple #[.agg #[Ii (((Ae d.es s).getD (0,0)).1),Ii (((Ae d.es s).getD (0,0)).2)],.bool ((Ae d.es s).isSome)]) (ZP (.agg #[Ii (((Ae d.es s).getD (0,0)).1),Ii (((Ae d.es s).getD (0,0)).2)]) (ZP (.bool ((Ae d.es s).isSome)) (ZN [Ii 0,Ii 0] 34 h fun k4 w h=>ZSs [Ii (((Ae d.es s).getD (0,0)).1),Ii (((Ae d.es s).getD (0,0)).2)] 0 rfl h fun w h=>ZP (.bool ((Ae d.es s).isSome)) (Qn (Aa (Ar (Qs (ZP (Ag ad 4) (ZP (.bool true) (ZP (.bool true) (Qg (Qs (ZP (Ag ad 4) (ZP (Ag ad 4) (Qr (Cj (Au ?_))))))))))))))))))))))))))
 have h:=(h.pkr [1,1]).dirBack (d:=d) hj
 exact ZR [Ag ad 4] [2,2,2,2,0,1,1] h ⟨rfl,rfl⟩
 exact Bb
 refine B8 [2,3] rfl (by kernel_rfl) (fun b=>Pp b) [Ii 0,Ii 0,Ii 0,Ii 0,Ii 0,Ii 0] 46 (fun _=>by kernel_rfl) h ?_ ?_
 intro k5 w h;refine ⟨by kernel_rfl,?_⟩
 refine Ad 5 [5,5,3] [5,5] (Bh ad tb ps gs vl vg T Sl Sg l hl hr ni gi ki Ni hlki hai) h ?_
 rintro v_ L_ w ⟨rfl,rfl⟩ h
 refine ⟨by kernel_rfl,?_⟩
 refine Dp 6 575 (.tuple #[.agg #[Ii Ni.kind,Ii (Ai Ni),Ii Ni.links,Ii Ni.change,Ii Ni.upn,Ii Ni.upg],.nilIface]) [5,5] h (Dp 7 895 (.agg #[Ii Ni.kind,Ii (Ai Ni),Ii Ni.links,Ii Ni.change,Ii Ni.upn,Ii Ni.upg]) [5,5] h (Dp 8 1791 .nilIface [5,5] h (As 10 [5,5] 0 [Ii Ni.kind,Ii (Ai Ni),Ii Ni.links,Ii Ni.change,Ii Ni.upn,Ii Ni.upg] [Ii Ni.kind,Ii (Ai Ni),Ii Ni.links,Ii Ni.change,Ii Ni.upn,Ii Ni.upg] 3 rfl h fun w h=>Dp 11 2047 .nilIface [5,5] h (Dd (Af (Qt (ZP .nilIface (ZP (.bool false) (Fs (ZP (Pp b) (ZG h (Gla 0 [Ii n,Ii g] 4) (ZP (.string s) (ZC [6,0,0,4,4,4,4] (If ad b most tb dm pm ps gs vl vg T Sl Sg l ds pn hl hr n g k N hlk ha j d hj hdh hdd s hs hbad) h fun w h=>?_)))))))))))))
 have h:=(h.pkr [4]).dirOpen hj
 refine ZP (.tuple #[.map (some d.mb),Ag ad 4]) (ZP (.map (some d.mb)) (ZP (Ag ad 4) (ZP (.map (some d.mb)) (ZP (Ag ad 4) (Qm (ZP (.map (some d.mb)) (ZP (.string s) (ZG h (A1 (v':=.tuple #[.agg #[Ii (((Ae d.es s).getD (0,0)).1),Ii (((Ae d.es s).getD (0,0)).2)],.bool ((Ae d.es s).isSome)]) (Gks (kv:=d.es.map A8) true s 0 rfl) (by rw [Jc];cases Ae d.es s<;>rfl)) (ZP (.tuple #[.agg #[Ii (((Ae d.es s).getD (0,0)).1),Ii (((Ae d.es s).getD (0,0)).2)],.bool ((Ae d.es s).isSome)]) (ZP (.agg #[Ii (((Ae d.es s).getD (0,0)).1),Ii (((Ae d.es s).getD (0,0)).2)]) (ZP (.bool ((Ae d.es s).isSome)) (ZN [Ii 0,Ii 0] 34 h fun k6 w h=>ZSs [Ii (((Ae d.es s).getD (0,0)).1),Ii (((Ae d.es s).getD (0,0)).2)] 0 rfl h fun w h=>ZP (.bool ((Ae d.es s).isSome)) (Qn (Aa (Ar (Qs (ZP (Ag ad 4) (ZP (.bool true) (ZP (.bool true) (Qg (Qs (ZP (Ag ad 4) (ZP (Ag ad 4) (Qr (Cj (Au ?_))))))))))))))))))))))))))
 have h:=(h.pkr [1,1]).dirBack (d:=d) hj
 exact ZR [Ag ad 4] [2,2,2,2,0,1,1] h ⟨rfl,rfl⟩
 exact Bb
theorem Abz (k:Nat) (N:ND) (hlk:l[k]?=some (some N)) (ha:Bm ps gs n g=some N.nb) (j:Nat) (d:DN) (hj:ds[j]?=some d) (hdh:d.h=(n,g)) (hdd:(ds.map (·.h)).Nodup) (s:ByteArray) (hs:s.size≤9223372036854775807) (hok:A0 s) (ni gi:Int) (ki:Nat) (Ni:ND) (hlki:l[ki]?=some (some Ni)) (hai:Bm ps gs ni gi=some Ni.nb) (hkd:Ni.kind=2):Ap Tryz.prog 33 #[Pp b,Hg ni gi,Hg n g,.string s] (Ra B ad b tb most dm pm ps gs vl vg T Sl Sg l ds pn) (fun u L=>u=Ag ad 8∧L=(Ra B ad b tb most dm pm ps gs vl vg T Sl Sg l ds pn)):=by
 refine Zo 75 Tryz.func33 fun E w0 w h=>?_
 have h:=((h.eS [10] 6 rfl).eS [4] 7 rfl).eS [8] 8 rfl
 refine Qs (ZN [Ii ni,Ii gi] 34 h fun k1 w h=>ZN [Ii n,Ii g] 34 h fun k2 w h=>ZP .nilIface (Qn (Aa (Ds 12 [1,4] h fun w h=>Dp 0 528 (Pp b) [1,4] h (Dp 1 529 (Pp b) [1,4] h (Dp 2 531 (Pp b) [1,4] h (Dq 3 535 [1,4] rfl h (Gl 0 (Pp tb) 1) (Dq 4 527 [1,4] rfl h (Gla 0 [Ii ni,Ii gi] 0) ?_))))))))
 refine Ay [5,9] (by kernel_rfl) rfl ?_
 refine De #[Pp tb,Hg ni gi] [6,6,4] [4,6] rfl (by kernel_rfl) (Bh ad tb ps gs vl vg T Sl Sg l hl hr ni gi ki Ni hlki hai) (fun _=>by kernel_rfl) h ?_ ?_
 rintro v_ L_ w ⟨rfl,rfl⟩ h
 refine ⟨by kernel_rfl,?_⟩
 refine Dp 6 575 (.tuple #[.agg #[Ii Ni.kind,Ii (Ai Ni),Ii Ni.links,Ii Ni.change,Ii Ni.upn,Ii Ni.upg],.nilIface]) [4,6] h (Dp 7 895 (.agg #[Ii Ni.kind,Ii (Ai Ni),Ii Ni.links,Ii Ni.change,Ii Ni.upn,Ii Ni.upg]) [4,6] h (Dp 8 1791 .nilIface [4,6] h ?_))
 refine Ay [9] (by kernel_rfl) rfl ?_
 refine B8 [5,7] rfl (by kernel_rfl) (fun b=>Pp b) [Ii 0,Ii 0,Ii 0,Ii 0,Ii 0,Ii 0] 46 (fun _=>by kernel_rfl) h ?_ ?_
 intro k3 w h;refine ⟨by kernel_rfl,?_⟩
 refine As 10 [5,7] 0 [Ii Ni.kind,Ii (Ai Ni),Ii Ni.links,Ii Ni.change,Ii Ni.upn,Ii Ni.upg] [Ii Ni.kind,Ii (Ai Ni),Ii Ni.links,Ii Ni.change,Ii Ni.upn,Ii Ni.upg] 0 rfl h fun w h=>Dp 11 2047 .nilIface [5,7] h (Dd (Af (Qt (ZP .nilIface (ZP (.bool false) (Fs (ZP (Pp b) (ZG h (Gla 0 [Ii n,Ii g] 4) (ZP (.string s) (ZC [8,1,1,6,1,4] (Cd ad b most tb dm pm ps gs vl vg T Sl Sg l ds pn hl hr n g k N hlk ha j d hj hdh hdd s hs hok) h fun w h=>?_))))))))))
 have h:=(h.pkr [10]).dirOpen hj
 refine ZP (.tuple #[.map (some d.mb),.nilIface]) (ZP (.map (some d.mb)) (ZP .nilIface (ZP (.map (some d.mb)) (ZP .nilIface (Qm (ZP (.map (some d.mb)) (ZP (.string s) (ZG h (A1 (v':=.tuple #[.agg #[Ii (((Ae d.es s).getD (0,0)).1),Ii (((Ae d.es s).getD (0,0)).2)],.bool ((Ae d.es s).isSome)]) (Gks (kv:=d.es.map A8) true s 0 rfl) (by rw [Jc];cases Ae d.es s<;>rfl)) (ZP (.tuple #[.agg #[Ii (((Ae d.es s).getD (0,0)).1),Ii (((Ae d.es s).getD (0,0)).2)],.bool ((Ae d.es s).isSome)]) (ZP (.agg #[Ii (((Ae d.es s).getD (0,0)).1),Ii (((Ae d.es s).getD (0,0)).2)]) (ZP (.bool ((Ae d.es s).isSome)) (ZN [Ii 0,Ii 0] 34 h fun k4 w h=>ZSs [Ii (((Ae d.es s).getD (0,0)).1),Ii (((Ae d.es s).getD (0,0)).2)] 0 rfl h fun w h=>ZP (.bool ((Ae d.es s).isSome)) (Qn (Aa (Ar (Qs (ZP .nilIface (ZP (.bool false) (ZP (.bool false) (Qf (Qs (ZP (Pp k3) (ZG h (Gl 0 (Ii Ni.kind) 9) (ZP (.bool (decide (Ni.kind=2))) (ZP (.bool (decide (Ni.kind=2))) (Qn (Zd (Ni.kind=2) (fun hc5=>?_) fun hc5=>?_)))))))))))))))))))))))))))
 refine Qs (ZG h (Gr 0 (Ag ad 8) 12 rfl (Fd (c:=8) (by decide) rfl)) (ZP (Ag ad 8) (Qr (Cj (Au ?_)))))
 have h:=(h.pkr [1,1]).dirBack (d:=d) hj
 exact ZR [Ag ad 8] [2,2,2,2,0,7,7] h ⟨rfl,rfl⟩
 exfalso;first|omega|(simp only [List.length_map] at *;omega)|(revert hc5;simp;done)|(revert hc5;simp;omega)
 exact Bb
 refine B8 [2,5] rfl (by kernel_rfl) (fun b=>Pp b) [Ii 0,Ii 0,Ii 0,Ii 0,Ii 0,Ii 0] 46 (fun _=>by kernel_rfl) h ?_ ?_
 intro k6 w h;refine ⟨by kernel_rfl,?_⟩
 refine Ad 5 [7,7,5] [5,7] (Bh ad tb ps gs vl vg T Sl Sg l hl hr ni gi ki Ni hlki hai) h ?_
 rintro v_ L_ w ⟨rfl,rfl⟩ h
 refine ⟨by kernel_rfl,?_⟩
 refine Dp 6 575 (.tuple #[.agg #[Ii Ni.kind,Ii (Ai Ni),Ii Ni.links,Ii Ni.change,Ii Ni.upn,Ii Ni.upg],.nilIface]) [5,7] h (Dp 7 895 (.agg #[Ii Ni.kind,Ii (Ai Ni),Ii Ni.links,Ii Ni.change,Ii Ni.upn,Ii Ni.upg]) [5,7] h (Dp 8 1791 .nilIface [5,7] h (As 10 [5,7] 0 [Ii Ni.kind,Ii (Ai Ni),Ii Ni.links,Ii Ni.change,Ii Ni.upn,Ii Ni.upg] [Ii Ni.kind,Ii (Ai Ni),Ii Ni.links,Ii Ni.change,Ii Ni.upn,Ii Ni.upg] 3 rfl h fun w h=>Dp 11 2047 .nilIface [5,7] h (Dd (Af (Qt (ZP .nilIface (ZP (.bool false) (Fs (ZP (Pp b) (ZG h (Gla 0 [Ii n,Ii g] 4) (ZP (.string s) (ZC [8,0,0,6,0,4] (Cd ad b most tb dm pm ps gs vl vg T Sl Sg l ds pn hl hr n g k N hlk ha j d hj hdh hdd s hs hok) h fun w h=>?_)))))))))))))
 have h:=(h.pkr [10]).dirOpen hj
 refine ZP (.tuple #[.map (some d.mb),.nilIface]) (ZP (.map (some d.mb)) (ZP .nilIface (ZP (.map (some d.mb)) (ZP .nilIface (Qm (ZP (.map (some d.mb)) (ZP (.string s) (ZG h (A1 (v':=.tuple #[.agg #[Ii (((Ae d.es s).getD (0,0)).1),Ii (((Ae d.es s).getD (0,0)).2)],.bool ((Ae d.es s).isSome)]) (Gks (kv:=d.es.map A8) true s 0 rfl) (by rw [Jc];cases Ae d.es s<;>rfl)) (ZP (.tuple #[.agg #[Ii (((Ae d.es s).getD (0,0)).1),Ii (((Ae d.es s).getD (0,0)).2)],.bool ((Ae d.es s).isSome)]) (ZP (.agg #[Ii (((Ae d.es s).getD (0,0)).1),Ii (((Ae d.es s).getD (0,0)).2)]) (ZP (.bool ((Ae d.es s).isSome)) (ZN [Ii 0,Ii 0] 34 h fun k7 w h=>ZSs [Ii (((Ae d.es s).getD (0,0)).1),Ii (((Ae d.es s).getD (0,0)).2)] 0 rfl h fun w h=>ZP (.bool ((Ae d.es s).isSome)) (Qn (Aa (Ar (Qs (ZP .nilIface (ZP (.bool false) (ZP (.bool false) (Qf (Qs (ZP (Pp k6) (ZG h (Gl 0 (Ii Ni.kind) 9) (ZP (.bool (decide (Ni.kind=2))) (ZP (.bool (decide (Ni.kind=2))) (Qn (Zd (Ni.kind=2) (fun hc8=>?_) fun hc8=>?_)))))))))))))))))))))))))))
 refine Qs (ZG h (Gr 0 (Ag ad 8) 12 rfl (Fd (c:=8) (by decide) rfl)) (ZP (Ag ad 8) (Qr (Cj (Au ?_)))))
 have h:=(h.pkr [1,1]).dirBack (d:=d) hj
 exact ZR [Ag ad 8] [2,2,2,2,0,7,7] h ⟨rfl,rfl⟩
 exfalso;first|omega|(simp only [List.length_map] at *;omega)|(revert hc8;simp;done)|(revert hc8;simp;omega)
 exact Bb
theorem Aax (k:Nat) (N:ND) (hlk:l[k]?=some (some N)) (ha:Bm ps gs n g=some N.nb) (j:Nat) (d:DN) (hj:ds[j]?=some d) (hdh:d.h=(n,g)) (hdd:(ds.map (·.h)).Nodup) (s:ByteArray) (hs:s.size≤9223372036854775807) (hok:A0 s) (ni gi:Int) (ki:Nat) (Ni:ND) (hlki:l[ki]?=some (some Ni)) (hai:Bm ps gs ni gi=some Ni.nb) (hkd:Ni.kind=1) (x:Int×Int) (hx:Ae d.es s=some x):Ap Tryz.prog 33 #[Pp b,Hg ni gi,Hg n g,.string s] (Ra B ad b tb most dm pm ps gs vl vg T Sl Sg l ds pn) (fun u L=>u=Ag ad 6∧L=(Ra B ad b tb most dm pm ps gs vl vg T Sl Sg l ds pn)):=by
 refine Zo 75 Tryz.func33 fun E w0 w h=>?_
 have h:=((h.eS [10] 6 rfl).eS [4] 7 rfl).eS [6] 8 rfl
 refine Qs (ZN [Ii ni,Ii gi] 34 h fun k1 w h=>ZN [Ii n,Ii g] 34 h fun k2 w h=>ZP .nilIface (Qn (Aa (Ds 12 [1,4] h fun w h=>Dp 0 528 (Pp b) [1,4] h (Dp 1 529 (Pp b) [1,4] h (Dp 2 531 (Pp b) [1,4] h (Dq 3 535 [1,4] rfl h (Gl 0 (Pp tb) 1) (Dq 4 527 [1,4] rfl h (Gla 0 [Ii ni,Ii gi] 0) ?_))))))))
 refine Ay [5,9] (by kernel_rfl) rfl ?_
 refine De #[Pp tb,Hg ni gi] [6,6,4] [4,6] rfl (by kernel_rfl) (Bh ad tb ps gs vl vg T Sl Sg l hl hr ni gi ki Ni hlki hai) (fun _=>by kernel_rfl) h ?_ ?_
 rintro v_ L_ w ⟨rfl,rfl⟩ h
 refine ⟨by kernel_rfl,?_⟩
 refine Dp 6 575 (.tuple #[.agg #[Ii Ni.kind,Ii (Ai Ni),Ii Ni.links,Ii Ni.change,Ii Ni.upn,Ii Ni.upg],.nilIface]) [4,6] h (Dp 7 895 (.agg #[Ii Ni.kind,Ii (Ai Ni),Ii Ni.links,Ii Ni.change,Ii Ni.upn,Ii Ni.upg]) [4,6] h (Dp 8 1791 .nilIface [4,6] h ?_))
 refine Ay [9] (by kernel_rfl) rfl ?_
 refine B8 [5,7] rfl (by kernel_rfl) (fun b=>Pp b) [Ii 0,Ii 0,Ii 0,Ii 0,Ii 0,Ii 0] 46 (fun _=>by kernel_rfl) h ?_ ?_
 intro k3 w h;refine ⟨by kernel_rfl,?_⟩
 refine As 10 [5,7] 0 [Ii Ni.kind,Ii (Ai Ni),Ii Ni.links,Ii Ni.change,Ii Ni.upn,Ii Ni.upg] [Ii Ni.kind,Ii (Ai Ni),Ii Ni.links,Ii Ni.change,Ii Ni.upn,Ii Ni.upg] 0 rfl h fun w h=>Dp 11 2047 .nilIface [5,7] h (Dd (Af (Qt (ZP .nilIface (ZP (.bool false) (Fs (ZP (Pp b) (ZG h (Gla 0 [Ii n,Ii g] 4) (ZP (.string s) (ZC [8,1,1,6,1,4] (Cd ad b most tb dm pm ps gs vl vg T Sl Sg l ds pn hl hr n g k N hlk ha j d hj hdh hdd s hs hok) h fun w h=>?_))))))))))
 have h:=(h.pkr [10]).dirOpen hj
 refine ZP (.tuple #[.map (some d.mb),.nilIface]) (ZP (.map (some d.mb)) (ZP .nilIface (ZP (.map (some d.mb)) (ZP .nilIface (Qm (ZP (.map (some d.mb)) (ZP (.string s) (ZG h (A1 (v':=.tuple #[Hg x.1 x.2,.bool true]) (Gks (kv:=d.es.map A8) true s 0 rfl) (by rw [Cb hx];rfl)) (ZP (.tuple #[Hg x.1 x.2,.bool true]) (ZP (Hg x.1 x.2) (ZP (.bool true) (ZN [Ii 0,Ii 0] 34 h fun k4 w h=>ZSs [Ii x.1,Ii x.2] 0 rfl h fun w h=>ZP (.bool true) (Qn (Aa (Ar (Qs (ZP .nilIface (ZP (.bool false) (ZP (.bool false) (Qf (Qs (ZP (Pp k3) (ZG h (Gl 0 (Ii Ni.kind) 9) (ZP (.bool (decide (Ni.kind=2))) (ZP (.bool (decide (Ni.kind=2))) (Qn (Zd (Ni.kind=2) (fun hc5=>?_) fun hc5=>?_)))))))))))))))))))))))))))
 exfalso;first|omega|(simp only [List.length_map] at *;omega)|(revert hc5;simp;done)|(revert hc5;simp;omega)
 refine Qs (ZP (.bool true) (ZP (.bool true) (Qg (Qs (ZG h (Gr 0 (Ag ad 6) 12 rfl (Fd (c:=6) (by decide) rfl)) (ZP (Ag ad 6) (Qr (Cj (Au ?_)))))))))
 have h:=(h.pkr [1,1]).dirBack (d:=d) hj
 exact ZR [Ag ad 6] [2,2,2,2,0,7,7] h ⟨rfl,rfl⟩
 exact Bb
 refine B8 [2,5] rfl (by kernel_rfl) (fun b=>Pp b) [Ii 0,Ii 0,Ii 0,Ii 0,Ii 0,Ii 0] 46 (fun _=>by kernel_rfl) h ?_ ?_
 intro k6 w h;refine ⟨by kernel_rfl,?_⟩
 refine Ad 5 [7,7,5] [5,7] (Bh ad tb ps gs vl vg T Sl Sg l hl hr ni gi ki Ni hlki hai) h ?_
 rintro v_ L_ w ⟨rfl,rfl⟩ h
 refine ⟨by kernel_rfl,?_⟩
 refine Dp 6 575 (.tuple #[.agg #[Ii Ni.kind,Ii (Ai Ni),Ii Ni.links,Ii Ni.change,Ii Ni.upn,Ii Ni.upg],.nilIface]) [5,7] h (Dp 7 895 (.agg #[Ii Ni.kind,Ii (Ai Ni),Ii Ni.links,Ii Ni.change,Ii Ni.upn,Ii Ni.upg]) [5,7] h (Dp 8 1791 .nilIface [5,7] h (As 10 [5,7] 0 [Ii Ni.kind,Ii (Ai Ni),Ii Ni.links,Ii Ni.change,Ii Ni.upn,Ii Ni.upg] [Ii Ni.kind,Ii (Ai Ni),Ii Ni.links,Ii Ni.change,Ii Ni.upn,Ii Ni.upg] 3 rfl h fun w h=>Dp 11 2047 .nilIface [5,7] h (Dd (Af (Qt (ZP .nilIface (ZP (.bool false) (Fs (ZP (Pp b) (ZG h (Gla 0 [Ii n,Ii g] 4) (ZP (.string s) (ZC [8,0,0,6,0,4] (Cd ad b most tb dm pm ps gs vl vg T Sl Sg l ds pn hl hr n g k N hlk ha j d hj hdh hdd s hs hok) h fun w h=>?_)))))))))))))
 have h:=(h.pkr [10]).dirOpen hj
 refine ZP (.tuple #[.map (some d.mb),.nilIface]) (ZP (.map (some d.mb)) (ZP .nilIface (ZP (.map (some d.mb)) (ZP .nilIface (Qm (ZP (.map (some d.mb)) (ZP (.string s) (ZG h (A1 (v':=.tuple #[Hg x.1 x.2,.bool true]) (Gks (kv:=d.es.map A8) true s 0 rfl) (by rw [Cb hx];rfl)) (ZP (.tuple #[Hg x.1 x.2,.bool true]) (ZP (Hg x.1 x.2) (ZP (.bool true) (ZN [Ii 0,Ii 0] 34 h fun k7 w h=>ZSs [Ii x.1,Ii x.2] 0 rfl h fun w h=>ZP (.bool true) (Qn (Aa (Ar (Qs (ZP .nilIface (ZP (.bool false) (ZP (.bool false) (Qf (Qs (ZP (Pp k6) (ZG h (Gl 0 (Ii Ni.kind) 9) (ZP (.bool (decide (Ni.kind=2))) (ZP (.bool (decide (Ni.kind=2))) (Qn (Zd (Ni.kind=2) (fun hc8=>?_) fun hc8=>?_)))))))))))))))))))))))))))
 exfalso;first|omega|(simp only [List.length_map] at *;omega)|(revert hc8;simp;done)|(revert hc8;simp;omega)
 refine Qs (ZP (.bool true) (ZP (.bool true) (Qg (Qs (ZG h (Gr 0 (Ag ad 6) 12 rfl (Fd (c:=6) (by decide) rfl)) (ZP (Ag ad 6) (Qr (Cj (Au ?_)))))))))
 have h:=(h.pkr [1,1]).dirBack (d:=d) hj
 exact ZR [Ag ad 6] [2,2,2,2,0,7,7] h ⟨rfl,rfl⟩
 exact Bb
theorem Acm (k:Nat) (N:ND) (hlk:l[k]?=some (some N)) (ha:Bm ps gs n g=some N.nb) (j:Nat) (d:DN) (hj:ds[j]?=some d) (hdh:d.h=(n,g)) (hdd:(ds.map (·.h)).Nodup) (s:ByteArray) (hs:s.size≤9223372036854775807) (hok:A0 s) (ni gi:Int) (ki:Nat) (Ni:ND) (hlki:l[ki]?=some (some Ni)) (hai:Bm ps gs ni gi=some Ni.nb) (hkd:Ni.kind=1) (hx:Ae d.es s=none) (hfull:60≤d.es.length):Ap Tryz.prog 33 #[Pp b,Hg ni gi,Hg n g,.string s] (Ra B ad b tb most dm pm ps gs vl vg T Sl Sg l ds pn) (fun u L=>u=Ag ad 9∧L=(Ra B ad b tb most dm pm ps gs vl vg T Sl Sg l ds pn)):=by
 refine Zo 75 Tryz.func33 fun E w0 w h=>?_
 have h:=((h.eS [10] 6 rfl).eS [4] 7 rfl).eS [9] 8 rfl
 refine Qs (ZN [Ii ni,Ii gi] 34 h fun k1 w h=>ZN [Ii n,Ii g] 34 h fun k2 w h=>ZP .nilIface (Qn (Aa (Ds 12 [1,4] h fun w h=>Dp 0 528 (Pp b) [1,4] h (Dp 1 529 (Pp b) [1,4] h (Dp 2 531 (Pp b) [1,4] h (Dq 3 535 [1,4] rfl h (Gl 0 (Pp tb) 1) (Dq 4 527 [1,4] rfl h (Gla 0 [Ii ni,Ii gi] 0) ?_))))))))
 refine Ay [5,9] (by kernel_rfl) rfl ?_
 refine De #[Pp tb,Hg ni gi] [6,6,4] [4,6] rfl (by kernel_rfl) (Bh ad tb ps gs vl vg T Sl Sg l hl hr ni gi ki Ni hlki hai) (fun _=>by kernel_rfl) h ?_ ?_
 rintro v_ L_ w ⟨rfl,rfl⟩ h
 refine ⟨by kernel_rfl,?_⟩
 refine Dp 6 575 (.tuple #[.agg #[Ii Ni.kind,Ii (Ai Ni),Ii Ni.links,Ii Ni.change,Ii Ni.upn,Ii Ni.upg],.nilIface]) [4,6] h (Dp 7 895 (.agg #[Ii Ni.kind,Ii (Ai Ni),Ii Ni.links,Ii Ni.change,Ii Ni.upn,Ii Ni.upg]) [4,6] h (Dp 8 1791 .nilIface [4,6] h ?_))
 refine Ay [9] (by kernel_rfl) rfl ?_
 refine B8 [5,7] rfl (by kernel_rfl) (fun b=>Pp b) [Ii 0,Ii 0,Ii 0,Ii 0,Ii 0,Ii 0] 46 (fun _=>by kernel_rfl) h ?_ ?_
 intro k3 w h;refine ⟨by kernel_rfl,?_⟩
 refine As 10 [5,7] 0 [Ii Ni.kind,Ii (Ai Ni),Ii Ni.links,Ii Ni.change,Ii Ni.upn,Ii Ni.upg] [Ii Ni.kind,Ii (Ai Ni),Ii Ni.links,Ii Ni.change,Ii Ni.upn,Ii Ni.upg] 0 rfl h fun w h=>Dp 11 2047 .nilIface [5,7] h (Dd (Af (Qt (ZP .nilIface (ZP (.bool false) (Fs (ZP (Pp b) (ZG h (Gla 0 [Ii n,Ii g] 4) (ZP (.string s) (ZC [8,1,1,6,1,4] (Cd ad b most tb dm pm ps gs vl vg T Sl Sg l ds pn hl hr n g k N hlk ha j d hj hdh hdd s hs hok) h fun w h=>?_))))))))))
 have h:=(h.pkr [10]).dirOpen hj
 refine ZP (.tuple #[.map (some d.mb),.nilIface]) (ZP (.map (some d.mb)) (ZP .nilIface (ZP (.map (some d.mb)) (ZP .nilIface (Qm (ZP (.map (some d.mb)) (ZP (.string s) (ZG h (A1 (v':=.tuple #[Hg 0 0,.bool false]) (Gks (kv:=d.es.map A8) true s 0 rfl) (by rw [Eb hx];rfl)) (ZP (.tuple #[Hg 0 0,.bool false]) (ZP (Hg 0 0) (ZP (.bool false) (ZN [Ii 0,Ii 0] 34 h fun k4 w h=>ZSs [Ii 0,Ii 0] 0 rfl h fun w h=>ZP (.bool false) (Qn (Aa (Ar (Qs (ZP .nilIface (ZP (.bool false) (ZP (.bool false) (Qf (Qs (ZP (Pp k3) (ZG h (Gl 0 (Ii Ni.kind) 9) (ZP (.bool (decide (Ni.kind=2))) (ZP (.bool (decide (Ni.kind=2))) (Qn (Zd (Ni.kind=2) (fun hc5=>?_) fun hc5=>?_)))))))))))))))))))))))))))
 exfalso;first|omega|(simp only [List.length_map] at *;omega)|(revert hc5;simp;done)|(revert hc5;simp;omega)
 refine Qs (ZP (.bool false) (ZP (.bool false) (Qf (Qs (ZP (.map (some d.mb)) (ZG h (Ek (K:=9) (E:=34) (by kernel_rfl) 1 rfl) ?_))))))
 obtain ⟨b6,hb6⟩:=nmB (decide (((d.es.map A8).length:Int)≥60))
 refine ZB hb6 (ZP (.bool b6) (ZM0 (v:=Pt k3 2) b6 h (fun hB=>by subst hB;exact Gp (Pt k3 2)) (ZM0 (v:=Ii Ni.links) b6 h (fun hB=>by subst hB;exact Gl 2 (Ii Ni.links) 9) ?_)))
 obtain ⟨b7,hb7⟩:=nmB (decide (Ni.links≥8))
 refine ZM0 (v:=.bool b7) b6 h (fun hB=>by subst hB;exact by subst hb7;exact Ax (v:=.bool (decide (Ni.links≥8))) fun _=>by kernel_rfl) ?_
 obtain ⟨b8,hb8⟩:=nmB (b6||b7)
 refine ZBc b6 hb8 (ZP (.bool b8) (Qn (Zi (b8) (fun hc9=>?_) fun hc9=>?_)))
 have q10:=hb8.symm.trans hc9
 have q11:((((d.es.map A8).length:Int)≥60)∨(Ni.links≥8)):=by subst hb7;subst hb6;revert q10;first|(simp;done)|(simp;omega)
 refine Qs (ZG h (Gr 0 (Ag ad 9) 12 rfl (Fd (c:=9) (by decide) rfl)) (ZP (Ag ad 9) (Qr (Cj (Au ?_)))))
 have h:=(h.pkr [1,1]).dirBack (d:=d) hj
 exact ZR [Ag ad 9] [2,2,2,2,0,7,7] h ⟨rfl,rfl⟩
 have q12:=hb8.symm.trans hc9
 have q13:=oL q12
 have q14:=oR q12
 have q15:=hb6.symm.trans q13
 have q15:=dcF q15
 have q16:=hb7.symm.trans q14
 have q16:=dcF q16
 exfalso;first|omega|(simp only [List.length_map] at *;omega)|(revert hc9;subst hb8;subst hb7;subst hb6;simp;done)|(revert hc9;subst hb8;subst hb7;subst hb6;simp;omega)
 exact Bb
 refine B8 [2,5] rfl (by kernel_rfl) (fun b=>Pp b) [Ii 0,Ii 0,Ii 0,Ii 0,Ii 0,Ii 0] 46 (fun _=>by kernel_rfl) h ?_ ?_
 intro k17 w h;refine ⟨by kernel_rfl,?_⟩
 refine Ad 5 [7,7,5] [5,7] (Bh ad tb ps gs vl vg T Sl Sg l hl hr ni gi ki Ni hlki hai) h ?_
 rintro v_ L_ w ⟨rfl,rfl⟩ h
 refine ⟨by kernel_rfl,?_⟩
 refine Dp 6 575 (.tuple #[.agg #[Ii Ni.kind,Ii (Ai Ni),Ii Ni.links,Ii Ni.change,Ii Ni.upn,Ii Ni.upg],.nilIface]) [5,7] h (Dp 7 895 (.agg #[Ii Ni.kind,Ii (Ai Ni),Ii Ni.links,Ii Ni.change,Ii Ni.upn,Ii Ni.upg]) [5,7] h (Dp 8 1791 .nilIface [5,7] h (As 10 [5,7] 0 [Ii Ni.kind,Ii (Ai Ni),Ii Ni.links,Ii Ni.change,Ii Ni.upn,Ii Ni.upg] [Ii Ni.kind,Ii (Ai Ni),Ii Ni.links,Ii Ni.change,Ii Ni.upn,Ii Ni.upg] 3 rfl h fun w h=>Dp 11 2047 .nilIface [5,7] h (Dd (Af (Qt (ZP .nilIface (ZP (.bool false) (Fs (ZP (Pp b) (ZG h (Gla 0 [Ii n,Ii g] 4) (ZP (.string s) (ZC [8,0,0,6,0,4] (Cd ad b most tb dm pm ps gs vl vg T Sl Sg l ds pn hl hr n g k N hlk ha j d hj hdh hdd s hs hok) h fun w h=>?_)))))))))))))
 have h:=(h.pkr [10]).dirOpen hj
 refine ZP (.tuple #[.map (some d.mb),.nilIface]) (ZP (.map (some d.mb)) (ZP .nilIface (ZP (.map (some d.mb)) (ZP .nilIface (Qm (ZP (.map (some d.mb)) (ZP (.string s) (ZG h (A1 (v':=.tuple #[Hg 0 0,.bool false]) (Gks (kv:=d.es.map A8) true s 0 rfl) (by rw [Eb hx];rfl)) (ZP (.tuple #[Hg 0 0,.bool false]) (ZP (Hg 0 0) (ZP (.bool false) (ZN [Ii 0,Ii 0] 34 h fun k18 w h=>ZSs [Ii 0,Ii 0] 0 rfl h fun w h=>ZP (.bool false) (Qn (Aa (Ar (Qs (ZP .nilIface (ZP (.bool false) (ZP (.bool false) (Qf (Qs (ZP (Pp k17) (ZG h (Gl 0 (Ii Ni.kind) 9) (ZP (.bool (decide (Ni.kind=2))) (ZP (.bool (decide (Ni.kind=2))) (Qn (Zd (Ni.kind=2) (fun hc19=>?_) fun hc19=>?_)))))))))))))))))))))))))))
 exfalso;first|omega|(simp only [List.length_map] at *;omega)|(revert hc19;simp;done)|(revert hc19;simp;omega)
 refine Qs (ZP (.bool false) (ZP (.bool false) (Qf (Qs (ZP (.map (some d.mb)) (ZG h (Ek (K:=9) (E:=34) (by kernel_rfl) 1 rfl) ?_))))))
 obtain ⟨b20,hb20⟩:=nmB (decide (((d.es.map A8).length:Int)≥60))
 refine ZB hb20 (ZP (.bool b20) (ZM0 (v:=Pt k17 2) b20 h (fun hB=>by subst hB;exact Gp (Pt k17 2)) (ZM0 (v:=Ii Ni.links) b20 h (fun hB=>by subst hB;exact Gl 2 (Ii Ni.links) 9) ?_)))
 obtain ⟨b21,hb21⟩:=nmB (decide (Ni.links≥8))
 refine ZM0 (v:=.bool b21) b20 h (fun hB=>by subst hB;exact by subst hb21;exact Ax (v:=.bool (decide (Ni.links≥8))) fun _=>by kernel_rfl) ?_
 obtain ⟨b22,hb22⟩:=nmB (b20||b21)
 refine ZBc b20 hb22 (ZP (.bool b22) (Qn (Zi (b22) (fun hc23=>?_) fun hc23=>?_)))
 have q24:=hb22.symm.trans hc23
 have q25:((((d.es.map A8).length:Int)≥60)∨(Ni.links≥8)):=by subst hb21;subst hb20;revert q24;first|(simp;done)|(simp;omega)
 refine Qs (ZG h (Gr 0 (Ag ad 9) 12 rfl (Fd (c:=9) (by decide) rfl)) (ZP (Ag ad 9) (Qr (Cj (Au ?_)))))
 have h:=(h.pkr [1,1]).dirBack (d:=d) hj
 exact ZR [Ag ad 9] [2,2,2,2,0,7,7] h ⟨rfl,rfl⟩
 have q26:=hb22.symm.trans hc23
 have q27:=oL q26
 have q28:=oR q26
 have q29:=hb20.symm.trans q27
 have q29:=dcF q29
 have q30:=hb21.symm.trans q28
 have q30:=dcF q30
 exfalso;first|omega|(simp only [List.length_map] at *;omega)|(revert hc23;subst hb22;subst hb21;subst hb20;simp;done)|(revert hc23;subst hb22;subst hb21;subst hb20;simp;omega)
 exact Bb
end
section
variable {most:Nat} {ps:List (Option Nat)} {gs:List Int} {l:List (Option ND)} {ds:List DN} {pn:List ((Int×Int)×Int)} {A:List AN} {ts:List Int} {lz:Hdl→Nat}
theorem TI0.enterNod (b:TI0 most ts lz A) (d:Hdl) (nm:ByteArray) (x:Hdl):((Aw A d nm x).map (·.h)).Nodup:=by
  exact Yo b.nod d nm x
section
variable (s:Sim most ps gs l ds pn A ts) (t:TI most ts A)
include s t
theorem Sim.createF {D:AN} (hD:D∈A) (hk:D.kind=2) {k j kf:Nat} {N:ND} {d:DN} (hlk:l[k]?=some (some N)) (hDh:D.h=((k:Int),Av ts k - 1)) (hj:ds[j]?=some d) (hdh:d.h=D.h) {nm:ByteArray} (hno:∀ e∈D.es,e.1≠nm) (hlt:D.es.length<60) (hkf:kf<most) (hu:Ey A kf=false) (nb db:Nat) :
    Sim most (ps.set kf (some nb)) (gs.set kf (Av ts kf+1)) (((l.set kf (some (Cv nb 1 (some (Hm db))))).set kf (some (Am (Cv nb 1 (some (Hm db))) 1))).set k (some (Ab N))) (ds.set j { d with es:=Az d.es nm ((kf:Int),Av ts kf) }) pn (F5 A ts D.h nm 1 kf) (ts.set kf (Av ts kf+1)):=by
  have b:=t.base
  have s0:=SD.of_ s
  have hlen:ts.length=most:=by rw [← s.gts];exact s.lgs
  have hne:kf≠k:=fun e=>Fm hu hD (by rw [hDh,e])
  have hKn:∀ M∈A,M.h≠((kf:Int),Av ts kf):=fun M hM e=>Fm hu hM (by rw [e])
  have bK:=b.app (kind:=1) hkf hlen hu (.inl rfl) lz0 (fun _ _=>rfl) (fun q=>absurd q (by decide))
  have hK:C7 ((kf:Int),Av ts kf) 1∈A++[C7 ((kf:Int),Av ts kf) 1]:=by simp
  have hD1:D∈A++[C7 ((kf:Int),Av ts kf) 1]:=List.mem_append_left _ hD
  have htk:Av (ts.set kf (Av ts kf+1)) kf=Av ts kf+1:=Sk (by omega) _
  have hKh:(C7 ((kf:Int),Av ts kf) 1).h=((kf:Int),Av (ts.set kf (Av ts kf+1)) kf - 1):=Prod.ext rfl (by rw [htk];show Av ts kf=Av ts kf+1 - 1;omega)
  have hDk:D.h=((k:Int),Av (ts.set kf (Av ts kf+1)) k - 1):=by rw [Tr hne];exact hDh
  have t1:=s0.T.app b hkf hu (N:=Cv nb 1 (some (Hm db))) (K:=C7 ((kf:Int),Av ts kf) 1) (dl':=fun _=>0) (ud':=fun _=>False) rfl rfl (fun _ _=>rfl) (fun _ _ h=>h)
    ⟨rfl,rfl,by rw [Dg (N:=C7 ((kf:Int),Av ts kf) 1) (show ¬(1:Int)=2 by decide),K0 A _ rfl];show (0:Int)=(A7 A ((kf:Int),Av ts kf):Int)+0;rw [S6 b hKn];rfl,fun q=>absurd (show (1:Int)=2 from q) (by decide),fun _=>⟨rfl,rfl,Hm db,rfl,X6⟩⟩
  have s1:SD most (fun _=>0) (fun _=>False) (ps.set kf (some nb)) (gs.set kf (Av ts kf+1)) (l.set kf (some (Cv nb 1 (some (Hm db))))) ds pn (A++[C7 ((kf:Int),Av ts kf) 1]) (ts.set kf (Av ts kf+1)):=⟨t1,s0.E.addF (N:=C7 ((kf:Int),Av ts kf) 1) (show ¬(1:Int)=2 by decide),s0.P.app rfl⟩
  have s2:=s1.links bK (k:=kf) (C2 (by rw [s.ll];exact hkf)) hK hKh 1
  have s3:=s2.enter bK hD1 hK hk hj hdh hno
  have hn3:=bK.enterNod D.h nm (C7 ((kf:Int),Av ts kf) 1).h
  have hD3:=G3 (f:=fun N=>⟨N.h,N.kind,N.change,N.s,N.holes,Bj nm (C7 ((kf:Int),Av ts kf) 1).h N.es,N.pins⟩) hD1
  have s4:SD _ _ _ _ _ _ _ _ _ _:=⟨s3.T.touch hn3 (k:=k) (N:=N) (A3 (A3 hlk hne) hne) hD3 hDk,s3.E.shp (Bn _ _),s3.P.touch _⟩
  refine s4.fin (fun M hM=>?_) fun M hM k2 q=>?_
  · show ((0:Int)+(if M.h=((kf:Int),Av ts kf) then (1:Int) else 0)) - (if M.h=D.h∧(1:Int)=2 then 1 else 0) - (if M.h=((kf:Int),Av ts kf)∧(1:Int)=1 then 1 else 0)=0
    by_cases c:M.h=((kf:Int),Av ts kf)<;>simp [c]
  · rcases q with q|q
    · exact q
    · exact absurd (show (1:Int)=2 from q.2) (by decide)
theorem Sim.createD {D:AN} (hD:D∈A) (hk:D.kind=2) {k j kf:Nat} {N:ND} {d:DN} {n g:Int} (hlk:l[k]?=some (some N)) (hDh:D.h=((k:Int),Av ts k - 1)) (hng:D.h=(n,g)) (hj:ds[j]?=some d) (hdh:d.h=D.h) {nm:ByteArray} (hno:∀ e∈D.es,e.1≠nm) (hlt:D.es.length<60) (hkf:kf<most) (hu:Ey A kf=false) (nb mb:Nat) :
    Sim most (ps.set kf (some nb)) (gs.set kf (Av ts kf+1)) ((((l.set kf (some (Cv nb 2 none))).set kf (some (keepN (Cv nb 2 none) 2 0 2 n g))).set k (some (Am N 1))).set k (some (Ab (Am N 1)))) (ds.set j { d with es:=Az d.es nm ((kf:Int),Av ts kf) }++[(⟨((kf:Int),Av ts kf),mb,[]⟩:DN)]) pn (F5 A ts D.h nm 2 kf) (ts.set kf (Av ts kf+1)):=by
  have b:=t.base
  have s0:=SD.of_ s
  have hlen:ts.length=most:=by rw [← s.gts];exact s.lgs
  have hne:kf≠k:=fun e=>Fm hu hD (by rw [hDh,e])
  have hKn:∀ M∈A,M.h≠((kf:Int),Av ts kf):=fun M hM e=>Fm hu hM (by rw [e])
  have bK:=b.app (kind:=2) hkf hlen hu (.inr rfl) (fun h=>if h=((kf:Int),Av ts kf) then 1 else 0) (fun M hM=>if_neg (hKn M hM)) (fun _=>if_pos rfl)
  have hK:C7 ((kf:Int),Av ts kf) 2∈A++[C7 ((kf:Int),Av ts kf) 2]:=by simp
  have hD1:D∈A++[C7 ((kf:Int),Av ts kf) 2]:=List.mem_append_left _ hD
  have htk:Av (ts.set kf (Av ts kf+1)) kf=Av ts kf+1:=Sk (by omega) _
  have hKh:(C7 ((kf:Int),Av ts kf) 2).h=((kf:Int),Av (ts.set kf (Av ts kf+1)) kf - 1):=Prod.ext rfl (by rw [htk];show Av ts kf=Av ts kf+1 - 1;omega)
  have hDk:D.h=((k:Int),Av (ts.set kf (Av ts kf+1)) k - 1):=by rw [Tr hne];exact hDh
  have hDK:D.h≠((kf:Int),Av ts kf):=hKn D hD
  have t1:=s0.T.app b hkf hu (N:=Cv nb 2 none) (K:=C7 ((kf:Int),Av ts kf) 2) (dl':=fun h=>if h=((kf:Int),Av ts kf) then -2 else 0) (ud':=fun h=>h=((kf:Int),Av ts kf)) rfl rfl (fun M hM=>if_neg (hKn M hM)) (fun _ _ h=>h.elim)
    ⟨rfl,rfl,by rw [D9 (N:=C7 ((kf:Int),Av ts kf) 2) rfl];show (0:Int)=2+((([]:List Bk).countP _:Nat):Int)+(if ((kf:Int),Av ts kf)=((kf:Int),Av ts kf) then -2 else 0);rw [if_pos rfl];rfl,fun q=>⟨rfl,fun w=>absurd rfl w⟩,fun q=>absurd (show (2:Int)=1 from q) (by decide)⟩
  have s1:SD most (fun h=>if h=((kf:Int),Av ts kf) then -2 else 0) (fun h=>h=((kf:Int),Av ts kf)) (ps.set kf (some nb)) (gs.set kf (Av ts kf+1)) (l.set kf (some (Cv nb 2 none))) (ds++[(⟨((kf:Int),Av ts kf),mb,[]⟩:DN)]) pn (A++[C7 ((kf:Int),Av ts kf) 2]) (ts.set kf (Av ts kf+1)):=
    ⟨t1,s0.E.add (N:=C7 ((kf:Int),Av ts kf) 2) rfl rfl hKn mb,s0.P.app rfl⟩
  have hjl:=C1 hj
  have s3:=s1.enter bK hD1 hK hk (j:=j) (d:=d) (by rw [List.getElem?_append_left hjl];exact hj) hdh hno
  rw [List.set_append_left _ _ hjl] at s3
  have hn3:=bK.enterNod D.h nm (C7 ((kf:Int),Av ts kf) 2).h
  have hD3:=G3 (f:=fun N=>⟨N.h,N.kind,N.change,N.s,N.holes,Bj nm (C7 ((kf:Int),Av ts kf) 2).h N.es,N.pins⟩) hD1
  have hK3:C7 ((kf:Int),Av ts kf) 2∈Aw (A++[C7 ((kf:Int),Av ts kf) 2]) D.h nm (C7 ((kf:Int),Av ts kf) 2).h:=Cc hK (fun e=>hDK e.symm)
  have hup:upA (Aw (A++[C7 ((kf:Int),Av ts kf) 2]) D.h nm (C7 ((kf:Int),Av ts kf) 2).h) (C7 ((kf:Int),Av ts kf) 2).h=(n,g):=by
    rw [← hng]
    refine Ln (M:=⟨D.h,D.kind,D.change,D.s,D.holes,Bj nm (C7 ((kf:Int),Av ts kf) 2).h D.es,D.pins⟩) ?_ hD3 (e:=(nm,(C7 ((kf:Int),Av ts kf) 2).h)) ((E2 _ _ _).mem_iff.2 (by simp)) rfl
    rw [Hb bK.nod hD1,K0 A _ rfl,if_pos rfl]
    show A7 A ((kf:Int),Av ts kf)+1≤1
    rw [S6 b hKn];exact Nat.le_refl _
  have t4:=s3.T.keepUp hn3 (k:=kf) (N:=Cv nb 2 none) (C2 (by rw [s.ll];exact hkf)) hK3 hKh rfl 0 2 hup
  have t5:=t4.links hn3 (k:=k) (N:=N) (A3 (A3 hlk hne) hne) hD3 hDk 1
  have t6:=t5.touch hn3 (k:=k) (N:=Am N 1) (C2 (by simp;exact C1 hlk)) hD3 hDk
  have s6:SD _ _ _ _ _ _ _ _ _ _:=⟨t6,s3.E.shp (Bn _ _),s3.P.touch _⟩
  refine s6.fin (fun M hM=>?_) fun M hM k2 q=>?_
  · show ((((if M.h=((kf:Int),Av ts kf) then (-2:Int) else 0) - (if M.h=D.h∧(2:Int)=2 then 1 else 0) - (if M.h=((kf:Int),Av ts kf)∧(2:Int)=1 then 1 else 0))+(if M.h=((kf:Int),Av ts kf) then (2:Int) - 0 else 0))+(if M.h=D.h then 1 else 0))=0
    by_cases c:M.h=((kf:Int),Av ts kf)
    · have c2:¬((kf:Int),Av ts kf)=D.h:=fun e=>hDK e.symm
      simp [c,c2]
    · by_cases c2:M.h=D.h<;>simp [c,c2]
      simp [hDK]
  · exact q.2 (by
      rcases q.1 with q|q
      · exact q
      · exact q.1)
theorem Sim.link {D X:AN} (hD:D∈A) (hX:X∈A) (hk:D.kind=2) (hkx:X.kind=1) {k kx j:Nat} {N Nx:ND} {d:DN} (hlk:l[k]?=some (some N)) (hDh:D.h=((k:Int),Av ts k - 1)) (hlx:l[kx]?=some (some Nx)) (hXh:X.h=((kx:Int),Av ts kx - 1)) (hj:ds[j]?=some d) (hdh:d.h=D.h) {nm:ByteArray} (hno:∀ e∈D.es,e.1≠nm) :
    Sim most ps gs (((l.set kx (some (Am Nx 1))).set kx (some (Ab (Am Nx 1)))).set k (some (Ab N))) (ds.set j { d with es:=Az d.es nm X.h }) pn (K8 A X.h D.h nm) ts:=by
  have b:=t.base
  have hne:X.h≠D.h:=fun e=>by rw [b.same hX hD e] at hkx;omega
  have hnk:kx≠k:=fun e=>hne (by rw [hXh,hDh,e])
  have s1:=(SD.of_ s).enter b hD hX hk hj hdh hno
  have hn1:=b.enterNod D.h nm X.h
  have hX1:X∈Aw A D.h nm X.h:=Cc hX hne
  have hD1:=G3 (f:=fun N=>⟨N.h,N.kind,N.change,N.s,N.holes,Bj nm X.h N.es,N.pins⟩) hD
  have t2:=s1.T.links hn1 (k:=kx) (N:=Nx) hlx hX1 hXh 1
  have t3:=t2.touch hn1 (k:=kx) (N:=Am Nx 1) (C2 (C1 hlx)) hX1 hXh
  have hn3:((Ao (Aw A D.h nm X.h) X.h).map (·.h)).Nodup:=Kv hn1 _
  have hD3:(⟨D.h,D.kind,D.change,D.s,D.holes,Bj nm X.h D.es,D.pins⟩:AN)∈Ao (Aw A D.h nm X.h) X.h:=Cc hD1 (fun e=>hne e.symm)
  have t4:=t3.touch hn3 (k:=k) (N:=N) (A3 (A3 hlk hnk) hnk) hD3 hDh
  have s4:SD _ _ _ _ _ _ _ _ _ _:=⟨t4,(s1.E.shp (Bn _ _)).shp (Bn _ _),(s1.P.touch _).touch _⟩
  have e:K8 A X.h D.h nm=Ao (Ao (Aw A D.h nm X.h) X.h) D.h:=Mp _ (fun e=>hne e.symm) _ _ (fun _=>rfl) fun _=>rfl
  rw [e]
  refine s4.fin (fun M hM=>?_) fun M hM k2 q=>?_
  · show (0 - (if M.h=D.h∧X.kind=2 then (1:Int) else 0) - (if M.h=X.h∧X.kind=1 then 1 else 0))+(if M.h=X.h then 1 else 0)=0
    have h2:¬X.kind=2:=by omega
    by_cases c:M.h=X.h<;>simp [c,hkx]
  · rcases q with q|q
    · exact q
    · have:=q.2;omega
theorem Sim.removeD {D X:AN} (hD:D∈A) (hX:X∈A) (hk:D.kind=2) (hkx:X.kind=2) (hes:X.es=[]) {e:Bk} (he:e∈D.es) (hx:e.2=X.h) (hlook:(Ba A D.h e.1).1=X.h) {k kx j:Nat} {N Nx:ND} {d:DN} (hlk:l[k]?=some (some N)) (hDh:D.h=((k:Int),Av ts k - 1)) (hXh:X.h=((kx:Int),Av ts kx - 1)) (hj:ds[j]?=some d) (hdh:d.h=D.h) :
    Sim most (ps.set kx none) gs (((l.set kx none).set k (some (Am N (-1)))).set k (some (Ab (Am N (-1))))) ((ds.set j { d with es:=Ak d.es e.1 }).filter fun d=>!(d.h==X.h)) pn (Dx A D.h e.1) ts:=by
  have b:=t.base
  have hne:X.h≠D.h:=fun q=>by rw [b.same hX hD q] at hes;rw [hes] at he;cases he
  have hnk:kx≠k:=fun q=>hne (by rw [hXh,hDh,q])
  have s1:=(SD.of_ s).leave b hD hX hk he hx hj hdh
  have b1:=b.leave hD hk he (fun h=>0+if e.2=h then 1 else 0) (fun _ _ _=>rfl)
  have hX1:X∈Al A D.h e.1:=Cc hX hne
  have hD1:=G3 (f:=fun N=>⟨N.h,N.kind,N.change,N.s,N.holes,N.es.filter fun x=>!decide (x.1=e.1),N.pins⟩) hD
  have h0:A7 (Al A D.h e.1) X.h=0:=by
    have h1:=Dn b.nod hD (b.nms D hD) he X.h
    rw [if_pos hx] at h1
    have:=b.lnk_dir hX hkx
    omega
  have hr:=b.noroot hD hX he hx
  have s2:=s1.goneD b1 (k:=kx) hX1 hXh hes h0 hkx
  have b2:=b1.gone hX1 hes h0 hr
  have hD2:(⟨D.h,D.kind,D.change,D.s,D.holes,D.es.filter fun x=>!decide (x.1=e.1),D.pins⟩:AN)∈Ex (Al A D.h e.1) X.h:=Jz hD1 (fun q=>hne q.symm)
  have s3:=s2.links b2 (k:=k) (N:=N) (A3 hlk hnk) hD2 hDh (-1)
  have s4:=s3.touch b2 (k:=k) (N:=Am N (-1)) (C2 (by simp;exact C1 hlk)) hD2 hDh
  have e1:Dx A D.h e.1=Ao (Ex (Al A D.h e.1) X.h) D.h:=by
    unfold Dx C3
    have hX2:X∈Ao (Al A D.h e.1) D.h:=Cc hX1 hne
    rw [hlook,Cm (b1.touch hD1).nod hX2]
    simp only [if_pos hkx]
    exact L5 _ _ _ _ fun _=>rfl
  rw [e1]
  refine s4.fin (fun M hM=>?_) fun M hM k2 q=>?_
  · show ((0+(if M.h=D.h∧X.kind=2 then (1:Int) else 0))+(if M.h=X.h∧X.kind=1 then 1 else 0))+(if M.h=D.h then -1 else 0)=0
    by_cases c:M.h=D.h<;>simp [c,hkx]
  · rcases q with q|q
    · exact q
    · obtain ⟨K,hK,rfl⟩:=B7 hM
      have hn:K.h≠X.h:=by have:=(List.mem_filter.1 hK).2;simpa using this
      refine hn ?_
      rw [← q.1]
      split<;>rfl
end
end
end Go.Proofs.YtpojpkhpddnmjaaGreatDoor
