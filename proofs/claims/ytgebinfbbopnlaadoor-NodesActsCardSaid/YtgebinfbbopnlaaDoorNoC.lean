/- nodes: contracts by what is owned (printed by walk.py). -/
import Derived.Test.YtgebinfbbopnlaaDoorNoB
namespace Go.Proofs.YtgebinfbbopnlaaDoor
open Go.RowKit
set_option linter.unusedVariables false
set_option linter.unusedSimpArgs false
set_option linter.unnecessarySimpa false
set_option maxRecDepth 100000

def setND (N : ND) (z li un ug : Int) : ND := if N.kind = 2 then { N with size := z, links := li, change := N.change + 1, upn := un, upg := ug } else { N with links := li, change := N.change + 1 }
theorem setND_nb (N : ND) (z li un ug : Int) : (setND N z li un ug).nb = N.nb := by unfold setND; split <;> rfl
theorem setA_spec {B : Nat} (ad : Nat → Addr) (tb : Nat) (ps : List (Option Nat)) (gs : List Int) (vl vg : Value) (T : TypeId) (Sl Sg : Nat → Prop) (l : List (Option ND)) (hl : ps.length = gs.length) (hr : ∀ x ∈ gs, 0 ≤ x ∧ x ≤ 1000000) (n g : Int) (k : Nat) (N : ND) (hk : l[k]? = some (some N)) (ha : atOf ps gs n g = some N.nb) (z li un ug : Int) (hb : 0 ≤ z ∧ 0 ≤ li) (hc : 0 ≤ N.change ∧ N.change ≤ 1000000) :
    Spec Tryd.prog 10 #[.pointer (some ⟨tb, 0, none⟩), .agg #[.int .i64 n, .int .i64 g], .int .i64 z, .int .i64 li, .agg #[.int .i64 un, .int .i64 ug]] [rTab tb ps gs vl vg T Sl Sg, rNds l, rEnv B ad [10], rEnv B ad [2]] fun u L => u = .nilIface ∧ L = [rTab tb ps gs vl vg T Sl Sg, rNds (l.set k (some (setND N z li un ug))), rEnv B ad [10], rEnv B ad [2]] := by
  unfold setND
  by_cases h : N.kind = 2
  · rw [if_pos h]; exact setD_spec ad tb ps gs vl vg T Sl Sg l hl hr n g k N hk ha z li un ug hb h hc
  · rw [if_neg h]; exact setF_spec ad tb ps gs vl vg T Sl Sg l hl hr n g k N hk ha z li un ug hb h hc
theorem Like.setD {N : ND} {s : Spot} (h : Like N s) (hk : s.kind = 2) (z li un ug : Int) : Like (setND N z li un ug) ⟨s.n, s.g, s.kind, z, li, s.change + 1, un, ug, s.sz⟩ := by
  unfold setND
  rw [if_pos (h.kind ▸ hk)]
  exact ⟨h.kind, rfl, rfl, by rw [h.change], rfl, rfl, h.k12, h.file, h.dir, h.sz⟩
theorem Like.setF {N : ND} {s : Spot} (h : Like N s) (hk : ¬ s.kind = 2) (z li un ug : Int) : Like (setND N z li un ug) ⟨s.n, s.g, s.kind, s.asize, li, s.change + 1, s.upn, s.upg, s.sz⟩ := by
  unfold setND
  rw [if_neg (h.kind ▸ hk)]
  exact ⟨h.kind, h.asize, rfl, by rw [h.change], h.upn, h.upg, h.k12, h.file, h.dir, h.sz⟩
theorem Like.touch {N : ND} {s : Spot} (h : Like N s) : Like { N with change := N.change + 1 } ⟨s.n, s.g, s.kind, s.asize, s.links, s.change + 1, s.upn, s.upg, s.sz⟩ :=
  ⟨h.kind, h.asize, h.links, by show s.change + 1 = N.change + 1; rw [h.change], h.upn, h.upg, h.k12, h.file, h.dir, h.sz⟩
theorem freeR_spec {B : Nat} (ad : Nat → Addr) (tb : Nat) (ps : List (Option Nat)) (gs : List Int) (vl vg : Value) (T : TypeId) (Sl Sg : Nat → Prop) (l : List (Option ND)) (hl : ps.length = gs.length) (hr : ∀ x ∈ gs, 0 ≤ x ∧ x ≤ 1000000) (n g : Int) (k nb : Nat) (hn : n = (k : Int)) (hk : k < ps.length) (ha : atOf ps gs n g = some nb) :
    Spec Tryd.prog 12 #[.pointer (some ⟨tb, 0, none⟩), .agg #[.int .i64 n, .int .i64 g]] [rTab tb ps gs vl vg T Sl Sg, rNds l, rEnv B ad [10]] fun u L => u = .nilIface ∧ L = [rTab tb (ps.set k none) gs vl vg T Sl Sg, rNds (l.set k none), rEnv B ad [10]] := by
  subst hn
  exact tabFree_spec ad tb k nb g ps gs vl vg T Sl Sg l hl hr hk ha
theorem freeN_spec {B : Nat} (ad : Nat → Addr) (tb : Nat) (ps : List (Option Nat)) (gs : List Int) (vl vg : Value) (T : TypeId) (Sl Sg : Nat → Prop) (l : List (Option ND)) (hl : ps.length = gs.length) (hr : ∀ x ∈ gs, 0 ≤ x ∧ x ≤ 1000000) (n g : Int) (ha : atOf ps gs n g = none) :
    Spec Tryd.prog 12 #[.pointer (some ⟨tb, 0, none⟩), .agg #[.int .i64 n, .int .i64 g]] [rTab tb ps gs vl vg T Sl Sg, rNds l, rEnv B ad [10]] fun u L => u = errV ad 10 ∧ L = [rTab tb ps gs vl vg T Sl Sg, rNds l, rEnv B ad [10]] := fun E w0 w ho => by
  have h1 : Own w0 E ([rTab tb ps gs vl vg T Sl Sg, rEnv B ad [10]] ++ [rNds l]) w := ho.pick [0, 1, 0]
  refine (((tabFreeN_spec ad tb n g ps gs vl vg T Sl Sg hl hr ha).frame [rNds l]) E w0 w h1).mono ?_
  rintro e w' ⟨u, L', ⟨L1, ⟨rfl, rfl⟩, rfl⟩, he, h2⟩
  exact ⟨_, _, ⟨rfl, rfl⟩, he, h2.pick [0, 1, 0]⟩
theorem dataR_spec {B : Nat} (ad : Nat → Addr) (tb : Nat) (ps : List (Option Nat)) (gs : List Int) (vl vg : Value) (T : TypeId) (Sl Sg : Nat → Prop) (l : List (Option ND)) (hl : ps.length = gs.length) (hr : ∀ x ∈ gs, 0 ≤ x ∧ x ≤ 1000000) (n g : Int) (k : Nat) (N : ND) (s : Spot) (hk : l[k]? = some (some N)) (ha : atOf ps gs n g = some N.nb) (hL : Like N s) :
    Spec Tryd.prog 13 #[.pointer (some ⟨tb, 0, none⟩), .agg #[.int .i64 n, .int .i64 g]] [rTab tb ps gs vl vg T Sl Sg, rNds l, rEnv B ad [10], rEnv B ad [8]] fun u L => (s.kind = 2 ∧ u = .tuple #[.pointer none, errV ad 8] ∧ L = [rTab tb ps gs vl vg T Sl Sg, rNds l, rEnv B ad [10], rEnv B ad [8]]) ∨ (s.kind = 1 ∧ ∃ q, N.dq = some q ∧ q.size = s.sz ∧ u = .tuple #[.pointer (some ⟨q.db, 0, none⟩), .nilIface] ∧ L = [rTab tb ps gs vl vg T Sl Sg, rNds l, rEnv B ad [10], rEnv B ad [8]]) := by
  obtain ⟨nb, ki, si, li, ch, un, ug, dq⟩ := N
  rcases hL.k12 with h | h
  · obtain ⟨q, hq, hz⟩ := hL.file h
    simp only at hq
    subst hq
    refine ((dataF_spec ad tb ps gs vl vg T Sl Sg l hl hr n g k nb ki si li ch un ug q hk ha).frame [rEnv B ad [8]]).mono ?_
    rintro u L ⟨L1, ⟨rfl, rfl⟩, rfl⟩
    exact .inr ⟨hL.kind.trans h, q, rfl, hz, rfl, rfl⟩
  · have hq := hL.dir h
    simp only at hq
    subst hq
    refine (dataD_spec ad tb ps gs vl vg T Sl Sg l hl hr n g k nb ki si li ch un ug hk ha).mono ?_
    rintro u L ⟨rfl, rfl⟩
    exact .inl ⟨hL.kind.trans h, rfl, rfl⟩
theorem ndCell_dq {N : ND} {q q' : DQ} (h : N.dq = some q) (hb : q'.db = q.db) : ndCell { N with dq := some q' } = ndCell N := by
  unfold ndCell ndPtr
  rw [h]
  simp [hb]
theorem writeR_spec {B : Nat} (ad : Nat → Addr) (l : List (Option ND)) (k : Nat) (N : ND) (q : DQ) (hk : l[k]? = some (some N)) (hq : N.dq = some q) (p : Int) (s : ByteArray) :
    Spec Tryd.prog 14 #[.pointer (some ⟨q.db, 0, none⟩), .int .i64 p, .string s] [rNds l, rEnv B ad [2]] fun u L => ∃ S', u = errV ad (dWrite q.d p s).2 ∧ L = [rNds (l.set k (some { N with dq := some ⟨q.db, (dWrite q.d p s).1, S'⟩ })), rEnv B ad [2]] := fun E w0 w ho => by
  have h1 := ho.ndOpen hk
  rw [hq] at h1
  have h2 : Own w0 E ([datRes (some q), rEnv B ad [2]] ++ [ndCell N, rNdsO l k]) w := h1.pick [1, 2, 0, 0]
  refine (((writeD_spec ad q p s).frame [ndCell N, rNdsO l k]) E w0 w h2).mono ?_
  rintro e w' ⟨u, L', ⟨L1, ⟨S', rfl, rfl⟩, rfl⟩, he, h3⟩
  refine ⟨_, _, ⟨S', rfl, rfl⟩, he, ?_⟩
  have h4 : Own w0 E (ndCell N :: datRes (some ⟨q.db, (dWrite q.d p s).1, S'⟩) :: rNdsO l k :: [rEnv B ad [2]]) w' := h3.pick [2, 0, 1, 0]
  rw [← ndCell_dq (q' := ⟨q.db, (dWrite q.d p s).1, S'⟩) hq rfl] at h4
  exact Own.ndClose { N with dq := some ⟨q.db, (dWrite q.d p s).1, S'⟩ } h4
abbrev xyT : ByteArray := ⟨#[120, 121]⟩
theorem writeX_spec {B : Nat} (ad : Nat → Addr) (l : List (Option ND)) (k : Nat) (N : ND) (q : DQ) (s : Spot) (hk : l[k]? = some (some N)) (hq : N.dq = some q) (hz : q.size = s.sz) (hL : Like N s) (h1 : s.kind = 1) :
    Spec Tryd.prog 14 #[.pointer (some ⟨q.db, 0, none⟩), .int .i64 s.sz, .string ⟨#[120, 121]⟩] [rNds l, rEnv B ad [2]] fun u L => (s.sz ≤ 4094 ∧ ∃ N', N'.nb = N.nb ∧ Like N' ⟨s.n, s.g, s.kind, s.asize, s.links, s.change, s.upn, s.upg, s.sz + 2⟩ ∧ u = .nilIface ∧ L = [rNds (l.set k (some N')), rEnv B ad [2]]) ∨ (4094 < s.sz ∧ ∃ l', u = errV ad 2 ∧ L = [rNds l', rEnv B ad [2]]) := by
  refine (writeR_spec ad l k N q hk hq s.sz ⟨#[120, 121]⟩).mono ?_
  rintro u L ⟨S', rfl, rfl⟩
  have h0 := hL.sz
  have hz' : (q.d.size : Int) = s.sz := hz
  by_cases h : s.sz ≤ 4094
  · have e : dWrite q.d s.sz ⟨#[120, 121]⟩ = (⟨max q.d.size (s.sz.toNat + 2), dputs q.d.kv s.sz.toNat [120, 121]⟩, 0) := by
      unfold dWrite
      rw [if_neg (by show ¬ (s.sz < 0 ∨ 4096 < s.sz ∨ 4096 - s.sz < (2 : Nat)); omega), if_neg (by decide)]
      rfl
    rw [e]
    refine .inl ⟨h, { N with dq := some ⟨q.db, ⟨max q.d.size (s.sz.toNat + 2), dputs q.d.kv s.sz.toNat [120, 121]⟩, S'⟩ }, rfl, ⟨hL.kind, hL.asize, hL.links, hL.change, hL.upn, hL.upg, hL.k12, fun _ => ⟨_, rfl, ?_⟩, fun hk2 => ?_, by show 0 ≤ s.sz + 2 ∧ s.sz + 2 ≤ 4096; omega⟩, rfl, rfl⟩
    · show ((max q.d.size (s.sz.toNat + 2) : Nat) : Int) = s.sz + 2
      omega
    · have hk3 : N.kind = 2 := hk2
      have := hL.kind
      omega
  · have e : dWrite q.d s.sz ⟨#[120, 121]⟩ = (q.d, 2) := if_pos (by show s.sz < 0 ∨ 4096 < s.sz ∨ 4096 - s.sz < (2 : Nat); omega)
    rw [e]
    exact .inr ⟨by omega, _, rfl, rfl⟩
theorem countR_spec {most c : Nat} (tb : Nat) (ps : List (Option Nat)) (gs : List Int) (vl vg : Value) (T : TypeId) (Sl Sg : Nat → Prop) (l : List (Option ND)) (here : List Spot) (hR : NRel most c ps gs l here) (hm : most ≤ 300) : Spec Tryd.prog 15 #[.pointer (some ⟨tb, 0, none⟩)] [rTab tb ps gs vl vg T Sl Sg] fun u L => u = .int .i64 (here.length : Int) ∧ L = [rTab tb ps gs vl vg T Sl Sg] :=
  (tabCount_spec tb ps gs vl vg T Sl Sg (by rw [hR.lp]; exact hm)).mono fun u L h => by rw [hR.cnt] at h; exact h
/-- What the search has found. -/
def SearchAt (here : List Spot) (n g : Int) (j : Nat) (kx : Int) : Prop := (kx = -1 ∧ ∀ i s, i < j → here[i]? = some s → ¬ (s.n = n ∧ s.g = g)) ∨ ∃ (i : Nat) (s : Spot), kx = (i : Int) ∧ Here here n g i s
theorem SearchAt.hit {here : List Spot} {n g : Int} {j : Nat} {s : Spot} (h : here[j]? = some s) (hm : s.n = n ∧ s.g = g) : SearchAt here n g (j + 1) (j : Int) := .inr ⟨j, s, rfl, h, hm⟩
theorem SearchAt.miss {here : List Spot} {n g : Int} {j : Nat} {kx : Int} {s : Spot} (hS : SearchAt here n g j kx) (h : here[j]? = some s) (hm : ¬ (s.n = n ∧ s.g = g)) : SearchAt here n g (j + 1) kx := by
  rcases hS with ⟨e, hno⟩ | hs
  · refine .inl ⟨e, fun i t hi ht => ?_⟩
    by_cases e2 : i = j
    · subst e2; rw [h] at ht; cases ht; exact hm
    · exact hno i t (by omega) ht
  · exact .inr hs
theorem SearchAt.none {here : List Spot} {n g : Int} {j : Nat} {kx : Int} (hS : SearchAt here n g j kx) (hj : here.length ≤ j) (hk : kx < 0) : NoneHere here n g := by
  rcases hS with ⟨_, hno⟩ | ⟨i, s, e, _⟩
  · intro s hs
    obtain ⟨i, hi⟩ := List.getElem?_of_mem hs
    exact hno i s (by have := get_ltS hi; omega) hi
  · omega
theorem SearchAt.some {here : List Spot} {n g : Int} {j : Nat} {kx : Int} (hS : SearchAt here n g j kx) (hk : ¬ kx < 0) : ∃ (i : Nat) (s : Spot), kx = (i : Int) ∧ here[i]? = .some s ∧ s.n = n ∧ s.g = g := by
  rcases hS with ⟨e, _⟩ | h
  · omega
  · exact h
theorem erase_eq {here : List Spot} {m : Nat} : ([] ++ (here.take m).drop 0) ++ (here.take here.length).drop (m + 1) = here.eraseIdx m := by
  rw [List.eraseIdx_eq_take_drop_succ]; simp
def MidK (here : List Spot) (n g kx stl : Int) : Prop := (stl = 10 ∧ kx < 0 ∧ NoneHere here n g) ∨ (stl = 0 ∧ ∃ (i : Nat) (s : Spot), kx = (i : Int) ∧ here[i]? = some s ∧ s.n = n ∧ s.g = g)
def NdaOk (x : Nda) : Prop := -9223372036854775808 ≤ x.2.2.1 ∧ x.2.2.1 ≤ 9223372036854775807 ∧ -9223372036854775808 ≤ x.2.2.2.1 ∧ x.2.2.2.1 ≤ 9223372036854775807

end Go.Proofs.YtgebinfbbopnlaaDoor
