/- tree: contracts by what is owned (printed by walk.py). -/
import Derived.Test.YtofhnglgebllbaaDoorTreeL
import Derived.Test.YtofhnglgebllbaaDoorCoded1
namespace Go.Proofs.YtofhnglgebllbaaDoor
open Go.RowKit
set_option linter.unusedVariables false
set_option linter.unusedSimpArgs false
set_option linter.unnecessarySimpa false
set_option maxRecDepth 100000

theorem newL_eq (m : Nat) : List.replicate m (none : Option Nat) = psO m [] ∧ List.replicate m (0 : Int) = gsO m [] ∧ List.replicate m (none : Option ND) = lO m [] := ⟨rfl, rfl, rfl⟩
theorem tabNewL_spec (m : Nat) (h1 : 1 ≤ m) (h2 : m ≤ 300) : Spec Tryd.prog 95 #[.int .i64 m] [] fun u L => ∃ b vl vg T Sl Sg, u = .tuple #[.pointer (some ⟨b, 0, none⟩), .nilIface] ∧ L = [rTab b (psO m []) (gsO m []) vl vg T Sl Sg, rNds (lO m [])] := tabNew_spec m h1 h2
theorem tabAddR_spec (m : Nat) (h1 : 1 ≤ m) (h2 : m ≤ 300) (b : Nat) (vl vg : Value) (T : TypeId) (Sl Sg : Nat → Prop) : Spec Tryd.prog 96 #[.pointer (some ⟨b, 0, none⟩), .int .i64 2] [rTab b (psO m []) (gsO m []) vl vg T Sl Sg, rNds (lO m [])] fun u L => ∃ nb, u = .tuple #[.agg #[.int .i64 0, .int .i64 0], .nilIface] ∧ L = [rTab b (psO m [newND nb 2 none]) (gsO m [newND nb 2 none]) vl vg T Sl Sg, rNds (lO m [newND nb 2 none])] :=
  (tabAdd2_spec b 0 0 (psO m []) (gsO m []) vl vg T Sl Sg (lO m []) (by rw [psO_len (by simp)]; exact h2) (by rw [psO_len (by simp), gsO_len (by simp)]) (free0_psO (L := []) h1) (by
    obtain ⟨c, rfl⟩ : ∃ c, m = c + 1 := ⟨m - 1, by omega⟩
    rfl) (by decide)).mono fun u L h => by
    obtain ⟨nb, rfl, rfl⟩ := h
    refine ⟨nb, rfl, ?_⟩
    have e1 := psO_add (newND nb 2 none) (L := []) h1
    have e2 := gsO_add (newND nb 2 none) (L := []) h1
    have e3 := lO_add (newND nb 2 none) (L := []) h1
    have e1' : (psO m []).set 0 (some nb) = psO m [newND nb 2 none] := e1
    have e2' : (gsO m []).set 0 (0 + 1) = gsO m [newND nb 2 none] := e2
    have e3' : (lO m []).set 0 (some (newND nb 2 none)) = lO m [newND nb 2 none] := e3
    rw [e1', e2', e3']
theorem createFullL_spec {B : Nat} (ad : Nat → Addr) (b m tb dm pm : Nat) (vl vg : Value) (T : TypeId) (Sl Sg : Nat → Prop) (L : List ND) (ds : List DN) (hm3 : m ≤ 300) (k : Nat) (N : ND) (hkL : L[k]? = some N) (j : Nat) (d : DN) (hj : ds[j]? = some d) (hdh : d.h = ((k : Int), 0)) (hdd : (ds.map (·.h)).Nodup) (s : ByteArray) (hs : s.size ≤ 9223372036854775807) (hok : nameOk s) (hm : L.length ≤ m) (hx : aget d.es s = none) (hfew : 60 ≤ d.es.length) (kind : Int) (hki : kind = 1 ∨ kind = 2) :
    Spec Tryd.prog 17 #[.pointer (some ⟨b, 0, none⟩), .agg #[.int .i64 (k : Int), .int .i64 0], .string s, .int .i64 kind] [rCell true b [.pointer (some ⟨tb, 0, none⟩), .int .i64 (m : Int), .int .i64 0, .int .i64 0, .map (some dm), .map (some pm)] 175, rTab tb (psO m L) (gsO m L) vl vg T Sl Sg, rNds (lO m L), rMap true dm hk (ds.map dnKV), rDirs ds, rEnv B ad [10], rEnv B ad [4], rEnv B ad [9]] fun u L' => u = .tuple #[.agg #[.int .i64 0, .int .i64 0], errV ad 9] ∧ L' = [rCell true b [.pointer (some ⟨tb, 0, none⟩), .int .i64 (m : Int), .int .i64 0, .int .i64 0, .map (some dm), .map (some pm)] 175, rTab tb (psO m L) (gsO m L) vl vg T Sl Sg, rNds (lO m L), rMap true dm hk (ds.map dnKV), rDirs ds, rEnv B ad [10], rEnv B ad [4], rEnv B ad [9]] :=
  createFull_spec ad b m tb dm pm (psO m L) (gsO m L) vl vg T Sl Sg (lO m L) ds [] (by rw [psO_len hm, gsO_len hm]) gsO_rng (k : Int) 0 k N (lO_get hkL) (atOf_psO hkL) j d hj hdh hdd s hs hok hx kind hki hfew
theorem createFL_spec {B : Nat} (ad : Nat → Addr) (b m tb dm pm : Nat) (vl vg : Value) (T : TypeId) (Sl Sg : Nat → Prop) (L : List ND) (ds : List DN) (hm3 : m ≤ 300) (k : Nat) (N : ND) (hkL : L[k]? = some N) (j : Nat) (d : DN) (hj : ds[j]? = some d) (hdh : d.h = ((k : Int), 0)) (hdd : (ds.map (·.h)).Nodup) (s : ByteArray) (hs : s.size ≤ 9223372036854775807) (hok : nameOk s) (hm : L.length < m) (hx : aget d.es s = none) (hfew : d.es.length < 60) (hch : 0 ≤ N.change ∧ N.change ≤ 1000000) :
    Spec Tryd.prog 17 #[.pointer (some ⟨b, 0, none⟩), .agg #[.int .i64 (k : Int), .int .i64 0], .string s, .int .i64 1] [rCell true b [.pointer (some ⟨tb, 0, none⟩), .int .i64 (m : Int), .int .i64 0, .int .i64 0, .map (some dm), .map (some pm)] 175, rTab tb (psO m L) (gsO m L) vl vg T Sl Sg, rNds (lO m L), rMap true dm hk (ds.map dnKV), rDirs ds, rEnv B ad [10], rEnv B ad [4]] fun u L' => ∃ nb db, u = .tuple #[.agg #[.int .i64 (L.length : Int), .int .i64 0], .nilIface] ∧ L' = [rCell true b [.pointer (some ⟨tb, 0, none⟩), .int .i64 (m : Int), .int .i64 0, .int .i64 0, .map (some dm), .map (some pm)] 175, rTab tb (psO m ((L ++ [linkN (newND nb 1 (some (newDQ db))) 1]).set k (touchN N))) (gsO m ((L ++ [linkN (newND nb 1 (some (newDQ db))) 1]).set k (touchN N))) vl vg T Sl Sg, rNds (lO m ((L ++ [linkN (newND nb 1 (some (newDQ db))) 1]).set k (touchN N))), rMap true dm hk ((ds.set j { d with es := aput d.es s ((L.length : Int), 0) }).map dnKV), rDirs (ds.set j { d with es := aput d.es s ((L.length : Int), 0) }), rEnv B ad [10], rEnv B ad [4]] :=
  (createF_spec ad b m tb dm pm (psO m L) (gsO m L) vl vg T Sl Sg (lO m L) ds [] (by rw [psO_len (Nat.le_of_lt hm), gsO_len (Nat.le_of_lt hm)]) gsO_rng (k : Int) 0 k N (lO_get hkL) (atOf_psO hkL) j d hj hdh hdd s hs hok hx hfew rfl L.length 0 (free0_psO hm) (by have := padO_next (z := (0 : Int)) (A := L.map fun _ => (1 : Int)) (m := m) (by simpa using hm); rw [List.length_map] at this; exact this) (by decide) (by rw [psO_len (Nat.le_of_lt hm)]; exact hm3) (by rw [lO_len (Nat.le_of_lt hm), psO_len (Nat.le_of_lt hm)]) (by have := get_lt hkL; omega) hch).mono fun u L' h => by
    obtain ⟨nb, db, rfl, rfl⟩ := h
    refine ⟨nb, db, rfl, ?_⟩
    have hkl := get_lt hkL
    have hk2 : (L ++ [linkN (newND nb 1 (some (newDQ db))) 1])[k]? = some N := by rw [List.getElem?_append_left hkl]; exact hkL
    have e1 : (psO m L).set L.length (some nb) = psO m ((L ++ [linkN (newND nb 1 (some (newDQ db))) 1]).set k (touchN N)) := (psO_add (linkN (newND nb 1 (some (newDQ db))) 1) hm).trans (psO_set (N := touchN N) hk2 rfl).symm
    have e2 : (gsO m L).set L.length (0 + 1) = gsO m ((L ++ [linkN (newND nb 1 (some (newDQ db))) 1]).set k (touchN N)) := (gsO_add (linkN (newND nb 1 (some (newDQ db))) 1) hm).trans (gsO_set (touchN N)).symm
    have e3 : (((lO m L).set L.length (some (newND nb 1 (some (newDQ db))))).set L.length (some (linkN (newND nb 1 (some (newDQ db))) 1))).set k (some (touchN N)) = lO m ((L ++ [linkN (newND nb 1 (some (newDQ db))) 1]).set k (touchN N)) := by
      rw [List.set_set, lO_add _ hm, lO_set _ (by simp; omega)]
    rw [e1, e2, e3]


theorem createDL_spec {B : Nat} (ad : Nat → Addr) (b m tb dm pm : Nat) (vl vg : Value) (T : TypeId) (Sl Sg : Nat → Prop) (L : List ND) (ds : List DN) (hm3 : m ≤ 300) (k : Nat) (N : ND) (hkL : L[k]? = some N) (j : Nat) (d : DN) (hj : ds[j]? = some d) (hdh : d.h = ((k : Int), 0)) (hdd : (ds.map (·.h)).Nodup) (s : ByteArray) (hs : s.size ≤ 9223372036854775807) (hok : nameOk s) (hm : L.length < m) (hx : aget d.es s = none) (hfew : d.es.length < 60) (hch : 0 ≤ N.change ∧ N.change ≤ 1000000) (hnh : ∀ d ∈ ds, d.h ≠ ((L.length : Int), 0)) (hli : 0 ≤ N.links ∧ N.links ≤ 1000000) :
    Spec Tryd.prog 17 #[.pointer (some ⟨b, 0, none⟩), .agg #[.int .i64 (k : Int), .int .i64 0], .string s, .int .i64 2] [rCell true b [.pointer (some ⟨tb, 0, none⟩), .int .i64 (m : Int), .int .i64 0, .int .i64 0, .map (some dm), .map (some pm)] 175, rTab tb (psO m L) (gsO m L) vl vg T Sl Sg, rNds (lO m L), rMap true dm hk (ds.map dnKV), rDirs ds, rEnv B ad [10], rEnv B ad [4]] fun u L' => ∃ nb mb2, u = .tuple #[.agg #[.int .i64 (L.length : Int), .int .i64 0], .nilIface] ∧ L' = [rCell true b [.pointer (some ⟨tb, 0, none⟩), .int .i64 (m : Int), .int .i64 0, .int .i64 0, .map (some dm), .map (some pm)] 175, rTab tb (psO m ((L ++ [keepN (newND nb 2 none) 2 0 2 (k : Int) 0]).set k (touchN (linkN N 1)))) (gsO m ((L ++ [keepN (newND nb 2 none) 2 0 2 (k : Int) 0]).set k (touchN (linkN N 1)))) vl vg T Sl Sg, rNds (lO m ((L ++ [keepN (newND nb 2 none) 2 0 2 (k : Int) 0]).set k (touchN (linkN N 1)))), rMap true dm hk ((ds.set j { d with es := aput d.es s ((L.length : Int), 0) } ++ [(⟨((L.length : Int), 0), mb2, []⟩ : DN)]).map dnKV), rDirs (ds.set j { d with es := aput d.es s ((L.length : Int), 0) } ++ [(⟨((L.length : Int), 0), mb2, []⟩ : DN)]), rEnv B ad [10], rEnv B ad [4]] :=
  (createD_spec ad b m tb dm pm (psO m L) (gsO m L) vl vg T Sl Sg (lO m L) ds [] (by rw [psO_len (Nat.le_of_lt hm), gsO_len (Nat.le_of_lt hm)]) gsO_rng (k : Int) 0 k N (lO_get hkL) (atOf_psO hkL) j d hj hdh hdd s hs hok hx hfew rfl L.length 0 (free0_psO hm) (by have := padO_next (z := (0 : Int)) (A := L.map fun _ => (1 : Int)) (m := m) (by simpa using hm); rw [List.length_map] at this; exact this) (by decide) (by rw [psO_len (Nat.le_of_lt hm)]; exact hm3) (by rw [lO_len (Nat.le_of_lt hm), psO_len (Nat.le_of_lt hm)]) (by have := get_lt hkL; omega) hch hnh hli).mono fun u L' h => by
    obtain ⟨nb, mb2, rfl, rfl⟩ := h
    refine ⟨nb, mb2, rfl, ?_⟩
    have hkl := get_lt hkL
    have hk2 : (L ++ [keepN (newND nb 2 none) 2 0 2 (k : Int) 0])[k]? = some N := by rw [List.getElem?_append_left hkl]; exact hkL
    have e1 : (psO m L).set L.length (some nb) = psO m ((L ++ [keepN (newND nb 2 none) 2 0 2 (k : Int) 0]).set k (touchN (linkN N 1))) := (psO_add (keepN (newND nb 2 none) 2 0 2 (k : Int) 0) hm).trans (psO_set (N := touchN (linkN N 1)) hk2 rfl).symm
    have e2 : (gsO m L).set L.length (0 + 1) = gsO m ((L ++ [keepN (newND nb 2 none) 2 0 2 (k : Int) 0]).set k (touchN (linkN N 1))) := (gsO_add (keepN (newND nb 2 none) 2 0 2 (k : Int) 0) hm).trans (gsO_set (touchN (linkN N 1))).symm
    have e3 : ((((lO m L).set L.length (some (newND nb 2 none))).set L.length (some (keepN (newND nb 2 none) 2 0 2 (k : Int) 0))).set k (some (linkN N 1))).set k (some (touchN (linkN N 1))) = lO m ((L ++ [keepN (newND nb 2 none) 2 0 2 (k : Int) 0]).set k (touchN (linkN N 1))) := by
      rw [List.set_set, List.set_set, lO_add _ hm, lO_set _ (by simp; omega)]
    rw [e1, e2, e3]
theorem lookupL_spec {B : Nat} (ad : Nat → Addr) (b m tb dm pm : Nat) (vl vg : Value) (T : TypeId) (Sl Sg : Nat → Prop) (L : List ND) (ds : List DN) (hm3 : m ≤ 300) (k : Nat) (N : ND) (hkL : L[k]? = some N) (j : Nat) (d : DN) (hj : ds[j]? = some d) (hdh : d.h = ((k : Int), 0)) (hdd : (ds.map (·.h)).Nodup) (s : ByteArray) (hs : s.size ≤ 9223372036854775807) (hok : nameOk s) (hm : L.length ≤ m) (x : Int × Int) (hx : aget d.es s = some x) :
    Spec Tryd.prog 21 #[.pointer (some ⟨b, 0, none⟩), .agg #[.int .i64 (k : Int), .int .i64 0], .string s] [rCell true b [.pointer (some ⟨tb, 0, none⟩), .int .i64 (m : Int), .int .i64 0, .int .i64 0, .map (some dm), .map (some pm)] 175, rTab tb (psO m L) (gsO m L) vl vg T Sl Sg, rNds (lO m L), rMap true dm hk (ds.map dnKV), rDirs ds, rEnv B ad [10], rEnv B ad [4]] fun u L' => u = .tuple #[.agg #[.int .i64 x.1, .int .i64 x.2], .nilIface] ∧ L' = [rCell true b [.pointer (some ⟨tb, 0, none⟩), .int .i64 (m : Int), .int .i64 0, .int .i64 0, .map (some dm), .map (some pm)] 175, rTab tb (psO m L) (gsO m L) vl vg T Sl Sg, rNds (lO m L), rMap true dm hk (ds.map dnKV), rDirs ds, rEnv B ad [10], rEnv B ad [4]] :=
  lookupY_spec ad b m tb dm pm (psO m L) (gsO m L) vl vg T Sl Sg (lO m L) ds [] (by rw [psO_len hm, gsO_len hm]) gsO_rng (k : Int) 0 k N (lO_get hkL) (atOf_psO hkL) j d hj hdh hdd s hs hok x hx
theorem linkL_spec {B : Nat} (ad : Nat → Addr) (b m tb dm pm : Nat) (vl vg : Value) (T : TypeId) (Sl Sg : Nat → Prop) (L : List ND) (ds : List DN) (hm3 : m ≤ 300) (k : Nat) (N : ND) (hkL : L[k]? = some N) (j : Nat) (d : DN) (hj : ds[j]? = some d) (hdh : d.h = ((k : Int), 0)) (hdd : (ds.map (·.h)).Nodup) (s : ByteArray) (hs : s.size ≤ 9223372036854775807) (hok : nameOk s) (ki : Nat) (Ni : ND) (hki : L[ki]? = some Ni) (hkd : Ni.kind = 1) (hm : L.length ≤ m) (hx : aget d.es s = none) (hfew : d.es.length < 60) (hli : 0 ≤ Ni.links ∧ Ni.links < 8) (hne : ki ≠ k) (hch : 0 ≤ N.change ∧ N.change ≤ 1000000) (hci : 0 ≤ Ni.change ∧ Ni.change ≤ 1000000) :
    Spec Tryd.prog 22 #[.pointer (some ⟨b, 0, none⟩), .agg #[.int .i64 (ki : Int), .int .i64 0], .agg #[.int .i64 (k : Int), .int .i64 0], .string s] [rCell true b [.pointer (some ⟨tb, 0, none⟩), .int .i64 (m : Int), .int .i64 0, .int .i64 0, .map (some dm), .map (some pm)] 175, rTab tb (psO m L) (gsO m L) vl vg T Sl Sg, rNds (lO m L), rMap true dm hk (ds.map dnKV), rDirs ds, rEnv B ad [10], rEnv B ad [4]] fun u L' => u = .nilIface ∧ L' = [rCell true b [.pointer (some ⟨tb, 0, none⟩), .int .i64 (m : Int), .int .i64 0, .int .i64 0, .map (some dm), .map (some pm)] 175, rTab tb (psO m ((L.set ki (touchN (linkN Ni 1))).set k (touchN N))) (gsO m ((L.set ki (touchN (linkN Ni 1))).set k (touchN N))) vl vg T Sl Sg, rNds (lO m ((L.set ki (touchN (linkN Ni 1))).set k (touchN N))), rMap true dm hk ((ds.set j { d with es := aput d.es s ((ki : Int), 0) }).map dnKV), rDirs (ds.set j { d with es := aput d.es s ((ki : Int), 0) }), rEnv B ad [10], rEnv B ad [4]] :=
  (linkY_spec ad b m tb dm pm (psO m L) (gsO m L) vl vg T Sl Sg (lO m L) ds [] (by rw [psO_len hm, gsO_len hm]) gsO_rng (k : Int) 0 k N (lO_get hkL) (atOf_psO hkL) j d hj hdh hdd s hs hok hx (ki : Int) 0 ki Ni (lO_get hki) (atOf_psO hki) hkd hfew hli hne hch hci).mono fun u L' h => by
    obtain ⟨rfl, rfl⟩ := h
    refine ⟨rfl, ?_⟩
    have h1 := get_lt hkL
    have h2 := get_lt hki
    have hk2 : (L.set ki (touchN (linkN Ni 1)))[k]? = some N := get_ne hkL hne
    have e1 : psO m ((L.set ki (touchN (linkN Ni 1))).set k (touchN N)) = psO m L := (psO_set (N := touchN N) hk2 rfl).trans (psO_set (N := touchN (linkN Ni 1)) hki rfl)
    have e2 : gsO m ((L.set ki (touchN (linkN Ni 1))).set k (touchN N)) = gsO m L := (gsO_set (touchN N)).trans (gsO_set (touchN (linkN Ni 1)))
    have e3 : (((lO m L).set ki (some (linkN Ni 1))).set ki (some (touchN (linkN Ni 1)))).set k (some (touchN N)) = lO m ((L.set ki (touchN (linkN Ni 1))).set k (touchN N)) := by
      rw [List.set_set, lO_set _ h2, lO_set _ (by simpa using h1)]
    rw [e1, e2, e3]
theorem linkFullL_spec {B : Nat} (ad : Nat → Addr) (b m tb dm pm : Nat) (vl vg : Value) (T : TypeId) (Sl Sg : Nat → Prop) (L : List ND) (ds : List DN) (hm3 : m ≤ 300) (k : Nat) (N : ND) (hkL : L[k]? = some N) (j : Nat) (d : DN) (hj : ds[j]? = some d) (hdh : d.h = ((k : Int), 0)) (hdd : (ds.map (·.h)).Nodup) (s : ByteArray) (hs : s.size ≤ 9223372036854775807) (hok : nameOk s) (ki : Nat) (Ni : ND) (hki : L[ki]? = some Ni) (hkd : Ni.kind = 1) (hm : L.length ≤ m) (hx : aget d.es s = none) (hli : 8 ≤ Ni.links) :
    Spec Tryd.prog 22 #[.pointer (some ⟨b, 0, none⟩), .agg #[.int .i64 (ki : Int), .int .i64 0], .agg #[.int .i64 (k : Int), .int .i64 0], .string s] [rCell true b [.pointer (some ⟨tb, 0, none⟩), .int .i64 (m : Int), .int .i64 0, .int .i64 0, .map (some dm), .map (some pm)] 175, rTab tb (psO m L) (gsO m L) vl vg T Sl Sg, rNds (lO m L), rMap true dm hk (ds.map dnKV), rDirs ds, rEnv B ad [10], rEnv B ad [4], rEnv B ad [9]] fun u L' => u = errV ad 9 ∧ L' = [rCell true b [.pointer (some ⟨tb, 0, none⟩), .int .i64 (m : Int), .int .i64 0, .int .i64 0, .map (some dm), .map (some pm)] 175, rTab tb (psO m L) (gsO m L) vl vg T Sl Sg, rNds (lO m L), rMap true dm hk (ds.map dnKV), rDirs ds, rEnv B ad [10], rEnv B ad [4], rEnv B ad [9]] :=
  linkFull_spec ad b m tb dm pm (psO m L) (gsO m L) vl vg T Sl Sg (lO m L) ds [] (by rw [psO_len hm, gsO_len hm]) gsO_rng (k : Int) 0 k N (lO_get hkL) (atOf_psO hkL) j d hj hdh hdd s hs hok hx (ki : Int) 0 ki Ni (lO_get hki) (atOf_psO hki) hkd hli
theorem nodesL_spec (b m tb dm pm : Nat) (vl vg : Value) (T : TypeId) (Sl Sg : Nat → Prop) (L : List ND) (hm : L.length ≤ m) (hm3 : m ≤ 300) : Spec Tryd.prog 94 #[.pointer (some ⟨b, 0, none⟩)] [rCell true b [.pointer (some ⟨tb, 0, none⟩), .int .i64 (m : Int), .int .i64 0, .int .i64 0, .map (some dm), .map (some pm)] 175, rTab tb (psO m L) (gsO m L) vl vg T Sl Sg] fun u L' => u = .int .i64 (L.length : Int) ∧ L' = [rCell true b [.pointer (some ⟨tb, 0, none⟩), .int .i64 (m : Int), .int .i64 0, .int .i64 0, .map (some dm), .map (some pm)] 175, rTab tb (psO m L) (gsO m L) vl vg T Sl Sg] :=
  (nodes_spec b m tb dm pm (psO m L) (gsO m L) vl vg T Sl Sg (by rw [psO_len hm]; exact hm3)).mono fun u L' h => by rw [usedN_psO] at h; exact h
theorem coded1_spec {B : Nat} (ad : Nat → Addr) (c : Nat) (code : Int) (hc : c ≤ 15) (hcode : (c : Int) = code) : Spec Tryd.prog 20 #[errV ad c, .int .i64 code] [rEnvA B ad] fun u L => u = .bool true ∧ L = [rEnvA B ad] := fun E w0 w ho =>
  (coded1_ok ad c code w (ho.fact 0 rfl) hc hcode).mono fun e w' ⟨he, hc'⟩ => ⟨_, _, ⟨rfl, rfl⟩, he, ho.quiet hc'⟩
theorem decimal_spec (n : Int) (h0 : -9223372036854775808 ≤ n) (h1 : n ≤ 9223372036854775807) : Spec Tryd.prog 19 #[.int .i64 n] [] fun u L => u = .string (decS n) ∧ L = [] := spec_quiet fun w => decimal_any n w h0 h1

set_option maxHeartbeats 1000000 in
theorem treeNewL_spec {B : Nat} (ad : Nat → Addr) (m : Nat) (h1 : 1 ≤ m) (h2 : m ≤ 300)  : Spec Tryd.prog 16 #[.int .i64 (m : Int)] [rEnv B ad [10]] (fun u L => ∃ b tb dm pm vl vg T Sl Sg nb mb, u = .tuple #[.pointer (some ⟨b, 0, none⟩), .nilIface] ∧ L = [rCell true b [.pointer (some ⟨tb, 0, none⟩), .int .i64 (m : Int), .int .i64 0, .int .i64 0, .map (some dm), .map (some pm)] 175, rTab tb (psO m [keepN (newND nb 2 none) 2 0 2 0 0]) (gsO m [keepN (newND nb 2 none) 2 0 2 0 0]) vl vg T Sl Sg, rNds (lO m [keepN (newND nb 2 none) 2 0 2 0 0]), rMap true dm hk ([(⟨(0, 0), mb, []⟩ : DN)].map dnKV), rDirs [(⟨(0, 0), mb, []⟩ : DN)], rEnv B ad [10]]) := by
  refine spec_of (#[.int .i64 (m : Int), undef, undef, undef, undef, undef, undef, undef, undef, undef, undef, undef, undef, undef, undef, undef, undef, undef, undef, undef, undef, undef, undef, undef, undef, undef, undef, undef, undef, undef, undef, undef, undef, undef, undef, undef, undef, undef, undef, undef, undef, undef, undef, undef, undef, undef, undef, undef, undef, undef]) Tryd.func16 rfl (by kernel_rfl) fun E w0 w h => ?_
  refine c_seq ?_
  refine c_reg ?_
  refine sq_p (.pointer none) rfl (fun _ => by kernel_rfl) ?_
  refine sq_p (.nilIface) rfl (fun _ => by kernel_rfl) ?_
  refine lnil ?_
  refine thn_n ?_
  refine c_seq ?_
  refine c_reg ?_
  refine sq_p (.int .i64 (m : Int)) rfl (fun _ => by kernel_rfl) ?_
  refine sq_call #[.int .i64 (m : Int)] [] rfl (tabNewL_spec m h1 h2) (fun _ => by kernel_rfl) h ?_; rintro v_ L_ w ⟨tb, vl, vg, T, Sl, Sg, rfl, rfl⟩ h
  refine sq_p (.tuple #[.pointer (some ⟨tb, 0, none⟩), .nilIface]) rfl (fun _ => by kernel_rfl) ?_
  refine sq_p (.pointer (some ⟨tb, 0, none⟩)) rfl (fun _ => by kernel_rfl) ?_
  refine sq_p (.nilIface) rfl (fun _ => by kernel_rfl) ?_
  refine sq_p (.pointer (some ⟨tb, 0, none⟩)) rfl (fun _ => by kernel_rfl) ?_
  refine sq_p (.nilIface) rfl (fun _ => by kernel_rfl) ?_
  refine lnil ?_
  refine thn_n ?_
  refine c_seq ?_
  refine c_seq ?_
  refine c_reg ?_
  refine sq_p (.nilIface) rfl (fun _ => by kernel_rfl) ?_
  refine sq_p (.bool false) rfl (fun _ => by kernel_rfl) ?_
  refine lnil ?_
  refine thn_n ?_
  refine c_false (by kernel_rfl) ?_
  refine c_skip ?_
  refine thn_n ?_
  refine c_seq ?_
  refine c_reg ?_
  refine sq_p (.pointer (some ⟨tb, 0, none⟩)) rfl (fun _ => by kernel_rfl) ?_
  refine sq_p (.int .i64 (m : Int)) rfl (fun _ => by kernel_rfl) ?_
  refine sq_newm rfl hk (fun _ => by kernel_rfl) h ?_; intro k1 w h
  refine sq_newm rfl hk (fun _ => by kernel_rfl) h ?_; intro k2 w h
  refine sq_p (.agg #[.pointer (some ⟨tb, 0, none⟩), .int .i64 (m : Int), .int .i64 0, .int .i64 0, .map (some k1), .map (some k2)]) rfl (fun _ => by kernel_rfl) ?_
  refine sq_new rfl (fun b => .pointer (some ⟨b, 0, none⟩)) [.pointer (some ⟨tb, 0, none⟩), .int .i64 (m : Int), .int .i64 0, .int .i64 0, .map (some k1), .map (some k2)] 175 (fun _ => by kernel_rfl) h ?_; intro k3 w h
  refine sq_p (.pointer (some ⟨k3, 0, none⟩)) rfl (fun _ => by kernel_rfl) ?_
  refine lnil ?_
  refine thn_n ?_
  refine c_seq ?_
  refine c_reg ?_
  refine sq_p (.pointer (some ⟨k3, 0, none⟩)) rfl (fun _ => by kernel_rfl) ?_
  refine sq_p (.pointer (some ⟨tb, 0, none⟩)) rfl (fun _ => by kernel_rfl) ?_
  refine sq_call #[.pointer (some ⟨tb, 0, none⟩), .int .i64 2] [3, 3] rfl (tabAddR_spec m h1 h2 tb vl vg T Sl Sg) (fun _ => by kernel_rfl) h ?_; rintro v_ L_ w ⟨nb, rfl, rfl⟩ h
  refine sq_p (.tuple #[.agg #[.int .i64 0, .int .i64 0], .nilIface]) rfl (fun _ => by kernel_rfl) ?_
  refine sq_p (.agg #[.int .i64 0, .int .i64 0]) rfl (fun _ => by kernel_rfl) ?_
  refine sq_p (.nilIface) rfl (fun _ => by kernel_rfl) ?_
  refine sq_p (.pointer (some ⟨k3, 0, none⟩)) rfl (fun _ => by kernel_rfl) ?_
  refine sq_p (.pointer (some ⟨k3, 2, none⟩)) rfl (fun _ => by kernel_rfl) ?_
  refine sq_st rfl 2 [.int .i64 0, .int .i64 0] [.pointer (some ⟨tb, 0, none⟩), .int .i64 (m : Int), .int .i64 0, .int .i64 0, .map (some k1), .map (some k2)] h 2 rfl (by kernel_rfl) ?_; intro w h
  refine lnil ?_
  refine thn_n ?_
  refine c_seq ?_
  refine d_start 10 [2] (by kernel_rfl) h fun w h => ?_
  refine d_take 0 496 [2] rfl (v := .pointer (some ⟨k3, 0, none⟩)) (by kernel_rfl) (qp_thn qp_body) (yq (by kernel_rfl) (g_pure (v := .pointer (some ⟨k3, 0, none⟩)) fun _ => by kernel_rfl)) h (by kernel_rfl) ?_
  refine d_take 1 497 [2] rfl (v := .pointer (some ⟨k3, 0, none⟩)) (by kernel_rfl) (qp_thn qp_body) (yq (by kernel_rfl) (g_pure (v := .pointer (some ⟨k3, 0, none⟩)) fun _ => by kernel_rfl)) h (by kernel_rfl) ?_
  refine d_take 2 499 [2] rfl (v := .pointer (some ⟨k3, 4, none⟩)) (by kernel_rfl) (qp_thn qp_body) (yq (by kernel_rfl) (g_pure (v := .pointer (some ⟨k3, 4, none⟩)) fun _ => by kernel_rfl)) h (by kernel_rfl) ?_
  refine d_take 3 503 [2] rfl (v := .map (some k1)) (by kernel_rfl) (qp_thn qp_body) (yq (by kernel_rfl) (g_ld 4 [.map (some k1)] (.map (some k1)) (by kernel_rfl) 0 rfl)) h (by kernel_rfl) ?_
  refine d_take 4 271 [2] rfl (v := .pointer (some ⟨k3, 0, none⟩)) (by kernel_rfl) (qp_thn qp_body) (yq (by kernel_rfl) (g_pure (v := .pointer (some ⟨k3, 0, none⟩)) fun _ => by kernel_rfl)) h (by kernel_rfl) ?_
  refine d_take 5 287 [2] rfl (v := .pointer (some ⟨k3, 0, none⟩)) (by kernel_rfl) (qp_thn qp_body) (yq (by kernel_rfl) (g_pure (v := .pointer (some ⟨k3, 0, none⟩)) fun _ => by kernel_rfl)) h (by kernel_rfl) ?_
  refine d_take 6 319 [2] rfl (v := .pointer (some ⟨k3, 2, none⟩)) (by kernel_rfl) (qp_thn qp_body) (yq (by kernel_rfl) (g_pure (v := .pointer (some ⟨k3, 2, none⟩)) fun _ => by kernel_rfl)) h (by kernel_rfl) ?_
  refine d_take 7 383 [2] rfl (v := .agg #[.int .i64 0, .int .i64 0]) (by kernel_rfl) (qp_thn qp_body) (yq (by kernel_rfl) (g_ld 2 [.int .i64 0, .int .i64 0] (.agg #[.int .i64 0, .int .i64 0]) (by kernel_rfl) 0 rfl)) h (by kernel_rfl) ?_
  refine d_ready [8] (by kernel_rfl) rfl ?_
  refine ad_newm [3] rfl (by kernel_rfl) sk (fun _ => by kernel_rfl) h ?_ ?_
  · skip
    intro k4 w h; refine ⟨by kernel_rfl, ?_⟩
    refine d_ready [9] (by kernel_rfl) rfl ?_
    refine ad_mapu [3] rfl (by kernel_rfl) (K := 29) (E := 177) keyHk (0, 0) (.map (some k4)) (by kernel_rfl) h 5 rfl ?_ ?_
    · skip
      intro w h; refine ⟨by kernel_rfl, ?_⟩
      refine d_done (by kernel_rfl) ?_
      refine thn_n ?_
      refine c_seq ?_
      refine d_start 11 [3] (by kernel_rfl) h fun w h => ?_
      refine d_take 0 1022 [3] rfl (v := .pointer (some ⟨tb, 0, none⟩)) (by kernel_rfl) (qp_thn qp_body) (yq (by kernel_rfl) (g_pure (v := .pointer (some ⟨tb, 0, none⟩)) fun _ => by kernel_rfl)) h (by kernel_rfl) ?_
      refine d_take 1 993 [3] rfl (v := .pointer (some ⟨k3, 0, none⟩)) (by kernel_rfl) (qp_thn qp_body) (yq (by kernel_rfl) (g_pure (v := .pointer (some ⟨k3, 0, none⟩)) fun _ => by kernel_rfl)) h (by kernel_rfl) ?_
      refine d_take 2 995 [3] rfl (v := .pointer (some ⟨k3, 0, none⟩)) (by kernel_rfl) (qp_thn qp_body) (yq (by kernel_rfl) (g_pure (v := .pointer (some ⟨k3, 0, none⟩)) fun _ => by kernel_rfl)) h (by kernel_rfl) ?_
      refine d_take 3 999 [3] rfl (v := .pointer (some ⟨k3, 2, none⟩)) (by kernel_rfl) (qp_thn qp_body) (yq (by kernel_rfl) (g_pure (v := .pointer (some ⟨k3, 2, none⟩)) fun _ => by kernel_rfl)) h (by kernel_rfl) ?_
      refine d_take 4 1007 [3] rfl (v := .agg #[.int .i64 0, .int .i64 0]) (by kernel_rfl) (qp_thn qp_body) (yq (by kernel_rfl) (g_ld 2 [.int .i64 0, .int .i64 0] (.agg #[.int .i64 0, .int .i64 0]) (by kernel_rfl) 0 rfl)) h (by kernel_rfl) ?_
      refine d_take 5 31 [3] rfl (v := .pointer (some ⟨k3, 0, none⟩)) (by kernel_rfl) (qp_thn qp_body) (yq (by kernel_rfl) (g_pure (v := .pointer (some ⟨k3, 0, none⟩)) fun _ => by kernel_rfl)) h (by kernel_rfl) ?_
      refine d_take 6 63 [3] rfl (v := .pointer (some ⟨k3, 0, none⟩)) (by kernel_rfl) (qp_thn qp_body) (yq (by kernel_rfl) (g_pure (v := .pointer (some ⟨k3, 0, none⟩)) fun _ => by kernel_rfl)) h (by kernel_rfl) ?_
      refine d_take 7 127 [3] rfl (v := .pointer (some ⟨k3, 2, none⟩)) (by kernel_rfl) (qp_thn qp_body) (yq (by kernel_rfl) (g_pure (v := .pointer (some ⟨k3, 2, none⟩)) fun _ => by kernel_rfl)) h (by kernel_rfl) ?_
      refine d_take 8 255 [3] rfl (v := .agg #[.int .i64 0, .int .i64 0]) (by kernel_rfl) (qp_thn qp_body) (yq (by kernel_rfl) (g_ld 2 [.int .i64 0, .int .i64 0] (.agg #[.int .i64 0, .int .i64 0]) (by kernel_rfl) 0 rfl)) h (by kernel_rfl) ?_
      refine d_take 9 511 [3] rfl (v := .agg #[.int .i64 2, .int .i64 0, .int .i64 2, .int .i64 0, .int .i64 0, .int .i64 0]) (by kernel_rfl) (qp_thn qp_body) (yq (by kernel_rfl) (g_pure (v := .agg #[.int .i64 2, .int .i64 0, .int .i64 2, .int .i64 0, .int .i64 0, .int .i64 0]) fun _ => by kernel_rfl)) h (by kernel_rfl) ?_
      refine d_ready [10] (by kernel_rfl) rfl ?_
      refine ad_call #[.pointer (some ⟨tb, 0, none⟩), .agg #[.int .i64 0, .int .i64 0], .agg #[.int .i64 2, .int .i64 0, .int .i64 2, .int .i64 0, .int .i64 0, .int .i64 0]] [1, 1, 4] [4] rfl (by kernel_rfl) (keep_spec ad tb (psO m [newND nb 2 none]) (gsO m [newND nb 2 none]) vl vg T Sl Sg (lO m [newND nb 2 none]) (by rw [psO_len h1, gsO_len h1]) gsO_rng 0 0 0 (newND nb 2 none) (lO_get rfl) (atOf_psO (k := 0) rfl) 2 0 2 0 0 0) (fun _ => by kernel_rfl) h ?_ ?_
      · skip
        rintro _ L_ w rfl h
        refine ⟨by kernel_rfl, ?_⟩
        refine d_done (by kernel_rfl) ?_
        refine thn_n ?_
        refine c_seq ?_
        refine c_reg ?_
        refine sq_p (.pointer (some ⟨k3, 0, none⟩)) rfl (fun _ => by kernel_rfl) ?_
        refine sq_p (.pointer (some ⟨k3, 0, none⟩)) rfl (fun _ => by kernel_rfl) ?_
        refine sq_p (.nilIface) rfl (fun _ => by kernel_rfl) ?_
        refine lnil ?_
        refine thn_n ?_
        refine c_ret ?_
        have h : Own w0 E [rTab tb (psO m [newND nb 2 none]) (gsO m [newND nb 2 none]) vl vg T Sl Sg, rNds ((lO m [newND nb 2 none]).set 0 (some (keepN (newND nb 2 none) 2 0 2 0 0))), rEnv B ad [10], rMap true k4 sk [], rCell true k3 [.pointer (some ⟨tb, 0, none⟩), .int .i64 (m : Int), .int .i64 0, .int .i64 0, .map (some k1), .map (some k2)] 175, rMap true k2 hk [], rMap true k1 hk (aput [] (0, 0) (.map (some k4)))] w := h
        rw [show (lO m [newND nb 2 none]).set 0 (some (keepN (newND nb 2 none) 2 0 2 0 0)) = lO m [keepN (newND nb 2 none) 2 0 2 0 0] from lO_set _ (by simp)] at h
        have h := h.allNil
        have h := h.pickE (M := [rMap true k4 sk [], rDirs [], rTab tb (psO m [keepN (newND nb 2 none) 2 0 2 0 0]) (gsO m [keepN (newND nb 2 none) 2 0 2 0 0]) vl vg T Sl Sg, rNds (lO m [keepN (newND nb 2 none) 2 0 2 0 0]), rEnv B ad [10], rCell true k3 [.pointer (some ⟨tb, 0, none⟩), .int .i64 (m : Int), .int .i64 0, .int .i64 0, .map (some k1), .map (some k2)] 175, rMap true k2 hk [], rMap true k1 hk ([(⟨(0, 0), k4, []⟩ : DN)].map dnKV)]) [4, 0, 0, 0, 0, 0, 0, 0] (by kernel_rfl)
        have h := Own.dirAdd (ds := []) ⟨(0, 0), k4, []⟩ h
        have h : Own w0 E [rDirs [(⟨(0, 0), k4, []⟩ : DN)], rTab tb (psO m [keepN (newND nb 2 none) 2 0 2 0 0]) (gsO m [keepN (newND nb 2 none) 2 0 2 0 0]) vl vg T Sl Sg, rNds (lO m [keepN (newND nb 2 none) 2 0 2 0 0]), rEnv B ad [10], rCell true k3 [.pointer (some ⟨tb, 0, none⟩), .int .i64 (m : Int), .int .i64 0, .int .i64 0, .map (some k1), .map (some k2)] 175, rMap true k2 hk [], rMap true k1 hk ([(⟨(0, 0), k4, []⟩ : DN)].map dnKV)] w := h
        refine ret_end [.pointer (some ⟨k3, 0, none⟩), .nilIface] [4, 1, 1, 3, 0, 0] h (by kernel_rfl) (res_t (by kernel_rfl) (res_t (by kernel_rfl) res_n)) ?_
        exact ⟨_, _, _, _, _, _, _, _, _, _, _, rfl, rfl⟩
      exact ad_nil
    exact ad_nil
  exact ad_nil

abbrev Ents := List (ByteArray × (Int × Int))
def fEnt (q : Nat) : ByteArray × (Int × Int) := (nmT 102 q, ((q + 1 : Nat) : Int), 0)
def lEnt (q : Nat) : ByteArray × (Int × Int) := (nmT 108 q, 1, 0)
theorem aget_rng {c : UInt8} {f : Nat → Int × Int} {i : Nat} (hi : i < 66) : ∀ n, n ≤ i → aget ((List.range n).map fun q => (nmT c q, f q)) (nmT c i) = none := fun n hn => by
  have : ∀ l : List Nat, (∀ q ∈ l, q < i) → aget (l.map fun q => (nmT c q, f q)) (nmT c i) = none := by
    intro l
    induction l with
    | nil => intro _; rfl
    | cons q l ih =>
      intro h
      simp only [List.map_cons, aget]
      rw [if_neg (fun e => by have := nmT_inj hi (by have := h q (by simp); omega) e; have := h q (by simp); omega)]
      exact ih fun x hx => h x (List.mem_cons_of_mem _ hx)
  exact this _ fun q hq => by have := List.mem_range.1 hq; omega
theorem aput_end {s : ByteArray} {x : Int × Int} : ∀ {es : Ents}, aget es s = none → aput es s x = es ++ [(s, x)]
  | [], _ => rfl
  | p :: r, h => by
    simp only [aget] at h
    simp only [aput]
    split at h
    · cases h
    · rename_i hn
      rw [if_neg hn, aput_end h]; rfl
theorem aget_end {s t : ByteArray} {x : Int × Int} : ∀ {es : Ents}, aget es s = none → s ≠ t → aget (es ++ [(t, x)]) s = none
  | [], _, h => by simp [aget, h]
  | p :: r, h, hn => by
    simp only [List.cons_append, aget] at h ⊢
    split at h
    · cases h
    · rename_i hq
      rw [if_neg hq]; exact aget_end h hn
theorem aget_has {s t : ByteArray} {x y : Int × Int} : ∀ {es : Ents}, aget es s = some y → aget (es ++ [(t, x)]) s = some y
  | [], h => by simp [aget] at h
  | p :: r, h => by
    simp only [List.cons_append, aget] at h ⊢
    split at h
    · rename_i hq; rw [if_pos hq]; exact h
    · rename_i hq; rw [if_neg hq]; exact aget_has h
theorem d_none : ∀ l : List Nat, aget (l.map fEnt) ⟨#[100]⟩ = none
  | [] => rfl
  | q :: l => by
    simp only [List.map_cons, aget]
    rw [if_neg (show ¬ (⟨#[100]⟩ : ByteArray) = (fEnt q).1 from nm_d_ne 102 (by decide) q)]
    exact d_none l
structure GrowAt (i : Nat) (L : List ND) (es : Ents) : Prop where
  len : L.length = min i 60 + 1
  es : es = (List.range (min i 60)).map fEnt
  ok : ∀ (k : Nat) (N : ND), L[k]? = some N → 0 ≤ N.change ∧ N.change ≤ i ∧ 0 ≤ N.links ∧ N.links ≤ 2 ∧ (1 ≤ k → N.kind = 1 ∧ N.links = 1)
theorem GrowAt.root {i : Nat} {L : List ND} {es : Ents} (h : GrowAt i L es) : ∃ R, L[0]? = some R := ⟨_, List.getElem?_eq_getElem (by have := h.len; omega)⟩
theorem GrowAt.stay {i : Nat} {L : List ND} {es : Ents} (h : GrowAt i L es) (hi : 60 ≤ i) : GrowAt (i + 1) L es :=
  ⟨by rw [h.len]; omega, by rw [h.es]; congr 2; omega, fun k N hk => by obtain ⟨h1, h2, h3, h4, h5⟩ := h.ok k N hk; exact ⟨h1, by omega, h3, h4, h5⟩⟩
theorem GrowAt.more {i : Nat} {L : List ND} {es : Ents} {R : ND} {nb db : Nat} (h : GrowAt i L es) (hi : i < 60) (hR : L[0]? = some R) : GrowAt (i + 1) ((L ++ [linkN (newND nb 1 (some (newDQ db))) 1]).set 0 (touchN R)) (aput es (nmT 102 i) ((L.length : Int), 0)) := by
  have hl := h.len
  have hL : L.length = i + 1 := by omega
  refine ⟨by simp; omega, ?_, fun k N hk => ?_⟩
  · have hn : aget es (nmT 102 i) = none := by rw [h.es]; exact aget_rng (f := fun q => (((q + 1 : Nat) : Int), 0)) (by omega) _ (by omega)
    rw [aput_end hn, show min (i + 1) 60 = min i 60 + 1 by omega, List.range_succ, List.map_append, ← h.es, hL, show min i 60 = i by omega]; rfl
  · by_cases k0 : k = 0
    · subst k0
      rw [List.getElem?_set_self (by simp)] at hk
      cases hk
      obtain ⟨h1, h2, h3, h4, _⟩ := h.ok 0 R hR
      refine ⟨?_, ?_, h3, h4, fun q => by omega⟩
      · show 0 ≤ R.change + 1; omega
      · show R.change + 1 ≤ ((i + 1 : Nat) : Int); omega
    · rw [List.getElem?_set_ne (fun e => k0 e.symm)] at hk
      by_cases hkl : k < L.length
      · rw [List.getElem?_append_left hkl] at hk
        obtain ⟨h1, h2, h3, h4, h5⟩ := h.ok k N hk
        exact ⟨h1, by omega, h3, h4, h5⟩
      · rw [List.getElem?_append_right (by omega)] at hk
        have : k - L.length = 0 := by
          have := (List.getElem?_eq_some_iff.1 hk).1
          simp at this; omega
        rw [this] at hk
        cases hk
        exact ⟨by show (0 : Int) ≤ 0; decide, by show (0 : Int) ≤ _; omega, by show (0 : Int) ≤ 0 + 1; decide, by show (0 : Int) + 1 ≤ 2; decide, fun _ => ⟨rfl, rfl⟩⟩
theorem GrowAt.free {i : Nat} {L : List ND} {es : Ents} (h : GrowAt i L es) (hi : i < 66) : aget es (nmT 102 i) = none := by
  rw [h.es]; exact aget_rng (f := fun q => (((q + 1 : Nat) : Int), 0)) hi _ (by omega)
theorem GrowAt.start (nb : Nat) : GrowAt 0 [keepN (newND nb 2 none) 2 0 2 0 0] [] :=
  ⟨rfl, rfl, fun k N hk => by
    have : k = 0 := by have := (List.getElem?_eq_some_iff.1 hk).1; simp at this; omega
    subst this
    cases hk
    exact ⟨by show (0 : Int) ≤ 0; decide, by show (0 : Int) ≤ 0; decide, by show (0 : Int) ≤ 2; decide, by show (2 : Int) ≤ 2; decide, fun q => by omega⟩⟩
theorem createGL_spec {B : Nat} (ad : Nat → Addr) (b tb dm pm : Nat) (vl vg : Value) (T : TypeId) (Sl Sg : Nat → Prop) (mb i : Nat) (L : List ND) (es : Ents) (hg : GrowAt i L es) (hi : i < 66) :
    Spec Tryd.prog 17 #[.pointer (some ⟨b, 0, none⟩), .agg #[.int .i64 0, .int .i64 0], .string (nmT 102 i), .int .i64 1] [rCell true b [.pointer (some ⟨tb, 0, none⟩), .int .i64 (300 : Int), .int .i64 0, .int .i64 0, .map (some dm), .map (some pm)] 175, rTab tb (psO 300 L) (gsO 300 L) vl vg T Sl Sg, rNds (lO 300 L), rMap true dm hk ([(⟨(0, 0), mb, es⟩ : DN)].map dnKV), rDirs [(⟨(0, 0), mb, es⟩ : DN)], rEnv B ad [10], rEnv B ad [4], rEnv B ad [9]] fun u L' => (i < 60 ∧ ∃ L2 es2, GrowAt (i + 1) L2 es2 ∧ u = .tuple #[.agg #[.int .i64 (L.length : Int), .int .i64 0], .nilIface] ∧ L' = [rCell true b [.pointer (some ⟨tb, 0, none⟩), .int .i64 (300 : Int), .int .i64 0, .int .i64 0, .map (some dm), .map (some pm)] 175, rTab tb (psO 300 L2) (gsO 300 L2) vl vg T Sl Sg, rNds (lO 300 L2), rMap true dm hk ([(⟨(0, 0), mb, es2⟩ : DN)].map dnKV), rDirs [(⟨(0, 0), mb, es2⟩ : DN)], rEnv B ad [10], rEnv B ad [4], rEnv B ad [9]]) ∨ (60 ≤ i ∧ GrowAt (i + 1) L es ∧ u = .tuple #[.agg #[.int .i64 0, .int .i64 0], errV ad 9] ∧ L' = [rCell true b [.pointer (some ⟨tb, 0, none⟩), .int .i64 (300 : Int), .int .i64 0, .int .i64 0, .map (some dm), .map (some pm)] 175, rTab tb (psO 300 L) (gsO 300 L) vl vg T Sl Sg, rNds (lO 300 L), rMap true dm hk ([(⟨(0, 0), mb, es⟩ : DN)].map dnKV), rDirs [(⟨(0, 0), mb, es⟩ : DN)], rEnv B ad [10], rEnv B ad [4], rEnv B ad [9]]) := by
  obtain ⟨R, hR⟩ := hg.root
  have hl := hg.len
  have hes : es.length = min i 60 := by rw [hg.es]; simp
  obtain ⟨c1, c2, c3, c4, _⟩ := hg.ok 0 R hR
  by_cases h : i < 60
  · refine ((createFL_spec ad b 300 tb dm pm vl vg T Sl Sg L [⟨(0, 0), mb, es⟩] (by decide) 0 R hR 0 ⟨(0, 0), mb, es⟩ rfl rfl (by simp) (nmT 102 i) (by have := nmT_size 102 i; omega) (nmT_okF ⟨i, hi⟩) (by omega) (hg.free hi) (by show es.length < 60; omega) (by omega)).frame [rEnv B ad [9]]).mono ?_
    rintro u L' ⟨L1, ⟨nb, db, rfl, rfl⟩, rfl⟩
    exact .inl ⟨h, _, _, hg.more h hR, rfl, rfl⟩
  · refine (createFullL_spec ad b 300 tb dm pm vl vg T Sl Sg L [⟨(0, 0), mb, es⟩] (by decide) 0 R hR 0 ⟨(0, 0), mb, es⟩ rfl rfl (by simp) (nmT 102 i) (by have := nmT_size 102 i; omega) (nmT_okF ⟨i, hi⟩) (by omega) (hg.free hi) (by show 60 ≤ es.length; omega) 1 (.inl rfl)).mono ?_
    rintro u L' ⟨rfl, rfl⟩
    exact .inr ⟨by omega, hg.stay (by omega), rfl, rfl⟩
structure LinkAt (i0 i : Nat) (L : List ND) (es2 : Ents) : Prop where
  len : L.length = i0 + 2
  f : ∃ N, L[1]? = some N ∧ N.kind = 1 ∧ N.links = 1 + ((min i 7 : Nat) : Int) ∧ 0 ≤ N.change ∧ N.change ≤ 100 + (i : Int)
  d : ∃ N, L[i0 + 1]? = some N ∧ 0 ≤ N.change ∧ N.change ≤ i
  es : es2 = (List.range (min i 7)).map lEnt
theorem createDG_spec {B : Nat} (ad : Nat → Addr) (b tb dm pm : Nat) (vl vg : Value) (T : TypeId) (Sl Sg : Nat → Prop) (mb i0 : Nat) (L : List ND) (es : Ents) (hg : GrowAt i0 L es) (h1 : 1 ≤ i0) (h60 : i0 < 60) :
    Spec Tryd.prog 17 #[.pointer (some ⟨b, 0, none⟩), .agg #[.int .i64 0, .int .i64 0], .string ⟨#[100]⟩, .int .i64 2] [rCell true b [.pointer (some ⟨tb, 0, none⟩), .int .i64 (300 : Int), .int .i64 0, .int .i64 0, .map (some dm), .map (some pm)] 175, rTab tb (psO 300 L) (gsO 300 L) vl vg T Sl Sg, rNds (lO 300 L), rMap true dm hk ([(⟨(0, 0), mb, es⟩ : DN)].map dnKV), rDirs [(⟨(0, 0), mb, es⟩ : DN)], rEnv B ad [10], rEnv B ad [4]] fun u L' => ∃ L2 es2 mb2, LinkAt i0 0 L2 [] ∧ aget es2 (nmT 102 0) = some (1, 0) ∧ (∃ R, L2[0]? = some R) ∧ u = .tuple #[.agg #[.int .i64 ((i0 + 1 : Nat) : Int), .int .i64 0], .nilIface] ∧ L' = [rCell true b [.pointer (some ⟨tb, 0, none⟩), .int .i64 (300 : Int), .int .i64 0, .int .i64 0, .map (some dm), .map (some pm)] 175, rTab tb (psO 300 L2) (gsO 300 L2) vl vg T Sl Sg, rNds (lO 300 L2), rMap true dm hk ([(⟨(0, 0), mb, es2⟩ : DN), ⟨(((i0 + 1 : Nat) : Int), 0), mb2, []⟩].map dnKV), rDirs [(⟨(0, 0), mb, es2⟩ : DN), ⟨(((i0 + 1 : Nat) : Int), 0), mb2, []⟩], rEnv B ad [10], rEnv B ad [4]] := by
  obtain ⟨R, hR⟩ := hg.root
  have hl := hg.len
  have hes : es.length = min i0 60 := by rw [hg.es]; simp
  have hL : L.length = i0 + 1 := by omega
  obtain ⟨c1, c2, c3, c4, _⟩ := hg.ok 0 R hR
  have hn : aget es ⟨#[100]⟩ = none := by rw [hg.es]; exact d_none _
  refine (createDL_spec ad b 300 tb dm pm vl vg T Sl Sg L [⟨(0, 0), mb, es⟩] (by decide) 0 R hR 0 ⟨(0, 0), mb, es⟩ rfl rfl (by simp) ⟨#[100]⟩ (by decide) nm_d_ok (by omega) hn (by show es.length < 60; omega) (by omega) (fun d hd => by rw [List.mem_singleton.1 hd]; intro e; have := congrArg Prod.fst e; simp only at this; omega) (by omega)).mono ?_
  rintro u L' ⟨nb, mb2, rfl, rfl⟩
  rw [hL]
  refine ⟨_, aput es ⟨#[100]⟩ (((i0 + 1 : Nat) : Int), 0), mb2, ⟨by simp; omega, ?_, ?_, rfl⟩, ?_, ⟨touchN (linkN R 1), by rw [List.getElem?_set_self (by simp)]⟩, rfl, rfl⟩
  · obtain ⟨N, hN⟩ : ∃ N, L[1]? = some N := ⟨_, List.getElem?_eq_getElem (by omega)⟩
    obtain ⟨q1, q2, q3, q4, q5⟩ := hg.ok 1 N hN
    refine ⟨N, by rw [List.getElem?_set_ne (by decide), List.getElem?_append_left (by omega)]; exact hN, (q5 (by decide)).1, by rw [(q5 (by decide)).2]; rfl, q1, by omega⟩
  · refine ⟨keepN (newND nb 2 none) 2 0 2 ((0 : Nat) : Int) 0, by rw [List.getElem?_set_ne (by omega), List.getElem?_append_right (by omega), hL, Nat.sub_self]; rfl, by show (0 : Int) ≤ 0; decide, by show (0 : Int) ≤ 0; decide⟩
  · rw [aput_end hn]
    refine aget_has ?_
    rw [hg.es]
    obtain ⟨c, hc⟩ : ∃ c, min i0 60 = c + 1 := ⟨min i0 60 - 1, by omega⟩
    rw [hc, List.range_succ_eq_map]
    show aget (fEnt 0 :: _) _ = _
    simp only [aget]
    rw [if_pos (by rfl)]; rfl
theorem linkGL_spec {B : Nat} (ad : Nat → Addr) (b tb dm pm : Nat) (vl vg : Value) (T : TypeId) (Sl Sg : Nat → Prop) (mb mb2 i0 i : Nat) (L : List ND) (es es2 : Ents) (hg : LinkAt i0 i L es2) (hi : i < 66) (h1 : 1 ≤ i0) (h60 : i0 < 60) :
    Spec Tryd.prog 22 #[.pointer (some ⟨b, 0, none⟩), .agg #[.int .i64 1, .int .i64 0], .agg #[.int .i64 ((i0 + 1 : Nat) : Int), .int .i64 0], .string (nmT 108 i)] [rCell true b [.pointer (some ⟨tb, 0, none⟩), .int .i64 (300 : Int), .int .i64 0, .int .i64 0, .map (some dm), .map (some pm)] 175, rTab tb (psO 300 L) (gsO 300 L) vl vg T Sl Sg, rNds (lO 300 L), rMap true dm hk ([(⟨(0, 0), mb, es⟩ : DN), ⟨(((i0 + 1 : Nat) : Int), 0), mb2, es2⟩].map dnKV), rDirs [(⟨(0, 0), mb, es⟩ : DN), ⟨(((i0 + 1 : Nat) : Int), 0), mb2, es2⟩], rEnv B ad [10], rEnv B ad [4], rEnv B ad [9]] fun u L' => (i < 7 ∧ ∃ L2 e2, LinkAt i0 (i + 1) L2 e2 ∧ u = .nilIface ∧ L' = [rCell true b [.pointer (some ⟨tb, 0, none⟩), .int .i64 (300 : Int), .int .i64 0, .int .i64 0, .map (some dm), .map (some pm)] 175, rTab tb (psO 300 L2) (gsO 300 L2) vl vg T Sl Sg, rNds (lO 300 L2), rMap true dm hk ([(⟨(0, 0), mb, es⟩ : DN), ⟨(((i0 + 1 : Nat) : Int), 0), mb2, e2⟩].map dnKV), rDirs [(⟨(0, 0), mb, es⟩ : DN), ⟨(((i0 + 1 : Nat) : Int), 0), mb2, e2⟩], rEnv B ad [10], rEnv B ad [4], rEnv B ad [9]]) ∨ (7 ≤ i ∧ LinkAt i0 (i + 1) L es2 ∧ u = errV ad 9 ∧ L' = [rCell true b [.pointer (some ⟨tb, 0, none⟩), .int .i64 (300 : Int), .int .i64 0, .int .i64 0, .map (some dm), .map (some pm)] 175, rTab tb (psO 300 L) (gsO 300 L) vl vg T Sl Sg, rNds (lO 300 L), rMap true dm hk ([(⟨(0, 0), mb, es⟩ : DN), ⟨(((i0 + 1 : Nat) : Int), 0), mb2, es2⟩].map dnKV), rDirs [(⟨(0, 0), mb, es⟩ : DN), ⟨(((i0 + 1 : Nat) : Int), 0), mb2, es2⟩], rEnv B ad [10], rEnv B ad [4], rEnv B ad [9]]) := by
  obtain ⟨Ni, hNi, f1, f2, f3, f4⟩ := hg.f
  obtain ⟨N, hN, d1, d2⟩ := hg.d
  have hl := hg.len
  have hes : es2.length = min i 7 := by rw [hg.es]; simp
  have hn : aget es2 (nmT 108 i) = none := by rw [hg.es]; exact aget_rng (f := fun _ => (1, 0)) hi _ (by omega)
  have hdd : (([⟨(0, 0), mb, es⟩, ⟨(((i0 + 1 : Nat) : Int), 0), mb2, es2⟩] : List DN).map (·.h)).Nodup := by
    simp only [List.map_cons, List.map_nil, List.nodup_cons, List.mem_singleton, List.not_mem_nil, not_false_eq_true, List.nodup_nil, and_true]
    intro e
    have := congrArg Prod.fst e
    simp only at this
    omega
  by_cases h : i < 7
  · refine ((linkL_spec ad b 300 tb dm pm vl vg T Sl Sg L [⟨(0, 0), mb, es⟩, ⟨(((i0 + 1 : Nat) : Int), 0), mb2, es2⟩] (by decide) (i0 + 1) N hN 1 ⟨(((i0 + 1 : Nat) : Int), 0), mb2, es2⟩ rfl rfl hdd (nmT 108 i) (by have := nmT_size 108 i; omega) (nmT_okL ⟨i, hi⟩) 1 Ni hNi f1 (by omega) hn (by show es2.length < 60; omega) (by omega) (by omega) (by omega) (by omega)).frame [rEnv B ad [9]]).mono ?_
    rintro u L' ⟨L1, ⟨rfl, rfl⟩, rfl⟩
    refine .inl ⟨h, _, aput es2 (nmT 108 i) (1, 0), ⟨by simp; exact hl, ?_, ?_, ?_⟩, rfl, rfl⟩
    · refine ⟨touchN (linkN Ni 1), by rw [List.getElem?_set_ne (by omega), List.getElem?_set_self (by omega)], f1, ?_, ?_, ?_⟩
      · show Ni.links + 1 = _; omega
      · show 0 ≤ Ni.change + 1; omega
      · show Ni.change + 1 ≤ _; omega
    · refine ⟨touchN N, by rw [List.getElem?_set_self (by simp; omega)], ?_, ?_⟩
      · show 0 ≤ N.change + 1; omega
      · show N.change + 1 ≤ _; omega
    · rw [aput_end hn, show min (i + 1) 7 = min i 7 + 1 by omega, List.range_succ, List.map_append, ← hg.es, show min i 7 = i by omega]; rfl
  · refine (linkFullL_spec ad b 300 tb dm pm vl vg T Sl Sg L [⟨(0, 0), mb, es⟩, ⟨(((i0 + 1 : Nat) : Int), 0), mb2, es2⟩] (by decide) (i0 + 1) N hN 1 ⟨(((i0 + 1 : Nat) : Int), 0), mb2, es2⟩ rfl rfl hdd (nmT 108 i) (by have := nmT_size 108 i; omega) (nmT_okL ⟨i, hi⟩) 1 Ni hNi f1 (by omega) hn (by omega)).mono ?_
    rintro u L' ⟨rfl, rfl⟩
    exact .inr ⟨by omega, ⟨hl, ⟨Ni, hNi, f1, by omega, f3, by omega⟩, ⟨N, hN, d1, by omega⟩, by rw [hg.es, show min (i + 1) 7 = min i 7 by omega]⟩, rfl, rfl⟩
theorem lookupG_spec {B : Nat} (ad : Nat → Addr) (b tb dm pm : Nat) (vl vg : Value) (T : TypeId) (Sl Sg : Nat → Prop) (mb mb2 i0 : Nat) (L : List ND) (es es2 : Ents) (R : ND) (hR : L[0]? = some R) (hl : L.length = i0 + 2) (h60 : i0 < 60) (hx : aget es (nmT 102 0) = some (1, 0)) :
    Spec Tryd.prog 21 #[.pointer (some ⟨b, 0, none⟩), .agg #[.int .i64 0, .int .i64 0], .string ⟨#[102, 48]⟩] [rCell true b [.pointer (some ⟨tb, 0, none⟩), .int .i64 (300 : Int), .int .i64 0, .int .i64 0, .map (some dm), .map (some pm)] 175, rTab tb (psO 300 L) (gsO 300 L) vl vg T Sl Sg, rNds (lO 300 L), rMap true dm hk ([(⟨(0, 0), mb, es⟩ : DN), ⟨(((i0 + 1 : Nat) : Int), 0), mb2, es2⟩].map dnKV), rDirs [(⟨(0, 0), mb, es⟩ : DN), ⟨(((i0 + 1 : Nat) : Int), 0), mb2, es2⟩], rEnv B ad [10], rEnv B ad [4]] fun u L' => u = .tuple #[.agg #[.int .i64 1, .int .i64 0], .nilIface] ∧ L' = [rCell true b [.pointer (some ⟨tb, 0, none⟩), .int .i64 (300 : Int), .int .i64 0, .int .i64 0, .map (some dm), .map (some pm)] 175, rTab tb (psO 300 L) (gsO 300 L) vl vg T Sl Sg, rNds (lO 300 L), rMap true dm hk ([(⟨(0, 0), mb, es⟩ : DN), ⟨(((i0 + 1 : Nat) : Int), 0), mb2, es2⟩].map dnKV), rDirs [(⟨(0, 0), mb, es⟩ : DN), ⟨(((i0 + 1 : Nat) : Int), 0), mb2, es2⟩], rEnv B ad [10], rEnv B ad [4]] := by
  have hdd : (([⟨(0, 0), mb, es⟩, ⟨(((i0 + 1 : Nat) : Int), 0), mb2, es2⟩] : List DN).map (·.h)).Nodup := by
    simp only [List.map_cons, List.map_nil, List.nodup_cons, List.mem_singleton, List.not_mem_nil, not_false_eq_true, List.nodup_nil, and_true]
    intro e
    have := congrArg Prod.fst e
    simp only at this
    omega
  exact lookupL_spec ad b 300 tb dm pm vl vg T Sl Sg L [⟨(0, 0), mb, es⟩, ⟨(((i0 + 1 : Nat) : Int), 0), mb2, es2⟩] (by decide) 0 R hR 0 ⟨(0, 0), mb, es⟩ rfl rfl hdd ⟨#[102, 48]⟩ (by decide) nm_f0_ok (by omega) (1, 0) (by rw [nm_f0]; exact hx)

end Go.Proofs.YtofhnglgebllbaaDoor
