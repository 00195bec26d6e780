/- Package tree's directories: a map of maps, told by a list (which directory, where its entries lie, the entries in the order of their laying). No condition. -/
import Derived.Test.YtofhnglgebllbaaDoorTabN
import Derived.Test.YtofhnglgebllbaaDoorKeyH
namespace Go.Proofs.YtofhnglgebllbaaDoor
open Go.RowKit
set_option linter.unusedVariables false
set_option linter.unusedSimpArgs false
structure DN where
  h : Int × Int
  mb : Nat
  es : List (ByteArray × (Int × Int))
def dnKV (d : DN) : (Int × Int) × Value := (d.h, .map (some d.mb))
def enKV (e : ByteArray × (Int × Int)) : ByteArray × Value := (e.1, hk e.2)
def pnKV (p : (Int × Int) × Int) : (Int × Int) × Value := (p.1, .int .i64 p.2)
def dnRes (d : DN) : Res := rMap true d.mb sk (d.es.map enKV)
def rDirs (ds : List DN) : Res := rAll (ds.map dnRes)
def rDirsO (ds : List DN) (j : Nat) : Res := rAll ((ds.map dnRes).set j rNone)
section
variable {w0 w : World} {E : Ent} {M : List Res} {ds : List DN} {j : Nat} {d : DN}
theorem Own.dirOpen (h : Own w0 E (rDirs ds :: M) w) (hj : ds[j]? = some d) : Own w0 E (dnRes d :: rDirsO ds j :: M) w := h.mapOpen hj
theorem Own.dirClose (d' : DN) (h : Own w0 E (dnRes d' :: rDirsO ds j :: M) w) : Own w0 E (rDirs (ds.set j d') :: M) w := h.mapSet d' rfl
theorem Own.dirBack (hj : ds[j]? = some d) (h : Own w0 E (dnRes d :: rDirsO ds j :: M) w) : Own w0 E (rDirs ds :: M) w := by
  have h1 := h.dirClose d
  rw [set_same ds j d hj] at h1
  exact h1
theorem Own.dirAdd (d : DN) (h : Own w0 E (dnRes d :: rDirs ds :: M) w) : Own w0 E (rDirs (ds ++ [d]) :: M) w := h.mapAdd d rfl
end
theorem dnKV_set : ∀ {ds : List DN} {j : Nat} {d d' : DN}, ds[j]? = some d → d'.h = d.h → d'.mb = d.mb → (ds.set j d').map dnKV = ds.map dnKV
  | [], _, _, _, h, _, _ => by simp at h
  | x :: ds, 0, d, d', h, h1, h2 => by
    simp at h
    subst h
    simp [dnKV, h1, h2]
  | x :: ds, j + 1, d, d', h, h1, h2 => by simp [dnKV_set (ds := ds) (j := j) (d := d) (by simpa using h) h1 h2]
theorem en_put (s : ByteArray) (x : Int × Int) : ∀ es : List (ByteArray × (Int × Int)), aput (es.map enKV) s (hk x) = (aput es s x).map enKV
  | [] => rfl
  | p :: r => by
    simp only [List.map_cons, aput]
    by_cases c : s = p.1
    · rw [if_pos (show s = (enKV p).1 from c), if_pos c]; rfl
    · rw [if_neg (show ¬ s = (enKV p).1 from c), if_neg c, List.map_cons, en_put s x r]
theorem en_get (s : ByteArray) : ∀ es : List (ByteArray × (Int × Int)), aget (es.map enKV) s = (aget es s).map hk
  | [] => rfl
  | p :: r => by
    simp only [List.map_cons, aget]
    by_cases c : s = p.1
    · rw [if_pos (show s = (enKV p).1 from c), if_pos c]; rfl
    · rw [if_neg (show ¬ s = (enKV p).1 from c), if_neg c, en_get s r]
theorem en_some {s : ByteArray} {x : Int × Int} {es : List (ByteArray × (Int × Int))} (h : aget es s = some x) : aget (es.map enKV) s = some (hk x) := by rw [en_get, h]; rfl
theorem en_none {s : ByteArray} {es : List (ByteArray × (Int × Int))} (h : aget es s = none) : aget (es.map enKV) s = none := by rw [en_get, h]; rfl
theorem dir_none {x : Int × Int} : ∀ {ds : List DN}, (∀ d ∈ ds, d.h ≠ x) → aget (ds.map dnKV) x = none
  | [], _ => rfl
  | p :: r, h => by
    simp only [List.map_cons, aget]
    rw [if_neg (fun e : x = (dnKV p).1 => h p (by simp) e.symm)]
    exact dir_none fun d hd => h d (List.mem_cons_of_mem _ hd)
theorem dir_get : ∀ {ds : List DN} {j : Nat} {d : DN}, (ds.map (·.h)).Nodup → ds[j]? = some d → aget (ds.map dnKV) d.h = some (.map (some d.mb))
  | [], _, _, _, h => by simp at h
  | x :: ds, 0, d, _, h => by
    simp at h
    subst h
    simp [aget, dnKV]
  | x :: ds, j + 1, d, hn, h => by
    obtain ⟨h1, h2⟩ := List.nodup_cons.1 (show (x.h :: ds.map (·.h)).Nodup from hn)
    have h3 : ds[j]? = some d := by simpa using h
    simp only [List.map_cons, aget]
    rw [if_neg (fun e : d.h = (dnKV x).1 => h1 (List.mem_map.2 ⟨d, List.mem_of_getElem? h3, e⟩))]
    exact dir_get h2 h3
/-- A new directory's place in the map of all. -/
theorem dir_new {h : Int × Int} {mb : Nat} {es : List (ByteArray × (Int × Int))} : ∀ {ds : List DN}, (∀ d ∈ ds, d.h ≠ h) → aput (ds.map dnKV) h (.map (some mb)) = (ds ++ [(⟨h, mb, es⟩ : DN)]).map dnKV
  | [], _ => rfl
  | p :: r, hn => by
    simp only [List.map_cons, aput, List.cons_append]
    rw [if_neg (fun e : h = (dnKV p).1 => hn p (by simp) e.symm), dir_new (es := es) fun d hd => hn d (List.mem_cons_of_mem _ hd)]
/-- What is told of a node. -/
def ndSize (N : ND) : Int := match N.dq with | none => N.size | some q => q.size
end Go.Proofs.YtofhnglgebllbaaDoor
