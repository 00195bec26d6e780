/- Package nodes' table by what is owned: a kind that is none, a table that is full, Free. No condition but that the table is one. -/
import Derived.Test.YtgebinfbbopnlaaDoorTabM
namespace Go.Proofs.YtgebinfbbopnlaaDoor
open Go.RowKit
set_option linter.unusedVariables false
set_option linter.unusedSimpArgs false
theorem tabBad_spec {B : Nat} (ad : Nat → Addr) (b : Nat) (kind : Int) (hk : ¬ kind = 1) (hk2 : ¬ kind = 2) : Spec Tryd.prog 8 #[.pointer (some ⟨b, 0, none⟩), .int .i64 kind] [rEnv B ad [3]] fun u L => u = .tuple #[hdlV 0 0, errV ad 3] ∧ L = [rEnv B ad [3]] := fun E w0 w ho =>
  (nadd_bad ad b kind w (ho.fact 0 rfl) hk hk2).mono fun e w' ⟨he, hc⟩ => ⟨_, _, ⟨rfl, rfl⟩, he, ho.quiet hc⟩
theorem tabFull_spec {B : Nat} (ad : Nat → Addr) (b : Nat) (kind : Int) (ps : List (Option Nat)) (gs : List Int) (vl vg : Value) (T : TypeId) (Sl Sg : Nat → Prop) (hk : kind = 1 ∨ kind = 2) (hl : ps.length ≤ 300) (hf : free0 ps = none) : Spec Tryd.prog 8 #[.pointer (some ⟨b, 0, none⟩), .int .i64 kind] [rTab b ps gs vl vg T Sl Sg, rEnv B ad [9]] fun u L => u = .tuple #[hdlV 0 0, errV ad 9] ∧ L = [rTab b ps gs vl vg T Sl Sg, rEnv B ad [9]] := fun E w0 w ho =>
  (nadd_full ad b kind ps gs vl vg T Sl Sg w (ho.fact 1 rfl) (ho.fact 0 rfl) hk hl hf).mono fun e w' ⟨he, hc⟩ => ⟨_, _, ⟨rfl, rfl⟩, he, ho.quiet hc⟩
def NewQ (kind : Int) (dq : Option DQ) : Prop := (kind = 1 ∧ ∃ db, dq = some (newDQ db)) ∨ (kind = 2 ∧ dq = none)
theorem tabAdd_spec {B : Nat} (ad : Nat → Addr) (b : Nat) (kind : Int) (ps : List (Option Nat)) (gs : List Int) (vl vg : Value) (T : TypeId) (Sl Sg : Nat → Prop) (l : List (Option ND)) (hl : ps.length ≤ 300) (hlg : ps.length = gs.length) (hr : ∀ x ∈ gs, 0 ≤ x ∧ x ≤ 1000000) :
    Spec Tryd.prog 8 #[.pointer (some ⟨b, 0, none⟩), .int .i64 kind] [rTab b ps gs vl vg T Sl Sg, rNds l, rEnv B ad [3], rEnv B ad [9]] fun u L => (¬ kind = 1 ∧ ¬ kind = 2 ∧ u = .tuple #[.agg #[.int .i64 0, .int .i64 0], errV ad 3] ∧ L = [rTab b ps gs vl vg T Sl Sg, rNds l, rEnv B ad [3], rEnv B ad [9]]) ∨
      ((kind = 1 ∨ kind = 2) ∧ free0 ps = none ∧ u = .tuple #[.agg #[.int .i64 0, .int .i64 0], errV ad 9] ∧ L = [rTab b ps gs vl vg T Sl Sg, rNds l, rEnv B ad [3], rEnv B ad [9]]) ∨
      ((kind = 1 ∨ kind = 2) ∧ ∃ (kf : Nat) (x : Int) (nb : Nat) (dq : Option DQ), free0 ps = some kf ∧ gs[kf]? = some x ∧ NewQ kind dq ∧ u = .tuple #[.agg #[.int .i64 (kf : Int), .int .i64 x], .nilIface] ∧ L = [rTab b (ps.set kf (some nb)) (gs.set kf (x + 1)) vl vg T Sl Sg, rNds (l.set kf (some (newND nb kind dq))), rEnv B ad [3], rEnv B ad [9]]) := by
  by_cases hk : kind = 1 ∨ kind = 2
  · cases hf : free0 ps with
    | none =>
      intro E w0 w ho
      have h1 : Own w0 E ([rTab b ps gs vl vg T Sl Sg, rEnv B ad [9]] ++ [rNds l, rEnv B ad [3]]) w := ho.pick [0, 2, 0, 0]
      refine (((tabFull_spec ad b kind ps gs vl vg T Sl Sg hk hl hf).frame [rNds l, rEnv B ad [3]]) E w0 w h1).mono ?_
      rintro e w' ⟨u, L', ⟨L1, ⟨rfl, rfl⟩, rfl⟩, he, h2⟩
      exact ⟨_, _, .inr (.inl ⟨hk, rfl, rfl, rfl⟩), he, h2.pick [0, 1, 1, 0]⟩
    | some kf =>
      have hkf := free0_lt ps kf hf
      have hkl := (List.getElem?_eq_some_iff.1 hkf).1
      obtain ⟨x, hx⟩ : ∃ x, gs[kf]? = some x := ⟨_, List.getElem?_eq_getElem (by omega)⟩
      have hxr := hr x (List.mem_of_getElem? hx)
      rcases hk with rfl | rfl
      · refine (((tabAdd1_spec b kf x ps gs vl vg T Sl Sg l hl hlg hf hx hxr).frame [rEnv B ad [3], rEnv B ad [9]])).mono ?_
        rintro u L ⟨L1, ⟨nb, db, rfl, rfl⟩, rfl⟩
        exact .inr (.inr ⟨.inl rfl, kf, x, nb, _, rfl, hx, .inl ⟨rfl, db, rfl⟩, rfl, rfl⟩)
      · refine (((tabAdd2_spec b kf x ps gs vl vg T Sl Sg l hl hlg hf hx hxr).frame [rEnv B ad [3], rEnv B ad [9]])).mono ?_
        rintro u L ⟨L1, ⟨nb, rfl, rfl⟩, rfl⟩
        exact .inr (.inr ⟨.inr rfl, kf, x, nb, _, rfl, hx, .inr ⟨rfl, rfl⟩, rfl, rfl⟩)
  · intro E w0 w ho
    have h1 : Own w0 E ([rEnv B ad [3]] ++ [rTab b ps gs vl vg T Sl Sg, rNds l, rEnv B ad [9]]) w := ho.pick [2, 0, 0, 0]
    refine (((tabBad_spec ad b kind (fun h => hk (.inl h)) (fun h => hk (.inr h))).frame [rTab b ps gs vl vg T Sl Sg, rNds l, rEnv B ad [9]]) E w0 w h1).mono ?_
    rintro e w' ⟨u, L', ⟨L1, ⟨rfl, rfl⟩, rfl⟩, he, h2⟩
    exact ⟨_, _, .inl ⟨fun h => hk (.inl h), fun h => hk (.inr h), rfl, rfl⟩, he, h2.pick [1, 1, 0, 0]⟩
theorem tabFree_spec {B : Nat} (ad : Nat → Addr) (b k nb : Nat) (g : Int) (ps : List (Option Nat)) (gs : List Int) (vl vg : Value) (T : TypeId) (Sl Sg : Nat → Prop) (l : List (Option ND)) (hl : ps.length = gs.length) (hr : ∀ x ∈ gs, 0 ≤ x ∧ x ≤ 1000000) (hk : k < ps.length) (hs : atOf ps gs k g = some nb) :
    Spec Tryd.prog 12 #[.pointer (some ⟨b, 0, none⟩), .agg #[.int .i64 (k : Int), .int .i64 g]] [rTab b ps gs vl vg T Sl Sg, rNds l, rEnv B ad [10]] fun u L => u = .nilIface ∧ L = [rTab b (ps.set k none) gs vl vg T Sl Sg, rNds (l.set k none), rEnv B ad [10]] := fun E w0 w ho =>
  (nfree_ok ad b k nb g ps gs vl vg T Sl Sg w (ho.fact 2 rfl) (ho.fact 0 rfl) hl hr hk hs).mono fun e w' ⟨he, hc, ht⟩ => by
    have h1 := ho.upd 0 (r := rTab b ps gs vl vg T Sl Sg) (r' := rTab b (ps.set k none) gs vl vg T Sl Sg) rfl rfl (hc.mono fun x _ hx => .inr (.inl hx)) ht fun x hx => .inl hx
    have h2 : Own w0 E (rNds l :: [rTab b (ps.set k none) gs vl vg T Sl Sg, rEnv B ad [10]]) w' := h1.pick [1, 0, 0]
    exact ⟨_, _, ⟨rfl, rfl⟩, he, (h2.ndFree k).pick [1, 0, 0]⟩
theorem tabFreeN_spec {B : Nat} (ad : Nat → Addr) (b : Nat) (n g : Int) (ps : List (Option Nat)) (gs : List Int) (vl vg : Value) (T : TypeId) (Sl Sg : Nat → Prop) (hl : ps.length = gs.length) (hr : ∀ x ∈ gs, 0 ≤ x ∧ x ≤ 1000000) (hs : atOf ps gs n g = none) :
    Spec Tryd.prog 12 #[.pointer (some ⟨b, 0, none⟩), .agg #[.int .i64 n, .int .i64 g]] [rTab b ps gs vl vg T Sl Sg, rEnv B ad [10]] fun u L => u = errV ad 10 ∧ L = [rTab b ps gs vl vg T Sl Sg, rEnv B ad [10]] := fun E w0 w ho =>
  (nfree_stale ad b n g ps gs vl vg T Sl Sg w (ho.fact 1 rfl) (ho.fact 0 rfl) hl hr hs).mono fun e w' ⟨he, hc⟩ => ⟨_, _, ⟨rfl, rfl⟩, he, ho.quiet hc⟩
end Go.Proofs.YtgebinfbbopnlaaDoor
