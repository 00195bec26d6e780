/- Package nodes: the table's calls by contract, as far as numbers go: Index, at, Free, Count. -/
import Derived.Test.YtgebinfbbopnlaaDoorNodes
import Derived.LaidEql
import Derived.IntWalk
namespace Go.Proofs.YtgebinfbbopnlaaDoor
open Go.RowKit
set_option linter.unusedVariables false
set_option linter.unusedSimpArgs false

/-- The first free number. -/
def free0 : List (Option Nat) → Option Nat
  | [] => none
  | none :: _ => some 0
  | some _ :: r => (free0 r).map (· + 1)
theorem free0_at : ∀ (ps : List (Option Nat)) (k : Nat), (∀ j, j < k → ∃ b, ps[j]? = some (some b)) → ps[k]? = some none → free0 ps = some k
  | [], k, _, h => by simp at h
  | none :: r, k, h, _ => by
    rcases k with _ | k
    · rfl
    · obtain ⟨b, hb⟩ := h 0 (by omega); simp at hb
  | some a :: r, k, h, hk => by
    rcases k with _ | k
    · simp at hk
    · have := free0_at r k (fun j hj => by simpa using h (j + 1) (by omega)) (by simpa using hk)
      simp [free0, this]
theorem free0_none : ∀ (ps : List (Option Nat)), (∀ j, j < ps.length → ∃ b, ps[j]? = some (some b)) → free0 ps = none
  | [], _ => rfl
  | none :: r, h => by obtain ⟨b, hb⟩ := h 0 (by simp); simp at hb
  | some a :: r, h => by
    have := free0_none r (fun j hj => by simpa using h (j + 1) (by simp; omega))
    simp [free0, this]
theorem free0_lt : ∀ (ps : List (Option Nat)) (k : Nat), free0 ps = some k → ps[k]? = some none
  | [], k, h => by cases h
  | none :: r, k, h => by simp [free0] at h; subst h; rfl
  | some a :: r, k, h => by
    simp only [free0, Option.map_eq_some_iff] at h
    obtain ⟨j, hj, rfl⟩ := h
    simpa using free0_lt r j hj
def free0I (ps : List (Option Nat)) : Int := match free0 ps with | some k => k | none => -1
/-- What lies at a handle. -/
def atOf (ps : List (Option Nat)) (gs : List Int) (n g : Int) : Option Nat :=
  if n < 0 ∨ (ps.length : Int) ≤ n then none else match ps[n.toNat]?, gs[n.toNat]? with
    | some (some b), some x => if x - 1 = g then some b else none
    | _, _ => none
def usedN : List (Option Nat) → Nat
  | [] => 0
  | none :: r => usedN r
  | some _ :: r => usedN r + 1
theorem usedN_le : ∀ l : List (Option Nat), usedN l ≤ l.length
  | [] => Nat.le_refl _
  | none :: r => by have := usedN_le r; simp [usedN]; omega
  | some _ :: r => by have := usedN_le r; simp [usedN]; omega
theorem usedN_take (l : List (Option Nat)) (k : Nat) (p : Option Nat) (h : l[k]? = some p) : usedN (l.take (k + 1)) = usedN (l.take k) + (if p.isSome then 1 else 0) := by
  have : ∀ (a b : List (Option Nat)), usedN (a ++ b) = usedN a + usedN b := by
    intro a b
    induction a with
    | nil => simp [usedN]
    | cons x a ih => cases x <;> simp [usedN, ih]; omega
  rw [List.take_add_one, h, this]
  cases p <;> simp [usedN]

theorem run_eql_ptr_nil {P : Program} (w : World) {tp te : TypeId} (a : Addr) (hp : P.underlying tp = some (.pointer te)) : (binOp .eql tp (.pointer none) (.pointer (some a))).run P w = .ok (.bool false) w := by
  have h : ∀ d : Nat, (Op.equalIn (d + 1) tp (.pointer none) (.pointer (some a))).run P w = .ok false w := fun d => by
    simp [Op.equalIn, run_underlying hp]
  simp only [binOp]
  simp [Op.equal, Op.maxDepth, h 9999]
def RelIxO (ps : List (Option Nat)) (w : World) (i : Value) (wr : World) : Prop := ∃ k : Nat, k ≤ ps.length ∧ i = .int .i64 k ∧ Chg Nil w wr ∧ ∀ j, j < k → ∃ b, ps[j]? = some (some b)
set_option maxHeartbeats 2000000 in
set_option maxRecDepth 100000 in
theorem nindex_any (v : Value) (ps : List (Option Nat)) (S : Nat → Prop) (w : World) (hs : SliceAt w v 89 1 ps.length (ps.flatMap ptrC) S) (hl : ps.length ≤ 300) :
    Calls Tryd.prog 32 #[v, .pointer none] w fun e w' => e = .returned (.int .i64 (free0I ps)) ∧ Chg Nil w w' := by
  obtain ⟨a, cap, rfl⟩ := hs.shape
  have HS := Lib.hid hs
  clear hs
  go_enter Tryd.func32, Tryd.ntmps32
  go_wp2_with fail
  go_loopw [8] (fun i wr => RelIxO ps w i wr) (fun i _ => (ps.length - intOf i).toNat)
  case atStart => exact ⟨0, Nat.zero_le _, rfl, Chg.refl _ _, fun j hj => absurd hj (Nat.not_lt_zero _)⟩
  case round =>
    obtain ⟨k, hk, rfl, hC, hall⟩ := hrel
    have HALL := Lib.hid hall
    clear hall
    by_cases hlt : k < ps.length
    · have j1 : (k : Int) < (ps.length : Int) := by omega
      have j0 : (0 : Int) ≤ (k : Int) := by omega
      obtain ⟨g, off, cap', cs, e, _, hn, _, _, _, _, _⟩ := HS.out.place (by omega)
      cases e
      obtain ⟨p, hp⟩ : ∃ p, ps[k]? = some p := ⟨ps[k], List.getElem?_eq_getElem _⟩
      have y0 := ((HS.out.keep hC (fun _ _ f => f)).elem ptrC_len hp 0 _ rfl).1
      simp only [Nat.mul_one, Nat.add_zero] at y0
      have hkc : k < cap := by omega
      have HP := Lib.hid hp
      clear hp
      cases p with
      | none =>
        simp only [ptrV, Option.map_none] at y0
        have hr : free0I ps = k := by unfold free0I; rw [free0_at ps k HALL.out HP.out]
        have HR := Lib.hid hr
        clear hr
        go_wp2_with fail
        go_ret
        exact ⟨by rw [HR.out]; rfl, hC⟩
      | some b =>
        simp only [ptrV, Option.map_some] at y0
        have HN : Hid (∀ j, j < k + 1 → ∃ b, ps[j]? = some (some b)) := Lib.hid (fun j hj => by
          rcases Nat.lt_or_ge j k with h | h
          · exact HALL.out j h
          · obtain rfl : j = k := by omega
            exact ⟨b, HP.out⟩)
        have hq := fun W => run_eql_ptr_nil (P := Tryd.prog) W (⟨b, 0, none⟩ : Addr) Tryd.underlying89
        go_wp2_with fail
        go_roundw
        case rel => exact ⟨k + 1, by omega, by go_num, hC, HN.out⟩
        case measure => simp [intOf]; omega
    · obtain rfl : k = ps.length := by omega
      have hr : free0I ps = -1 := by unfold free0I; rw [free0_none ps HALL.out]
      have HR := Lib.hid hr
      clear hr
      go_wp2_with fail
      go_ret
      exact ⟨by rw [HR.out]; rfl, hC⟩

def hdlV (n g : Int) : Value := .agg #[.int .i64 n, .int .i64 g]
theorem atOf_out {ps : List (Option Nat)} {gs : List Int} {n g : Int} (h : n < 0 ∨ (ps.length : Int) ≤ n) : atOf ps gs n g = none := if_pos h
theorem atOf_in {ps : List (Option Nat)} {gs : List Int} {k : Nat} {g x : Int} {p : Option Nat} (h1 : ps[k]? = some p) (h2 : gs[k]? = some x) : atOf ps gs k g = p.bind (fun b => if x - 1 = g then some b else none) := by
  obtain ⟨hl, _⟩ := List.getElem?_eq_some_iff.1 h1
  unfold atOf
  rw [if_neg (by omega)]
  simp only [Int.toNat_natCast, h1, h2]
  cases p <;> rfl
set_option maxHeartbeats 1000000 in
set_option maxRecDepth 100000 in
theorem nat_any {B : Nat} (ad : Nat → Addr) (b : Nat) (n g : Int) (ps : List (Option Nat)) (gs : List Int) (vl vg : Value) (T : TypeId) (Sl Sg : Nat → Prop) (w : World) (he : Env B ad [10] w) (ht : TabAt w b ps gs vl vg T Sl Sg) (hl : ps.length = gs.length) (hr : ∀ x ∈ gs, 0 ≤ x ∧ x ≤ 1000000) :
    Calls Tryd.prog 33 #[.pointer (some ⟨b, 0, none⟩), hdlV n g] w fun e w' => e = .returned (.tuple #[ptrV (atOf ps gs n g), errV ad (if (atOf ps gs n g).isSome then 0 else 10)]) ∧ Chg Nil w w' := by
  obtain ⟨q1, q1l⟩ := he.get (c := 10) (by simp)
  simp only [gl] at q1 q1l
  have e0 := cell_of ht.blk 0
  have e1 := cell_of ht.blk 1
  have gb := lt_of_block ht.blk
  simp at e0 e1
  have HT := Lib.hid ht
  obtain ⟨al, cl, rfl⟩ := ht.l.shape
  obtain ⟨ag, cg, rfl⟩ := ht.g.shape
  have HL := Lib.hid hl
  have HRG := Lib.hid hr
  clear he ht hl hr
  unfold hdlV
  by_cases hbad : n < 0 ∨ (ps.length : Int) ≤ n
  · rw [atOf_out hbad]
    have hgo : n < 0 ∨ (¬ n < 0 ∧ (ps.length : Int) ≤ n) := by omega
    clear hbad
    rcases hgo with h | ⟨h, h'⟩
    case' inl => have hd : decide (n < 0) = true := by simpa using h
    case' inr => have hd : decide (n < 0) = false := by simp; omega
    all_goals
      go_enter Tryd.func33, Tryd.ntmps33
      go_wp2_with fail
      go_quiet (fail)
      go_wp2_with fail
      go_quiet (fail)
      go_wp2_with fail
      go_ret2
      exact ⟨rfl, by repeat (first | exact Chg.refl _ _ | exact Chg.drewN _ _ | refine Chg.drew ?_ | refine Chg.drewsN ?_ _ | refine Chg.alloc ?_ _)⟩
  obtain ⟨k, rfl⟩ : ∃ k : Nat, n = k := ⟨n.toNat, by omega⟩
  have hk : k < ps.length := by omega
  have hkg : k < gs.length := by have := HL.out; omega
  obtain ⟨p, hp⟩ : ∃ p, ps[k]? = some p := ⟨ps[k], List.getElem?_eq_getElem hk⟩
  obtain ⟨x, hx⟩ : ∃ x, gs[k]? = some x := ⟨gs[k], List.getElem?_eq_getElem hkg⟩
  rw [atOf_in hp hx]
  have hxr := HRG.out x (List.mem_of_getElem? hx)
  obtain ⟨g1, o1, c1, cs1, e, _, n1, _, _, _, _, gl1⟩ := HT.out.l.place (by omega)
  cases e
  obtain ⟨g2, o2, c2, cs2, e, _, n2, _, _, _, _, gl2⟩ := HT.out.g.place (by omega)
  cases e
  have y1 := (HT.out.l.elem ptrC_len hp 0 _ rfl).1
  have y2 := (HT.out.g.elem intC_len hx 0 _ rfl).1
  simp only [Nat.mul_one, Nat.add_zero] at y1 y2
  have d1 : decide ((k : Int) < 0) = false := decide_eq_false (by omega)
  have d2 : decide (ps.length ≤ k) = false := decide_eq_false (by omega)
  have j0 : (0 : Int) ≤ (k : Int) := by omega
  have j1 : (k : Int) < (ps.length : Int) := by omega
  have j2 : (k : Int) < (gs.length : Int) := by omega
  have kc1 : k < cl := by omega
  have kc2 : k < cg := by omega
  clear hp hx hbad
  cases p with
  | none =>
    simp only [ptrV, Option.map_none] at y1
    simp only [Option.bind_none, Option.isSome_none, Bool.false_eq_true, if_false]
    go_enter Tryd.func33, Tryd.ntmps33
    go_wp2_with fail
    go_quiet (fail)
    go_wp2_with fail
    go_quiet (fail)
    go_wp2_with fail
    go_ret2
    exact ⟨rfl, by repeat (first | exact Chg.refl _ _ | exact Chg.drewN _ _ | refine Chg.drew ?_ | refine Chg.drewsN ?_ _ | refine Chg.alloc ?_ _)⟩
  | some nb =>
    simp only [ptrV, Option.map_some] at y1
    have hw : IntKind.i64.wrap (x - 1) = x - 1 := IntWalk.i64_in _ (by omega)
    by_cases hg : x - 1 = g
    · have d3 : decide (x - 1 = g) = true := by simpa using hg
      simp only [Option.bind_some, if_pos hg, Option.isSome_some, if_true, errV_zero]
      go_enter Tryd.func33, Tryd.ntmps33
      go_wp2_with fail
      go_quiet (fail)
      go_wp2_with fail
      go_quiet (fail)
      go_wp2_with fail
      go_ret2
      exact ⟨rfl, by repeat (first | exact Chg.refl _ _ | exact Chg.drewN _ _ | refine Chg.drew ?_ | refine Chg.drewsN ?_ _ | refine Chg.alloc ?_ _)⟩
    · have d3 : decide (x - 1 = g) = false := by simpa using hg
      simp only [Option.bind_some, if_neg hg, Option.isSome_none, Bool.false_eq_true, if_false]
      go_enter Tryd.func33, Tryd.ntmps33
      go_wp2_with fail
      go_quiet (fail)
      go_wp2_with fail
      go_quiet (fail)
      go_wp2_with fail
      go_ret2
      exact ⟨rfl, by repeat (first | exact Chg.refl _ _ | exact Chg.drewN _ _ | refine Chg.drew ?_ | refine Chg.drewsN ?_ _ | refine Chg.alloc ?_ _)⟩
end Go.Proofs.YtgebinfbbopnlaaDoor
