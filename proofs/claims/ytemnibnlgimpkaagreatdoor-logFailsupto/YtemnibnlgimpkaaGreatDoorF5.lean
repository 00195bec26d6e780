/- The law is kept: where its arguments and the listed variables hold at most 1048576 values and letters in all, it returns true, and what it is handed stays. No other condition. -/
import Derived.Test.YtemnibnlgimpkaaGreatDoorF4
import Derived.Test.YtemnibnlgimpkaaGreatDoorRows
import Derived.ProofKit
import Derived.Lay
import Derived.SevenTiedAt
import Derived.ChangeOld
import Derived.LaidLaws
import Derived.LaidHandle
import Derived.Deep.DeepHandedRow
import Derived.Test.YtemnibnlgimpkaaGreatDoorCards
import Derived.Test.YtemnibnlgimpkaaGreatDoorTie
import Derived.OpenShut
import Derived.ChangeMaps5
import Derived.JoinedCond
set_option linter.all false
set_option maxRecDepth 100000
set_option maxHeartbeats 20000000
namespace Go.Proofs.YtemnibnlgimpkaaGreatDoor
open Go.RowKit
/- LogNone, LogKeeps, LogFails at arguments of any shape. Conditions: LogKeeps and LogFails where wordy's sum is at most 10^8. -/
def shRec : Sh := .and .bool (.and (.slice .str) .unit)
theorem sub_rec {W : World} {a0 : Option Addr} {cap : Nat} {l : List Rec} (hs : (Sh.slice shRec).At W W.heap.size (a0, cap, l)) : (rSub recR l).fact W := fun x hx => by
  obtain ⟨i, hi⟩ := List.mem_iff_getElem?.1 hx
  obtain ⟨⟨_, h2, _⟩, _⟩ := hs.2.2 i x hi
  exact arg_of_sh (s := .str) h2
theorem sub_act {W : World} {a0 : Option Addr} {cap : Nat} {l : List XAct} (hs : (Sh.slice shXAct).At W W.heap.size (a0, cap, l)) : (rSub actR l).fact W := fun x hx => by
  obtain ⟨i, hi⟩ := List.mem_iff_getElem?.1 hx
  obtain ⟨⟨_, _, _, h2, _⟩, _⟩ := hs.2.2 i x hi
  exact arg_of_sh (s := .bool) h2
theorem wordR_blk : ∀ rs : List ByteArray, wordR rs ≤ (rs.map fun x => 1 + Sh.str.blk x).sum
  | [] => Nat.le_refl _
  | r :: rs => by
    have h := wordR_blk rs
    unfold wordR at h ⊢
    simp only [List.map_cons, List.sum_cons]
    exact Nat.add_le_add (by show 1 + r.size / 10 ≤ 1 + r.size; omega) h
theorem wordN_blk : ∀ l : List Rec, wordN l ≤ 5 * (l.map fun x : Rec => 1 + shRec.blk x).sum
  | [] => Nat.le_refl _
  | x :: l => by
    have h := wordN_blk l
    have h2 := wordR_blk (recL x)
    have e1 : wordN (x :: l) = (5 + wordR (recL x)) + wordN l := by unfold wordN; rw [List.map_cons, List.sum_cons]
    have e2 : ((x :: l).map fun x : Rec => 1 + shRec.blk x).sum = (1 + (0 + (((recL x).map fun x => 1 + Sh.str.blk x).sum + 0))) + (l.map fun x : Rec => 1 + shRec.blk x).sum := by rw [List.map_cons, List.sum_cons]; rfl
    omega
theorem wordN_bulk {a0 : Option Addr} {cap : Nat} {l : List Rec} (h : (Sh.slice shRec).blk (a0, cap, l) + 1 ≤ 1048576) : wordN l ≤ 100000000 := by
  have h1 := wordN_blk l
  have h2 : (Sh.slice shRec).blk (a0, cap, l) = (l.map fun x : Rec => 1 + shRec.blk x).sum := rfl
  omega
section
variable (ad : Nat → Addr) (a1 a2 : Addr) (w : World) (he : EnvA w.heap.size ad w) (hn : (rNumE a1 a2).fact w) (ht : rTab.fact w)
include he hn ht
theorem logKeeps_any (sectors : Int) (p1 : Option Addr) (c1 : Nat) (l1 : List Rec) (hs : (Sh.slice shRec).At w w.heap.size (p1, c1, l1)) (hw : wordN l1 ≤ 100000000) :
    Calls Tryz.prog 4 #[.int .i64 sectors, .slice p1 l1.length c1] w fun e w' => e = .returned (.bool true) ∧ Chg Nil w w' := by
  refine ((logkeeps_spec (B := w.heap.size) ad a1 a2 sectors (.slice p1 l1.length c1) l1 hw).reads (w := w) rfl ?_).mono ?_
  · intro r hr
    simp only [List.mem_cons, List.mem_nil_iff, or_false] at hr
    rcases hr with rfl | rfl | rfl | rfl | rfl
    · exact he
    · exact hn
    · exact ht
    · exact arg_of_sh hs
    · exact sub_rec hs
  · rintro e w' ⟨u, L', ⟨rfl, _⟩, he, hc'⟩
    exact ⟨he, hc'⟩
theorem logFails_any (p0 : Option Addr) (c0 : Nat) (l0 : List Rec) (after : Int) (p2 : Option Addr) (c2 : Nat) (l2 : List Bool) (p3 : Option Addr) (c3 : Nat) (l3 : List Rec) (hs0 : (Sh.slice shRec).At w w.heap.size (p0, c0, l0)) (hs2 : (Sh.slice .bool).At w w.heap.size (p2, c2, l2)) (hs3 : (Sh.slice shRec).At w w.heap.size (p3, c3, l3)) (ha : after ≤ 9223372036854775807) (hw0 : wordN l0 ≤ 100000000) (hw3 : wordN l3 ≤ 100000000) :
    Calls Tryz.prog 5 #[.slice p0 l0.length c0, .int .i64 after, .slice p2 l2.length c2, .slice p3 l3.length c3] w fun e w' => e = .returned (.bool true) ∧ Chg Nil w w' := by
  refine ((logfails_spec (B := w.heap.size) ad a1 a2 (.slice p0 l0.length c0) l0 after (.slice p2 l2.length c2) l2 (.slice p3 l3.length c3) l3 hw0 hw3 ha).reads (w := w) rfl ?_).mono ?_
  · intro r hr
    simp only [List.mem_cons, List.mem_nil_iff, or_false] at hr
    rcases hr with rfl | rfl | rfl | rfl | rfl | rfl | rfl | rfl
    · exact he
    · exact hn
    · exact ht
    · exact arg_of_sh hs0
    · exact sub_rec hs0
    · exact arg_of_sh hs2
    · exact arg_of_sh hs3
    · exact sub_rec hs3
  · rintro e w' ⟨u, L', ⟨rfl, _⟩, he, hc'⟩
    exact ⟨he, hc'⟩
theorem logNone_any (p0 : Option Addr) (c0 : Nat) (l0 : List XAct) (sectors : Int) (over : Bool) (hs : (Sh.slice shXAct).At w w.heap.size (p0, c0, l0)) (hz : (Sh.slice shXAct).Sz (p0, c0, l0)) :
    Calls Tryz.prog 3 #[.slice p0 l0.length c0, .int .i64 sectors, .bool over] w fun e w' => e = .returned (.bool true) ∧ Chg Nil w w' := by
  have h1 : l0.length ≤ c0 := hs.1
  have h2 : c0 * (16 + (8 + (16 + (24 + 0)))) ≤ 140737488355327 := hz.1
  refine ((lognone_spec (B := w.heap.size) ad a1 a2 (.slice p0 l0.length c0) l0 sectors over (by omega) fun x hx => ?_).reads (w := w) rfl ?_).mono ?_
  · obtain ⟨i, hi⟩ := List.mem_iff_getElem?.1 hx
    obtain ⟨⟨_, ⟨_, h3⟩, _, ⟨h4, _⟩, _⟩, _⟩ := hs.2.2 i x hi
    obtain ⟨_, _, h5, ⟨h6, _⟩, _⟩ := hz.2 i x hi
    refine ⟨h3, h5, ?_⟩
    simp only [Sh.bytes, Nat.mul_one] at h6
    exact Nat.le_trans h4 h6
  · intro r hr
    simp only [List.mem_cons, List.mem_nil_iff, or_false] at hr
    rcases hr with rfl | rfl | rfl | rfl | rfl
    · exact he
    · exact hn
    · exact ht
    · exact arg_of_sh hs
    · exact sub_act hs
  · rintro e w' ⟨u, L', ⟨rfl, _⟩, he, hc'⟩
    exact ⟨he, hc'⟩
end

section
/- What every law that comes to plain.Code has in common: its listed variables (errors' own handle, fifteen errors) out of the row's premise; a world that fits. -/
open Go.RowKit Go.ChangeShapes Go.WideShapes Go.ChangeAt

theorem ownKnobNone : ownKnob Tryz.prog.godebug = none := by kernel_rfl
theorem laidOutTryd : laidOutB Tryz.prog = true := by kernel_rfl
theorem knownAll : ∀ c ∈ allErrs, errKnown c := by
  intro c hc
  simp only [allErrs, List.mem_cons, List.mem_nil_iff, or_false] at hc
  rcases hc with rfl | rfl | rfl | rfl | rfl | rfl | rfl | rfl | rfl | rfl | rfl | rfl | rfl | rfl | rfl <;> exact ⟨by kernel_rfl, by kernel_rfl⟩
/-- What such a row lists. -/
def doorLaid : List (String × DataW Unit) := ("errors.errorType", Rows.laid_errors_errorType) :: errLaid allErrs

theorem et_global : Tryz.prog.globalNamed "errors.errorType" = some 15 := by kernel_rfl
theorem rtype_cut : (Tryz.prog.cutTypes.find? (·.1 == "internal/reflectlite.rtype")).map (·.2) = some 148 := by kernel_rfl
theorem one_error : ((List.range 221).filter fun t => Tryz.prog.rowNamed t [101, 114, 114, 111, 114]) = [27] := by kernel_rfl
theorem types_size : Tryz.prog.types.size = 221 := by kernel_rfl
theorem handle_error : typeHandle Tryz.prog 27 = .pointer (some ⟨24, 27, none⟩) := by kernel_rfl

theorem envA_of_laid {W : World} (h : laidMetH Tryz.prog doorLaid W) : ∃ ad, EnvA W.heap.size ad W ∧ ∀ c ∈ allErrs, ∃ s : ByteArray, W.cell? (ad c) = some (.string s) ∧ s.data.toList = errText c := by
  have h' : laidMet Tryz.prog (errLaid allErrs) W ∧ handlesMet Tryz.prog [("errors.errorType", Rows.laid_errors_errorType)] W := h
  obtain ⟨ad, he, ht⟩ := env_of_laid h'.1 knownAll
  obtain ⟨name, u, ty, e1, e2, e3, e4, e5⟩ := h'.2 _ (List.mem_singleton.2 rfl)
  have en : name = [101, 114, 114, 111, 114] := (Option.some.inj e1).symm
  subst en
  obtain rfl := Option.some.inj (rtype_cut.symm.trans e2)
  have hm : ty ∈ (List.range 221).filter fun t => Tryz.prog.rowNamed t [101, 114, 114, 111, 114] := List.mem_filter.2 ⟨List.mem_range.2 (by rw [← types_size]; exact e3), e4⟩
  rw [one_error] at hm
  obtain rfl := List.mem_singleton.1 hm
  rw [handle_error] at e5
  have hc : W.cell? ⟨15, 0, none⟩ = some (.iface 148 (.agg #[.pointer (some ⟨24, 27, none⟩)])) := by simpa using World.var?_cell et_global e5 0
  exact ⟨ad, ⟨he, hc, World.block_lt_of_cell? _ _ hc⟩, ht⟩

/-- A world that fits: the errors laid, and their handle. -/
noncomputable def doorWorld (os : Os) : World :=
  { World.laidAll Tryz.prog os (errLaid allErrs) with heap := (World.laidAll Tryz.prog os (errLaid allErrs)).heap.modify 15 fun
      | .cells _ t frozen => .cells #[.iface 148 (.agg #[.pointer (some ⟨24, 27, none⟩)])] t frozen
      | o => o }
theorem doorWorld_os (os : Os) : (doorWorld os).os = os := by
  dsimp only [doorWorld]
  exact World.laidAll_os _ _ _
theorem doorWorld_met (os : Os) (args : Array Value) : laidMetH Tryz.prog doorLaid ((doorWorld os).forCall (fun _ _ => 0) ⟨#[], args, []⟩).memory :=
  laidMetH_of_parts (show laidMet Tryz.prog (errLaid allErrs) _ from laidMet_of_run' 8 (by kernel_rfl) (by kernel_rfl)) (by kernel_rfl)
theorem doorWorld_shaped (os : Os) (args : Array Value) : ((doorWorld os).forCall (fun _ _ => 0) ⟨#[], args, []⟩).Shaped Tryz.prog := World.shaped_of_ZipB (by kernel_rfl) (by kernel_rfl)

end
/- Out of a list of laid variables: a part of it. Over any program. No condition. -/

theorem laidVars_app {P : Program} {w : World} : ∀ (l m : List (String × DataW Unit)) (ps : List MemPlace), DataW.LaidVars P w (l ++ m) ps → ∃ p q, DataW.LaidVars P w l p ∧ DataW.LaidVars P w m q ∧ ps = p ++ q
  | [], m, ps, h => ⟨[], ps, rfl, h, rfl⟩
  | (n, d) :: l, m, ps, h => by
    obtain ⟨g, t, cs, fuel, p, q, h1, h2, h3, h4, h5, e⟩ := h
    obtain ⟨p', q', h6, h7, e2⟩ := laidVars_app l m q h5
    subst e2
    exact ⟨_, q', ⟨g, t, cs, fuel, p, p', h1, h2, h3, h4, h6, rfl⟩, h7, by rw [e]; simp only [List.append_assoc]⟩
theorem laidMet_tail {P : Program} {w : World} {a m : List (String × DataW Unit)} (h : laidMet P (a ++ m) w) : laidMet P m w := by
  obtain ⟨ps, hv, hnd, hr⟩ := h
  obtain ⟨p, q, _, h2, rfl⟩ := laidVars_app a m ps hv
  exact ⟨q, h2, (List.nodup_append.1 hnd).2.1, fun b off hm => hr b off (List.mem_append.2 (.inr hm))⟩
theorem laidMet_head {P : Program} {w : World} {m b : List (String × DataW Unit)} (h : laidMet P (m ++ b) w) : laidMet P m w := by
  obtain ⟨ps, hv, hnd, hr⟩ := h
  obtain ⟨p, q, h1, _, rfl⟩ := laidVars_app m b ps hv
  exact ⟨p, h1, (List.nodup_append.1 hnd).1, fun b off hm => hr b off (List.mem_append.2 (.inl hm))⟩
theorem laidMet_mid {P : Program} {w : World} {a m b : List (String × DataW Unit)} (h : laidMet P (a ++ (m ++ b)) w) : laidMet P m w := laidMet_head (laidMet_tail h)

section
/- As Door, for the laws of package log: besides, tables of math/bits, strconv, unicode/utf8, and two errors of strconv. -/
open Go.RowKit Go.ChangeShapes Go.WideShapes Go.ChangeAt
-- 19

def door3A : List (String × DataW Unit) := [("math/bits.deBruijn32tab", Rows.laid_math_bits_deBruijn32tab), ("math/bits.deBruijn64tab", Rows.laid_math_bits_deBruijn64tab)]
def door3P : List (String × DataW Unit) := [("internal/strconv.uint64pow10", Rows.laid_internal_strconv_uint64pow10)]
def door3U : List (String × DataW Unit) := [("unicode/utf8.acceptRanges", Rows.laid_unicode_utf8_acceptRanges)]
def door3S : List (String × List UInt8) := [("strconv.ErrRange", [118, 97, 108, 117, 101, 32, 111, 117, 116, 32, 111, 102, 32, 114, 97, 110, 103, 101]), ("strconv.ErrSyntax", [105, 110, 118, 97, 108, 105, 100, 32, 115, 121, 110, 116, 97, 120])]
def door3F : List (String × DataW Unit) := [("unicode/utf8.first", Rows.laid_unicode_utf8_first)]
def door3Data : List (String × DataW Unit) := door3A ++ (door3P ++ (door3U ++ (errLaid allErrs ++ ((door3S.map fun x => (x.1, sentD x.2)) ++ door3F))))
def door3Laid : List (String × DataW Unit) := door3A ++ (door3P ++ (door3U ++ (("errors.errorType", Rows.laid_errors_errorType) :: (errLaid allErrs ++ ((door3S.map fun x => (x.1, sentD x.2)) ++ door3F)))))
theorem pow_global : Tryz.prog.globalNamed "internal/strconv.uint64pow10" = some 21 := by kernel_rfl
theorem pow_type : (Tryz.prog.globals[21]?).map (·.type) = some 188 := by kernel_rfl
theorem pow_cells : Tryz.prog.cellsOf 188 = 20 := by kernel_rfl
theorem pow_cell : Tryz.prog.cellsOf 110 = 1 := by kernel_rfl
theorem rng_global : Tryz.prog.globalNamed "strconv.ErrRange" = some 18 := by kernel_rfl
theorem syn_global : Tryz.prog.globalNamed "strconv.ErrSyntax" = some 17 := by kernel_rfl
theorem rng_type : (Tryz.prog.globals[18]?).map (·.type) = some 27 := by kernel_rfl
theorem syn_type : (Tryz.prog.globals[17]?).map (·.type) = some 27 := by kernel_rfl
theorem env3 {W : World} (h : laidMetH Tryz.prog door3Laid W) : ∃ (ad : Nat → Addr) (a1 a2 : Addr), EnvA W.heap.size ad W ∧ (rNumE a1 a2).fact W ∧ rTab.fact W := by
  have h' : laidMet Tryz.prog door3Data W ∧ handlesMet Tryz.prog [("errors.errorType", Rows.laid_errors_errorType)] W := h
  have h1 := laidMet_tail (a := door3A) h'.1
  have h2 := laidMet_tail (a := door3U) (laidMet_tail (a := door3P) h1)
  obtain ⟨ad, he, _⟩ := envA_of_laid (W := W) (show laidMet Tryz.prog (errLaid allErrs) W ∧ handlesMet Tryz.prog [("errors.errorType", Rows.laid_errors_errorType)] W from ⟨laidMet_head h2, h'.2⟩)
  have h3 : laidMet Tryz.prog (door3S.map fun x => (x.1, sentD x.2)) W := laidMet_head (laidMet_tail (a := errLaid allErrs) h2)
  obtain ⟨ps, hv, hnd, hrows⟩ := h3
  obtain ⟨ads, e1, _, _, e4⟩ := sents_of_laid door3S ps hv hnd hrows (fun x hx g hg => by
    simp only [door3S, List.mem_cons, List.mem_nil_iff, or_false] at hx
    rcases hx with rfl | rfl
    · obtain rfl := Option.some.inj (rng_global.symm.trans hg); exact rng_type
    · obtain rfl := Option.some.inj (syn_global.symm.trans hg); exact syn_type)
  have hl : ads.length = 2 := e1
  have q0 := (e4 0 _ _ rfl (List.getElem?_eq_getElem (by omega))).1
  have q1 := (e4 1 _ _ rfl (List.getElem?_eq_getElem (by omega))).1
  refine ⟨ad, ads[1]'(by omega), ads[0]'(by omega), he, ⟨?_, ?_⟩, ?_⟩
  · simpa using World.var?_cell syn_global q1 0
  · simpa using World.var?_cell rng_global q0 0
  · exact Lib.tabIs_of_head (rest := door3U ++ (errLaid allErrs ++ ((door3S.map fun x => (x.1, sentD x.2)) ++ door3F))) pow_global pow_type Tryz.underlying188 Tryz.underlying110 pow_cell pow_cells h1
noncomputable def doorWorld3 (os : Os) : World :=
  { World.laidAll Tryz.prog os door3Data with heap := (World.laidAll Tryz.prog os door3Data).heap.modify 15 fun
      | .cells _ t frozen => .cells #[.iface 148 (.agg #[.pointer (some ⟨24, 27, none⟩)])] t frozen
      | o => o }
theorem doorWorld3_os (os : Os) : (doorWorld3 os).os = os := by
  dsimp only [doorWorld3]
  exact World.laidAll_os _ _ _
theorem doorWorld3_met (os : Os) (args : Array Value) : laidMetH Tryz.prog door3Laid ((doorWorld3 os).forCall (fun _ _ => 0) ⟨#[], args, []⟩).memory :=
  laidMetH_of_parts (show laidMet Tryz.prog door3Data _ from laidMet_of_run' 8 (by kernel_rfl) (by kernel_rfl)) (by kernel_rfl)
theorem doorWorld3_shaped (os : Os) (args : Array Value) : ((doorWorld3 os).forCall (fun _ _ => 0) ⟨#[], args, []⟩).Shaped Tryz.prog := World.shaped_of_ZipB (by kernel_rfl) (by kernel_rfl)
/-- 'There is an input that fits', at a world that is written out. -/
theorem witness_rowS {H : Type} {enc : TypeId × Value → H} {C : Checked} {os : Os} {f : FuncId} {fn : Func} {s : OpenSpec} {conds : List PathCond} {apart : Bool} {laid : List (String × DataW Unit)} (modest : Bool) (w0 : World) (args : Array Value) (hos : w0.os = os)
    (hsh : (w0.forCall (fun _ _ => 0) ⟨#[], args, []⟩).Shaped C.prog) (hok : Input.okWideB C.prog (w0.forCall (fun _ _ => 0) ⟨#[], args, []⟩) f ⟨#[], args, []⟩ = true)
    (hrow : s.preRow enc C.prog fn conds apart laid (w0.forCall (fun _ _ => 0) ⟨#[], args, []⟩).memory args) :
    ∃ (w : World) (tape : Tape) (i : Input), w.os = os ∧ (w.forCall tape i).Shaped C.prog ∧ i.vars = [] ∧ Input.okWide C.prog (w.forCall tape i) .any w.heap.size f i ∧
      s.preRow enc C.prog fn conds apart laid (w.forCall tape i).memory i.args ∧ ({ modest := modest } : Assume).holds C.prog (lone (Frame.enter C.prog f i.args .normal) [] (w.forCall tape i)) :=
  ⟨w0, fun _ _ => 0, ⟨#[], args, []⟩, hos, hsh, (Input.okWide_of_okWideB (base := 0) hok).1, (Input.okWide_of_okWideB hok).2, hrow, by
    simp only [Assume.holds]
    exact ⟨by simp, by simp, fun _ => Modest.zero, by simp, by simp⟩⟩

end
end Go.Proofs.YtemnibnlgimpkaaGreatDoor
/- The statement LogFailsUpto, tied card: whatever the input, where what it reads holds at most 1048576 values and letters, the law returns true; arguments stay. -/
namespace Go.Proofs.YtemnibnlgimpkaaGreatDoor.logFailsUptoDone
open Go.ChangeShapes Go.WideShapes Go.ChangeAt Go.RowKit Go.ChangeMaps
set_option linter.unusedVariables false
set_option linter.unusedSimpArgs false

theorem own : ownKnob Tryz.prog.godebug = none := by kernel_rfl
theorem laidOutT : laidOutB Tryz.prog = true := by kernel_rfl
theorem reads (os : Os) {H : Type} (enc : TypeId × Value → H) : ∃ places, DataW.whole enc Tryz.prog ((doorWorld3 os).forCall (fun _ _ => 0) ⟨#[], #[.slice none 0 0, .int .i64 0, .slice none 0 0, .slice none 0 0], []⟩).memory Tryz.f5.params.toList Rows.logFailsSpec.vars false #[Value.slice none 0 0, .int .i64 0, .slice none 0 0, .slice none 0 0].toList 8 = some ([.nil, .lit (.int .i64 0), .nil, .nil], [], places) :=
  ⟨[], by kernel_rfl⟩
set_option maxRecDepth 100000 in
theorem lifted (os : Os) (started : os.Started) (H : Type) (enc : TypeId × Value → H) (I : Stop.Interp) :
    ReturnsInHanded {} Tryz.checked os 5 .any ((Rows.OpenSpec.upto Rows.logFailsSpec).preRow enc Tryz.prog Tryz.f5 Rows.logFailsUptoRow.domain false Rows.logFailsUptoRow.laid) (((Rows.OpenSpec.upto Rows.logFailsSpec).at I).post enc Tryz.prog Tryz.f5 false true false false) := by
  obtain ⟨places, hx⟩ := reads os enc
  refine returnsInHanded_of_row (C := Tryz.checked) (s := (Rows.OpenSpec.upto Rows.logFailsSpec)) own started (by kernel_rfl) Tryz.func5
    (witness_rowS (enc := enc) (C := Tryz.checked) false (doorWorld3 os) #[.slice none 0 0, .int .i64 0, .slice none 0 0, .slice none 0 0] (doorWorld3_os os)
      (doorWorld3_shaped os _) (by kernel_rfl) (OpenSpec.preRow_of_cond 8 hx (by kernel_rfl) (fun k hk => by cases hk; kernel_rfl) (by kernel_rfl) (doorWorld3_met os _))) ?_
  intro W base args ds gs before hval0 hW _ hcond hsz hL hsh _
  have hval : ∀ (j : Nat) t v, Tryz.f5.params[j]? = some t → args[j]? = some v → Value.okWide Tryz.prog W .any base t v := hval0
  have hW' := hW
  obtain ⟨p, q, hA0, hV, rfl, hfz, hnd⟩ := hW
  have hA : DataW.TrodAll enc Tryz.prog W 0 (fun _ => true) true Tryz.f5.params.toList args.toList ds p := hA0
  rw [Tryz.params5] at hA hval
  obtain ⟨v0, vs0, e0, ds0, pl0, q0, hargs, rfl, rfl, h0, r0⟩ := trodAll_cons hA
  obtain ⟨v1, vs1, e1, ds1, pl1, q1, rfl, rfl, rfl, h1, r1⟩ := trodAll_cons r0
  obtain ⟨v2, vs2, e2, ds2, pl2, q2, rfl, rfl, rfl, h2, r2⟩ := trodAll_cons r1
  obtain ⟨v3, vs3, e3, ds3, pl3, q3, rfl, rfl, rfl, h3, r3⟩ := trodAll_cons r2
  obtain ⟨rfl, rfl, rfl⟩ := trodAll_nil r3
  obtain rfl : args = #[v0, v1, v2, v3] := by cases args; simp_all
  obtain ⟨rfl, rfl⟩ := trodVars_none hV
  have hbulk : Rows.uptoBulkAll ([e0, e1, e2, e3] ++ []) ≤ 1048576 := of_decide_eq_true (hcond _ rfl)
  have lt0 : ∀ x ∈ pl0, x.block < W.heap.size := by obtain ⟨m, hm⟩ := h0; exact DataW.trod_lt m _ _ _ hm
  obtain ⟨d0, rfl, t0, zz0⟩ := Sh.open_val2 12 43 (Sh.slice shRec) (by kernel_rfl) (hval 0 43 v0 rfl rfl) h0
  have z0 := zz0 (Sh.weights_le hsz (j := 0) (by rw [Tryz.params5]; rfl) rfl)
  have b0 := Nat.le_trans (Sh.bulk_val 12 43 (Sh.slice shRec) (by kernel_rfl) d0 h0 t0) (Nat.le_trans (Sh.part_le (l := [e0, e1, e2, e3] ++ []) (by simp)) hbulk)
  obtain ⟨p0, c0, l0⟩ := d0
  have lt1 : ∀ x ∈ pl1, x.block < W.heap.size := by obtain ⟨m, hm⟩ := h1; exact DataW.trod_lt m _ _ _ hm
  obtain ⟨d1, rfl, t1, zz1⟩ := Sh.open_val2 12 3 (Sh.int) (by kernel_rfl) (hval 1 3 v1 rfl rfl) h1
  have z1 := zz1 (Sh.weights_le hsz (j := 1) (by rw [Tryz.params5]; rfl) rfl)
  have b1 := Nat.le_trans (Sh.bulk_val 12 3 (Sh.int) (by kernel_rfl) d1 h1 t1) (Nat.le_trans (Sh.part_le (l := [e0, e1, e2, e3] ++ []) (by simp)) hbulk)
  have lt2 : ∀ x ∈ pl2, x.block < W.heap.size := by obtain ⟨m, hm⟩ := h2; exact DataW.trod_lt m _ _ _ hm
  obtain ⟨d2, rfl, t2, zz2⟩ := Sh.open_val2 12 38 (Sh.slice .bool) (by kernel_rfl) (hval 2 38 v2 rfl rfl) h2
  have z2 := zz2 (Sh.weights_le hsz (j := 2) (by rw [Tryz.params5]; rfl) rfl)
  have b2 := Nat.le_trans (Sh.bulk_val 12 38 (Sh.slice .bool) (by kernel_rfl) d2 h2 t2) (Nat.le_trans (Sh.part_le (l := [e0, e1, e2, e3] ++ []) (by simp)) hbulk)
  obtain ⟨p2, c2, l2⟩ := d2
  have lt3 : ∀ x ∈ pl3, x.block < W.heap.size := by obtain ⟨m, hm⟩ := h3; exact DataW.trod_lt m _ _ _ hm
  obtain ⟨d3, rfl, t3, zz3⟩ := Sh.open_val2 12 43 (Sh.slice shRec) (by kernel_rfl) (hval 3 43 v3 rfl rfl) h3
  have z3 := zz3 (Sh.weights_le hsz (j := 3) (by rw [Tryz.params5]; rfl) rfl)
  have b3 := Nat.le_trans (Sh.bulk_val 12 43 (Sh.slice shRec) (by kernel_rfl) d3 h3 t3) (Nat.le_trans (Sh.part_le (l := [e0, e1, e2, e3] ++ []) (by simp)) hbulk)
  obtain ⟨p3, c3, l3⟩ := d3
  clear hA0 hval0
  obtain ⟨ad, a1, a2, he, hn, ht⟩ := env3 (show laidMetH Tryz.prog door3Laid W from hL)
  show Calls Tryz.prog 5 #[.slice p0 l0.length c0, .int .i64 d1, .slice p2 l2.length c2, .slice p3 l3.length c3] W _
  refine (logFails_any ad a1 a2 W he hn ht p0 c0 l0 d1 p2 c2 l2 p3 c3 l3 t0 t2 t3 t1.2 (wordN_bulk b0) (wordN_bulk b3)).mono fun e W' ⟨he, hc⟩ => ?_
  subst he
  have bel : Below W.heap.size W W' := hc.below (Nat.le_refl _) (fun _ _ f => f.elim)
  exact ⟨_, rfl, _, _, _, [], _, [], hW', trodAll_mk1 (shut_bool Tryz.underlying4 _), (trodAll_cons_mk (Below.trod laidOutT (by kernel_rfl) (of_decide_eq_true (by kernel_rfl)) h0 bel lt0) (trodAll_cons_mk (Below.trod laidOutT (by kernel_rfl) (of_decide_eq_true (by kernel_rfl)) h1 bel lt1) (trodAll_cons_mk (Below.trod laidOutT (by kernel_rfl) (of_decide_eq_true (by kernel_rfl)) h2 bel lt2) (trodAll_cons_mk (Below.trod laidOutT (by kernel_rfl) (of_decide_eq_true (by kernel_rfl)) h3 bel lt3) trodAll_mk0)))), rfl, bel.frame _, fun h => by cases h⟩

theorem band {a b : Bool} (h : a = true) (k : b = true) : (a && b) = true := by rw [h, k]; rfl
set_option maxHeartbeats 0 in
theorem closedF : joinedFacts Tryz.pinned.checked.prog 5 Tryz.f5 (Rows.OpenSpec.upto Rows.logFailsSpec).bare Rows.logFailsUptoRow = true := by
  unfold joinedFacts
  repeat' (with_reducible refine band ?_ ?_)
  all_goals (as_aux_lemma => kernel_rfl)
theorem said : Rows.LogFailsUptoSaid :=
  OpenClaim.holds_of_cond 5 Tryz.f5 rfl rfl rfl rfl rfl rfl rfl ⟨rfl, rfl, rfl, rfl, rfl⟩ rfl rfl rfl rfl rfl (by as_aux_lemma => kernel_rfl) Tryz.func5 closedF
    (of_decide_eq_true (by kernel_rfl)) (by unfold Func.isWrapper; first | (rw [if_pos (by decide +kernel)]; kernel_rfl) | (rw [if_neg (by decide +kernel)]; exact ⟨rfl, rfl⟩))
    (fun os started H enc _ I => by rw [OpenClaim.pre_eq_preRow]; exact lifted os started H enc I)

theorem plain (f : FuncId) (fn : Func) (hf : Tryz.pinned.checked.prog.funcNamed "pigeonholes/pigeonholeslaw4.LogFails" = some f) (hfn : Tryz.pinned.checked.prog.funcs[f]? = some fn) :
    true = Tryz.pinned.checked.prog.looks [] ∧ ∀ (j : Nat) t, fn.params[j]? = some t → Tryz.pinned.checked.prog.wantsStandIn t = false := by
  obtain rfl : f = 5 := Option.some.inj ((show Tryz.prog.funcNamed "pigeonholes/pigeonholeslaw4.LogFails" = some 5 by kernel_rfl).symm.trans hf) |>.symm
  obtain rfl : fn = Tryz.f5 := (Option.some.inj (Tryz.func5.symm.trans hfn)).symm
  refine ⟨by kernel_rfl, fun j t ht => ?_⟩
  rw [Tryz.params5] at ht
  have hm : t = 43 ∨ t = 3 ∨ t = 38 ∨ t = 43 := by simpa using Array.mem_of_getElem? ht
  rcases hm with rfl | rfl | rfl | rfl
  · exact (show Tryz.prog.wantsStandIn 43 = false by kernel_rfl)
  · exact (show Tryz.prog.wantsStandIn 3 = false by kernel_rfl)
  · exact (show Tryz.prog.wantsStandIn 38 = false by kernel_rfl)
  · exact (show Tryz.prog.wantsStandIn 43 = false by kernel_rfl)

set_option maxHeartbeats 0 in
theorem card : Rows.LogFailsUptoCardSaid :=
  Claim7.holds_tied_plain_at .later [] _ _ _ _ said (fun _ h => by cases h) (by as_aux_lemma => kernel_rfl) (fun _ h => by cases h) logFailsUpto_row_tie (by as_aux_lemma => rfl) (by as_aux_lemma => exact ⟨rfl, rfl⟩) (by as_aux_lemma => kernel_rfl) (by as_aux_lemma => rfl) plain (by as_aux_lemma => kernel_rfl)
#print axioms card
end Go.Proofs.YtemnibnlgimpkaaGreatDoor.logFailsUptoDone

