/- slices.Sorted(maps.Keys(m)), the keys ints, by what is owned: the keys, sorted. No condition but the map's size. -/
import Derived.Test.YtofhnglgebllbaaDoorLaysK
import Derived.Test.YtofhnglgebllbaaDoorEnvR
import Derived.Test.YtofhnglgebllbaaDoorOp6
namespace Go.Proofs.YtofhnglgebllbaaDoor
open Go.RowKit Go.Maps Go.Sort Go.Shelf
set_option linter.unusedVariables false
set_option linter.unusedSimpArgs false
def idC (z : Int) : List Value := [.int .i64 z]
theorem idC_len (z : Int) : (idC z).length = 1 := rfl
theorem idC_map (l : List Int) : l.flatMap idC = l.map encZ := by
  induction l with
  | nil => rfl
  | cons a l ih => simp [idC, encZ, ih]
theorem insert_perm {H : Type} (x : Lit × DataW H) : ∀ l : List (Lit × DataW H), (DataW.insert x l).Perm (x :: l)
  | [] => List.Perm.refl _
  | y :: r => by
    show (if x.1.before y.1 then x :: y :: r else y :: DataW.insert x r).Perm _
    split
    · exact List.Perm.refl _
    · exact ((insert_perm x r).cons y).trans (List.Perm.swap x y r)
theorem foldr_perm {H : Type} : ∀ l : List (Lit × DataW H), (l.foldr DataW.insert []).Perm l
  | [] => List.Perm.refl _
  | x :: l => (insert_perm x _).trans ((foldr_perm l).cons x)
theorem sortsK (m : Nat) : AnyZI.SortsIn Tryd.prog Tryd.sortedK_ren Fence.wide m :=
  ⟨fun blk off cap ss W hH hblk hsz => callsIn_wide.2 (AnyM.slices_Sort_int Tryd.sortK blk off cap ss W hH hblk hsz),
   fun p cap W => callsIn_wide.2 (AnyM.slices_Sort_int_none Tryd.sortK p cap W)⟩
abbrev constR : Value → Option (DataW Unit × List MemPlace) := fun _ => some (.nil, [])
theorem sortedK_any {kv : List (Int × Value)} (b kb : Nat) (w : World) (hm : MapA w b ik kv) (hkb : w.heap[kb]? = some (.cells #[.map (some b)] 225 (0, 0))) (hlen : kv.length ≤ 1000000) (hr : ∀ p ∈ kv, -9223372036854775808 ≤ p.1 ∧ p.1 ≤ 9223372036854775807) :
    Calls Tryd.prog 143 #[.func (.func 189) #[] #[.pointer (some ⟨kb, 0, none⟩)]] w fun e w' => ∃ (v : Value) (ss : List Int), e = .returned v ∧ ss.Perm (kv.map (·.1)) ∧
      w'.ownsRow w.heap.size 3 1 v ss.length ((ss.mergeSort leI).map encZ) ∧ Below w.heap.size w w' := by
  obtain ⟨es, clock, hb, he, hst⟩ := hm
  have hkeys : es.toList.map (·.key) = kv.map fun p => ik p.1 := keys_of he
  have hsz : es.size = kv.length := by have := congrArg List.length hkeys; simpa using this
  have hK : Tryd.prog.underlying 3 = some (.int .i64) := Tryd.underlying3
  have hkey : ∀ x ∈ es.toList, ∃ z : Int, x.key = .int .i64 z ∧ keyOf Tryd.prog 3 x.key = some (.int .i64 z) := fun x hx => by
    have hx' : x.key ∈ kv.map fun p => ik p.1 := by rw [← hkeys]; exact List.mem_map.2 ⟨x, hx, rfl⟩
    obtain ⟨p, hp, e⟩ := List.mem_map.1 hx'
    refine ⟨p.1, e.symm, ?_⟩
    rw [← e]
    exact keyOf_int_mk hK (by have := hr p hp; have e1 : IntKind.i64.min = -9223372036854775808 := rfl; have e2 : IntKind.i64.max = 9223372036854775807 := rfl; simp [Lit.wf, e1, e2]; omega)
  have hrd : ∀ x ∈ es.toList, ∀ z : Int, x.key = .int .i64 z → WideElems.rd Tryd.prog 3 constR x = some (.int .i64 z, .nil) := fun x hx z hz => by
    obtain ⟨z', h1, h2⟩ := hkey x hx
    have : z' = z := by rw [hz] at h1; cases h1; rfl
    subst this
    simp [WideElems.rd, h2]
  have hF : WideElems.Fit Tryd.prog 3 constR es clock := ⟨by unfold maxLen; omega, hst, fun x hx => by
    obtain ⟨z, h1, _⟩ := hkey x hx
    exact ⟨_, hrd x hx z h1⟩⟩
  have hown : w.ownsMap Tryd.prog 3 constR b es.size (.map ((es.toList.map (WideElems.rg Tryd.prog 3 constR)).foldr DataW.insert [])) := ⟨es, clock, hb, hF, Nat.le_refl _, rfl⟩
  have hperm : (intKeys (.map ((es.toList.map (WideElems.rg Tryd.prog 3 constR)).foldr DataW.insert []))).Perm (kv.map (·.1)) := by
    refine ((foldr_perm _).map _).trans ?_
    have : (es.toList.map (WideElems.rg Tryd.prog 3 constR)).map (fun p => Go.intOf p.1) = kv.map (·.1) := by
      have h2 : es.toList.map (fun x => (WideElems.rg Tryd.prog 3 constR x)) = es.toList.map (fun x => ((Lit.int .i64 (match x.key with | .int _ a => a | _ => 0), DataW.nil) : Lit × DataW Unit)) := by
        refine List.map_congr_left fun x hx => ?_
        obtain ⟨z, h1, _⟩ := hkey x hx
        simp [WideElems.rg, hrd x hx z h1, h1]
      rw [h2, List.map_map]
      have h3 : es.toList.map ((fun v => match v with | Value.int _ a => a | _ => 0) ∘ (·.key)) = kv.map (·.1) := by
        rw [← List.map_map, hkeys, List.map_map]; rfl
      exact h3
    rw [this]
  have hsz2 : Maps.size (.map ((es.toList.map (WideElems.rg Tryd.prog 3 constR)).foldr DataW.insert [])) ≤ 1000000 := by
    have := hperm.length_eq
    simp [intKeys, Maps.size] at this ⊢
    omega
  refine (callsIn_wide (n := 5)).1 ?_
  have hseq := AnyZI.keys_gives (ρ := Tryd.keysK_ren) { Tryd.keysK with } Fence.wide 2 trivial rfl (by omega) kb b es.size _ w (lt_of_block hkb) (by rw [cell_of hkb]; rfl) hown
  have cS := AnyZI.sorted_in Tryd.sortedK Fence.wide 5 trivial trivial trivial trivial rfl (by omega) (sortsK _) (enters_of Tryd.func188 (by kernel_rfl) rfl) 189 #[.pointer (some ⟨kb, 0, none⟩)] trivial (enters_of Tryd.func189 (by kernel_rfl) rfl) _ _ (by unfold maxLen; omega) (by omega) w hseq
  change CallsIn _ _ Tryd.prog 143 _ _ _ at cS
  refine cS.mono ?_
  rintro e w' ⟨v, ss, rfl, hS, hrow, _, hb'⟩
  exact ⟨v, ss, rfl, hS.trans hperm, hrow, hb'⟩
end Go.Proofs.YtofhnglgebllbaaDoor
