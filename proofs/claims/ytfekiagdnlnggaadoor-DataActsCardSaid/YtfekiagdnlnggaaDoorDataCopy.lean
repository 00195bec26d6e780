/- package data: Copy by contract. -/
import Derived.Test.YtfekiagdnlnggaaDoorDataOne
import Derived.Laws.Externs
import Derived.Deep.RegionWith
namespace Go.Proofs.YtfekiagdnlnggaaDoor
open Go.RowKit
set_option linter.unusedVariables false
set_option linter.unusedSimpArgs false

theorem run_typeAssert_map' {P : Program} (w : World) (t xT k e : TypeId) (v : Value) (h : P.underlying t = some (.map k e)) : (Instr.typeAssert (.iface t v) xT t false).run P w = .ok v w := by
  simp [Instr.typeAssert, run_underlying h, go_sem, Result.andThen]
theorem run_maps_clone' {P : Program} (w : World) {r : Nat} {es : Array MapEntry} {clock : Nat} (t : TypeId) (hb : w.heap[r]? = some (.map es clock)) :
    (Extern.MapsClone.clone #[.iface t (.map (some r))]).run P w = .ok (.iface t (.map (some w.heap.size))) (w.alloc (.map es clock)) := by
  have e : Extern.MapsClone.clone #[.iface t (.map (some r))] = (getObj r >>= fun o => match o with
      | .map entries clock => (newObj (.map entries clock) >>= fun n => pure (.iface t (.map (some n))))
      | _ => stuck "maps.clone: a map expected") := rfl
  rw [e]
  simp [MapKept.run_getObj_map hb, Result.andThen, go_sem]

set_option maxRecDepth 100000 in
set_option maxHeartbeats 1000000 in
theorem mclone_some (rm : Nat) (kv : Blks) (w : World) (hA : MapA w rm ik (blkM kv)) :
    Calls Tryd.prog 87 #[.map (some rm)] w fun e w' => e = .returned (.map (some w.heap.size)) ∧ Chg Nil w w' ∧ MapA w' w.heap.size ik (blkM kv) ∧ w'.heap.size = w.heap.size + 1 := by
  obtain ⟨es, clock, hb, he, hs⟩ := hA
  have hq := fun w => run_eql_map_nil (P := Tryd.prog) w 41 3 151 (some rm) Tryd.underlying41
  have HB := Lib.hid hb
  clear hb
  go_enter Tryd.func87, Tryd.ntmps87
  go_wp2
  rw [run_callFunc_extern Tryd.func110 (by kernel_rfl) (by kernel_rfl) (by kernel_rfl) (e := Extern.MapsClone.clone) (by kernel_rfl), run_maps_clone' w 41 HB.out]
  simp only [Result.andThen]
  rw [Oper.upon_value]
  go_wp2
  rw [run_typeAssert_map' _ 41 _ _ _ _ Tryd.underlying41]
  simp only [Result.andThen]
  rw [Oper.upon_value]
  go_wp2
  go_ret
  exact ⟨rfl, (Chg.refl _ _).alloc _, ⟨es, clock, block_alloc _ _, he, hs⟩, by simp⟩
theorem mclone_none (w : World) :
    Calls Tryd.prog 87 #[.map none] w fun e w' => e = .returned (.map none) ∧ w = w' := by
  have hq := fun w => run_eql_map_nil (P := Tryd.prog) w 41 3 151 none Tryd.underlying41
  go_enter Tryd.func87, Tryd.ntmps87
  go_wp2
  go_ret
  exact ⟨rfl, rfl⟩

/-- A copy: data anew, in new memory. -/
def CopyPost (w : World) (d : PData) (e : Ending) (w' : World) : Prop :=
  ∃ nb S', e = .returned (.pointer (some ⟨nb, 0, none⟩)) ∧ Chg Nil w w' ∧ DataAt w' nb d S' ∧ ∀ x, S' x → w.heap.size ≤ x
theorem copy_done {w w2 : World} {d : PData} (hc2 : Chg Nil w w2) (hm : MapA w2 w.heap.size ik (blkM d.kv)) (hz : w2.heap.size = w.heap.size + 1) (hsm : d.size ≤ 4096) (hfl : Full d.kv) :
    CopyPost w d (.returned (.pointer (some ⟨w.heap.size + 1, 0, none⟩))) (w2.alloc (.cells #[.int .i64 d.size, .map (some w.heap.size)] 43)) := by
  have hb := block_alloc w2 (.cells #[.int .i64 d.size, .map (some w.heap.size)] 43)
  rw [hz] at hb
  refine ⟨_, fun x => x = w.heap.size ∨ x = w.heap.size + 1, rfl, hc2.alloc _, ⟨⟨_, _, hb, .inr ⟨_, rfl, hm.keep ((Chg.refl Nil _).alloc _) (fun f => f)⟩, fun r h => ?_⟩, .inr rfl, fun x hx => ?_, hsm, hfl⟩, fun x hx => ?_⟩
  · cases h; exact .inl rfl
  · simp; omega
  · rcases hx with rfl | rfl <;> omega
set_option maxHeartbeats 1000000 in
set_option maxRecDepth 100000 in
theorem dcopy_any (b : Nat) (d : PData) (S : Nat → Prop) (w : World) (ht : DataAt w b d S) :
    Calls Tryd.prog 53 #[.pointer (some ⟨b, 0, none⟩)] w (CopyPost w d) := by
  obtain ⟨⟨mv, T, hb, hm, _⟩, _, _, hsm, hfl⟩ := ht
  have hc0 := cell_of hb 0
  have hc1 := cell_of hb 1
  simp only [List.getElem?_toArray, List.getElem?_cons_zero, List.getElem?_cons_succ] at hc0 hc1
  have hbl := lt_of_block hb
  rcases hm with ⟨rfl, hkv⟩ | ⟨rm, rfl, hA⟩
  · have HK := Lib.hid hkv
    clear hb hkv
    go_enter Tryd.func53, Tryd.ntmps53
    go_wp2_with fail
    go_region_with ((go_at_call 87; refine (mclone_none _).mono ?_; rintro e w2 ⟨rfl, rfl⟩))
    all_goals
      go_wp2_with fail
      go_ret
      exact ⟨_, (· = w.heap.size), rfl, (by repeat (first | exact Chg.refl _ _ | refine Chg.drew ?_ | refine Chg.drewsN ?_ _ | refine Chg.alloc ?_ _)), ⟨⟨.map none, 43, (Chg.refl Nil _).drew.keep (block_alloc w _) (fun f => f), .inl ⟨rfl, HK.out⟩, fun r h => (by cases h)⟩, rfl, fun x e => (by subst e; simp), hsm, hfl⟩, fun x e => (by subst e; exact Nat.le_refl _)⟩
  · have HA := Lib.hid hA
    clear hb hA
    go_enter Tryd.func53, Tryd.ntmps53
    go_wp2_with fail
    go_region_with ((go_at_call 87; refine (mclone_some rm d.kv _ (HA.out.keep ((Chg.refl Nil w).drew) (fun f => f))).mono ?_; rintro e w2 ⟨rfl, hc2, hm2, hz2⟩; have c2 := (((Chg.refl Nil w).drew.then hc2).cell (p := ⟨b, 0, none⟩) hbl (fun f => f)).trans hc0))
    all_goals
      go_wp2_with fail
      go_ret
      exact copy_done ((Chg.refl Nil w).drew.then hc2) hm2 hz2 hsm hfl
end Go.Proofs.YtfekiagdnlnggaaDoor
