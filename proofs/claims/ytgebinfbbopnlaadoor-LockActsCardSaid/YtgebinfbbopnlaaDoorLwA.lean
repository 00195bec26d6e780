/- locklaw: contracts by what is owned (printed by walk.py). -/
import Derived.Test.YtgebinfbbopnlaaDoorLkD
import Derived.Test.YtgebinfbbopnlaaDoorArg
namespace Go.Proofs.YtgebinfbbopnlaaDoor
open Go.RowKit
set_option linter.unusedVariables false
set_option linter.unusedSimpArgs false
set_option linter.unnecessarySimpa false
set_option maxRecDepth 100000

abbrev LAct := ByteArray × (Int × Int × Unit) × Int × (Int × Int × Unit) × Bool × Unit
def lactC (x : LAct) : List Value := [.string x.1, .int .i64 x.2.1.1, .int .i64 x.2.1.2.1, .int .i64 x.2.2.1, .int .i64 x.2.2.2.1.1, .int .i64 x.2.2.2.1.2.1, .bool x.2.2.2.2.1]
def shLAct : Sh := .and .str (.and (.and .int (.and .int .unit)) (.and .int (.and (.and .int (.and .int .unit)) (.and .bool .unit))))
theorem bnd_nil : ∀ x ∈ ([] : List Run), BndR x := fun _ h => by cases h
/-- What a table of ranges is good for. -/
def TabOk (l : List Run) : Prop := RunsOk l ∧ l.length ≤ 60
theorem TabOk.lock {l l' : List Run} {h : Int × Int} {o a s : Int} {wb : Bool} (hk : TabOk l) (he : eOk a s = true) (hn : ∀ x ∈ l, heldP h o (eF a s) (eT a s) wb x = false) (hp : l'.Perm (cutL l h o (eF a s) (eT a s) ++ [(h, o, eF a s, eT a s, wb)])) (ho : l'.Pairwise (fun x y => ¬ joinCf y x < 0)) (hl : (joinL l').length ≤ 60) : TabOk (joinL l') := by
  obtain ⟨h1, h2⟩ := add_meet hk.1 (wr := wb) (eOk_rng he) hn
  exact ⟨join_ok (fun x hx => h1 x (hp.mem_iff.1 hx)) (hp.symm.pairwise h2 fun h => MeetOk.symm h) ho, hl⟩
theorem TabOk.unlock {l : List Run} {h : Int × Int} {o a s : Int} (hk : TabOk l) (he : eOk a s = true) (hl : (cutL l h o (eF a s) (eT a s)).length ≤ 60) : TabOk (cutL l h o (eF a s) (eT a s)) := ⟨hk.1.cut h o (eOk_rng he), hl⟩
theorem TabOk.drop {l : List Run} (hk : TabOk l) (p : Run → Bool) : TabOk (l.filter p) := ⟨hk.1.filter p, Nat.le_trans (List.length_filter_le _ _) hk.2⟩
theorem TabOk.small {l : List Run} (hk : TabOk l) : l.length ≤ 1000 := Nat.le_trans hk.2 (by decide)
theorem tabOk_nil : TabOk [] := ⟨runsOk_nil, by simp⟩

set_option maxHeartbeats 1000000 in
theorem held_spec {B : Nat} (ad : Nat → Addr) : Spec Tryd.prog 17 #[] [rEnv B ad [2, 9, 11]] (fun u L => u = .bool true ∧ L = [rEnv B ad [2, 9, 11]]) := by
  refine spec_of (#[undef, undef, undef, undef, undef, undef, undef, undef, undef, undef, undef, undef, undef, undef, undef, undef, undef, undef, undef, undef, undef, undef, undef, undef, undef, undef, undef, undef, undef, undef, undef, undef, undef, undef, undef, undef, undef]) Tryd.func17 rfl (by kernel_rfl) fun E w0 w h => ?_
  refine c_seq ?_
  refine c_reg ?_
  refine sq_p (.bool false) rfl (fun _ => by kernel_rfl) ?_
  refine lnil ?_
  refine thn_n ?_
  refine c_seq ?_
  refine c_reg ?_
  refine sq_p (.agg #[.slice none 0 0]) rfl (fun _ => by kernel_rfl) ?_
  refine sq_new rfl (fun b => .pointer (some ⟨b, 0, none⟩)) [.slice none 0 0] 57 (fun _ => by kernel_rfl) h ?_; intro k1 w h
  refine sq_p (.pointer (some ⟨k1, 0, none⟩)) rfl (fun _ => by kernel_rfl) ?_
  refine lnil ?_
  refine thn_n ?_
  refine c_seq ?_
  refine c_reg ?_
  refine sq_p (.pointer (some ⟨k1, 0, none⟩)) rfl (fun _ => by kernel_rfl) ?_
  refine sq_p (.agg #[.int .i64 0, .int .i64 0]) rfl (fun _ => by kernel_rfl) ?_
  refine sq_p (.agg #[.int .i64 5, .int .i64 0]) rfl (fun _ => by kernel_rfl) ?_
  have h := h.nilRows 104 6 runC
  refine sq_call #[.pointer (some ⟨k1, 0, none⟩), .agg #[.int .i64 0, .int .i64 0], .int .i64 1, .agg #[.int .i64 5, .int .i64 0], .bool true] [1, 0, 0] rfl (lockm_spec ad k1 (.slice none 0 0) [] 0 0 1 5 0 true bnd_nil (by simp)) (fun _ => by kernel_rfl) h ?_; rintro v_ L_ w (⟨hq2, rfl, rfl⟩ | ⟨x4, hq2, hq3, rfl, rfl⟩ | ⟨hq2, hq3, l5, hp6, ho7, ⟨hq8, rfl, rfl⟩ | ⟨hq8, v9, rfl, rfl⟩⟩) h
  · skip
    exact absurd hq2 (by decide)
  · skip
    exact absurd (Found.spec hq3).1 (by simp)
  · skip
    exact absurd hq8 (by have := joinL_len l5; have := hp6.length_eq; simp [cutL] at this; omega)
  · skip
    have hLJ : l5 = [((0, 0), 1, 5, 1152921504606846976, true)] := List.perm_singleton.1 hp6
    have hT : TabOk (joinL l5) := tabOk_nil.lock (by decide) hq3 hp6 ho7 hq8
    refine sq_p (.tuple #[.agg #[.int .i64 0, .int .i64 0, .int .i64 0, .int .i64 0, .int .i64 0, .bool false], .nilIface]) rfl (fun _ => by kernel_rfl) ?_
    refine sq_p (.agg #[.int .i64 0, .int .i64 0, .int .i64 0, .int .i64 0, .int .i64 0, .bool false]) rfl (fun _ => by kernel_rfl) ?_
    refine sq_p (.nilIface) rfl (fun _ => by kernel_rfl) ?_
    refine sq_new rfl (fun b => .pointer (some ⟨b, 0, none⟩)) [.int .i64 0, .int .i64 0, .int .i64 0, .int .i64 0, .int .i64 0, .bool false] 67 (fun _ => by kernel_rfl) h ?_; intro k10 w h
    refine sq_st rfl 0 [.int .i64 0, .int .i64 0, .int .i64 0, .int .i64 0, .int .i64 0, .bool false] [.int .i64 0, .int .i64 0, .int .i64 0, .int .i64 0, .int .i64 0, .bool false] h 0 rfl (by kernel_rfl) ?_; intro w h
    refine sq_p (.nilIface) rfl (fun _ => by kernel_rfl) ?_
    refine lnil ?_
    refine thn_n ?_
    refine c_seq ?_
    refine c_reg ?_
    refine sq_p (.pointer (some ⟨k1, 0, none⟩)) rfl (fun _ => by kernel_rfl) ?_
    refine sq_call #[.pointer (some ⟨k1, 0, none⟩)] [1, 1] rfl (list_spec k1 v9 (joinL l5) hT.1.bnd hT.small) (fun _ => by kernel_rfl) h ?_; rintro v14 L_ w ⟨_, l11, ⟨hp12, ho13⟩, rfl, rfl⟩ h
    have hL : l11 = [((0, 0), 1, 5, 1152921504606846976, true)] := by have h1 := hp12; rw [hLJ] at h1; exact List.perm_singleton.1 h1
    refine sq_p (v14) rfl (fun _ => by kernel_rfl) ?_
    refine lnil ?_
    refine thn_n ?_
    refine c_seq ?_
    refine c_reg ?_
    refine sq_p (.nilIface) rfl (fun _ => by kernel_rfl) ?_
    refine sq_p (.bool true) rfl (fun _ => by kernel_rfl) ?_
    refine sq_p (.bool true) rfl (fun _ => by kernel_rfl) ?_
    refine sq_p (v14) (by kernel_rfl) (fun _ => by kernel_rfl) ?_
    refine sq_q (by kernel_rfl) h (g_len (by kernel_rfl) 0 rfl) ?_
    obtain ⟨b15, hb15⟩ : ∃ b_ : Bool, b_ = (decide (((l11.map lkT).length : Int) = 1)) := ⟨_, rfl⟩
    refine sq_q (v := .bool b15) (by kernel_rfl) h (by subst hb15; exact g_pure (v := .bool (decide (((l11.map lkT).length : Int) = 1))) fun _ => by kernel_rfl) ?_
    refine sq_p (.bool b15) rfl (fun _ => by kernel_rfl) ?_
    refine sq_p (.bool b15) rfl (fun _ => by kernel_rfl) ?_
    refine sq_m1 (v := v14) b15 (by cases b15 <;> kernel_rfl) h (fun hB => by subst hB; exact g_pure (v := v14) fun _ => by kernel_rfl) ?_
    have hi16 : 0 < (l11.map lkT).length := by simp [hL]
    obtain ⟨x17, hx18⟩ : ∃ x, (l11.map lkT)[0]? = some x := ⟨_, List.getElem?_eq_getElem hi16⟩
    refine sq_m1 (v := .pointer (some ⟨blkN v14, offN v14 + 0 * 6, none⟩)) b15 (by cases b15 <;> kernel_rfl) h (fun hB => by subst hB; exact g_idx 0 (by kernel_rfl) hi16 0 rfl) ?_
    refine sq_m1 (v := .pointer (some ⟨blkN v14, offN v14 + 0 * 6 + 3, none⟩)) b15 (by cases b15 <;> kernel_rfl) h (fun hB => by subst hB; exact g_pure (v := .pointer (some ⟨blkN v14, offN v14 + 0 * 6 + 3, none⟩)) fun _ => by kernel_rfl) ?_
    refine sq_m1 (v := .agg #[.int .i64 x17.2.2.1, .int .i64 x17.2.2.2.1]) b15 (by cases b15 <;> kernel_rfl) h (fun hB => by subst hB; exact g_ldr (b := blkN v14) (offN v14 + 0 * 6 + 3) [.int .i64 x17.2.2.1, .int .i64 x17.2.2.2.1] (.agg #[.int .i64 x17.2.2.1, .int .i64 x17.2.2.2.1]) (by kernel_rfl) 0 rfl (rdRow runC_len hx18 3 (by kernel_rfl))) ?_
    refine sq_m1 (v := .agg #[.int .i64 5, .int .i64 0]) b15 (by cases b15 <;> kernel_rfl) h (fun hB => by subst hB; exact g_pure (v := .agg #[.int .i64 5, .int .i64 0]) fun _ => by kernel_rfl) ?_
    obtain ⟨b19, hb19⟩ : ∃ b_ : Bool, b_ = ((decide (x17.2.2.1 = 5)) && (decide (x17.2.2.2.1 = 0))) := ⟨_, rfl⟩
    refine sq_m1 (v := .bool b19) b15 (by cases b15 <;> kernel_rfl) h (fun hB => by subst hB; exact by subst hb19; exact g_eqR (by kernel_rfl)) ?_
    obtain ⟨b20, hb20⟩ : ∃ b_ : Bool, b_ = (b15 && b19) := ⟨_, rfl⟩
    refine sq_q (v := .bool b20) rfl h (by subst hb20; exact g_pure (v := .bool (b15 && b19)) fun _ => by cases b15 <;> kernel_rfl) ?_
    refine sq_p (.bool b20) rfl (fun _ => by kernel_rfl) ?_
    refine sq_m1 (v := v14) b20 (by cases b20 <;> kernel_rfl) h (fun hB => by subst hB; exact g_pure (v := v14) fun _ => by kernel_rfl) ?_
    refine sq_m1 (v := .pointer (some ⟨blkN v14, offN v14 + 0 * 6, none⟩)) b20 (by cases b20 <;> kernel_rfl) h (fun hB => by subst hB; exact g_idx 0 (by kernel_rfl) hi16 0 rfl) ?_
    refine sq_m1 (v := .pointer (some ⟨blkN v14, offN v14 + 0 * 6 + 5, none⟩)) b20 (by cases b20 <;> kernel_rfl) h (fun hB => by subst hB; exact g_pure (v := .pointer (some ⟨blkN v14, offN v14 + 0 * 6 + 5, none⟩)) fun _ => by kernel_rfl) ?_
    refine sq_m1 (v := .bool x17.2.2.2.2) b20 (by cases b20 <;> kernel_rfl) h (fun hB => by subst hB; exact g_ldr (b := blkN v14) (offN v14 + 0 * 6 + 5) [.bool x17.2.2.2.2] (.bool x17.2.2.2.2) (by kernel_rfl) 0 rfl (rdRow runC_len hx18 5 (by kernel_rfl))) ?_
    obtain ⟨b21, hb21⟩ : ∃ b_ : Bool, b_ = (b20 && x17.2.2.2.2) := ⟨_, rfl⟩
    refine sq_q (v := .bool b21) rfl h (by subst hb21; exact g_pure (v := .bool (b20 && x17.2.2.2.2)) fun _ => by cases b20 <;> kernel_rfl) ?_
    refine sq_p (.bool b21) rfl (fun _ => by kernel_rfl) ?_
    refine lnil ?_
    refine thn_n ?_
    refine c_ret ?_
    refine ret_end [.bool b21] [4] h (by kernel_rfl) (res_t (by kernel_rfl) res_n) ?_
    rw [hL] at hx18
    have hX : x17 = ((0, 0), 1, 5, 0, true) := by cases hx18; rfl
    exact ⟨by subst hb21 hb20 hb19 hb15; rw [hX, hL]; rfl, rfl⟩
end Go.Proofs.YtgebinfbbopnlaaDoor
