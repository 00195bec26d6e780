/- lock: contracts by what is owned (printed by walk.py). -/
import Derived.Test.YtgebinfbbopnlaaDoorLkC
namespace Go.Proofs.YtgebinfbbopnlaaDoor
open Go.RowKit
set_option linter.unusedVariables false
set_option linter.unusedSimpArgs false
set_option linter.unnecessarySimpa false
set_option maxRecDepth 100000

theorem cutR_len (h : Int × Int) (o f t : Int) (x : Run) : (cutR h o f t x).length ≤ 2 := by unfold cutR; split <;> (try split) <;> (try split) <;> simp
theorem cutL_len (l : List Run) (h : Int × Int) (o f t : Int) : (cutL l h o f t).length ≤ 2 * l.length := by
  unfold cutL
  induction l with
  | nil => simp
  | cons x l ih => simp only [List.flatMap_cons, List.length_append, List.length_cons]; have := cutR_len h o f t x; omega
theorem joinL_len (l : List Run) : (joinL l).length ≤ l.length := by
  have : ∀ (r out : List Run), (r.foldl joinStep out).length ≤ out.length + r.length := by
    intro r
    induction r with
    | nil => intro out; simp
    | cons x r ih => intro out; have := ih (joinStep out x); have := joinStep_len out x; simp only [List.foldl_cons, List.length_cons]; omega
  simpa [joinL] using this l []
def dropP (h : Int × Int) (o : Int) (x : Run) : Bool := decide (x.1.1 = h.1) && decide (x.1.2 = h.2) && decide (x.2.1 = o)
/-- A lock, told as a run is: its node's handle, its owner, at, size, for writing. -/
def lkT (x : Run) : Run := (x.1, x.2.1, x.2.2.1, if x.2.2.2.1 = 1152921504606846976 then 0 else x.2.2.2.1 - x.2.2.1, x.2.2.2.2)
theorem map_take {α β : Type} {l : List α} {k : Nat} {x : α} (hx : l[k]? = some x) (f : α → β) : (l.take (k + 1)).map f = (l.take k).map f ++ [f x] := by
  rw [List.take_add_one, hx]; simp

set_option maxHeartbeats 1000000 in
theorem drop1_spec (x : Run) (n g o : Int) (ka kb : Nat) : Spec Tryd.prog 45 #[.agg #[.int .i64 x.1.1, .int .i64 x.1.2, .int .i64 x.2.1, .int .i64 x.2.2.1, .int .i64 x.2.2.2.1, .bool x.2.2.2.2], .pointer (some ⟨ka, 0, none⟩), .pointer (some ⟨kb, 0, none⟩)] [rCell false ka [.int .i64 n, .int .i64 g] 33, rCell false kb [.int .i64 o] 3] (fun u L => u = .bool (dropP (n, g) o x) ∧ L = [rCell false ka [.int .i64 n, .int .i64 g] 33, rCell false kb [.int .i64 o] 3]) := by
  refine spec_of (#[.agg #[.int .i64 x.1.1, .int .i64 x.1.2, .int .i64 x.2.1, .int .i64 x.2.2.1, .int .i64 x.2.2.2.1, .bool x.2.2.2.2], .pointer (some ⟨ka, 0, none⟩), .pointer (some ⟨kb, 0, none⟩), undef, undef, undef, undef, undef, undef, undef, undef, undef, undef, undef, undef]) Tryd.func45 rfl (by kernel_rfl) fun E w0 w h => ?_
  refine c_seq ?_
  refine c_reg ?_
  refine sq_new rfl (fun b => .pointer (some ⟨b, 0, none⟩)) [.int .i64 x.1.1, .int .i64 x.1.2, .int .i64 x.2.1, .int .i64 x.2.2.1, .int .i64 x.2.2.2.1, .bool x.2.2.2.2] 104 (fun _ => by kernel_rfl) h ?_; intro k1 w h
  refine sq_p (.bool false) rfl (fun _ => by kernel_rfl) ?_
  refine lnil ?_
  refine thn_n ?_
  refine c_seq ?_
  refine c_reg ?_
  refine sq_p (.pointer (some ⟨k1, 0, none⟩)) rfl (fun _ => by kernel_rfl) ?_
  refine sq_q rfl h (g_ld 0 [.int .i64 x.1.1, .int .i64 x.1.2] (.agg #[.int .i64 x.1.1, .int .i64 x.1.2]) (by kernel_rfl) 0 rfl) ?_
  refine sq_q rfl h (g_ld 0 [.int .i64 n, .int .i64 g] (.agg #[.int .i64 n, .int .i64 g]) (by kernel_rfl) 1 rfl) ?_
  obtain ⟨b2, hb2⟩ : ∃ b_ : Bool, b_ = ((decide (x.1.1 = n)) && (decide (x.1.2 = g))) := ⟨_, rfl⟩
  refine sq_q (v := .bool b2) rfl h (by subst hb2; exact g_eqH (by kernel_rfl)) ?_
  refine sq_p (.bool b2) rfl (fun _ => by kernel_rfl) ?_
  refine sq_m1 (v := .pointer (some ⟨k1, 2, none⟩)) b2 (by cases b2 <;> kernel_rfl) h (fun hB => by subst hB; exact g_pure (v := .pointer (some ⟨k1, 2, none⟩)) fun _ => by kernel_rfl) ?_
  refine sq_m1 (v := .int .i64 x.2.1) b2 (by cases b2 <;> kernel_rfl) h (fun hB => by subst hB; exact g_ld 2 [.int .i64 x.2.1] (.int .i64 x.2.1) (by kernel_rfl) 0 rfl) ?_
  refine sq_m1 (v := .int .i64 o) b2 (by cases b2 <;> kernel_rfl) h (fun hB => by subst hB; exact g_ld 0 [.int .i64 o] (.int .i64 o) (by kernel_rfl) 2 rfl) ?_
  obtain ⟨b3, hb3⟩ : ∃ b_ : Bool, b_ = (decide (x.2.1 = o)) := ⟨_, rfl⟩
  refine sq_m1 (v := .bool b3) b2 (by cases b2 <;> kernel_rfl) h (fun hB => by subst hB; exact by subst hb3; exact g_pure (v := .bool (decide (x.2.1 = o))) fun _ => by kernel_rfl) ?_
  obtain ⟨b4, hb4⟩ : ∃ b_ : Bool, b_ = (b2 && b3) := ⟨_, rfl⟩
  refine sq_q (v := .bool b4) rfl h (by subst hb4; exact g_pure (v := .bool (b2 && b3)) fun _ => by cases b2 <;> kernel_rfl) ?_
  refine sq_p (.bool b4) rfl (fun _ => by kernel_rfl) ?_
  refine lnil ?_
  refine thn_n ?_
  refine c_ret ?_
  refine ret_end [.bool b4] [1, 1] h (by kernel_rfl) (res_t (by kernel_rfl) res_n) ?_
  exact ⟨by subst hb4 hb3 hb2; rfl, rfl⟩

theorem del_run {v : Value} {l : List Run} (n g o : Int) {k1 k2 : Nat} : Spec Tryd.prog 44 #[v, .func (.func 45) #[] #[.pointer (some ⟨k1, 0, none⟩), .pointer (some ⟨k2, 0, none⟩)]] [rRows true v 104 6 runC l, rCell true k1 [.int .i64 n, .int .i64 g] 33, rCell true k2 [.int .i64 o] 3]
    fun u L => ∃ v', u = v' ∧ L = [rRows true v' 104 6 runC (l.filter fun x => !dropP (n, g) o x), rCell true k1 [.int .i64 n, .int .i64 g] 33, rCell true k2 [.int .i64 o] 3] := fun E w0 w ho => by
  have h0 : SliceAt w v 104 6 l.length (l.flatMap runC) (blkOf v) := ho.fact 0 rfl
  have h1 := ho.fact 1 rfl
  have h2 := ho.fact 2 rfl
  have ap := ho.apart
  simp only [List.pairwise_cons, List.mem_cons] at ap
  have a1 : ¬ blkOf v k1 := fun hb => ap.1 _ (.inl rfl) (.inl rfl) k1 hb rfl
  have a2 : ¬ blkOf v k2 := fun hb => ap.1 _ (.inr (.inl rfl)) (.inl rfl) k2 hb rfl
  refine (delRun_any (dropP (n, g) o) 45 #[.pointer (some ⟨k1, 0, none⟩), .pointer (some ⟨k2, 0, none⟩)] (enters_of Tryd.func45 (by kernel_rfl) rfl) w h0 (fun W x hc => ?_)).mono ?_
  · refine ((drop1_spec x n g o k1 k2).reads (w := W) rfl ?_).mono ?_
    · intro r hr
      simp only [List.mem_cons, List.mem_nil_iff, or_false] at hr
      rcases hr with rfl | rfl
      · exact hc.keep h1 a1
      · exact hc.keep h2 a2
    · rintro e w' ⟨u, L', ⟨rfl, _⟩, he, hc'⟩
      exact ⟨he, hc'⟩
  · rintro e w' ⟨v', he, hs, hc⟩
    obtain ⟨s1, s2⟩ := hs.own
    exact ⟨v', _, ⟨v', rfl, rfl⟩, he, ho.upd 0 rfl rfl hc (r' := rRows true v' 104 6 runC (l.filter fun x => !dropP (n, g) o x)) s1 fun b hb => .inl (s2 b hb)⟩

set_option maxHeartbeats 1000000 in
theorem drop_spec (b : Nat) (v : Value) (l : List Run) (n g o : Int) (hl : l.length ≤ 1000) : Spec Tryd.prog 26 #[.pointer (some ⟨b, 0, none⟩), .agg #[.int .i64 n, .int .i64 g], .int .i64 o] [rCell true b [v] 57, rRows true v 104 6 runC l] (fun u L => ∃ v', u = .int .i64 ((l.length : Int) - ((l.filter fun x => !dropP (n, g) o x).length : Int)) ∧ L = [rCell true b [v'] 57, rRows true v' 104 6 runC (l.filter fun x => !dropP (n, g) o x)]) := by
  have hfl := List.length_filter_le (fun x => !dropP (n, g) o x) l
  refine spec_of (#[.pointer (some ⟨b, 0, none⟩), .agg #[.int .i64 n, .int .i64 g], .int .i64 o, undef, undef, undef, undef, undef, undef, undef, undef, undef, undef, undef, undef, undef, undef, undef, undef, undef, undef, undef, undef, undef, undef, undef, undef, undef, undef]) Tryd.func26 rfl (by kernel_rfl) fun E w0 w h => ?_
  refine c_seq ?_
  refine c_reg ?_
  refine sq_new rfl (fun b => .pointer (some ⟨b, 0, none⟩)) [.int .i64 n, .int .i64 g] 33 (fun _ => by kernel_rfl) h ?_; intro k1 w h
  refine sq_new rfl (fun b => .pointer (some ⟨b, 0, none⟩)) [.int .i64 o] 3 (fun _ => by kernel_rfl) h ?_; intro k2 w h
  refine sq_p (.int .i64 0) rfl (fun _ => by kernel_rfl) ?_
  refine lnil ?_
  refine thn_n ?_
  refine c_seq ?_
  refine c_reg ?_
  refine sq_p (.pointer (some ⟨b, 0, none⟩)) rfl (fun _ => by kernel_rfl) ?_
  refine sq_p (.pointer (some ⟨b, 0, none⟩)) rfl (fun _ => by kernel_rfl) ?_
  refine sq_p (.pointer (some ⟨b, 0, none⟩)) rfl (fun _ => by kernel_rfl) ?_
  refine sq_q rfl h (g_ld 0 [v] (v) (by kernel_rfl) 2 rfl) ?_
  refine sq_q rfl h (g_len (by kernel_rfl) 3 rfl) ?_
  refine sq_p (.int .i64 (l.length : Int)) rfl (fun _ => by kernel_rfl) ?_
  refine lnil ?_
  refine thn_n ?_
  refine c_seq ?_
  refine c_reg ?_
  refine sq_p (.pointer (some ⟨b, 0, none⟩)) rfl (fun _ => by kernel_rfl) ?_
  refine sq_p (.pointer (some ⟨b, 0, none⟩)) rfl (fun _ => by kernel_rfl) ?_
  refine sq_p (.pointer (some ⟨b, 0, none⟩)) rfl (fun _ => by kernel_rfl) ?_
  refine sq_p (.pointer (some ⟨b, 0, none⟩)) rfl (fun _ => by kernel_rfl) ?_
  refine sq_q rfl h (g_ld 0 [v] (v) (by kernel_rfl) 2 rfl) ?_
  refine sq_p (.func (.func 45) #[] #[.pointer (some ⟨k1, 0, none⟩), .pointer (some ⟨k2, 0, none⟩)]) rfl (fun _ => by kernel_rfl) ?_
  refine sq_call #[v, .func (.func 45) #[] #[.pointer (some ⟨k1, 0, none⟩), .pointer (some ⟨k2, 0, none⟩)]] [3, 1, 0] rfl (del_run n g o) (fun _ => by kernel_rfl) h ?_; rintro v3 L_ w ⟨_, rfl, rfl⟩ h
  refine sq_p (.pointer (some ⟨b, 0, none⟩)) rfl (fun _ => by kernel_rfl) ?_
  refine sq_p (.pointer (some ⟨b, 0, none⟩)) rfl (fun _ => by kernel_rfl) ?_
  refine sq_sto rfl (h.slv 0 rfl) 0 [v3] h 3 rfl (by kernel_rfl) ?_; intro w h
  refine lnil ?_
  refine thn_n ?_
  refine c_seq ?_
  refine c_reg ?_
  refine sq_p (.int .i64 (l.length : Int)) rfl (fun _ => by kernel_rfl) ?_
  refine sq_p (.pointer (some ⟨b, 0, none⟩)) rfl (fun _ => by kernel_rfl) ?_
  refine sq_p (.pointer (some ⟨b, 0, none⟩)) rfl (fun _ => by kernel_rfl) ?_
  refine sq_p (.pointer (some ⟨b, 0, none⟩)) rfl (fun _ => by kernel_rfl) ?_
  refine sq_q rfl h (g_ld 0 [v3] (v3) (by kernel_rfl) 3 rfl) ?_
  refine sq_q rfl h (g_len (by kernel_rfl) 0 rfl) ?_
  refine sq_q rfl h (g_eq (v := .int .i64 (IntKind.i64.wrap ((l.length : Int) - ((l.filter fun x => !dropP (n, g) o x).length : Int)))) (v' := .int .i64 ((l.length : Int) - ((l.filter fun x => !dropP (n, g) o x).length : Int))) (g_pure fun _ => by kernel_rfl) (wr (by omega))) ?_
  refine sq_p (.int .i64 ((l.length : Int) - ((l.filter fun x => !dropP (n, g) o x).length : Int))) rfl (fun _ => by kernel_rfl) ?_
  refine lnil ?_
  refine thn_n ?_
  refine c_ret ?_
  refine ret_end [.int .i64 ((l.length : Int) - ((l.filter fun x => !dropP (n, g) o x).length : Int))] [3, 0] h (by kernel_rfl) (res_t (by kernel_rfl) res_n) ?_
  exact ⟨_, rfl, rfl⟩
set_option maxHeartbeats 1000000 in
theorem list_spec (b : Nat) (v : Value) (l : List Run) (hk : ∀ x ∈ l, BndR x) (hl : l.length ≤ 1000) : Spec Tryd.prog 29 #[.pointer (some ⟨b, 0, none⟩)] [rCell true b [v] 57, rRows true v 104 6 runC l] (fun u L => ∃ (v' : Value) (l' : List Run), (l'.Perm l ∧ l'.Pairwise (fun x y => ¬ lockCf y x < 0)) ∧ u = v' ∧ L = [rRows true v' 67 6 runC (l'.map lkT), rCell true b [v] 57, rRows true v 104 6 runC l]) := by
  refine spec_of (#[.pointer (some ⟨b, 0, none⟩), undef, undef, undef, undef, undef, undef, undef, undef, undef, undef, undef, undef, undef, undef, undef, undef, undef, undef, undef]) Tryd.func29 rfl (by kernel_rfl) fun E w0 w h => ?_
  refine c_seq ?_
  refine c_reg ?_
  refine sq_p (.slice none 0 0) rfl (fun _ => by kernel_rfl) ?_
  refine lnil ?_
  refine thn_n ?_
  refine c_seq ?_
  refine c_reg ?_
  refine sq_p (.slice none 0 0) rfl (fun _ => by kernel_rfl) ?_
  refine lnil ?_
  refine thn_n ?_
  refine c_seq ?_
  refine c_seq ?_
  refine c_reg ?_
  refine sq_p (.pointer (some ⟨b, 0, none⟩)) rfl (fun _ => by kernel_rfl) ?_
  refine sq_call #[.pointer (some ⟨b, 0, none⟩)] [0, 0] rfl (sorted_spec b v l (by omega)) (fun _ => by kernel_rfl) h ?_; rintro v1 L_ w ⟨_, l2, ⟨hp3, ho4⟩, rfl, rfl⟩ h
  have hp3l := hp3.length_eq
  refine sq_q rfl h (g_len (by kernel_rfl) 0 rfl) ?_
  refine sq_p (.int .i64 0) rfl (fun _ => by kernel_rfl) ?_
  refine lnil ?_
  refine thn_n ?_
  refine c_block ?_
  have h := h.nilRows 67 6 runC
  refine c_loop (X := Nat × List Run × Value × (Nat → Value)) (fun ⟨k, out, vo, J0⟩ => ⟨#[.pointer (some ⟨b, 0, none⟩), undef, .slice none 0 0, vo, undef, J0 5, .pointer (some ⟨b, 0, none⟩), v1, .int .i64 (l2.length : Int), .int .i64 (k : Int), J0 10, J0 11, J0 12, J0 13, J0 14, J0 15, J0 16, J0 17, J0 18, undef], []⟩)
    (fun ⟨k, out, vo, J0⟩ => [rRows true vo 67 6 runC out, rRows true v1 104 6 runC l2, rCell true b [v] 57, rRows true v 104 6 runC l]) (fun ⟨k, out, vo, J0⟩ => k ≤ l2.length ∧ out = (l2.take k).map lkT) (fun ⟨k, out, vo, J0⟩ => l2.length - k)
    ⟨0, [], (.slice none 0 0), (fun n => (#[.pointer (some ⟨b, 0, none⟩), undef, .slice none 0 0, .slice none 0 0, undef, undef, .pointer (some ⟨b, 0, none⟩), v1, .int .i64 (l2.length : Int), .int .i64 0, undef, undef, undef, undef, undef, undef, undef, undef, undef, undef] : Array Value).getD n undef)⟩ ⟨by omega, rfl⟩ (by kernel_rfl) [0, 0, 0, 0] (by kernel_rfl) h ?_
  rintro ⟨k, out, vo, J0⟩ w hG h
  obtain ⟨hk0, ho⟩ : k ≤ l2.length ∧ out = (l2.take k).map lkT := hG
  have hol : out.length ≤ k := by rw [ho]; simp; omega
  refine c_seq ?_
  refine c_reg ?_
  refine sq_p (.bool (decide ((k : Int) < (l2.length : Int)))) rfl (fun _ => by kernel_rfl) ?_
  refine lnil ?_
  refine thn_n ?_
  refine c_seq ?_
  refine c_cond (decide ((k : Int) < (l2.length : Int))) (by kernel_rfl) (fun hc5 => ?_) (fun hc5 => ?_)
  · skip
    have hc5 := of_decide_eq_true hc5
    refine c_skip ?_
    refine thn_n ?_
    refine c_seq ?_
    refine c_block ?_
    refine c_seq ?_
    refine c_reg ?_
    have hi6 : k < l2.length := by omega
    obtain ⟨x7, hx8⟩ : ∃ x, l2[k]? = some x := ⟨_, List.getElem?_eq_getElem hi6⟩
    refine sq_q rfl h (g_idx k (by kernel_rfl) hi6 1 rfl) ?_
    refine sq_q rfl h (g_ldr (b := blkN v1) (offN v1 + k * 6) [.int .i64 x7.1.1, .int .i64 x7.1.2, .int .i64 x7.2.1, .int .i64 x7.2.2.1, .int .i64 x7.2.2.2.1, .bool x7.2.2.2.2] (.agg #[.int .i64 x7.1.1, .int .i64 x7.1.2, .int .i64 x7.2.1, .int .i64 x7.2.2.1, .int .i64 x7.2.2.2.1, .bool x7.2.2.2.2]) (by kernel_rfl) 1 rfl (rdRow0 runC_len hx8 (by kernel_rfl))) ?_
    refine sq_new rfl (fun b => .pointer (some ⟨b, 0, none⟩)) [.int .i64 0, .int .i64 0, .int .i64 0, .int .i64 0, .int .i64 0, .bool false] 104 (fun _ => by kernel_rfl) h ?_; intro k9 w h
    refine sq_st rfl 0 [.int .i64 x7.1.1, .int .i64 x7.1.2, .int .i64 x7.2.1, .int .i64 x7.2.2.1, .int .i64 x7.2.2.2.1, .bool x7.2.2.2.2] [.int .i64 x7.1.1, .int .i64 x7.1.2, .int .i64 x7.2.1, .int .i64 x7.2.2.1, .int .i64 x7.2.2.2.1, .bool x7.2.2.2.2] h 0 rfl (by kernel_rfl) ?_; intro w h
    refine lnil ?_
    refine thn_n ?_
    refine c_reg ?_
    refine sq_p (vo) rfl (fun _ => by kernel_rfl) ?_
    refine sq_q rfl h (g_ld 0 [.int .i64 x7.1.1, .int .i64 x7.1.2, .int .i64 x7.2.1, .int .i64 x7.2.2.1, .int .i64 x7.2.2.2.1, .bool x7.2.2.2.2] (.agg #[.int .i64 x7.1.1, .int .i64 x7.1.2, .int .i64 x7.2.1, .int .i64 x7.2.2.1, .int .i64 x7.2.2.2.1, .bool x7.2.2.2.2]) (by kernel_rfl) 0 rfl) ?_
    refine sq_call #[.agg #[.int .i64 x7.1.1, .int .i64 x7.1.2, .int .i64 x7.2.1, .int .i64 x7.2.2.1, .int .i64 x7.2.2.2.1, .bool x7.2.2.2.2]] [] rfl (lock_spec x7 (hk _ ((hp3).mem_iff.1 (List.mem_of_getElem? hx8)))) (fun _ => by kernel_rfl) h ?_; rintro v_ L_ w ⟨rfl, rfl⟩ h
    refine sq_new rfl (fun b => .slice (some ⟨b, 0, none⟩) 1 1) [.int .i64 x7.1.1, .int .i64 x7.1.2, .int .i64 x7.2.1, .int .i64 x7.2.2.1, .int .i64 (if x7.2.2.2.1 = 1152921504606846976 then 0 else x7.2.2.2.1 - x7.2.2.1), .bool x7.2.2.2.2] 67 (fun _ => by kernel_rfl) h ?_; intro k10 w h
    refine sq_app (b := k10) (o := 0) rfl 1 ((x7.1.1, x7.1.2), x7.2.1, x7.2.2.1, if x7.2.2.2.1 = 1152921504606846976 then 0 else x7.2.2.2.1 - x7.2.2.1, x7.2.2.2.2) (by kernel_rfl) h 2 rfl 0 rfl (rdCell 0 (by kernel_rfl)) (by (try simp only [List.length_append, List.length_cons, List.length_nil]); omega) ?_; intro v11 w h
    refine sq_p (v11) rfl (fun _ => by kernel_rfl) ?_
    refine lnil ?_
    refine blk_n (thn_n ?_)
    refine c_reg ?_
    refine sq_q rfl h (g_eq (v := .int .i64 (IntKind.i64.wrap ((k : Int) + 1))) (v' := .int .i64 ((k + 1 : Nat) : Int)) (g_pure fun _ => by kernel_rfl) (wr (by omega))) ?_
    refine sq_p (.int .i64 ((k + 1 : Nat) : Int)) rfl (fun _ => by kernel_rfl) ?_
    refine lnil ?_
    refine loop_end (fun j => ⟨(k + 1), out ++ [((x7.1.1, x7.1.2), x7.2.1, x7.2.2.1, if x7.2.2.2.1 = 1152921504606846976 then 0 else x7.2.2.2.1 - x7.2.2.1, x7.2.2.2.2)], v11, j⟩) (show ((k + 1) ≤ l2.length ∧ (out ++ [((x7.1.1, x7.1.2), x7.2.1, x7.2.2.1, if x7.2.2.2.1 = 1152921504606846976 then 0 else x7.2.2.2.1 - x7.2.2.1, x7.2.2.2.2)]) = (l2.take (k + 1)).map lkT) ∧ (l2.length - (k + 1)) < (l2.length - k) from ⟨⟨by omega, by rw [map_take hx8, ← ho]; rfl⟩, by omega⟩) (by kernel_rfl) [2, 2, 2, 2] (by kernel_rfl) h
  · skip
    have hc5 := of_decide_eq_false hc5
    refine c_exit ?_
    refine thn_e (rnd_e (blk_e (thn_n ?_)))
    refine c_seq ?_
    refine c_reg ?_
    refine sq_p (vo) rfl (fun _ => by kernel_rfl) ?_
    refine sq_p (vo) rfl (fun _ => by kernel_rfl) ?_
    refine lnil ?_
    refine thn_n ?_
    refine c_ret ?_
    refine ret_end [vo] [0, 1, 1] h (by kernel_rfl) (res_t (by kernel_rfl) res_n) ?_
    rw [ho, List.take_of_length_le (by omega)]
    exact ⟨_, _, ⟨hp3, ho4⟩, rfl, rfl⟩
set_option maxHeartbeats 1000000 in
theorem unlock_spec {B : Nat} (ad : Nat → Addr) (b : Nat) (v : Value) (l : List Run) (n g o a s : Int) (hl : l.length ≤ 1000) : Spec Tryd.prog 24 #[.pointer (some ⟨b, 0, none⟩), .agg #[.int .i64 n, .int .i64 g], .int .i64 o, .agg #[.int .i64 a, .int .i64 s]] [rCell true b [v] 57, rRows true v 104 6 runC l, rEnv B ad [2, 9, 11]] (fun u L => (eOk a s = false ∧ u = errV ad 2 ∧ L = [rCell true b [v] 57, rRows true v 104 6 runC l, rEnv B ad [2, 9, 11]]) ∨ (eOk a s = true ∧ 60 < (cutL l (n, g) o (eF a s) (eT a s)).length ∧ u = errV ad 9 ∧ L = [rCell true b [v] 57, rRows true v 104 6 runC l, rEnv B ad [2, 9, 11]]) ∨ (eOk a s = true ∧ (cutL l (n, g) o (eF a s) (eT a s)).length ≤ 60 ∧ ∃ v', u = .nilIface ∧ L = [rCell true b [v'] 57, rRows true v' 104 6 runC (cutL l (n, g) o (eF a s) (eT a s)), rEnv B ad [2, 9, 11]])) := by
  have hcl := cutL_len l (n, g) o (eF a s) (eT a s)
  refine spec_of (#[.pointer (some ⟨b, 0, none⟩), .agg #[.int .i64 n, .int .i64 g], .int .i64 o, .agg #[.int .i64 a, .int .i64 s], undef, undef, undef, undef, undef, undef, undef, undef, undef, undef, undef, undef, undef, undef, undef, undef, undef, undef, undef, undef, undef, undef, undef, undef, undef, undef, undef, undef]) Tryd.func24 rfl (by kernel_rfl) fun E w0 w h => ?_
  refine c_seq ?_
  refine c_reg ?_
  refine sq_new rfl (fun b => .pointer (some ⟨b, 0, none⟩)) [.int .i64 n, .int .i64 g] 33 (fun _ => by kernel_rfl) h ?_; intro k1 w h
  refine sq_new rfl (fun b => .pointer (some ⟨b, 0, none⟩)) [.int .i64 a, .int .i64 s] 63 (fun _ => by kernel_rfl) h ?_; intro k2 w h
  refine sq_p (.nilIface) rfl (fun _ => by kernel_rfl) ?_
  refine lnil ?_
  refine thn_n ?_
  refine c_seq ?_
  refine c_reg ?_
  refine sq_q rfl h (g_ld 0 [.int .i64 a, .int .i64 s] (.agg #[.int .i64 a, .int .i64 s]) (by kernel_rfl) 0 rfl) ?_
  refine sq_call #[.agg #[.int .i64 a, .int .i64 s]] [] rfl (ends_spec a s) (fun _ => by kernel_rfl) h ?_; rintro v_ L_ w ⟨rfl, rfl⟩ h
  refine sq_p (.tuple #[.int .i64 (eF a s), .int .i64 (eT a s), .bool (eOk a s)]) rfl (fun _ => by kernel_rfl) ?_
  refine sq_p (.int .i64 (eF a s)) rfl (fun _ => by kernel_rfl) ?_
  refine sq_p (.int .i64 (eT a s)) rfl (fun _ => by kernel_rfl) ?_
  refine sq_p (.bool (eOk a s)) rfl (fun _ => by kernel_rfl) ?_
  refine sq_p (.int .i64 (eF a s)) rfl (fun _ => by kernel_rfl) ?_
  refine sq_p (.int .i64 (eT a s)) rfl (fun _ => by kernel_rfl) ?_
  refine sq_p (.bool (eOk a s)) rfl (fun _ => by kernel_rfl) ?_
  refine lnil ?_
  refine thn_n ?_
  refine c_seq ?_
  refine c_seq ?_
  refine c_reg ?_
  refine sq_p (.bool (eOk a s)) rfl (fun _ => by kernel_rfl) ?_
  refine sq_p (.bool (!(eOk a s))) rfl (fun _ => by kernel_rfl) ?_
  refine lnil ?_
  refine thn_n ?_
  refine c_cond (!(eOk a s)) (by kernel_rfl) (fun hc3 => ?_) (fun hc3 => ?_)
  · skip
    have q4 : (eOk a s) = false := by simpa using hc3
    refine c_seq ?_
    refine c_reg ?_
    refine sq_q rfl h (g_ldr (b := gl 2) 0 [errV ad 2] (errV ad 2) (by kernel_rfl) 4 rfl (rdEnv (c := 2) (by decide) rfl)) ?_
    refine sq_p (errV ad 2) rfl (fun _ => by kernel_rfl) ?_
    refine lnil ?_
    refine thn_n ?_
    refine c_ret ?_
    refine thn_r ?_
    refine ret_end [errV ad 2] [2, 2, 2] h (by kernel_rfl) (res_t (by kernel_rfl) res_n) ?_
    exact .inl ⟨by simpa using hc3, rfl, rfl⟩
  · skip
    have q5 : (eOk a s) = true := by simpa using hc3
    refine c_skip ?_
    refine thn_n ?_
    refine c_seq ?_
    refine d_start 12 [1] (by kernel_rfl) h fun w h => ?_
    refine d_take 0 1022 [1] rfl (v := .pointer (some ⟨b, 0, none⟩)) (by kernel_rfl) (qp_thn qp_body) (yq (by kernel_rfl) (g_pure (v := .pointer (some ⟨b, 0, none⟩)) fun _ => by kernel_rfl)) h (by kernel_rfl) ?_
    refine d_take 1 481 [1] rfl (v := .pointer (some ⟨b, 0, none⟩)) (by kernel_rfl) (qp_thn qp_body) (yq (by kernel_rfl) (g_pure (v := .pointer (some ⟨b, 0, none⟩)) fun _ => by kernel_rfl)) h (by kernel_rfl) ?_
    refine d_take 2 483 [1] rfl (v := .pointer (some ⟨b, 0, none⟩)) (by kernel_rfl) (qp_thn qp_body) (yq (by kernel_rfl) (g_pure (v := .pointer (some ⟨b, 0, none⟩)) fun _ => by kernel_rfl)) h (by kernel_rfl) ?_
    refine d_take 3 487 [1] rfl (v := .pointer (some ⟨b, 0, none⟩)) (by kernel_rfl) (qp_thn qp_body) (yq (by kernel_rfl) (g_pure (v := .pointer (some ⟨b, 0, none⟩)) fun _ => by kernel_rfl)) h (by kernel_rfl) ?_
    refine d_take 5 479 [1] rfl (v := .agg #[.int .i64 n, .int .i64 g]) (by kernel_rfl) (qp_thn qp_body) (yq (by kernel_rfl) (g_ld 0 [.int .i64 n, .int .i64 g] (.agg #[.int .i64 n, .int .i64 g]) (by kernel_rfl) 0 rfl)) h (by kernel_rfl) ?_
    refine d_take 6 447 [1] rfl (v := .int .i64 o) (by kernel_rfl) (qp_thn qp_body) (yq (by kernel_rfl) (g_pure (v := .int .i64 o) fun _ => by kernel_rfl)) h (by kernel_rfl) ?_
    refine d_take 7 383 [1] rfl (v := .int .i64 (eF a s)) (by kernel_rfl) (qp_thn qp_body) (yq (by kernel_rfl) (g_pure (v := .int .i64 (eF a s)) fun _ => by kernel_rfl)) h (by kernel_rfl) ?_
    refine d_take 8 255 [1] rfl (v := .int .i64 (eT a s)) (by kernel_rfl) (qp_thn qp_body) (yq (by kernel_rfl) (g_pure (v := .int .i64 (eT a s)) fun _ => by kernel_rfl)) h (by kernel_rfl) ?_
    refine d_ready [4] (by kernel_rfl) rfl ?_
    refine ad_q [1] rfl (by kernel_rfl) (v := v) (g_ld 0 [v] (v) (by kernel_rfl) 2 rfl) h (by kernel_rfl) ?_ ?_
    · skip
      refine d_ready [9] (by kernel_rfl) rfl ?_
      refine ad_call #[v, .agg #[.int .i64 n, .int .i64 g], .int .i64 o, .int .i64 (eF a s), .int .i64 (eT a s)] [3] [3] rfl (by kernel_rfl) (cut_spec true v l n g o (eF a s) (eT a s) (by omega)) (fun _ => by kernel_rfl) h ?_ ?_
      · skip
        rintro v6 L_ w ⟨_, rfl, rfl⟩ h
        refine ⟨by kernel_rfl, ?_⟩
        refine d_ready [10] (by kernel_rfl) rfl ?_
        refine ad_call #[.pointer (some ⟨b, 0, none⟩), v6] [4, 1, 3] [5] rfl (by kernel_rfl) (take_spec ad b v v6 (cutL l (n, g) o (eF a s) (eT a s)) (by omega)) (fun _ => by kernel_rfl) h ?_ ?_
        · skip
          rintro v_ L_ w (⟨hq7, rfl, rfl⟩ | ⟨hq7, rfl, rfl⟩) h
          · skip
            refine ⟨by kernel_rfl, ?_⟩
            refine d_take 11 2047 [5] rfl (v := errV ad 9) (by kernel_rfl) (qp_thn qp_body) (yq (by kernel_rfl) (g_pure (v := errV ad 9) fun _ => by kernel_rfl)) h (by kernel_rfl) ?_
            refine d_done (by kernel_rfl) ?_
            refine thn_n ?_
            refine c_ret ?_
            refine ret_end [errV ad 9] [0, 2, 1] h (by kernel_rfl) (res_t (by kernel_rfl) res_n) ?_
            exact .inr (.inl ⟨by simpa using hc3, hq7, rfl, rfl⟩)
          · skip
            refine ⟨by kernel_rfl, ?_⟩
            refine d_take 11 2047 [5] rfl (v := .nilIface) (by kernel_rfl) (qp_thn qp_body) (yq (by kernel_rfl) (g_pure (v := .nilIface) fun _ => by kernel_rfl)) h (by kernel_rfl) ?_
            refine d_done (by kernel_rfl) ?_
            refine thn_n ?_
            refine c_ret ?_
            refine ret_end [.nilIface] [0, 0, 0] h (by kernel_rfl) (res_t (by kernel_rfl) res_n) ?_
            exact .inr (.inr ⟨by simpa using hc3, hq7, _, rfl, rfl⟩)
        exact ad_nil
      exact ad_nil
    exact ad_nil
set_option maxHeartbeats 1000000 in
theorem lockm_spec {B : Nat} (ad : Nat → Addr) (b : Nat) (v : Value) (l : List Run) (n g o a s : Int) (wb : Bool) (hk : ∀ x ∈ l, BndR x) (hl : l.length ≤ 1000) : Spec Tryd.prog 18 #[.pointer (some ⟨b, 0, none⟩), .agg #[.int .i64 n, .int .i64 g], .int .i64 o, .agg #[.int .i64 a, .int .i64 s], .bool wb] [rCell true b [v] 57, rRows true v 104 6 runC l, rEnv B ad [2, 9, 11]] (fun u L => (eOk a s = false ∧ u = .tuple #[.agg #[.int .i64 0, .int .i64 0, .int .i64 0, .int .i64 0, .int .i64 0, .bool false], errV ad 2] ∧ L = [rCell true b [v] 57, rRows true v 104 6 runC l, rEnv B ad [2, 9, 11]]) ∨ (∃ x, eOk a s = true ∧ Found l (n, g) o (eF a s) (eT a s) wb x ∧ u = .tuple #[lockV x, errV ad 11] ∧ L = [rCell true b [v] 57, rRows true v 104 6 runC l, rEnv B ad [2, 9, 11]]) ∨ (eOk a s = true ∧ (∀ x ∈ l, heldP (n, g) o (eF a s) (eT a s) wb x = false) ∧ ∃ l', l'.Perm (cutL l (n, g) o (eF a s) (eT a s) ++ [((n, g), o, eF a s, eT a s, wb)]) ∧ l'.Pairwise (fun x y => ¬ joinCf y x < 0) ∧ ((60 < (joinL l').length ∧ u = .tuple #[.agg #[.int .i64 0, .int .i64 0, .int .i64 0, .int .i64 0, .int .i64 0, .bool false], errV ad 9] ∧ L = [rCell true b [v] 57, rRows true v 104 6 runC l, rEnv B ad [2, 9, 11]]) ∨ ((joinL l').length ≤ 60 ∧ ∃ v', u = .tuple #[.agg #[.int .i64 0, .int .i64 0, .int .i64 0, .int .i64 0, .int .i64 0, .bool false], .nilIface] ∧ L = [rCell true b [v'] 57, rRows true v' 104 6 runC (joinL l'), rEnv B ad [2, 9, 11]])))) := by
  have hcl := cutL_len l (n, g) o (eF a s) (eT a s)
  refine spec_of (#[.pointer (some ⟨b, 0, none⟩), .agg #[.int .i64 n, .int .i64 g], .int .i64 o, .agg #[.int .i64 a, .int .i64 s], .bool wb, undef, undef, undef, undef, undef, undef, undef, undef, undef, undef, undef, undef, undef, undef, undef, undef, undef, undef, undef, undef, undef, undef, undef, undef, undef, undef, undef, undef, undef, undef, undef, undef, undef, undef, undef, undef, undef, undef, undef, undef, undef, undef, undef, undef, undef, undef, undef, undef, undef, undef, undef, undef]) Tryd.func18 rfl (by kernel_rfl) fun E w0 w h => ?_
  refine c_seq ?_
  refine c_reg ?_
  refine sq_new rfl (fun b => .pointer (some ⟨b, 0, none⟩)) [.int .i64 n, .int .i64 g] 33 (fun _ => by kernel_rfl) h ?_; intro k1 w h
  refine sq_new rfl (fun b => .pointer (some ⟨b, 0, none⟩)) [.int .i64 a, .int .i64 s] 63 (fun _ => by kernel_rfl) h ?_; intro k2 w h
  refine sq_new rfl (fun b => .pointer (some ⟨b, 0, none⟩)) [.int .i64 0, .int .i64 0, .int .i64 0, .int .i64 0, .int .i64 0, .bool false] 67 (fun _ => by kernel_rfl) h ?_; intro k3 w h
  refine sq_p (.nilIface) rfl (fun _ => by kernel_rfl) ?_
  refine lnil ?_
  refine thn_n ?_
  refine c_seq ?_
  refine c_reg ?_
  refine sq_p (.pointer (some ⟨b, 0, none⟩)) rfl (fun _ => by kernel_rfl) ?_
  refine sq_q rfl h (g_ld 0 [.int .i64 n, .int .i64 g] (.agg #[.int .i64 n, .int .i64 g]) (by kernel_rfl) 2 rfl) ?_
  refine sq_p (.int .i64 o) rfl (fun _ => by kernel_rfl) ?_
  refine sq_q rfl h (g_ld 0 [.int .i64 a, .int .i64 s] (.agg #[.int .i64 a, .int .i64 s]) (by kernel_rfl) 1 rfl) ?_
  refine sq_p (.bool wb) rfl (fun _ => by kernel_rfl) ?_
  refine sq_call #[.pointer (some ⟨b, 0, none⟩), .agg #[.int .i64 n, .int .i64 g], .int .i64 o, .agg #[.int .i64 a, .int .i64 s], .bool wb] [3, 3, 3] rfl (test_spec ad b n g o a s wb l _ hk hl) (fun _ => by kernel_rfl) h ?_; rintro v_ L_ w (⟨hq4, rfl, rfl⟩ | ⟨x5, hq4, hq6, rfl, rfl⟩ | ⟨hq4, hq6, rfl, rfl⟩) h
  · skip
    refine sq_p (.tuple #[.agg #[.int .i64 0, .int .i64 0, .int .i64 0, .int .i64 0, .int .i64 0, .bool false], errV ad 2]) rfl (fun _ => by kernel_rfl) ?_
    refine sq_p (.agg #[.int .i64 0, .int .i64 0, .int .i64 0, .int .i64 0, .int .i64 0, .bool false]) rfl (fun _ => by kernel_rfl) ?_
    refine sq_p (errV ad 2) rfl (fun _ => by kernel_rfl) ?_
    refine sq_new rfl (fun b => .pointer (some ⟨b, 0, none⟩)) [.int .i64 0, .int .i64 0, .int .i64 0, .int .i64 0, .int .i64 0, .bool false] 67 (fun _ => by kernel_rfl) h ?_; intro k7 w h
    refine sq_st rfl 0 [.int .i64 0, .int .i64 0, .int .i64 0, .int .i64 0, .int .i64 0, .bool false] [.int .i64 0, .int .i64 0, .int .i64 0, .int .i64 0, .int .i64 0, .bool false] h 0 rfl (by kernel_rfl) ?_; intro w h
    refine sq_p (errV ad 2) rfl (fun _ => by kernel_rfl) ?_
    refine lnil ?_
    refine thn_n ?_
    refine c_seq ?_
    refine c_seq ?_
    refine c_reg ?_
    refine sq_p (errV ad 2) rfl (fun _ => by kernel_rfl) ?_
    refine sq_p (.bool true) rfl (fun _ => by kernel_rfl) ?_
    refine lnil ?_
    refine thn_n ?_
    refine c_true (by kernel_rfl) ?_
    refine c_seq ?_
    refine c_reg ?_
    refine sq_q rfl h (g_ld 0 [.int .i64 0, .int .i64 0, .int .i64 0, .int .i64 0, .int .i64 0, .bool false] (.agg #[.int .i64 0, .int .i64 0, .int .i64 0, .int .i64 0, .int .i64 0, .bool false]) (by kernel_rfl) 0 rfl) ?_
    refine sq_p (errV ad 2) rfl (fun _ => by kernel_rfl) ?_
    refine sq_st rfl 0 [.int .i64 0, .int .i64 0, .int .i64 0, .int .i64 0, .int .i64 0, .bool false] [.int .i64 0, .int .i64 0, .int .i64 0, .int .i64 0, .int .i64 0, .bool false] h 4 rfl (by kernel_rfl) ?_; intro w h
    refine sq_p (errV ad 2) rfl (fun _ => by kernel_rfl) ?_
    refine lnil ?_
    refine thn_n ?_
    refine c_ret ?_
    refine thn_r ?_
    refine ret_end [.agg #[.int .i64 0, .int .i64 0, .int .i64 0, .int .i64 0, .int .i64 0, .bool false], errV ad 2] [1, 1, 1] h (by kernel_rfl) (res_c 0 [.int .i64 0, .int .i64 0, .int .i64 0, .int .i64 0, .int .i64 0, .bool false] (.agg #[.int .i64 0, .int .i64 0, .int .i64 0, .int .i64 0, .int .i64 0, .bool false]) 4 rfl (by kernel_rfl) (res_t (by kernel_rfl) res_n)) ?_
    exact .inl ⟨hq4, rfl, rfl⟩
  · skip
    refine sq_p (.tuple #[.agg #[.int .i64 x5.1.1, .int .i64 x5.1.2, .int .i64 x5.2.1, .int .i64 x5.2.2.1, .int .i64 (if x5.2.2.2.1 = 1152921504606846976 then 0 else x5.2.2.2.1 - x5.2.2.1), .bool x5.2.2.2.2], errV ad 11]) rfl (fun _ => by kernel_rfl) ?_
    refine sq_p (.agg #[.int .i64 x5.1.1, .int .i64 x5.1.2, .int .i64 x5.2.1, .int .i64 x5.2.2.1, .int .i64 (if x5.2.2.2.1 = 1152921504606846976 then 0 else x5.2.2.2.1 - x5.2.2.1), .bool x5.2.2.2.2]) rfl (fun _ => by kernel_rfl) ?_
    refine sq_p (errV ad 11) rfl (fun _ => by kernel_rfl) ?_
    refine sq_new rfl (fun b => .pointer (some ⟨b, 0, none⟩)) [.int .i64 0, .int .i64 0, .int .i64 0, .int .i64 0, .int .i64 0, .bool false] 67 (fun _ => by kernel_rfl) h ?_; intro k8 w h
    refine sq_st rfl 0 [.int .i64 x5.1.1, .int .i64 x5.1.2, .int .i64 x5.2.1, .int .i64 x5.2.2.1, .int .i64 (if x5.2.2.2.1 = 1152921504606846976 then 0 else x5.2.2.2.1 - x5.2.2.1), .bool x5.2.2.2.2] [.int .i64 x5.1.1, .int .i64 x5.1.2, .int .i64 x5.2.1, .int .i64 x5.2.2.1, .int .i64 (if x5.2.2.2.1 = 1152921504606846976 then 0 else x5.2.2.2.1 - x5.2.2.1), .bool x5.2.2.2.2] h 0 rfl (by kernel_rfl) ?_; intro w h
    refine sq_p (errV ad 11) rfl (fun _ => by kernel_rfl) ?_
    refine lnil ?_
    refine thn_n ?_
    refine c_seq ?_
    refine c_seq ?_
    refine c_reg ?_
    refine sq_p (errV ad 11) rfl (fun _ => by kernel_rfl) ?_
    refine sq_p (.bool true) rfl (fun _ => by kernel_rfl) ?_
    refine lnil ?_
    refine thn_n ?_
    refine c_true (by kernel_rfl) ?_
    refine c_seq ?_
    refine c_reg ?_
    refine sq_q rfl h (g_ld 0 [.int .i64 x5.1.1, .int .i64 x5.1.2, .int .i64 x5.2.1, .int .i64 x5.2.2.1, .int .i64 (if x5.2.2.2.1 = 1152921504606846976 then 0 else x5.2.2.2.1 - x5.2.2.1), .bool x5.2.2.2.2] (.agg #[.int .i64 x5.1.1, .int .i64 x5.1.2, .int .i64 x5.2.1, .int .i64 x5.2.2.1, .int .i64 (if x5.2.2.2.1 = 1152921504606846976 then 0 else x5.2.2.2.1 - x5.2.2.1), .bool x5.2.2.2.2]) (by kernel_rfl) 0 rfl) ?_
    refine sq_p (errV ad 11) rfl (fun _ => by kernel_rfl) ?_
    refine sq_st rfl 0 [.int .i64 x5.1.1, .int .i64 x5.1.2, .int .i64 x5.2.1, .int .i64 x5.2.2.1, .int .i64 (if x5.2.2.2.1 = 1152921504606846976 then 0 else x5.2.2.2.1 - x5.2.2.1), .bool x5.2.2.2.2] [.int .i64 x5.1.1, .int .i64 x5.1.2, .int .i64 x5.2.1, .int .i64 x5.2.2.1, .int .i64 (if x5.2.2.2.1 = 1152921504606846976 then 0 else x5.2.2.2.1 - x5.2.2.1), .bool x5.2.2.2.2] h 4 rfl (by kernel_rfl) ?_; intro w h
    refine sq_p (errV ad 11) rfl (fun _ => by kernel_rfl) ?_
    refine lnil ?_
    refine thn_n ?_
    refine c_ret ?_
    refine thn_r ?_
    refine ret_end [.agg #[.int .i64 x5.1.1, .int .i64 x5.1.2, .int .i64 x5.2.1, .int .i64 x5.2.2.1, .int .i64 (if x5.2.2.2.1 = 1152921504606846976 then 0 else x5.2.2.2.1 - x5.2.2.1), .bool x5.2.2.2.2], errV ad 11] [1, 1, 1] h (by kernel_rfl) (res_c 0 [.int .i64 x5.1.1, .int .i64 x5.1.2, .int .i64 x5.2.1, .int .i64 x5.2.2.1, .int .i64 (if x5.2.2.2.1 = 1152921504606846976 then 0 else x5.2.2.2.1 - x5.2.2.1), .bool x5.2.2.2.2] (.agg #[.int .i64 x5.1.1, .int .i64 x5.1.2, .int .i64 x5.2.1, .int .i64 x5.2.2.1, .int .i64 (if x5.2.2.2.1 = 1152921504606846976 then 0 else x5.2.2.2.1 - x5.2.2.1), .bool x5.2.2.2.2]) 4 rfl (by kernel_rfl) (res_t (by kernel_rfl) res_n)) ?_
    exact .inr (.inl ⟨x5, hq4, hq6, rfl, rfl⟩)
  · skip
    refine sq_p (.tuple #[.agg #[.int .i64 0, .int .i64 0, .int .i64 0, .int .i64 0, .int .i64 0, .bool false], .nilIface]) rfl (fun _ => by kernel_rfl) ?_
    refine sq_p (.agg #[.int .i64 0, .int .i64 0, .int .i64 0, .int .i64 0, .int .i64 0, .bool false]) rfl (fun _ => by kernel_rfl) ?_
    refine sq_p (.nilIface) rfl (fun _ => by kernel_rfl) ?_
    refine sq_new rfl (fun b => .pointer (some ⟨b, 0, none⟩)) [.int .i64 0, .int .i64 0, .int .i64 0, .int .i64 0, .int .i64 0, .bool false] 67 (fun _ => by kernel_rfl) h ?_; intro k9 w h
    refine sq_st rfl 0 [.int .i64 0, .int .i64 0, .int .i64 0, .int .i64 0, .int .i64 0, .bool false] [.int .i64 0, .int .i64 0, .int .i64 0, .int .i64 0, .int .i64 0, .bool false] h 0 rfl (by kernel_rfl) ?_; intro w h
    refine sq_p (.nilIface) rfl (fun _ => by kernel_rfl) ?_
    refine lnil ?_
    refine thn_n ?_
    refine c_seq ?_
    refine c_seq ?_
    refine c_reg ?_
    refine sq_p (.nilIface) rfl (fun _ => by kernel_rfl) ?_
    refine sq_p (.bool false) rfl (fun _ => by kernel_rfl) ?_
    refine lnil ?_
    refine thn_n ?_
    refine c_false (by kernel_rfl) ?_
    refine c_skip ?_
    refine thn_n ?_
    refine c_seq ?_
    refine c_reg ?_
    refine sq_q rfl h (g_ld 0 [.int .i64 a, .int .i64 s] (.agg #[.int .i64 a, .int .i64 s]) (by kernel_rfl) 5 rfl) ?_
    refine sq_call #[.agg #[.int .i64 a, .int .i64 s]] [] rfl (ends_spec a s) (fun _ => by kernel_rfl) h ?_; rintro v_ L_ w ⟨rfl, rfl⟩ h
    refine sq_p (.tuple #[.int .i64 (eF a s), .int .i64 (eT a s), .bool (eOk a s)]) rfl (fun _ => by kernel_rfl) ?_
    refine sq_p (.int .i64 (eF a s)) rfl (fun _ => by kernel_rfl) ?_
    refine sq_p (.int .i64 (eT a s)) rfl (fun _ => by kernel_rfl) ?_
    refine sq_p (.bool (eOk a s)) rfl (fun _ => by kernel_rfl) ?_
    refine sq_p (.int .i64 (eF a s)) rfl (fun _ => by kernel_rfl) ?_
    refine sq_p (.int .i64 (eT a s)) rfl (fun _ => by kernel_rfl) ?_
    refine sq_p (.bool (eOk a s)) rfl (fun _ => by kernel_rfl) ?_
    refine lnil ?_
    refine thn_n ?_
    refine c_seq ?_
    refine d_start 23 [6] (by kernel_rfl) h fun w h => ?_
    refine d_take 0 2097150 [6] rfl (v := .agg #[.int .i64 0, .int .i64 0, .int .i64 0, .int .i64 0, .int .i64 0, .bool false]) (by kernel_rfl) (qp_thn qp_body) (yq (by kernel_rfl) (g_pure (v := .agg #[.int .i64 0, .int .i64 0, .int .i64 0, .int .i64 0, .int .i64 0, .bool false]) fun _ => by kernel_rfl)) h (by kernel_rfl) ?_
    refine d_take 1 1048573 [6] rfl (v := .pointer (some ⟨b, 0, none⟩)) (by kernel_rfl) (qp_thn qp_body) (yq (by kernel_rfl) (g_pure (v := .pointer (some ⟨b, 0, none⟩)) fun _ => by kernel_rfl)) h (by kernel_rfl) ?_
    refine d_take 2 261059 [6] rfl (v := .pointer (some ⟨b, 0, none⟩)) (by kernel_rfl) (qp_thn qp_body) (yq (by kernel_rfl) (g_pure (v := .pointer (some ⟨b, 0, none⟩)) fun _ => by kernel_rfl)) h (by kernel_rfl) ?_
    refine d_take 3 261063 [6] rfl (v := .pointer (some ⟨b, 0, none⟩)) (by kernel_rfl) (qp_thn qp_body) (yq (by kernel_rfl) (g_pure (v := .pointer (some ⟨b, 0, none⟩)) fun _ => by kernel_rfl)) h (by kernel_rfl) ?_
    refine d_take 4 261071 [6] rfl (v := .pointer (some ⟨b, 0, none⟩)) (by kernel_rfl) (qp_thn qp_body) (yq (by kernel_rfl) (g_pure (v := .pointer (some ⟨b, 0, none⟩)) fun _ => by kernel_rfl)) h (by kernel_rfl) ?_
    refine d_take 6 261055 [6] rfl (v := .agg #[.int .i64 n, .int .i64 g]) (by kernel_rfl) (qp_thn qp_body) (yq (by kernel_rfl) (g_ld 0 [.int .i64 n, .int .i64 g] (.agg #[.int .i64 n, .int .i64 g]) (by kernel_rfl) 0 rfl)) h (by kernel_rfl) ?_
    refine d_take 7 260991 [6] rfl (v := .int .i64 o) (by kernel_rfl) (qp_thn qp_body) (yq (by kernel_rfl) (g_pure (v := .int .i64 o) fun _ => by kernel_rfl)) h (by kernel_rfl) ?_
    refine d_take 8 260863 [6] rfl (v := .int .i64 (eF a s)) (by kernel_rfl) (qp_thn qp_body) (yq (by kernel_rfl) (g_pure (v := .int .i64 (eF a s)) fun _ => by kernel_rfl)) h (by kernel_rfl) ?_
    refine d_take 9 260607 [6] rfl (v := .int .i64 (eT a s)) (by kernel_rfl) (qp_thn qp_body) (yq (by kernel_rfl) (g_pure (v := .int .i64 (eT a s)) fun _ => by kernel_rfl)) h (by kernel_rfl) ?_
    refine d_take 11 63487 [6] rfl (v := .agg #[.int .i64 n, .int .i64 g]) (by kernel_rfl) (qp_thn qp_body) (yq (by kernel_rfl) (g_ld 0 [.int .i64 n, .int .i64 g] (.agg #[.int .i64 n, .int .i64 g]) (by kernel_rfl) 0 rfl)) h (by kernel_rfl) ?_
    refine d_take 12 61439 [6] rfl (v := .int .i64 o) (by kernel_rfl) (qp_thn qp_body) (yq (by kernel_rfl) (g_pure (v := .int .i64 o) fun _ => by kernel_rfl)) h (by kernel_rfl) ?_
    refine d_take 13 57343 [6] rfl (v := .int .i64 (eF a s)) (by kernel_rfl) (qp_thn qp_body) (yq (by kernel_rfl) (g_pure (v := .int .i64 (eF a s)) fun _ => by kernel_rfl)) h (by kernel_rfl) ?_
    refine d_take 14 49151 [6] rfl (v := .int .i64 (eT a s)) (by kernel_rfl) (qp_thn qp_body) (yq (by kernel_rfl) (g_pure (v := .int .i64 (eT a s)) fun _ => by kernel_rfl)) h (by kernel_rfl) ?_
    refine d_take 15 32767 [6] rfl (v := .bool wb) (by kernel_rfl) (qp_thn qp_body) (yq (by kernel_rfl) (g_pure (v := .bool wb) fun _ => by kernel_rfl)) h (by kernel_rfl) ?_
    refine d_take 16 65535 [6] rfl (v := .agg #[.int .i64 n, .int .i64 g, .int .i64 o, .int .i64 (eF a s), .int .i64 (eT a s), .bool wb]) (by kernel_rfl) (qp_thn qp_body) (yq (by kernel_rfl) (g_pure (v := .agg #[.int .i64 n, .int .i64 g, .int .i64 o, .int .i64 (eF a s), .int .i64 (eT a s), .bool wb]) fun _ => by kernel_rfl)) h (by kernel_rfl) ?_
    refine d_ready [5, 17] (by kernel_rfl) rfl ?_
    refine ad_q [6] rfl (by kernel_rfl) (v := v) (g_ld 0 [v] (v) (by kernel_rfl) 1 rfl) h (by kernel_rfl) ?_ ?_
    · skip
      refine d_ready [10, 17] (by kernel_rfl) rfl ?_
      refine ad_call #[v, .agg #[.int .i64 n, .int .i64 g], .int .i64 o, .int .i64 (eF a s), .int .i64 (eT a s)] [2] [7] rfl (by kernel_rfl) (cut_spec true v l n g o (eF a s) (eT a s) (by omega)) (fun _ => by kernel_rfl) h ?_ ?_
      · skip
        rintro v10 L_ w ⟨_, rfl, rfl⟩ h
        refine ⟨by kernel_rfl, ?_⟩
        refine d_ready [17] (by kernel_rfl) rfl ?_
        refine ad_new [8] rfl (by kernel_rfl) (fun b => .slice (some ⟨b, 0, none⟩) 1 1) [.int .i64 n, .int .i64 g, .int .i64 o, .int .i64 (eF a s), .int .i64 (eT a s), .bool wb] 104 (fun _ => by kernel_rfl) h ?_ ?_
        · skip
          intro k11 w h; refine ⟨by kernel_rfl, ?_⟩
          refine d_ready [18] (by kernel_rfl) rfl ?_
          refine ad_app (b := k11) (o := 0) [8] rfl (by kernel_rfl) 1 ((n, g), o, eF a s, eT a s, wb) (by kernel_rfl) h 2 rfl 0 rfl (rdCell 0 (by kernel_rfl)) (by (try simp only [List.length_append, List.length_cons, List.length_nil]); omega) ?_ ?_
          · skip
            intro v12 w h; refine ⟨by kernel_rfl, ?_⟩
            refine d_ready [19] (by kernel_rfl) rfl ?_
            refine ad_call #[v12] [2] [9] rfl (by kernel_rfl) (join_spec v12 (cutL l (n, g) o (eF a s) (eT a s) ++ [((n, g), o, eF a s, eT a s, wb)]) (by simp only [List.length_append, List.length_cons, List.length_nil]; omega)) (fun _ => by kernel_rfl) h ?_ ?_
            · skip
              rintro v13 L_ w ⟨_, l14, ⟨hp15, ho16⟩, rfl, rfl⟩ h
              refine ⟨by kernel_rfl, ?_⟩
              have hp15l := hp15.length_eq
              have hp15j := joinL_len l14
              simp only [List.length_append, List.length_cons, List.length_nil] at hp15l
              refine d_ready [20] (by kernel_rfl) rfl ?_
              refine ad_call #[.pointer (some ⟨b, 0, none⟩), v13] [5, 1, 4] [9] rfl (by kernel_rfl) (take_spec ad b v v13 (joinL l14) (by omega)) (fun _ => by kernel_rfl) h ?_ ?_
              · skip
                rintro v_ L_ w (⟨hq17, rfl, rfl⟩ | ⟨hq17, rfl, rfl⟩) h
                · skip
                  refine ⟨by kernel_rfl, ?_⟩
                  refine d_ready [21] (by kernel_rfl) rfl ?_
                  refine ad_st [9] rfl (by kernel_rfl) 0 [.int .i64 0, .int .i64 0, .int .i64 0, .int .i64 0, .int .i64 0, .bool false] [.int .i64 0, .int .i64 0, .int .i64 0, .int .i64 0, .int .i64 0, .bool false] h 7 rfl (by kernel_rfl) ?_ ?_
                  · skip
                    intro w h; refine ⟨by kernel_rfl, ?_⟩
                    refine d_take 22 4194303 [9] rfl (v := errV ad 9) (by kernel_rfl) (qp_thn qp_body) (yq (by kernel_rfl) (g_pure (v := errV ad 9) fun _ => by kernel_rfl)) h (by kernel_rfl) ?_
                    refine d_done (by kernel_rfl) ?_
                    refine thn_n ?_
                    refine c_ret ?_
                    refine ret_end [.agg #[.int .i64 0, .int .i64 0, .int .i64 0, .int .i64 0, .int .i64 0, .bool false], errV ad 9] [0, 4, 1] h (by kernel_rfl) (res_c 0 [.int .i64 0, .int .i64 0, .int .i64 0, .int .i64 0, .int .i64 0, .bool false] (.agg #[.int .i64 0, .int .i64 0, .int .i64 0, .int .i64 0, .int .i64 0, .bool false]) 7 rfl (by kernel_rfl) (res_t (by kernel_rfl) res_n)) ?_
                    exact .inr (.inr ⟨hq4, hq6, _, hp15, ho16, .inl ⟨hq17, rfl, rfl⟩⟩)
                  exact ad_nil
                · skip
                  refine ⟨by kernel_rfl, ?_⟩
                  refine d_ready [21] (by kernel_rfl) rfl ?_
                  refine ad_st [9] rfl (by kernel_rfl) 0 [.int .i64 0, .int .i64 0, .int .i64 0, .int .i64 0, .int .i64 0, .bool false] [.int .i64 0, .int .i64 0, .int .i64 0, .int .i64 0, .int .i64 0, .bool false] h 7 rfl (by kernel_rfl) ?_ ?_
                  · skip
                    intro w h; refine ⟨by kernel_rfl, ?_⟩
                    refine d_take 22 4194303 [9] rfl (v := .nilIface) (by kernel_rfl) (qp_thn qp_body) (yq (by kernel_rfl) (g_pure (v := .nilIface) fun _ => by kernel_rfl)) h (by kernel_rfl) ?_
                    refine d_done (by kernel_rfl) ?_
                    refine thn_n ?_
                    refine c_ret ?_
                    refine ret_end [.agg #[.int .i64 0, .int .i64 0, .int .i64 0, .int .i64 0, .int .i64 0, .bool false], .nilIface] [0, 0, 0] h (by kernel_rfl) (res_c 0 [.int .i64 0, .int .i64 0, .int .i64 0, .int .i64 0, .int .i64 0, .bool false] (.agg #[.int .i64 0, .int .i64 0, .int .i64 0, .int .i64 0, .int .i64 0, .bool false]) 7 rfl (by kernel_rfl) (res_t (by kernel_rfl) res_n)) ?_
                    exact .inr (.inr ⟨hq4, hq6, _, hp15, ho16, .inr ⟨hq17, _, rfl, rfl⟩⟩)
                  exact ad_nil
              exact ad_nil
            exact ad_nil
          exact ad_nil
        exact ad_nil
      refine ad_new [7] rfl (by kernel_rfl) (fun b => .slice (some ⟨b, 0, none⟩) 1 1) [.int .i64 n, .int .i64 g, .int .i64 o, .int .i64 (eF a s), .int .i64 (eT a s), .bool wb] 104 (fun _ => by kernel_rfl) h ?_ ?_
      · skip
        intro k18 w h; refine ⟨by kernel_rfl, ?_⟩
        refine d_ready [10] (by kernel_rfl) rfl ?_
        refine ad_call #[v, .agg #[.int .i64 n, .int .i64 g], .int .i64 o, .int .i64 (eF a s), .int .i64 (eT a s)] [3] [8] rfl (by kernel_rfl) (cut_spec true v l n g o (eF a s) (eT a s) (by omega)) (fun _ => by kernel_rfl) h ?_ ?_
        · skip
          rintro v19 L_ w ⟨_, rfl, rfl⟩ h
          refine ⟨by kernel_rfl, ?_⟩
          refine d_ready [18] (by kernel_rfl) rfl ?_
          refine ad_app (b := k18) (o := 0) [8] rfl (by kernel_rfl) 1 ((n, g), o, eF a s, eT a s, wb) (by kernel_rfl) h 1 rfl 2 rfl (rdCell 0 (by kernel_rfl)) (by (try simp only [List.length_append, List.length_cons, List.length_nil]); omega) ?_ ?_
          · skip
            intro v20 w h; refine ⟨by kernel_rfl, ?_⟩
            refine d_ready [19] (by kernel_rfl) rfl ?_
            refine ad_call #[v20] [1] [9] rfl (by kernel_rfl) (join_spec v20 (cutL l (n, g) o (eF a s) (eT a s) ++ [((n, g), o, eF a s, eT a s, wb)]) (by simp only [List.length_append, List.length_cons, List.length_nil]; omega)) (fun _ => by kernel_rfl) h ?_ ?_
            · skip
              rintro v21 L_ w ⟨_, l22, ⟨hp23, ho24⟩, rfl, rfl⟩ h
              refine ⟨by kernel_rfl, ?_⟩
              have hp23l := hp23.length_eq
              have hp23j := joinL_len l22
              simp only [List.length_append, List.length_cons, List.length_nil] at hp23l
              refine d_ready [20] (by kernel_rfl) rfl ?_
              refine ad_call #[.pointer (some ⟨b, 0, none⟩), v21] [5, 1, 4] [9] rfl (by kernel_rfl) (take_spec ad b v v21 (joinL l22) (by omega)) (fun _ => by kernel_rfl) h ?_ ?_
              · skip
                rintro v_ L_ w (⟨hq25, rfl, rfl⟩ | ⟨hq25, rfl, rfl⟩) h
                · skip
                  refine ⟨by kernel_rfl, ?_⟩
                  refine d_ready [21] (by kernel_rfl) rfl ?_
                  refine ad_st [9] rfl (by kernel_rfl) 0 [.int .i64 0, .int .i64 0, .int .i64 0, .int .i64 0, .int .i64 0, .bool false] [.int .i64 0, .int .i64 0, .int .i64 0, .int .i64 0, .int .i64 0, .bool false] h 7 rfl (by kernel_rfl) ?_ ?_
                  · skip
                    intro w h; refine ⟨by kernel_rfl, ?_⟩
                    refine d_take 22 4194303 [9] rfl (v := errV ad 9) (by kernel_rfl) (qp_thn qp_body) (yq (by kernel_rfl) (g_pure (v := errV ad 9) fun _ => by kernel_rfl)) h (by kernel_rfl) ?_
                    refine d_done (by kernel_rfl) ?_
                    refine thn_n ?_
                    refine c_ret ?_
                    refine ret_end [.agg #[.int .i64 0, .int .i64 0, .int .i64 0, .int .i64 0, .int .i64 0, .bool false], errV ad 9] [0, 3, 1] h (by kernel_rfl) (res_c 0 [.int .i64 0, .int .i64 0, .int .i64 0, .int .i64 0, .int .i64 0, .bool false] (.agg #[.int .i64 0, .int .i64 0, .int .i64 0, .int .i64 0, .int .i64 0, .bool false]) 7 rfl (by kernel_rfl) (res_t (by kernel_rfl) res_n)) ?_
                    exact .inr (.inr ⟨hq4, hq6, _, hp23, ho24, .inl ⟨hq25, rfl, rfl⟩⟩)
                  exact ad_nil
                · skip
                  refine ⟨by kernel_rfl, ?_⟩
                  refine d_ready [21] (by kernel_rfl) rfl ?_
                  refine ad_st [9] rfl (by kernel_rfl) 0 [.int .i64 0, .int .i64 0, .int .i64 0, .int .i64 0, .int .i64 0, .bool false] [.int .i64 0, .int .i64 0, .int .i64 0, .int .i64 0, .int .i64 0, .bool false] h 7 rfl (by kernel_rfl) ?_ ?_
                  · skip
                    intro w h; refine ⟨by kernel_rfl, ?_⟩
                    refine d_take 22 4194303 [9] rfl (v := .nilIface) (by kernel_rfl) (qp_thn qp_body) (yq (by kernel_rfl) (g_pure (v := .nilIface) fun _ => by kernel_rfl)) h (by kernel_rfl) ?_
                    refine d_done (by kernel_rfl) ?_
                    refine thn_n ?_
                    refine c_ret ?_
                    refine ret_end [.agg #[.int .i64 0, .int .i64 0, .int .i64 0, .int .i64 0, .int .i64 0, .bool false], .nilIface] [0, 0, 0] h (by kernel_rfl) (res_c 0 [.int .i64 0, .int .i64 0, .int .i64 0, .int .i64 0, .int .i64 0, .bool false] (.agg #[.int .i64 0, .int .i64 0, .int .i64 0, .int .i64 0, .int .i64 0, .bool false]) 7 rfl (by kernel_rfl) (res_t (by kernel_rfl) res_n)) ?_
                    exact .inr (.inr ⟨hq4, hq6, _, hp23, ho24, .inr ⟨hq25, _, rfl, rfl⟩⟩)
                  exact ad_nil
              exact ad_nil
            exact ad_nil
          exact ad_nil
        exact ad_nil
      exact ad_nil
    refine ad_new [7] rfl (by kernel_rfl) (fun b => .slice (some ⟨b, 0, none⟩) 1 1) [.int .i64 n, .int .i64 g, .int .i64 o, .int .i64 (eF a s), .int .i64 (eT a s), .bool wb] 104 (fun _ => by kernel_rfl) h ?_ ?_
    · skip
      intro k26 w h; refine ⟨by kernel_rfl, ?_⟩
      refine d_ready [5] (by kernel_rfl) rfl ?_
      refine ad_q [7] rfl (by kernel_rfl) (v := v) (g_ld 0 [v] (v) (by kernel_rfl) 2 rfl) h (by kernel_rfl) ?_ ?_
      · skip
        refine d_ready [10] (by kernel_rfl) rfl ?_
        refine ad_call #[v, .agg #[.int .i64 n, .int .i64 g], .int .i64 o, .int .i64 (eF a s), .int .i64 (eT a s)] [3] [8] rfl (by kernel_rfl) (cut_spec true v l n g o (eF a s) (eT a s) (by omega)) (fun _ => by kernel_rfl) h ?_ ?_
        · skip
          rintro v27 L_ w ⟨_, rfl, rfl⟩ h
          refine ⟨by kernel_rfl, ?_⟩
          refine d_ready [18] (by kernel_rfl) rfl ?_
          refine ad_app (b := k26) (o := 0) [8] rfl (by kernel_rfl) 1 ((n, g), o, eF a s, eT a s, wb) (by kernel_rfl) h 1 rfl 2 rfl (rdCell 0 (by kernel_rfl)) (by (try simp only [List.length_append, List.length_cons, List.length_nil]); omega) ?_ ?_
          · skip
            intro v28 w h; refine ⟨by kernel_rfl, ?_⟩
            refine d_ready [19] (by kernel_rfl) rfl ?_
            refine ad_call #[v28] [1] [9] rfl (by kernel_rfl) (join_spec v28 (cutL l (n, g) o (eF a s) (eT a s) ++ [((n, g), o, eF a s, eT a s, wb)]) (by simp only [List.length_append, List.length_cons, List.length_nil]; omega)) (fun _ => by kernel_rfl) h ?_ ?_
            · skip
              rintro v29 L_ w ⟨_, l30, ⟨hp31, ho32⟩, rfl, rfl⟩ h
              refine ⟨by kernel_rfl, ?_⟩
              have hp31l := hp31.length_eq
              have hp31j := joinL_len l30
              simp only [List.length_append, List.length_cons, List.length_nil] at hp31l
              refine d_ready [20] (by kernel_rfl) rfl ?_
              refine ad_call #[.pointer (some ⟨b, 0, none⟩), v29] [5, 1, 4] [9] rfl (by kernel_rfl) (take_spec ad b v v29 (joinL l30) (by omega)) (fun _ => by kernel_rfl) h ?_ ?_
              · skip
                rintro v_ L_ w (⟨hq33, rfl, rfl⟩ | ⟨hq33, rfl, rfl⟩) h
                · skip
                  refine ⟨by kernel_rfl, ?_⟩
                  refine d_ready [21] (by kernel_rfl) rfl ?_
                  refine ad_st [9] rfl (by kernel_rfl) 0 [.int .i64 0, .int .i64 0, .int .i64 0, .int .i64 0, .int .i64 0, .bool false] [.int .i64 0, .int .i64 0, .int .i64 0, .int .i64 0, .int .i64 0, .bool false] h 7 rfl (by kernel_rfl) ?_ ?_
                  · skip
                    intro w h; refine ⟨by kernel_rfl, ?_⟩
                    refine d_take 22 4194303 [9] rfl (v := errV ad 9) (by kernel_rfl) (qp_thn qp_body) (yq (by kernel_rfl) (g_pure (v := errV ad 9) fun _ => by kernel_rfl)) h (by kernel_rfl) ?_
                    refine d_done (by kernel_rfl) ?_
                    refine thn_n ?_
                    refine c_ret ?_
                    refine ret_end [.agg #[.int .i64 0, .int .i64 0, .int .i64 0, .int .i64 0, .int .i64 0, .bool false], errV ad 9] [0, 3, 1] h (by kernel_rfl) (res_c 0 [.int .i64 0, .int .i64 0, .int .i64 0, .int .i64 0, .int .i64 0, .bool false] (.agg #[.int .i64 0, .int .i64 0, .int .i64 0, .int .i64 0, .int .i64 0, .bool false]) 7 rfl (by kernel_rfl) (res_t (by kernel_rfl) res_n)) ?_
                    exact .inr (.inr ⟨hq4, hq6, _, hp31, ho32, .inl ⟨hq33, rfl, rfl⟩⟩)
                  exact ad_nil
                · skip
                  refine ⟨by kernel_rfl, ?_⟩
                  refine d_ready [21] (by kernel_rfl) rfl ?_
                  refine ad_st [9] rfl (by kernel_rfl) 0 [.int .i64 0, .int .i64 0, .int .i64 0, .int .i64 0, .int .i64 0, .bool false] [.int .i64 0, .int .i64 0, .int .i64 0, .int .i64 0, .int .i64 0, .bool false] h 7 rfl (by kernel_rfl) ?_ ?_
                  · skip
                    intro w h; refine ⟨by kernel_rfl, ?_⟩
                    refine d_take 22 4194303 [9] rfl (v := .nilIface) (by kernel_rfl) (qp_thn qp_body) (yq (by kernel_rfl) (g_pure (v := .nilIface) fun _ => by kernel_rfl)) h (by kernel_rfl) ?_
                    refine d_done (by kernel_rfl) ?_
                    refine thn_n ?_
                    refine c_ret ?_
                    refine ret_end [.agg #[.int .i64 0, .int .i64 0, .int .i64 0, .int .i64 0, .int .i64 0, .bool false], .nilIface] [0, 0, 0] h (by kernel_rfl) (res_c 0 [.int .i64 0, .int .i64 0, .int .i64 0, .int .i64 0, .int .i64 0, .bool false] (.agg #[.int .i64 0, .int .i64 0, .int .i64 0, .int .i64 0, .int .i64 0, .bool false]) 7 rfl (by kernel_rfl) (res_t (by kernel_rfl) res_n)) ?_
                    exact .inr (.inr ⟨hq4, hq6, _, hp31, ho32, .inr ⟨hq33, _, rfl, rfl⟩⟩)
                  exact ad_nil
              exact ad_nil
            exact ad_nil
          exact ad_nil
        exact ad_nil
      exact ad_nil
    exact ad_nil
end Go.Proofs.YtgebinfbbopnlaaDoor
