/- package share: Close, Drop, List, Open by contract. -/
import Derived.Test.YtofhnglgebllbaaDoorShare4
namespace Go.Proofs.YtofhnglgebllbaaDoor
open Go.RowKit Go.Lib Go.Sort
set_option linter.unusedVariables false
set_option linter.unusedSimpArgs false

theorem entersClose : ∀ args w, (callFunc 116 args).run Tryd.prog w = .ok (.enter 116 args) w := enters_of Tryd.func116 (by kernel_rfl) rfl
theorem entersDrop : ∀ args w, (callFunc 117 args).run Tryd.prog w = .ok (.enter 117 args) w := enters_of Tryd.func117 (by kernel_rfl) rfl
theorem entersOrder : ∀ args w, (callFunc 120 args).run Tryd.prog w = .ok (.enter 120 args) w := enters_of Tryd.func120 (by kernel_rfl) rfl
theorem filter_less {α : Type} (p : α → Bool) : ∀ (l : List α), l.any p = true → (l.filter fun x => !p x).length < l.length
  | [], h => by cases h
  | x :: l, h => by
    cases hp : p x with
    | true =>
      have e : (x :: l).filter (fun x => !p x) = l.filter (fun x => !p x) := by simp [hp]
      have := List.length_filter_le (fun x => !p x) l
      rw [e, List.length_cons]; omega
    | false =>
      have h' : l.any p = true := by simpa [hp] using h
      have e : (x :: l).filter (fun x => !p x) = x :: l.filter (fun x => !p x) := by simp [hp]
      have := filter_less p l h'
      rw [e, List.length_cons, List.length_cons]; omega
theorem filter_len {α : Type} (p : α → Bool) (l : List α) : (l.any p = true ∧ (l.filter fun x => !p x).length < l.length) ∨ (l.any p = false ∧ (l.filter fun x => !p x) = l) := by
  cases h : l.any p with
  | true =>
    exact .inl ⟨rfl, filter_less p l h⟩
  | false =>
    refine .inr ⟨rfl, ?_⟩
    rw [List.filter_eq_self]
    intro a ha
    have := List.any_eq_false.1 h a ha
    simpa using this

set_option maxHeartbeats 2000000 in
set_option maxRecDepth 100000 in
theorem shClose_any {B : Nat} (ad : Nat → Addr) (b : Nat) (n g o : Int) (l : List Opn) (S : Nat → Prop) (w : World) (he : Env B ad [5] w) (hB : ∀ x, S x → B ≤ x) (ht : ShAt w b l S) :
    Calls Tryd.prog 40 #[.pointer (some ⟨b, 0, none⟩), .agg #[.int .i64 n, .int .i64 g], .int .i64 o] w fun e w' => e = .returned (errV ad (shClose l (n, g) o).2) ∧ ShPost S w b (shClose l (n, g) o).1 w' := by
  obtain ⟨⟨v, T, Ss, hb, hs, hnb, hsub⟩, hS, hlt⟩ := ht
  obtain ⟨a, cap, rfl⟩ := hs.shape
  have hlenle := hs.le
  have ha := ((Chg.refl Nil w).alloc (.cells #[.int .i64 n, .int .i64 g] 29)).alloc (.cells #[.int .i64 o] 3)
  have hbh := block_alloc_old (block_alloc w (.cells #[.int .i64 n, .int .i64 g] 29)) (.cells #[.int .i64 o] 3)
  have hbo := block_alloc (w.alloc (.cells #[.int .i64 n, .int .i64 g] 29)) (.cells #[.int .i64 o] 3)
  simp only [World.size_alloc] at hbo
  have hbw := ha.keep hb (fun f => f)
  have b0 := cell_of hbw 0
  have gb := lt_of_block hb
  simp at b0
  have hSw : ∀ x, Ss x → x ≠ w.heap.size ∧ x ≠ w.heap.size + 1 := fun x hx => by have := hlt x (hsub x hx); omega
  have HI := Lib.hid (delOpen_any (mineP (n, g) o) 116 #[.pointer (some ⟨w.heap.size, 0, none⟩), .pointer (some ⟨w.heap.size + 1, 0, none⟩)] entersClose _ (hs.keep ha (fun _ _ f => f)) (fun W x hW => close1_any n g o x w.heap.size (w.heap.size + 1) _ _ W (hW.keep hbh (fun f => (hSw _ f).1 rfl)) (hW.keep hbo (fun f => (hSw _ f).2 rfl))))
  have HA := Lib.hid ha
  have HE := Lib.hid (he.keepN ha)
  have HBW := Lib.hid hbw
  have HNB := Lib.hid hnb
  have HSUB := Lib.hid hsub
  have HSb := Lib.hid hS
  have HLT := Lib.hid hlt
  have HBB := Lib.hid hB
  have HFL := Lib.hid (filter_len (mineP (n, g) o) l)
  have HX := Lib.hid (show shClose l (n, g) o = (l.filter (fun x => !mineP (n, g) o x), if l.any (mineP (n, g) o) then 0 else 5) from rfl)
  obtain ⟨l', hl'⟩ : ∃ l', l' = l.filter (fun x => !mineP (n, g) o x) := ⟨_, rfl⟩
  rw [← hl'] at HI HFL HX
  obtain ⟨m, hm⟩ : ∃ m, m = l.length := ⟨_, rfl⟩
  rw [← hm] at HI HBW b0 HFL hlenle
  have HM := Lib.hid hm
  clear he hb hs ha hbh hbo hlt hsub hS hnb hbw hSw hl' hB hm
  go_enter Tryd.func40, Tryd.ntmps40
  go_wp2_with fail
  refine HI.out.mono ?_
  rintro e w3 ⟨v', rfl, hs3, hc3⟩
  obtain ⟨a3, cap3, rfl⟩ := hs3.shape
  have hb3 := hc3.keep HBW.out HNB.out
  have k0 := cell_of hb3 0
  have f0 := free_of hb3 0
  have gb3 := lt_of_block hb3
  simp at k0
  have HP := Lib.hid (row_back hb3 HSb.out (fun x hx => by have := HLT.out x hx; simp; omega) (hc3.mono (fun x _ h => HSUB.out x h)) hs3 rfl HNB.out (fun x hx => .inl (HSUB.out x hx)))
  have HE3 := Lib.hid ((HE.out.keep hc3 (fun x hx => HBB.out x (HSUB.out x hx))).keep ((Chg.refl (· = b) w3).setCell (p := ⟨b, 0, none⟩) (.inr rfl) (.slice a3 l'.length cap3)) (fun x e => by have : x = b := e; subst this; exact HBB.out _ HSb.out))
  clear b0 hs3 hc3 hb3
  rcases HFL.out with ⟨h1, h2⟩ | ⟨h1, h2⟩
  · rw [h1] at HX
    have hne : ((l'.length : Int) == (m : Int)) = false := by simp; omega
    clear h1
    go_wp2_with fail
    go_ret
    exact ⟨by rw [HX.out]; rfl, by rw [HX.out]; exact HP.out.before HA.out⟩
  · rw [h1] at HX
    have hlm : l'.length = m := by rw [h2, HM.out]
    obtain ⟨q1, q2⟩ := HE3.out.get (c := 5) (by simp)
    simp only [gl] at q1 q2
    have hne : ((l'.length : Int) == (m : Int)) = true := by simp; omega
    clear h1 h2 hlm
    go_wp2_with fail
    go_ret
    exact ⟨by rw [HX.out]; rfl, by rw [HX.out]; exact HP.out.before HA.out⟩

set_option maxHeartbeats 2000000 in
set_option maxRecDepth 100000 in
theorem shDrop_any (b : Nat) (o : Int) (l : List Opn) (S : Nat → Prop) (w : World) (ht : ShAt w b l S) :
    Calls Tryd.prog 41 #[.pointer (some ⟨b, 0, none⟩), .int .i64 o] w fun e w' => e = .returned (.int .i64 ((l.length : Int) - ((shDrop l o).length : Int))) ∧ ShPost S w b (shDrop l o) w' := by
  obtain ⟨⟨v, T, Ss, hb, hs, hnb, hsub⟩, hS, hlt⟩ := ht
  obtain ⟨a, cap, rfl⟩ := hs.shape
  have hlenle := hs.le
  have ha := (Chg.refl Nil w).alloc (.cells #[.int .i64 o] 3)
  have hbo := block_alloc w (.cells #[.int .i64 o] 3)
  have hbw := ha.keep hb (fun f => f)
  have b0 := cell_of hbw 0
  have gb := lt_of_block hb
  simp at b0
  have hSw : ∀ x, Ss x → x ≠ w.heap.size := fun x hx => by have := hlt x (hsub x hx); omega
  have HI := Lib.hid (delOpen_any (fun x => x.2.1 == o) 117 #[.pointer (some ⟨w.heap.size, 0, none⟩)] entersDrop _ (hs.keep ha (fun _ _ f => f)) (fun W x hW => drop1_any o x w.heap.size _ W (hW.keep hbo (fun f => (hSw _ f) rfl))))
  have HA := Lib.hid ha
  have HBW := Lib.hid hbw
  have HNB := Lib.hid hnb
  have HSUB := Lib.hid hsub
  have HSb := Lib.hid hS
  have HLT := Lib.hid hlt
  obtain ⟨l', hl'⟩ : ∃ l', l' = l.filter (fun x => !(x.2.1 == o)) := ⟨_, rfl⟩
  have HX := Lib.hid (show shDrop l o = l' from hl'.symm)
  have hle' : l'.length ≤ l.length := by rw [hl']; exact List.length_filter_le _ _
  rw [← hl'] at HI
  rw [HX.out]
  obtain ⟨m, hm⟩ : ∃ m, m = l.length := ⟨_, rfl⟩
  rw [← hm] at HI HBW b0 hlenle hle' ⊢
  clear hb hs ha hbo hlt hsub hS hnb hbw hSw hl' hm
  go_enter Tryd.func41, Tryd.ntmps41
  go_wp2_with fail
  refine HI.out.mono ?_
  rintro e w3 ⟨v', rfl, hs3, hc3⟩
  obtain ⟨a3, cap3, rfl⟩ := hs3.shape
  have hb3 := hc3.keep HBW.out HNB.out
  have k0 := cell_of hb3 0
  have f0 := free_of hb3 0
  have gb3 := lt_of_block hb3
  simp at k0
  have HP := Lib.hid (row_back hb3 HSb.out (fun x hx => by have := HLT.out x hx; simp; omega) (hc3.mono (fun x _ h => HSUB.out x h)) hs3 rfl HNB.out (fun x hx => .inl (HSUB.out x hx)))
  have hwr : IntKind.i64.wrap ((m : Int) - (l'.length : Int)) = (m : Int) - (l'.length : Int) := IntWalk.i64_in _ (by omega)
  clear b0 hs3 hc3 hb3
  go_wp2_with fail
  go_ret
  exact ⟨rfl, HP.out.before HA.out⟩

/-- What List gives: the opens in order, in a slice of their own. -/
def ShListed (l : List Opn) (w : World) (v' : Value) (w' : World) : Prop := ∃ (l' : List Opn) (S' : Nat → Prop), l'.Perm l ∧ l'.Pairwise (fun x y => ¬ shCf y x < 0) ∧ SliceAt w' v' 76 5 l.length (l'.flatMap opnC) S' ∧ Chg Nil w w' ∧ Grow Nil S' w w'
set_option maxHeartbeats 2000000 in
set_option maxRecDepth 100000 in
theorem shList_any (b : Nat) (l : List Opn) (S : Nat → Prop) (w : World) (ht : ShAt w b l S) (hl : l.length ≤ 1000000) :
    Calls Tryd.prog 42 #[.pointer (some ⟨b, 0, none⟩)] w fun e w' => ∃ v', e = .returned v' ∧ ShListed l w v' w' := by
  obtain ⟨⟨v, T, Ss, hb, hs, hnb, hsub⟩, hS, hlt⟩ := ht
  have b0 := cell_of hb 0
  have gb := lt_of_block hb
  simp at b0
  have HC := Lib.hid (cloneOpen_any w hs hl)
  have HL := Lib.hid hl
  clear hb hs hlt hsub hS hnb hl
  go_enter Tryd.func42, Tryd.ntmps42
  go_wp2_with fail
  refine HC.out.mono ?_
  rintro e w2 ⟨v', S', rfl, hs2, hc2, hg2⟩
  have HS := Lib.hid (sortOpen_any shCf swo_sh 120 #[] entersOrder w2 hs2 HL.out (fun W x y _ => shOrder_any x y W))
  have HC2 := Lib.hid hc2
  have HG2 := Lib.hid hg2
  clear hs2 hc2 hg2 b0
  go_wp2_with fail
  refine HS.out.mono ?_
  rintro e w3 ⟨rfl, l', hp, ho, hs3, hc3⟩
  go_wp2_with fail
  go_ret
  refine ⟨_, rfl, ?_⟩
  unfold ShListed
  refine ⟨l', S', hp, ho.imp (fun h => by omega), hs3, HC2.out.trans hc3 (fun x hx h => ?_), fun x hx => ?_⟩
  · rcases HG2.out x h with f | f
    · exact f
    · omega
  · have := hc3.size
    rcases HG2.out x hx with f | f
    · exact .inl f
    · exact .inr ⟨f.1, by omega⟩
end Go.Proofs.YtofhnglgebllbaaDoor
