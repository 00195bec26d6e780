/- package cache by contracts over a plain list (the map in order of laying = the order of keeping). -/
import Derived.Test.YtfekiagdnlnggaaDoorTurn
import Derived.WideKeyRuns
import Derived.StillTailTactics
namespace Go.Proofs.YtfekiagdnlnggaaDoor
open Go.RowKit
set_option linter.unusedVariables false
set_option linter.unusedSimpArgs false

/-! ### Keys that are structs of a text and a number -/
def ck (a : ByteArray × Int) : Value := .agg #[.string a.1, .int .i64 a.2]
theorem ck_un : Tryd.prog.underlying 147 = some (.struct (Tryd.prog.fieldsOf 147)) := by kernel_rfl
theorem ck_st : Tryd.prog.stoodInHeld 147 = false := by kernel_rfl
theorem ck_fl : (Tryd.prog.fieldsOf 147).toList.map (fun f => (f.name, f.type, f.offset)) = [("client", 9, 0), ("id", 3, 1)] := by kernel_rfl
theorem two_of_map {l : List Field} {a b : String × TypeId × Nat} (h : l.map (fun f => (f.name, f.type, f.offset)) = [a, b]) :
    ∃ f g, l = [f, g] ∧ f.name = a.1 ∧ f.type = a.2.1 ∧ f.offset = a.2.2 ∧ g.name = b.1 ∧ g.type = b.2.1 ∧ g.offset = b.2.2 := by
  match l, h with
  | [f, g], h =>
    simp only [List.map_cons, List.map_nil, List.cons.injEq, and_true] at h
    obtain ⟨rfl, rfl⟩ := h
    exact ⟨f, g, rfl, rfl, rfl, rfl, rfl, rfl, rfl⟩
theorem ck_eq (a b : ByteArray × Int) (w : World) : (Op.equal 147 (ck a) (ck b)).run Tryd.prog w = .ok (decide (a = b)) w := by
  obtain ⟨f, g, hfg, f1, f2, f3, g1, g2, g3⟩ := two_of_map ck_fl
  have h : (Op.equalIn (9999 + 1) 147 (ck a) (ck b)).run Tryd.prog w = .ok (a.1 == b.1 && a.2 == b.2) w := by
    unfold ck
    rw [run_equalIn_agg w 9999 147 _ _ ck_un ck_st, hfg]
    simp only [Op.eqFields, f1, f2, f3, g1, g2, g3]
    have p1 : ∀ x : ByteArray × Int, (part 9 #[.string x.1, .int .i64 x.2] 0).run Tryd.prog w = .ok (.string x.1) w := fun x => by kernel_rfl
    have p2 : ∀ x : ByteArray × Int, (part 3 #[.string x.1, .int .i64 x.2] 1).run Tryd.prog w = .ok (.int .i64 x.2) w := fun x => by kernel_rfl
    have e1 : (Op.equalIn 9999 9 (.string a.1) (.string b.1)).run Tryd.prog w = .ok (a.1 == b.1) w := by
      rw [run_equalIn_string w 9998 9 _ _ Tryd.underlying9, ← beq_toListBytes]
    have e2 : (Op.equalIn 9999 3 (.int .i64 a.2) (.int .i64 b.2)).run Tryd.prog w = .ok (a.2 == b.2) w := run_equalIn_int w 9998 3 _ _ _ _ Tryd.underlying3
    simp [p1, p2, e1, e2]
    cases h1 : a.1 == b.1 <;> by_cases h2 : a.2 = b.2 <;> simp [h2]
  have h2 : (Op.equal 147 (ck a) (ck b)) = Op.equalIn (9999 + 1) 147 (ck a) (ck b) := rfl
  rw [h2, h]
  refine congrArg (fun x => Result.ok x w) ?_
  clear h h2
  obtain ⟨a1, a2⟩ := a
  obtain ⟨b1, b2⟩ := b
  rw [Bool.eq_iff_iff]
  simp [MapKept.bytes_beq]
theorem ck_keep (a : ByteArray × Int) (w : World) : (Instr.keyThatStays (ck a) (ck a)).run Tryd.prog w = .ok (ck a) w := by
  have h1 : (a.1 == a.1) = true := (MapKept.bytes_beq _ _).2 rfl
  have : Instr.sameBits 10000 (ck a) (ck a) = true := by simp [Instr.sameBits, ck, h1]
  simp [Instr.keyThatStays, this]
theorem ck_find (a : ByteArray × Int) (w : World) : ∀ (l : List MapEntry) (kv : List ((ByteArray × Int) × Value)) (i : Nat), l.map (fun e => (e.key, e.val)) = kv.map (fun p => (ck p.1, p.2)) →
    (Instr.findAsking 147 (ck a) l i).run Tryd.prog w = .ok (findA kv a i) w
  | [], [], _, _ => rfl
  | [], _ :: _, _, h => by cases h
  | _ :: _, [], _, h => by cases h
  | e :: l, p :: kv, i, h => by
    simp only [List.map_cons, List.cons.injEq, Prod.mk.injEq] at h
    obtain ⟨⟨h1, h2⟩, h3⟩ := h
    unfold Instr.findAsking findA
    simp only [Sem.run_bind, h1, ck_eq, Result.andThen_ok]
    by_cases c : a = p.1
    · simp [c, h2]
    · simp [c, ck_find a w l kv (i + 1) h3]
theorem keyCk : KeyFn Tryd.prog 147 ck where
  chk := fun em a w => by kernel_rfl
  find := fun a l kv w h => (run_findKey_eq (P := Tryd.prog) w (k := 147) (by rw [ck_un]) (ck a) l).trans (ck_find a w l kv 0 h)
  keep := ck_keep
  inj := fun a b h => by
    obtain ⟨a1, a2⟩ := a
    obtain ⟨b1, b2⟩ := b
    simp [ck] at h
    simp [h]

/-! ### The plain cache -/
abbrev CKey := ByteArray × Int
abbrev Kepts := List (CKey × (ByteArray × ByteArray))
def saidV (p : ByteArray × ByteArray) : Value := .agg #[.string p.1, .string p.2]
def keptV (kv : Kepts) : List (CKey × Value) := kv.map fun p => (p.1, saidV p.2)
def keyC (p : CKey × (ByteArray × ByteArray)) : List Value := [.string p.1.1, .int .i64 p.1.2]
theorem keyC_len (p : CKey × (ByteArray × ByteArray)) : (keyC p).length = 2 := rfl
theorem keyC_one (p : CKey × (ByteArray × ByteArray)) : ∀ u ∈ keyC p, u.oneCell' = true := by
  intro u hu; simp [keyC] at hu; rcases hu with rfl | rfl <;> rfl
def cLook (kv : Kepts) (k : CKey) (t : ByteArray) : ByteArray × Bool × Nat :=
  match aget kv k with
  | none => (⟨#[]⟩, false, 0)
  | some (t', r) => if t' = t then (r, true, 0) else (⟨#[]⟩, false, 12)
def cKeep (most : Nat) (kv : Kepts) (k : CKey) (t r : ByteArray) : Kepts × Nat :=
  match aget kv k with
  | some _ => (kv, 6)
  | none => (if most < kv.length + 1 then (kv ++ [(k, (t, r))]).tail else kv ++ [(k, (t, r))], 0)

/-- A cache at block b. -/
structure CacheAt (w : World) (b : Nat) (most : Nat) (kv : Kepts) (S : Nat → Prop) : Prop where
  at_ : ∃ rm v T Ss, w.heap[b]? = some (.cells #[.int .i64 most, .map (some rm), v] T (0, 0)) ∧ MapA w rm ck (keptV kv) ∧ SliceAt w v 147 2 kv.length (kv.flatMap keyC) Ss ∧ S rm ∧ (∀ x, Ss x → S x) ∧ ¬ Ss b ∧ ¬ Ss rm
  own : S b
  lt : ∀ x, S x → x < w.heap.size
  few : kv.length ≤ most
  most : 1 ≤ most ∧ most ≤ 20

theorem CacheAt.keep {S T : Nat → Prop} {w w' : World} {b most : Nat} {kv : Kepts} (h : CacheAt w b most kv S) (c : Chg T w w') (hd : ∀ x, S x → ¬ T x) : CacheAt w' b most kv S := by
  obtain ⟨⟨rm, v, E, Ss, h1, h2, h3, h4, h5, h6, h7⟩, h8, h9, h10, h11⟩ := h
  exact ⟨⟨rm, v, E, Ss, c.keep h1 (hd b h8), h2.keep c (hd rm h4), h3.keep c (fun x hx => hd x (h5 x hx)), h4, h5, h6, h7⟩, h8, fun x hx => Nat.lt_of_lt_of_le (h9 x hx) c.size, h10, h11⟩

theorem zero_said (w : World) : (zeroValue 149).run Tryd.prog w = .ok (saidV (⟨#[]⟩, ⟨#[]⟩)) w := by kernel_rfl
theorem info_key : (Tryd.prog.info? 147).map (fun i => (i.zero, i.size, i.bytes)) = some (some (.agg #[.string ⟨#[]⟩, .int .i64 0]), 2, 24) := by kernel_rfl

theorem ccount_any (b most : Nat) (kv : Kepts) (S : Nat → Prop) (w : World) (ht : CacheAt w b most kv S) :
    Calls Tryd.prog 33 #[.pointer (some ⟨b, 0, none⟩)] w fun e w' => e = .returned (.int .i64 kv.length) ∧ w = w' := by
  obtain ⟨⟨rm, v, E, Ss, hb, hm, _⟩, _, _, _, _⟩ := ht
  have hc := cell_of hb 1
  simp only [List.getElem?_toArray, List.getElem?_cons_zero, List.getElem?_cons_succ] at hc
  have hl : (Builtin.len_ #[142] 3 #[.map (some rm)]).run Tryd.prog w = .ok (.int .i64 kv.length) w := by
    have := (show MapV w (.map (some rm)) ck (keptV kv) from .inr ⟨rm, rfl, hm⟩).run_len (ty := 3) Tryd.underlying142
    simpa [keptV] using this
  clear hb hm
  go_enter Tryd.func33, Tryd.ntmps33
  go_wp2
  go_ret
  exact ⟨rfl, rfl⟩

theorem bytes_bne (a b : ByteArray) : (a.toList != b.toList) = !decide (a = b) := by
  rw [bne, ← beq_toListBytes]
  congr 1
  rw [Bool.eq_iff_iff, MapKept.bytes_beq]; simp

set_option maxRecDepth 100000 in
set_option maxHeartbeats 1000000 in
theorem look_any {B : Nat} (ad : Nat → Addr) (b most : Nat) (c t : ByteArray) (i : Int) (kv : Kepts) (S : Nat → Prop) (w : World) (he : Env B ad [12] w) (ht : CacheAt w b most kv S) :
    Calls Tryd.prog 20 #[.pointer (some ⟨b, 0, none⟩), .string c, .int .i64 i, .string t] w fun e w' =>
      e = .returned (.tuple #[.string (cLook kv (c, i) t).1, .bool (cLook kv (c, i) t).2.1, errV ad (cLook kv (c, i) t).2.2]) ∧ Chg Nil w w' := by
  obtain ⟨h12, h12l⟩ := he.get (c := 12) (by simp)
  simp only [gl] at h12 h12l
  clear he
  obtain ⟨⟨rm, v, E, Ss, hb, hm, _⟩, _, _, _, _⟩ := ht
  have hcell := cell_of hb 1
  simp only [List.getElem?_toArray, List.getElem?_cons_zero, List.getElem?_cons_succ] at hcell
  have hbl := lt_of_block hb
  have hk := (show MapV w (.map (some rm)) ck (keptV kv) from .inr ⟨rm, rfl, hm⟩).run_lookup (T := 142) keyCk Tryd.underlying142 (zero_said w) (c, i) true
  simp only [keptV, aget_map, if_true, ck] at hk
  clear hb hm
  cases hg : aget kv (c, i) with
  | none =>
    simp only [hg, Option.map_none, Option.getD_none, Option.isSome_none, saidV] at hk
    have e1 : cLook kv (c, i) t = (⟨#[]⟩, false, 0) := by simp [cLook, hg]
    rw [e1]
    clear hg e1
    go_enter Tryd.func20, Tryd.ntmps20
    go_wp2
    go_ret3
    exact ⟨rfl, ((Chg.refl _ _).alloc _)⟩
  | some p =>
    obtain ⟨t', r⟩ := p
    simp only [hg, Option.map_some, Option.getD_some, Option.isSome_some, saidV] at hk
    by_cases hn : t' = t
    · have e1 : cLook kv (c, i) t = (r, true, 0) := by simp [cLook, hg, hn]
      have hq : (t'.toList == t.toList) = true := by rw [hn]; simp
      rw [e1]
      clear hg e1 hn
      go_enter Tryd.func20, Tryd.ntmps20
      go_wp2
      go_ret3
      exact ⟨rfl, ((Chg.refl _ _).alloc _)⟩
    · have e1 : cLook kv (c, i) t = (⟨#[]⟩, false, 12) := by simp [cLook, hg, hn]
      have hq : (t'.toList == t.toList) = false := by rw [← beq_toListBytes, Bool.eq_false_iff]; exact fun e => hn ((MapKept.bytes_beq _ _).1 e)
      rw [e1]
      clear hg e1 hn
      go_enter Tryd.func20, Tryd.ntmps20
      go_wp2
      go_quiet (fail)
      go_wp2
      go_ret3
      exact ⟨rfl, ((Chg.refl _ _).alloc _).drewsN _⟩
end Go.Proofs.YtfekiagdnlnggaaDoor
