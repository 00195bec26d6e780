/- The reference's words on rights (meets, within, sum), by contract; the program's table of opens, told by what is owned. -/
import Derived.Test.YtofhnglgebllbaaDoorOp5
import Derived.Test.YtofhnglgebllbaaDoorShare6Q
import Derived.Test.YtofhnglgebllbaaDoorShare7
import Derived.Test.YtofhnglgebllbaaDoorShare5
import Derived.Test.YtofhnglgebllbaaDoorShare4
import Derived.Test.YtofhnglgebllbaaDoorEnvAR
import Derived.Test.YtofhnglgebllbaaDoorEqs
namespace Go.Proofs.YtofhnglgebllbaaDoor
open Go.RowKit
set_option linter.unusedVariables false
set_option linter.unusedSimpArgs false
abbrev Few4 (a : Int) : Prop := a = 0 ∨ a = 1 ∨ a = 2 ∨ a = 3
set_option maxHeartbeats 4000000 in
theorem rmeets_any {a b : Int} (ha : Few4 a) (hb : Few4 b) (w : World) :
    Calls Tryd.prog 132 #[.int .i64 a, .int .i64 b] w fun e w' => e = .returned (.bool (mtP a b)) ∧ Chg Nil w w' := by
  rcases ha with rfl | rfl | rfl | rfl <;> rcases hb with rfl | rfl | rfl | rfl
  all_goals
    go_enter Tryd.func132, Tryd.ntmps132
    go_wp2_with fail
    go_ret
    exact ⟨rfl, Chg.refl _ _⟩
set_option maxHeartbeats 4000000 in
theorem rwithin_any {a b : Int} (ha : Few4 a) (hb : Few4 b) (w : World) :
    Calls Tryd.prog 135 #[.int .i64 a, .int .i64 b] w fun e w' => e = .returned (.bool (!ovP a b)) ∧ Chg Nil w w' := by
  rcases ha with rfl | rfl | rfl | rfl <;> rcases hb with rfl | rfl | rfl | rfl
  all_goals
    go_enter Tryd.func135, Tryd.ntmps135
    go_wp2_with fail
    go_ret
    exact ⟨rfl, Chg.refl _ _⟩
set_option maxHeartbeats 4000000 in
theorem rsum_any {a b : Int} (ha : Few4 a) (hb : Few4 b) (w : World) :
    Calls Tryd.prog 134 #[.int .i64 a, .int .i64 b] w fun e w' => e = .returned (.int .i64 (bits .or .i64 a b)) ∧ Chg Nil w w' := by
  rcases ha with rfl | rfl | rfl | rfl <;> rcases hb with rfl | rfl | rfl | rfl
  all_goals
    go_enter Tryd.func134, Tryd.ntmps134
    go_wp2_with fail
    go_ret
    exact ⟨rfl, Chg.refl _ _⟩
theorem rmeets_spec {a b : Int} (ha : Few4 a) (hb : Few4 b) : Spec Tryd.prog 132 #[.int .i64 a, .int .i64 b] [] fun u L => u = .bool (mtP a b) ∧ L = [] := spec_quiet fun w => rmeets_any ha hb w
theorem rwithin_spec {a b : Int} (ha : Few4 a) (hb : Few4 b) : Spec Tryd.prog 135 #[.int .i64 a, .int .i64 b] [] fun u L => u = .bool (!ovP a b) ∧ L = [] := spec_quiet fun w => rwithin_any ha hb w
theorem rsum_spec {a b : Int} (ha : Few4 a) (hb : Few4 b) : Spec Tryd.prog 134 #[.int .i64 a, .int .i64 b] [] fun u L => u = .int .i64 (bits .or .i64 a b) ∧ L = [] := spec_quiet fun w => rsum_any ha hb w

section
variable {a : Act} {w w0 : World} {E : Ent} {L : List Res} {dst : Option Tmp} {x y : Operand} {T2 ty : TypeId} {pos : String} {after : Array Edge} {g : Option (Nat × Bool)}
theorem eqO5 (n1 g1 o1 a1 d1 n2 g2 o2 a2 d2 : Int) (w : World) : (Op.equal 222 (.agg #[.int .i64 n1, .int .i64 g1, .int .i64 o1, .int .i64 a1, .int .i64 d1]) (.agg #[.int .i64 n2, .int .i64 g2, .int .i64 o2, .int .i64 a2, .int .i64 d2])).run Tryd.prog w = .ok (decide (n1 = n2) && (decide (g1 = g2) && (decide (o1 = o2) && (decide (a1 = a2) && decide (d1 = d2))))) w := by
  unfold Op.equal
  rw [show Op.maxDepth = 9998 + 1 + 1 from rfl, run_equalIn_struct w 9999 222 _ _ (by kernel_rfl) (by kernel_rfl)]
  by_cases c1 : n1 = n2 <;> by_cases c2 : g1 = g2 <;> by_cases c3 : o1 = o2 <;> by_cases c4 : a1 = a2 <;> by_cases c5 : d1 = d2 <;> simp [go_sem, c1, c2, c3, c4, c5]
theorem g_neO5 {n1 g1 o1 a1 d1 n2 g2 o2 a2 d2 : Int} (hx : (a.eval x, a.eval y) = (.agg #[.int .i64 n1, .int .i64 g1, .int .i64 o1, .int .i64 a1, .int .i64 d1], .agg #[.int .i64 n2, .int .i64 g2, .int .i64 o2, .int .i64 a2, .int .i64 d2])) : Gives Tryd.prog w0 E L ⟨dst, .binOp .neq 222 x y T2, ty, pos, after, g⟩ a (.bool (!(decide (n1 = n2) && (decide (g1 = g2) && (decide (o1 = o2) && (decide (a1 = a2) && decide (d1 = d2))))))) :=
  g_ne_of hx (fun w => by kernel_rfl) (eqO5 n1 g1 o1 a1 d1 n2 g2 o2 a2 d2) rfl
end

section
variable {B b : Nat} {ad : Nat → Addr} {v : Value} {T : TypeId} {l : List Opn}
theorem shOpen_spec (n g o a d : Int) (hl : l.length ≤ 1000) : Spec Tryd.prog 38 #[.pointer (some ⟨b, 0, none⟩), .agg #[.int .i64 n, .int .i64 g], .int .i64 o, .int .i64 a, .int .i64 d] [rCell true b [v] T, rRows true v 76 5 opnC l, rEnv B ad [2, 9, 11]] fun z L => ∃ v' T', z = errV ad (shOpen l (n, g) o a d).2 ∧ L = [rCell true b [v'] T', rRows true v' 76 5 opnC (shOpen l (n, g) o a d).1, rEnv B ad [2, 9, 11]] :=
  spec_row fun w hM ht => shOpen_any ad b n g o a d l _ w (hM (rEnv B ad [2, 9, 11]) (by simp)) ht hl
theorem shDown_spec (n g o a d : Int) : Spec Tryd.prog 39 #[.pointer (some ⟨b, 0, none⟩), .agg #[.int .i64 n, .int .i64 g], .int .i64 o, .int .i64 a, .int .i64 d] [rCell true b [v] T, rRows true v 76 5 opnC l, rEnv B ad [2, 3, 5]] fun z L => ∃ v' T', z = errV ad (shDown l (n, g) o a d).2 ∧ L = [rCell true b [v'] T', rRows true v' 76 5 opnC (shDown l (n, g) o a d).1, rEnv B ad [2, 3, 5]] :=
  spec_row fun w hM ht => shDown_any ad b n g o a d l _ w (hM (rEnv B ad [2, 3, 5]) (by simp)) ht
theorem shMay_spec (n g o a : Int) : Spec Tryd.prog 43 #[.pointer (some ⟨b, 0, none⟩), .agg #[.int .i64 n, .int .i64 g], .int .i64 o, .int .i64 a] [rCell true b [v] T, rRows true v 76 5 opnC l, rEnv B ad [2, 5]] fun z L => z = errV ad (shMay l (n, g) o a) ∧ L = [rCell true b [v] T, rRows true v 76 5 opnC l, rEnv B ad [2, 5]] :=
  spec_rowR fun w hM ht => shMay_any ad b n g o a l _ w (hM (rEnv B ad [2, 5]) (by simp)) ht
theorem shAnyone_spec (n g a : Int) : Spec Tryd.prog 62 #[.pointer (some ⟨b, 0, none⟩), .agg #[.int .i64 n, .int .i64 g], .int .i64 a] [rCell true b [v] T, rRows true v 76 5 opnC l, rEnv B ad [2, 11]] fun z L => z = errV ad (shAnyone l (n, g) a) ∧ L = [rCell true b [v] T, rRows true v 76 5 opnC l, rEnv B ad [2, 11]] :=
  spec_rowR fun w hM ht => shAnyone_any ad b n g a l _ w (hM (rEnv B ad [2, 11]) (by simp)) ht
theorem shDrop_spec (o : Int) : Spec Tryd.prog 41 #[.pointer (some ⟨b, 0, none⟩), .int .i64 o] [rCell true b [v] T, rRows true v 76 5 opnC l] fun z L => ∃ v' T', z = .int .i64 ((l.length : Int) - ((shDrop l o).length : Int)) ∧ L = [rCell true b [v'] T', rRows true v' 76 5 opnC (shDrop l o)] :=
  spec_row fun w _ ht => shDrop_any b o l _ w ht
theorem shList_spec (hl : l.length ≤ 1000) : Spec Tryd.prog 42 #[.pointer (some ⟨b, 0, none⟩)] [rCell true b [v] T, rRows true v 76 5 opnC l] fun z L => ∃ v' l', (l'.Perm l ∧ l'.Pairwise (fun x y => ¬ shCf y x < 0)) ∧ z = v' ∧ L = [rRows true v' 76 5 opnC l', rCell true b [v] T, rRows true v 76 5 opnC l] := fun En w0 w ho => by
  refine (shList_any b l _ w (rowOf ho) (by omega)).mono ?_
  rintro e w' ⟨v', rfl, l', S', hp, hq, hs, hc, hg⟩
  obtain ⟨s1, s2⟩ := hs.own
  refine ⟨v', _, ⟨v', l', ⟨hp, hq⟩, rfl, rfl⟩, rfl, ho.push hc (r := rRows true v' 76 5 opnC l') ?_ fun x hx => ?_⟩
  · show SliceAt w' v' 76 5 l'.length (l'.flatMap opnC) _
    rw [hp.length_eq]; exact s1
  · rcases hg x (s2 x hx) with f | f
    · exact f.elim
    · exact f.1
end
theorem delOpn_spec {v : Value} {l : List Opn} {M : List Res} (p : Opn → Bool) (c : Nat) (cb : Array Value) (eg : ∀ args w, (callFunc c args).run Tryd.prog w = .ok (.enter c args) w)
    (hk : ∀ (x : Opn) (W : World), (∀ r ∈ M, r.fact W) → Calls Tryd.prog c (#[.agg (opnC x).toArray] ++ cb) W fun e w' => e = .returned (.bool (p x)) ∧ Chg Nil W w') :
    Spec Tryd.prog 115 #[v, .func (.func c) #[] cb] (rRows true v 76 5 opnC l :: M) fun z L => ∃ v', z = v' ∧ L = rRows true v' 76 5 opnC (l.filter fun x => !p x) :: M := fun En w0 w ho => by
  have h0 : SliceAt w v 76 5 l.length (l.flatMap opnC) (blkOf v) := ho.fact 0 rfl
  have ap := (List.pairwise_cons.1 ho.apart).1
  refine (delOpen_any p c cb eg w h0 fun W x hc => (hk x W fun r hr => ?_)).mono ?_
  · refine r.stab w W (ho.facts r (by simp [hr])) hc.size fun y hy => hc.block y (r.alive w y (ho.facts r (by simp [hr])) hy) fun hv => ap r hr (.inl rfl) y hv hy
  · rintro e w' ⟨v', he, hs, hc⟩
    obtain ⟨s1, s2⟩ := hs.own
    exact ⟨v', _, ⟨v', rfl, rfl⟩, he, ho.upd 0 rfl rfl hc (r' := rRows true v' 76 5 opnC (l.filter fun x => !p x)) s1 fun y hy => .inl (s2 y hy)⟩
end Go.Proofs.YtofhnglgebllbaaDoor
