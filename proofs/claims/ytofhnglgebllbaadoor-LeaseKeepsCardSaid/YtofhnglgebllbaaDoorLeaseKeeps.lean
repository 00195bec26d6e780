/- lease: contracts by what is owned (printed by walk.py). -/
import Derived.Test.YtofhnglgebllbaaDoorLsG
namespace Go.Proofs.YtofhnglgebllbaaDoor
open Go.RowKit
set_option linter.unusedVariables false
set_option linter.unusedSimpArgs false
set_option linter.unnecessarySimpa false
set_option maxRecDepth 100000

abbrev twoI : Int := 2
abbrev kA (ba : Nat) (c : Bool) (s : Int) : Ls := (1, ba, ⟨#[97]⟩, 1, 1, c, s)
abbrev kB (bb : Nat) (c : Bool) (s : Int) : Ls := (2, bb, ⟨#[98]⟩, 1, 2, c, s)
def KL (ba bb : Nat) (gn : Bool) (sa sb : Int) : List Ls := kA ba true sa :: if gn then [] else [kB bb true sb]
theorem kA_s (ba : Nat) (c : Bool) (s : Int) : lsS (kA ba c s) = s := rfl
theorem kB_s (bb : Nat) (c : Bool) (s : Int) : lsS (kB bb c s) = s := rfl
theorem ab_ne : ¬ (⟨#[97]⟩ : ByteArray) = ⟨#[98]⟩ := by decide
theorem two_ok {ba bb : Nat} {ca cb : Bool} {sa sb now : Int} (h1 : 0 ≤ sa ∧ sa ≤ now) (h2 : 0 ≤ sb ∧ sb ≤ now) : LsOk [kA ba ca sa, kB bb cb sb] 2 now where
  sorted := by simp
  ids := fun e he => by
    simp only [List.mem_cons, List.mem_nil_iff, or_false] at he
    rcases he with rfl | rfl <;> simp
  since := fun e he => by
    simp only [List.mem_cons, List.mem_nil_iff, or_false] at he
    rcases he with rfl | rfl
    · exact h1
    · exact h2
  one := List.pairwise_cons.2 ⟨fun y hy => by rw [List.mem_singleton.1 hy]; exact fun hh => ab_ne hh.1, List.pairwise_singleton _ _⟩
  few := by simp
  pos := by omega
theorem one_ok {ba : Nat} {ca : Bool} {sa last now : Int} (hl : 1 ≤ last) (h1 : 0 ≤ sa ∧ sa ≤ now) : LsOk [kA ba ca sa] last now where
  sorted := List.pairwise_singleton _ _
  ids := fun e he => by rw [List.mem_singleton.1 he]; exact ⟨by simp, hl, rfl⟩
  since := fun e he => by rw [List.mem_singleton.1 he]; exact h1
  one := List.pairwise_singleton _ _
  few := by simp; omega
  pos := by omega
theorem KL_ok {ba bb : Nat} {gn : Bool} {sa sb now : Int} (h1 : 0 ≤ sa ∧ sa ≤ now) (h2 : gn = false → 0 ≤ sb ∧ sb ≤ now) : LsOk (KL ba bb gn sa sb) 2 now := by
  cases gn
  · exact two_ok h1 (h2 rfl)
  · exact one_ok (by omega) h1
theorem keepReg1_spec {B : Nat} (ad : Nat → Addr) (b mb : Nat) : Spec Tryd.prog 70 #[.pointer (some ⟨b, 0, none⟩), .string ⟨#[97]⟩, .int .i64 1] [rCell true b [.map (some mb), .int .i64 0, .int .i64 0] 227, rMap true mb ik ([].map lsKV), rFam true 231 cliC ([].map lsF), rEnv B ad [4], rEnv B ad [9]] fun u L => ∃ ba : Nat, u = .tuple #[.int .i64 1, .int .i64 1, .nilIface] ∧ L = [rCell true b [.map (some mb), .int .i64 1, .int .i64 0] 227, rMap true mb ik ([kA ba false 0].map lsKV), rFam true 231 cliC ([kA ba false 0].map lsF), rEnv B ad [4], rEnv B ad [9]] :=
  (register_spec ad b mb [] 0 0 lsOk_nil (by decide) (by decide) ⟨#[97]⟩ 1 (by decide)).mono fun u L h => by
    rcases h with ⟨h1, _⟩ | ⟨_, ks, h2, h3, _⟩ | ⟨_, _, bk, h4, h5⟩
    · exact absurd (show nameOk ⟨#[97]⟩ by decide) h1
    · rw [names_nil h2] at h3; exact absurd h3 (by decide)
    · exact ⟨bk, h4, h5⟩
theorem keepReg2_spec {B : Nat} (ad : Nat → Addr) (b mb : Nat) (ba : Nat) : Spec Tryd.prog 70 #[.pointer (some ⟨b, 0, none⟩), .string ⟨#[98]⟩, .int .i64 1] [rCell true b [.map (some mb), .int .i64 1, .int .i64 0] 227, rMap true mb ik ([kA ba false 0].map lsKV), rFam true 231 cliC ([kA ba false 0].map lsF), rEnv B ad [4], rEnv B ad [9]] fun u L => ∃ bb : Nat, u = .tuple #[.int .i64 2, .int .i64 2, .nilIface] ∧ L = [rCell true b [.map (some mb), .int .i64 2, .int .i64 0] 227, rMap true mb ik ([kA ba false 0, kB bb false 0].map lsKV), rFam true 231 cliC ([kA ba false 0, kB bb false 0].map lsF), rEnv B ad [4], rEnv B ad [9]] :=
  (register_spec ad b mb [kA ba false 0] 1 0 (one_ok (by omega) (by omega)) (by decide) (by decide) ⟨#[98]⟩ 1 (by decide)).mono fun u L h => by
    rcases h with ⟨h1, _⟩ | ⟨_, ks, h2, h3, _⟩ | ⟨_, _, bk, h4, h5⟩
    · exact absurd (show nameOk ⟨#[98]⟩ by decide) h1
    · have := Names.few (l := [kA ba false 0]) (i := 1) h2
      simp at this; omega
    · refine ⟨bk, h4, ?_⟩
      have e : regL [kA ba false 0] ⟨#[98]⟩ 1 1 bk = [kA ba false 0, kB bk false 0] := by
        unfold regL
        rw [List.filter_cons_of_pos (by simp [regP]; exact ab_ne)]; rfl
      rw [e] at h5; exact h5
theorem get2 {x y : Ls} {j : Nat} {e : Ls} (h : [x, y][j]? = some e) : (j = 0 ∧ e = x) ∨ (j = 1 ∧ e = y) := by
  match j with
  | 0 => simp at h; exact .inl ⟨rfl, h.symm⟩
  | 1 => simp at h; exact .inr ⟨rfl, h.symm⟩
  | j + 2 => simp at h
theorem get1 {x : Ls} {j : Nat} {e : Ls} (h : [x][j]? = some e) : j = 0 ∧ e = x := by
  match j with
  | 0 => simp at h; exact ⟨rfl, h.symm⟩
  | j + 1 => simp at h
theorem keepConf1_spec {B : Nat} (ad : Nat → Addr) (b mb : Nat) (ba bb : Nat) : Spec Tryd.prog 72 #[.pointer (some ⟨b, 0, none⟩), .int .i64 1, .int .i64 1] [rCell true b [.map (some mb), .int .i64 2, .int .i64 0] 227, rMap true mb ik ([kA ba false 0, kB bb false 0].map lsKV), rFam true 231 cliC ([kA ba false 0, kB bb false 0].map lsF), rEnv B ad [5], rEnv B ad [3]] fun u L => u = .tuple #[.int .i64 0, .nilIface] ∧ L = [rCell true b [.map (some mb), .int .i64 2, .int .i64 0] 227, rMap true mb ik ([kA ba true 0, kB bb false 0].map lsKV), rFam true 231 cliC ([kA ba true 0, kB bb false 0].map lsF), rEnv B ad [5], rEnv B ad [3]] :=
  (confirm_spec ad b mb [kA ba false 0, kB bb false 0] 2 0 (two_ok (by omega) (by omega)) (by decide) (by decide) 1 1).mono fun u L h => by
    rcases h with ⟨h1, _⟩ | ⟨j, e, _, _, h1, _⟩ | ⟨j, e, hj, hi, _, h4, h5⟩
    · exact absurd rfl (h1 (kA ba false 0) (by simp))
    · exact absurd rfl h1
    · rcases get2 hj with ⟨rfl, rfl⟩ | ⟨rfl, rfl⟩
      · have p1 : confP (kA ba false 0) (kA ba false 0) = true := by simp [confP]
        have p2 : confP (kA ba false 0) (kB bb false 0) = true := by simp [confP]
        have hg : confG [kA ba false 0, kB bb false 0] (kA ba false 0) = 0 := by unfold confG; rw [List.find?_cons_of_neg (by simp [p1]), List.find?_cons_of_neg (by simp [p2])]; rfl
        have hl : confL [kA ba false 0, kB bb false 0] 0 (kA ba false 0) 0 = [kA ba true 0, kB bb false 0] := by
          unfold confL
          show List.filter _ [lsSet (kA ba false 0) true 0, kB bb false 0] = _
          rw [List.filter_cons_of_pos (by simp [confP, lsSet]), List.filter_cons_of_pos (by simp [confP])]; rfl
        rw [hg] at h4; rw [hl] at h5
        exact ⟨h4, h5⟩
      · exact absurd hi (by show ¬ (2 : Int) = 1; decide)
theorem keepConf2_spec {B : Nat} (ad : Nat → Addr) (b mb : Nat) (ba bb : Nat) : Spec Tryd.prog 72 #[.pointer (some ⟨b, 0, none⟩), .int .i64 2, .int .i64 2] [rCell true b [.map (some mb), .int .i64 2, .int .i64 0] 227, rMap true mb ik ([kA ba true 0, kB bb false 0].map lsKV), rFam true 231 cliC ([kA ba true 0, kB bb false 0].map lsF), rEnv B ad [5], rEnv B ad [3]] fun u L => u = .tuple #[.int .i64 0, .nilIface] ∧ L = [rCell true b [.map (some mb), .int .i64 2, .int .i64 0] 227, rMap true mb ik ((KL ba bb false 0 0).map lsKV), rFam true 231 cliC ((KL ba bb false 0 0).map lsF), rEnv B ad [5], rEnv B ad [3]] :=
  (confirm_spec ad b mb [kA ba true 0, kB bb false 0] 2 0 (two_ok (by omega) (by omega)) (by decide) (by decide) 2 2).mono fun u L h => by
    rcases h with ⟨h1, _⟩ | ⟨j, e, _, _, h1, _⟩ | ⟨j, e, hj, hi, _, h4, h5⟩
    · exact absurd rfl (h1 (kB bb false 0) (by simp))
    · exact absurd rfl h1
    · rcases get2 hj with ⟨rfl, rfl⟩ | ⟨rfl, rfl⟩
      · exact absurd hi (by show ¬ (1 : Int) = 2; decide)
      · have p1 : confP (kB bb false 0) (kA ba true 0) = true := by simp [confP]; exact ab_ne
        have p2 : confP (kB bb false 0) (kB bb false 0) = true := by simp [confP]
        have hg : confG [kA ba true 0, kB bb false 0] (kB bb false 0) = 0 := by unfold confG; rw [List.find?_cons_of_neg (by simp [p1]), List.find?_cons_of_neg (by simp [p2])]; rfl
        have hl : confL [kA ba true 0, kB bb false 0] 1 (kB bb false 0) 0 = KL ba bb false 0 0 := by
          unfold confL
          show List.filter _ [kA ba true 0, lsSet (kB bb false 0) true 0] = _
          rw [List.filter_cons_of_pos (by simp [confP]; exact ab_ne), List.filter_cons_of_pos (by simp [confP, lsSet])]; rfl
        rw [hg] at h4; rw [hl] at h5
        exact ⟨h4, h5⟩
section
variable {B : Nat} (ad : Nat → Addr) (b mb ba bb : Nat) {gn : Bool} {sa sb now : Int}
theorem keepRenA_spec (h1 : 0 ≤ sa ∧ sa ≤ now) (h2 : gn = false → 0 ≤ sb ∧ sb ≤ now) (hw : now ≤ 8000000000000000) : Spec Tryd.prog 74 #[.pointer (some ⟨b, 0, none⟩), .int .i64 1] [rCell true b [.map (some mb), .int .i64 2, .int .i64 now] 227, rMap true mb ik ((KL ba bb gn sa sb).map lsKV), rFam true 231 cliC ((KL ba bb gn sa sb).map lsF), rEnv B ad [5]] fun u L => u = .nilIface ∧ L = [rCell true b [.map (some mb), .int .i64 2, .int .i64 now] 227, rMap true mb ik ((KL ba bb gn now sb).map lsKV), rFam true 231 cliC ((KL ba bb gn now sb).map lsF), rEnv B ad [5]] :=
  (renew_spec ad b mb (KL ba bb gn sa sb) 2 now (KL_ok h1 h2) (by decide) (by omega) 1).mono fun u L h => by
    rcases h with ⟨j, e, hj, hi, hc, h4, h5⟩ | ⟨h4, _⟩
    · have hl : (KL ba bb gn sa sb).set j (lsSet e true now) = KL ba bb gn now sb := by
        cases gn
        · rcases get2 hj with ⟨rfl, rfl⟩ | ⟨rfl, rfl⟩
          · rfl
          · exact absurd hi (by show ¬ (2 : Int) = 1; decide)
        · obtain ⟨rfl, rfl⟩ := get1 hj
          rfl
      rw [hl] at h5; exact ⟨h4, h5⟩
    · exact absurd ⟨rfl, rfl⟩ (h4 (kA ba true sa) (by simp [KL]))
theorem keepRenB_spec (h1 : 0 ≤ sa ∧ sa ≤ now) (h2 : 0 ≤ sb ∧ sb ≤ now) (hw : now ≤ 8000000000000000) : Spec Tryd.prog 74 #[.pointer (some ⟨b, 0, none⟩), .int .i64 2] [rCell true b [.map (some mb), .int .i64 2, .int .i64 now] 227, rMap true mb ik ((KL ba bb false sa sb).map lsKV), rFam true 231 cliC ((KL ba bb false sa sb).map lsF), rEnv B ad [5]] fun u L => u = .nilIface ∧ L = [rCell true b [.map (some mb), .int .i64 2, .int .i64 now] 227, rMap true mb ik ((KL ba bb false sa now).map lsKV), rFam true 231 cliC ((KL ba bb false sa now).map lsF), rEnv B ad [5]] :=
  (renew_spec ad b mb (KL ba bb false sa sb) 2 now (KL_ok h1 fun _ => h2) (by decide) (by omega) 2).mono fun u L h => by
    rcases h with ⟨j, e, hj, hi, hc, h4, h5⟩ | ⟨h4, _⟩
    · have hl : (KL ba bb false sa sb).set j (lsSet e true now) = KL ba bb false sa now := by
        rcases get2 hj with ⟨rfl, rfl⟩ | ⟨rfl, rfl⟩
        · exact absurd hi (by show ¬ (1 : Int) = 2; decide)
        · rfl
      rw [hl] at h5; exact ⟨h4, h5⟩
    · exact absurd ⟨rfl, rfl⟩ (h4 (kB bb true sb) (by simp [KL]))
theorem keepRenG_spec (h1 : 0 ≤ sa ∧ sa ≤ now) (hw : now ≤ 8000000000000000) : Spec Tryd.prog 74 #[.pointer (some ⟨b, 0, none⟩), .int .i64 2] [rCell true b [.map (some mb), .int .i64 2, .int .i64 now] 227, rMap true mb ik ((KL ba bb true sa sb).map lsKV), rFam true 231 cliC ((KL ba bb true sa sb).map lsF), rEnv B ad [5]] fun u L => u = errV ad 5 ∧ L = [rCell true b [.map (some mb), .int .i64 2, .int .i64 now] 227, rMap true mb ik ((KL ba bb true sa sb).map lsKV), rFam true 231 cliC ((KL ba bb true sa sb).map lsF), rEnv B ad [5]] :=
  (renew_spec ad b mb (KL ba bb true sa sb) 2 now (KL_ok h1 fun h => by cases h) (by decide) (by omega) 2).mono fun u L h => by
    rcases h with ⟨j, e, hj, hi, hc, h4, h5⟩ | ⟨_, h4, h5⟩
    · obtain ⟨rfl, rfl⟩ := get1 hj
      exact absurd hi (by show ¬ (1 : Int) = 2; decide)
    · exact ⟨h4, h5⟩
theorem keepTick_spec {n : Int} (h2 : gn = false → 0 ≤ sb ∧ sb ≤ now) (hn : 0 ≤ n ∧ n < 60) (h0 : 0 ≤ now) (hw : now ≤ 8000000000000000) : Spec Tryd.prog 76 #[.pointer (some ⟨b, 0, none⟩), .int .i64 n] [rCell true b [.map (some mb), .int .i64 2, .int .i64 now] 227, rMap true mb ik ((KL ba bb gn now sb).map lsKV), rFam true 231 cliC ((KL ba bb gn now sb).map lsF), rEnv B ad [2]] fun u L =>
    (gn = true ∧ ∃ v', u = .tuple #[v', .nilIface] ∧ L = [rRows true v' 3 1 idC [], rCell true b [.map (some mb), .int .i64 2, .int .i64 (now + n)] 227, rMap true mb ik ((KL ba bb true now sb).map lsKV), rFam true 231 cliC ((KL ba bb true now sb).map lsF), rEnv B ad [2]]) ∨ (gn = false ∧ now + n - sb < 60 ∧ ∃ v', u = .tuple #[v', .nilIface] ∧ L = [rRows true v' 3 1 idC [], rCell true b [.map (some mb), .int .i64 2, .int .i64 (now + n)] 227, rMap true mb ik ((KL ba bb false now sb).map lsKV), rFam true 231 cliC ((KL ba bb false now sb).map lsF), rEnv B ad [2]]) ∨
    (gn = false ∧ 60 ≤ now + n - sb ∧ ∃ v', u = .tuple #[v', .nilIface] ∧ L = [rRows true v' 3 1 idC [twoI], rCell true b [.map (some mb), .int .i64 2, .int .i64 (now + n)] 227, rMap true mb ik ((KL ba bb true now sb).map lsKV), rFam true 231 cliC ((KL ba bb true now sb).map lsF), rEnv B ad [2]]) :=
  (tick_spec ad b mb (KL ba bb gn now sb) 2 now (KL_ok (by omega) h2) (by decide) (by omega) n).mono fun u L h => by
    rcases h with ⟨_, _, v', h4, h5⟩ | ⟨h4, _⟩
    · have eA : expP (now + n) (kA ba true now) = false := by simp [expP, kA_s]; omega
      cases gn
      · by_cases hx : 60 ≤ now + n - sb
        · have eB : expP (now + n) (kB bb true sb) = true := by simp [expP, kB_s]; omega
          have g1 : tickG (KL ba bb false now sb) (now + n) = [twoI] := by
            unfold tickG KL
            rw [if_neg (by decide), List.filter_cons_of_neg (by simp [eA]), List.filter_cons_of_pos (by simp [eB])]; rfl
          have g2 : tickL (KL ba bb false now sb) (now + n) = KL ba bb true now sb := by
            unfold tickL KL
            rw [if_neg (by decide), List.filter_cons_of_pos (by simp [eA]), List.filter_cons_of_neg (by simp [eB])]; rfl
          rw [g1, g2] at h5
          exact .inr (.inr ⟨rfl, hx, v', h4, h5⟩)
        · have eB : expP (now + n) (kB bb true sb) = false := by simp [expP, kB_s]; omega
          have g1 : tickG (KL ba bb false now sb) (now + n) = [] := by
            unfold tickG KL
            rw [if_neg (by decide), List.filter_cons_of_neg (by simp [eA]), List.filter_cons_of_neg (by simp [eB])]; rfl
          have g2 : tickL (KL ba bb false now sb) (now + n) = KL ba bb false now sb := by
            unfold tickL KL
            rw [if_neg (by decide), List.filter_cons_of_pos (by simp [eA]), List.filter_cons_of_pos (by simp [eB])]; rfl
          rw [g1, g2] at h5
          exact .inr (.inl ⟨rfl, by omega, v', h4, h5⟩)
      · have g1 : tickG (KL ba bb true now sb) (now + n) = [] := by
          unfold tickG KL
          rw [if_pos rfl, List.filter_cons_of_neg (by simp [eA])]; rfl
        have g2 : tickL (KL ba bb true now sb) (now + n) = KL ba bb true now sb := by
          unfold tickL KL
          rw [if_pos rfl, List.filter_cons_of_pos (by simp [eA])]; rfl
        rw [g1, g2] at h5
        exact .inl ⟨rfl, v', h4, h5⟩
    · exfalso; omega
end

set_option maxHeartbeats 1000000 in
theorem leaseKeeps_spec {B : Nat} (ad : Nat → Addr) (v : Value) (steps : List Int) (sp : Int) : Spec Tryd.prog 12 #[v, .int .i64 sp] [rArg v 1 idC steps, rEnvA B ad] (fun u L => u = .bool true ∧ L = [rArg v 1 idC steps, rEnvA B ad]) := by
  refine spec_of (#[v, .int .i64 sp, undef, undef, undef, undef, undef, undef, undef, undef, undef, undef, undef, undef, undef, undef, undef, undef, undef, undef, undef, undef, undef, undef, undef, undef, undef, undef, undef, undef, undef, undef, undef, undef, undef, undef, undef, undef, undef, undef, undef, undef, undef, undef, undef, undef, undef, undef, undef, undef, undef, undef, undef, undef, undef, undef, undef, undef, undef, undef, undef, undef, undef, undef, undef, undef, undef, undef, undef, undef, undef, undef, undef, undef, undef, undef, undef, undef, undef, undef, undef, undef, undef, undef, undef, undef, undef, undef, undef, undef, undef, undef, undef, undef, undef, undef, undef, undef, undef, undef, undef, undef, undef, undef, undef, undef, undef, undef, undef, undef, undef, undef, undef, undef, undef, undef, undef, undef, undef, undef, undef, undef, undef, undef, undef, undef, undef, undef, undef, undef, undef, undef, undef, undef, undef, undef, undef, undef, undef, undef, undef, undef, undef, undef, undef, undef, undef, undef, undef, undef, undef, undef, undef, undef, undef]) Tryd.func12 rfl (by kernel_rfl) fun E w0 w h => ?_
  have h := h.envSub [4] 1 rfl (by decide)
  have h := h.envSub [9] 2 rfl (by decide)
  have h := h.envSub [5] 3 rfl (by decide)
  have h := h.envSub [3] 4 rfl (by decide)
  have h := h.envSub [2] 5 rfl (by decide)
  refine c_seq ?_
  refine c_reg ?_
  refine sq_p (.bool false) rfl (fun _ => by kernel_rfl) ?_
  refine lnil ?_
  refine thn_n ?_
  refine c_seq ?_
  refine c_reg ?_
  refine sq_call #[] [4, 3, 2, 1] rfl (knownL_spec ad) (fun _ => by kernel_rfl) h ?_; rintro v_ L_ w ⟨rfl, rfl⟩ h
  refine sq_p (.bool true) rfl (fun _ => by kernel_rfl) ?_
  refine lnil ?_
  refine thn_n ?_
  refine c_seq ?_
  refine c_seq ?_
  refine c_reg ?_
  refine sq_p (.bool true) rfl (fun _ => by kernel_rfl) ?_
  refine sq_p (.bool false) rfl (fun _ => by kernel_rfl) ?_
  refine sq_p (.bool false) rfl (fun _ => by kernel_rfl) ?_
  refine sq_p (v) (by kernel_rfl) (fun _ => by kernel_rfl) ?_
  refine sq_q (by kernel_rfl) h (g_lenA 3 (by kernel_rfl) 5 rfl) ?_
  obtain ⟨b1, hb1⟩ : ∃ b_ : Bool, b_ = (decide ((steps.length : Int) > 60)) := ⟨_, rfl⟩
  refine sq_q (v := .bool b1) (by kernel_rfl) h (by subst hb1; exact g_pure (v := .bool (decide ((steps.length : Int) > 60))) fun _ => by kernel_rfl) ?_
  refine sq_p (.bool b1) rfl (fun _ => by kernel_rfl) ?_
  refine sq_p (.bool b1) rfl (fun _ => by kernel_rfl) ?_
  refine sq_m0 (v := .int .i64 sp) b1 (by cases b1 <;> kernel_rfl) h (fun hB => by subst hB; exact g_pure (v := .int .i64 sp) fun _ => by kernel_rfl) ?_
  obtain ⟨b2, hb2⟩ : ∃ b_ : Bool, b_ = (decide (sp < 0)) := ⟨_, rfl⟩
  refine sq_m0 (v := .bool b2) b1 (by cases b1 <;> kernel_rfl) h (fun hB => by subst hB; exact by subst hb2; exact g_pure (v := .bool (decide (sp < 0))) fun _ => by kernel_rfl) ?_
  obtain ⟨b3, hb3⟩ : ∃ b_ : Bool, b_ = (b1 || b2) := ⟨_, rfl⟩
  refine sq_q (v := .bool b3) rfl h (by subst hb3; exact g_pure (v := .bool (b1 || b2)) fun _ => by cases b1 <;> kernel_rfl) ?_
  refine lnil ?_
  refine thn_n ?_
  refine c_cond (b3) (by kernel_rfl) (fun hc4 => ?_) (fun hc4 => ?_)
  · skip
    have q5 : (b1 || b2) = true := by rw [← hb3]; exact hc4
    have q6 : (((steps.length : Int) > 60) ∨ (sp < 0)) := by subst hb2; subst hb1; revert q5; first | (simp; done) | (simp; omega)
    refine c_seq ?_
    refine c_reg ?_
    refine sq_p (.bool true) rfl (fun _ => by kernel_rfl) ?_
    refine sq_p (.bool true) rfl (fun _ => by kernel_rfl) ?_
    refine lnil ?_
    refine thn_n ?_
    refine c_ret ?_
    refine thn_r ?_
    refine ret_end [.bool true] [5, 5] h (by kernel_rfl) (res_t (by kernel_rfl) res_n) ?_
    exact ⟨rfl, rfl⟩
  · skip
    have q7 : (b1 || b2) = false := by rw [← hb3]; exact hc4
    have q8 : b1 = false := by revert q7; cases b1 <;> simp
    have q9 : b2 = false := by revert q7; cases b1 <;> cases b2 <;> simp
    have q10 : (decide ((steps.length : Int) > 60)) = false := by rw [← hb1]; exact q8
    have q10 := of_decide_eq_false q10
    have q11 : (decide (sp < 0)) = false := by rw [← hb2]; exact q9
    have q11 := of_decide_eq_false q11
    refine c_skip ?_
    refine thn_n ?_
    refine c_seq ?_
    refine c_reg ?_
    refine sq_call #[] [] rfl (leaseNew2_spec) (fun _ => by kernel_rfl) h ?_; rintro v_ L_ w ⟨p12, p13, rfl, rfl⟩ h
    refine sq_p (.pointer (some ⟨p12, 0, none⟩)) rfl (fun _ => by kernel_rfl) ?_
    refine lnil ?_
    refine thn_n ?_
    refine c_seq ?_
    refine c_seq ?_
    refine c_reg ?_
    refine sq_p (.pointer (some ⟨p12, 0, none⟩)) rfl (fun _ => by kernel_rfl) ?_
    refine sq_p (.bool false) rfl (fun _ => by kernel_rfl) ?_
    refine lnil ?_
    refine thn_n ?_
    refine c_false (by kernel_rfl) ?_
    refine c_skip ?_
    refine thn_n ?_
    refine c_seq ?_
    refine c_reg ?_
    refine sq_p (.pointer (some ⟨p12, 0, none⟩)) rfl (fun _ => by kernel_rfl) ?_
    refine sq_call #[.pointer (some ⟨p12, 0, none⟩), .string (⟨#[97]⟩ : ByteArray), .int .i64 1] [0, 0, 0, 0, 0] rfl (keepReg1_spec ad p12 p13) (fun _ => by kernel_rfl) h ?_; rintro v_ L_ w ⟨bk14, rfl, rfl⟩ h
    refine sq_p (.tuple #[.int .i64 1, .int .i64 1, .nilIface]) rfl (fun _ => by kernel_rfl) ?_
    refine sq_p (.int .i64 1) rfl (fun _ => by kernel_rfl) ?_
    refine sq_p (.int .i64 1) rfl (fun _ => by kernel_rfl) ?_
    refine sq_p (.nilIface) rfl (fun _ => by kernel_rfl) ?_
    refine sq_p (.int .i64 1) rfl (fun _ => by kernel_rfl) ?_
    refine sq_p (.int .i64 1) rfl (fun _ => by kernel_rfl) ?_
    refine sq_p (.nilIface) rfl (fun _ => by kernel_rfl) ?_
    refine lnil ?_
    refine thn_n ?_
    refine c_seq ?_
    refine c_reg ?_
    refine sq_p (.pointer (some ⟨p12, 0, none⟩)) rfl (fun _ => by kernel_rfl) ?_
    refine sq_call #[.pointer (some ⟨p12, 0, none⟩), .string (⟨#[98]⟩ : ByteArray), .int .i64 1] [0, 0, 0, 0, 0] rfl (keepReg2_spec ad p12 p13 bk14) (fun _ => by kernel_rfl) h ?_; rintro v_ L_ w ⟨bk15, rfl, rfl⟩ h
    refine sq_p (.tuple #[.int .i64 2, .int .i64 2, .nilIface]) rfl (fun _ => by kernel_rfl) ?_
    refine sq_p (.int .i64 2) rfl (fun _ => by kernel_rfl) ?_
    refine sq_p (.int .i64 2) rfl (fun _ => by kernel_rfl) ?_
    refine sq_p (.nilIface) rfl (fun _ => by kernel_rfl) ?_
    refine sq_p (.int .i64 2) rfl (fun _ => by kernel_rfl) ?_
    refine sq_p (.int .i64 2) rfl (fun _ => by kernel_rfl) ?_
    refine sq_p (.nilIface) rfl (fun _ => by kernel_rfl) ?_
    refine lnil ?_
    refine thn_n ?_
    refine c_seq ?_
    refine c_reg ?_
    refine sq_p (.pointer (some ⟨p12, 0, none⟩)) rfl (fun _ => by kernel_rfl) ?_
    refine sq_p (.int .i64 1) rfl (fun _ => by kernel_rfl) ?_
    refine sq_p (.int .i64 1) rfl (fun _ => by kernel_rfl) ?_
    refine sq_call #[.pointer (some ⟨p12, 0, none⟩), .int .i64 1, .int .i64 1] [0, 0, 0, 2, 2] rfl (keepConf1_spec ad p12 p13 bk14 bk15) (fun _ => by kernel_rfl) h ?_; rintro v_ L_ w ⟨rfl, rfl⟩ h
    refine sq_p (.tuple #[.int .i64 0, .nilIface]) rfl (fun _ => by kernel_rfl) ?_
    refine sq_p (.int .i64 0) rfl (fun _ => by kernel_rfl) ?_
    refine sq_p (.nilIface) rfl (fun _ => by kernel_rfl) ?_
    refine sq_p (.int .i64 0) rfl (fun _ => by kernel_rfl) ?_
    refine sq_p (.nilIface) rfl (fun _ => by kernel_rfl) ?_
    refine lnil ?_
    refine thn_n ?_
    refine c_seq ?_
    refine c_reg ?_
    refine sq_p (.pointer (some ⟨p12, 0, none⟩)) rfl (fun _ => by kernel_rfl) ?_
    refine sq_p (.int .i64 2) rfl (fun _ => by kernel_rfl) ?_
    refine sq_p (.int .i64 2) rfl (fun _ => by kernel_rfl) ?_
    refine sq_call #[.pointer (some ⟨p12, 0, none⟩), .int .i64 2, .int .i64 2] [0, 0, 0, 0, 0] rfl (keepConf2_spec ad p12 p13 bk14 bk15) (fun _ => by kernel_rfl) h ?_; rintro v_ L_ w ⟨rfl, rfl⟩ h
    refine sq_p (.tuple #[.int .i64 0, .nilIface]) rfl (fun _ => by kernel_rfl) ?_
    refine sq_p (.int .i64 0) rfl (fun _ => by kernel_rfl) ?_
    refine sq_p (.nilIface) rfl (fun _ => by kernel_rfl) ?_
    refine sq_p (.int .i64 0) rfl (fun _ => by kernel_rfl) ?_
    refine sq_p (.nilIface) rfl (fun _ => by kernel_rfl) ?_
    refine lnil ?_
    refine thn_n ?_
    refine c_seq ?_
    refine c_seq ?_
    refine c_reg ?_
    refine sq_p (.nilIface) rfl (fun _ => by kernel_rfl) ?_
    refine sq_p (.bool false) rfl (fun _ => by kernel_rfl) ?_
    refine sq_p (.bool false) rfl (fun _ => by kernel_rfl) ?_
    refine sq_p (.nilIface) (by kernel_rfl) (fun _ => by kernel_rfl) ?_
    refine sq_p (.bool false) (by kernel_rfl) (fun _ => by kernel_rfl) ?_
    refine sq_p (.bool false) rfl (fun _ => by kernel_rfl) ?_
    refine sq_p (.bool false) rfl (fun _ => by kernel_rfl) ?_
    refine sq_p (.nilIface) (by kernel_rfl) (fun _ => by kernel_rfl) ?_
    refine sq_p (.bool false) (by kernel_rfl) (fun _ => by kernel_rfl) ?_
    refine sq_p (.bool false) rfl (fun _ => by kernel_rfl) ?_
    refine sq_p (.bool false) rfl (fun _ => by kernel_rfl) ?_
    refine sq_p (.nilIface) (by kernel_rfl) (fun _ => by kernel_rfl) ?_
    refine sq_p (.bool false) (by kernel_rfl) (fun _ => by kernel_rfl) ?_
    refine sq_p (.bool false) rfl (fun _ => by kernel_rfl) ?_
    refine lnil ?_
    refine thn_n ?_
    refine c_false (by kernel_rfl) ?_
    refine c_skip ?_
    refine thn_n ?_
    refine c_seq ?_
    refine c_reg ?_
    refine sq_p (.int .i64 0) rfl (fun _ => by kernel_rfl) ?_
    refine lnil ?_
    refine thn_n ?_
    refine c_seq ?_
    refine c_reg ?_
    refine sq_p (.bool false) rfl (fun _ => by kernel_rfl) ?_
    refine lnil ?_
    refine thn_n ?_
    refine c_seq ?_
    refine c_seq ?_
    refine c_reg ?_
    refine sq_p (.int .i64 0) rfl (fun _ => by kernel_rfl) ?_
    refine lnil ?_
    refine thn_n ?_
    refine c_block ?_
    refine c_loop (X := Nat × Bool × Int × Int × Int × (Nat → Value)) (fun ⟨i0, gn, nw, sb, ag, J0⟩ => ⟨#[v, .int .i64 sp, undef, undef, J0 4, .bool true, .pointer (some ⟨p12, 0, none⟩), .int .i64 1, .int .i64 1, .nilIface, .int .i64 2, .int .i64 2, .nilIface, .int .i64 0, .nilIface, .int .i64 0, .nilIface, .int .i64 ag, .bool gn, .int .i64 (i0 : Int), J0 20, J0 21, J0 22, .bool true, .bool true, .bool false, .bool false, v, .int .i64 (steps.length : Int), .bool b1, .bool b1, .bool b1, (if b1 = false then .int .i64 sp else undef), (if b1 = false then .bool b2 else undef), .bool b3, undef, .pointer (some ⟨p12, 0, none⟩), .pointer (some ⟨p12, 0, none⟩), .bool false, .tuple #[.int .i64 1, .int .i64 1, .nilIface], .pointer (some ⟨p12, 0, none⟩), .tuple #[.int .i64 1, .int .i64 1, .nilIface], .int .i64 1, .int .i64 1, .nilIface, .tuple #[.int .i64 2, .int .i64 2, .nilIface], .pointer (some ⟨p12, 0, none⟩), .tuple #[.int .i64 2, .int .i64 2, .nilIface], .int .i64 2, .int .i64 2, .nilIface, .tuple #[.int .i64 0, .nilIface], .pointer (some ⟨p12, 0, none⟩), .int .i64 1, .int .i64 1, .tuple #[.int .i64 0, .nilIface], .int .i64 0, .nilIface, .tuple #[.int .i64 0, .nilIface], .pointer (some ⟨p12, 0, none⟩), .int .i64 2, .int .i64 2, .tuple #[.int .i64 0, .nilIface], .int .i64 0, .nilIface, .nilIface, .bool false, .bool false, .nilIface, .bool false, .bool false, .bool false, .nilIface, .bool false, .bool false, .bool false, .nilIface, .bool false, .bool false, J0 79, J0 80, J0 81, J0 82, J0 83, J0 84, J0 85, J0 86, J0 87, J0 88, J0 89, J0 90, J0 91, J0 92, J0 93, J0 94, J0 95, J0 96, J0 97, J0 98, J0 99, J0 100, J0 101, J0 102, J0 103, J0 104, J0 105, J0 106, J0 107, J0 108, J0 109, J0 110, J0 111, J0 112, J0 113, J0 114, J0 115, J0 116, J0 117, J0 118, J0 119, J0 120, J0 121, J0 122, J0 123, J0 124, J0 125, J0 126, J0 127, J0 128, J0 129, J0 130, J0 131, J0 132, J0 133, J0 134, J0 135, J0 136, J0 137, J0 138, J0 139, J0 140, J0 141, J0 142, J0 143, J0 144, J0 145, J0 146, J0 147, J0 148, J0 149, J0 150, J0 151, J0 152, J0 153, J0 154], []⟩)
      (fun ⟨i0, gn, nw, sb, ag, J0⟩ => [rCell true p12 [.map (some p13), .int .i64 2, .int .i64 nw] 227, rMap true p13 ik ((KL bk14 bk15 gn nw sb).map lsKV), rFam true 231 cliC ((KL bk14 bk15 gn nw sb).map lsF), rEnv B ad [5], rEnv B ad [3], rEnv B ad [4], rEnv B ad [9], rEnv B ad [2], rArg v 1 idC steps, rEnvA B ad]) (fun ⟨i0, gn, nw, sb, ag, J0⟩ => i0 ≤ steps.length ∧ 0 ≤ nw ∧ nw ≤ 60 * i0 ∧ 0 ≤ ag ∧ ag ≤ 60 * i0 ∧ (gn = false → sb = nw - ag ∧ 0 ≤ sb ∧ ag < 60)) (fun ⟨i0, gn, nw, sb, ag, J0⟩ => steps.length - i0)
      ⟨0, false, 0, 0, 0, (fun n => (#[v, .int .i64 sp, undef, undef, .bool false, .bool true, .pointer (some ⟨p12, 0, none⟩), .int .i64 1, .int .i64 1, .nilIface, .int .i64 2, .int .i64 2, .nilIface, .int .i64 0, .nilIface, .int .i64 0, .nilIface, .int .i64 0, .bool false, .int .i64 0, undef, undef, undef, .bool true, .bool true, .bool false, .bool false, v, .int .i64 (steps.length : Int), .bool b1, .bool b1, .bool b1, (if b1 = false then .int .i64 sp else undef), (if b1 = false then .bool b2 else undef), .bool b3, undef, .pointer (some ⟨p12, 0, none⟩), .pointer (some ⟨p12, 0, none⟩), .bool false, .tuple #[.int .i64 1, .int .i64 1, .nilIface], .pointer (some ⟨p12, 0, none⟩), .tuple #[.int .i64 1, .int .i64 1, .nilIface], .int .i64 1, .int .i64 1, .nilIface, .tuple #[.int .i64 2, .int .i64 2, .nilIface], .pointer (some ⟨p12, 0, none⟩), .tuple #[.int .i64 2, .int .i64 2, .nilIface], .int .i64 2, .int .i64 2, .nilIface, .tuple #[.int .i64 0, .nilIface], .pointer (some ⟨p12, 0, none⟩), .int .i64 1, .int .i64 1, .tuple #[.int .i64 0, .nilIface], .int .i64 0, .nilIface, .tuple #[.int .i64 0, .nilIface], .pointer (some ⟨p12, 0, none⟩), .int .i64 2, .int .i64 2, .tuple #[.int .i64 0, .nilIface], .int .i64 0, .nilIface, .nilIface, .bool false, .bool false, .nilIface, .bool false, .bool false, .bool false, .nilIface, .bool false, .bool false, .bool false, .nilIface, .bool false, .bool false, undef, undef, undef, undef, undef, undef, undef, undef, undef, undef, undef, undef, undef, undef, undef, undef, undef, undef, undef, undef, undef, undef, undef, undef, undef, undef, undef, undef, undef, undef, undef, undef, undef, undef, undef, undef, undef, undef, undef, undef, undef, undef, undef, undef, undef, undef, undef, undef, undef, undef, undef, undef, undef, undef, undef, undef, undef, undef, undef, undef, undef, undef, undef, undef, undef, undef, undef, undef, undef, undef, undef, undef, undef, undef, undef, undef] : Array Value).getD n undef)⟩ ⟨by omega, by omega, by omega, by omega, by omega, fun _ => by omega⟩ (by kernel_rfl) [0, 0, 0, 0, 0, 0, 0, 0, 0, 0] (by kernel_rfl) h ?_
    rintro ⟨i0, gn, nw, sb, ag, J0⟩ w hG h
    obtain ⟨hi0, hn1, hn2, ha1, ha2, hgn⟩ : i0 ≤ steps.length ∧ 0 ≤ nw ∧ nw ≤ 60 * i0 ∧ 0 ≤ ag ∧ ag ≤ 60 * i0 ∧ (gn = false → sb = nw - ag ∧ 0 ≤ sb ∧ ag < 60) := hG
    refine c_seq ?_
    refine c_seq ?_
    refine c_reg ?_
    refine sq_p (.int .i64 (i0 : Int)) rfl (fun _ => by kernel_rfl) ?_
    refine sq_p (v) rfl (fun _ => by kernel_rfl) ?_
    refine sq_q rfl h (g_lenA 3 (by kernel_rfl) 8 rfl) ?_
    refine sq_p (.bool (decide ((i0 : Int) < (steps.length : Int)))) rfl (fun _ => by kernel_rfl) ?_
    refine lnil ?_
    refine thn_n ?_
    refine c_cond (decide ((i0 : Int) < (steps.length : Int))) (by kernel_rfl) (fun hc16 => ?_) (fun hc16 => ?_)
    · skip
      have hc16 := of_decide_eq_true hc16
      refine c_skip ?_
      refine thn_n ?_
      refine c_seq ?_
      refine c_block ?_
      refine c_seq ?_
      refine c_reg ?_
      refine sq_p (v) rfl (fun _ => by kernel_rfl) ?_
      refine sq_p (.int .i64 (i0 : Int)) rfl (fun _ => by kernel_rfl) ?_
      have hi17 : i0 < steps.length := by omega
      obtain ⟨x18, hx19⟩ : ∃ x, steps[i0]? = some x := ⟨_, List.getElem?_eq_getElem hi17⟩
      refine sq_q rfl h (g_idxA 3 i0 (by kernel_rfl) hi17 8 rfl) ?_
      refine sq_q rfl h (g_ldr (b := blkN v) (offN v + i0 * 1) [.int .i64 x18] (.int .i64 x18) (by kernel_rfl) 8 rfl (rdArg0 hx19 (by kernel_rfl))) ?_
      refine sq_p (.int .i64 x18) rfl (fun _ => by kernel_rfl) ?_
      refine lnil ?_
      refine thn_n ?_
      refine c_seq ?_
      refine c_seq ?_
      refine c_reg ?_
      refine sq_p (.int .i64 x18) rfl (fun _ => by kernel_rfl) ?_
      obtain ⟨b20, hb20⟩ : ∃ b_ : Bool, b_ = (decide (x18 < 0)) := ⟨_, rfl⟩
      refine sq_q (v := .bool b20) rfl h (by subst hb20; exact g_pure (v := .bool (decide (x18 < 0))) fun _ => by kernel_rfl) ?_
      refine sq_p (.bool b20) rfl (fun _ => by kernel_rfl) ?_
      refine sq_m0 (v := .int .i64 x18) b20 (by cases b20 <;> kernel_rfl) h (fun hB => by subst hB; exact g_pure (v := .int .i64 x18) fun _ => by kernel_rfl) ?_
      obtain ⟨b21, hb21⟩ : ∃ b_ : Bool, b_ = (decide (x18 ≥ 60)) := ⟨_, rfl⟩
      refine sq_m0 (v := .bool b21) b20 (by cases b20 <;> kernel_rfl) h (fun hB => by subst hB; exact by subst hb21; exact g_pure (v := .bool (decide (x18 ≥ 60))) fun _ => by kernel_rfl) ?_
      obtain ⟨b22, hb22⟩ : ∃ b_ : Bool, b_ = (b20 || b21) := ⟨_, rfl⟩
      refine sq_q (v := .bool b22) rfl h (by subst hb22; exact g_pure (v := .bool (b20 || b21)) fun _ => by cases b20 <;> kernel_rfl) ?_
      refine lnil ?_
      refine thn_n ?_
      refine c_cond (b22) (by kernel_rfl) (fun hc23 => ?_) (fun hc23 => ?_)
      · skip
        have q24 : (b20 || b21) = true := by rw [← hb22]; exact hc23
        have q25 : ((x18 < 0) ∨ (x18 ≥ 60)) := by subst hb21; subst hb20; revert q24; first | (simp; done) | (simp; omega)
        refine c_exit ?_
        refine thn_e (blk_e (thn_n ?_))
        refine c_reg ?_
        refine sq_p (.int .i64 (i0 : Int)) rfl (fun _ => by kernel_rfl) ?_
        refine sq_q rfl h (g_eq (v := .int .i64 (IntKind.i64.wrap ((i0 : Int) + 1))) (v' := .int .i64 ((i0 + 1 : Nat) : Int)) (g_pure fun _ => by kernel_rfl) (wr (by omega))) ?_
        refine sq_p (.int .i64 ((i0 + 1 : Nat) : Int)) rfl (fun _ => by kernel_rfl) ?_
        refine lnil ?_
        refine loop_end (fun j => ⟨(i0 + 1), gn, nw, sb, ag, j⟩) (show ((i0 + 1) ≤ steps.length ∧ 0 ≤ nw ∧ nw ≤ 60 * (i0 + 1) ∧ 0 ≤ ag ∧ ag ≤ 60 * (i0 + 1) ∧ (gn = false → sb = nw - ag ∧ 0 ≤ sb ∧ ag < 60)) ∧ (steps.length - (i0 + 1)) < (steps.length - i0) from ⟨⟨by omega, by omega, by omega, by omega, by omega, hgn⟩, by omega⟩) (by kernel_rfl) [0, 0, 0, 0, 0, 0, 0, 0, 0, 0] (by kernel_rfl) h
      · skip
        have q26 : (b20 || b21) = false := by rw [← hb22]; exact hc23
        have q27 : b20 = false := by revert q26; cases b20 <;> simp
        have q28 : b21 = false := by revert q26; cases b20 <;> cases b21 <;> simp
        have q29 : (decide (x18 < 0)) = false := by rw [← hb20]; exact q27
        have q29 := of_decide_eq_false q29
        have q30 : (decide (x18 ≥ 60)) = false := by rw [← hb21]; exact q28
        have q30 := of_decide_eq_false q30
        refine c_skip ?_
        refine thn_n ?_
        refine c_seq ?_
        refine c_reg ?_
        refine sq_p (.pointer (some ⟨p12, 0, none⟩)) rfl (fun _ => by kernel_rfl) ?_
        refine sq_p (.int .i64 x18) rfl (fun _ => by kernel_rfl) ?_
        refine sq_call #[.pointer (some ⟨p12, 0, none⟩), .int .i64 x18] [0, 0, 0, 4] rfl (keepTick_spec ad p12 p13 bk14 bk15 (fun hq => by have := hgn hq; omega) (by omega) (by omega) (by omega)) (fun _ => by kernel_rfl) h ?_; rintro v_ L_ w (⟨rfl, v31, rfl, rfl⟩ | ⟨rfl, hx34, v32, rfl, rfl⟩ | ⟨rfl, hx35, v33, rfl, rfl⟩) h
        · skip
          refine sq_p (.tuple #[v31, .nilIface]) rfl (fun _ => by kernel_rfl) ?_
          refine sq_p (v31) rfl (fun _ => by kernel_rfl) ?_
          refine sq_p (.nilIface) rfl (fun _ => by kernel_rfl) ?_
          refine sq_p (v31) rfl (fun _ => by kernel_rfl) ?_
          refine sq_p (.nilIface) rfl (fun _ => by kernel_rfl) ?_
          refine lnil ?_
          refine thn_n ?_
          refine c_seq ?_
          refine c_seq ?_
          refine c_reg ?_
          refine sq_p (.nilIface) rfl (fun _ => by kernel_rfl) ?_
          refine sq_p (.bool false) rfl (fun _ => by kernel_rfl) ?_
          refine sq_p (.bool false) rfl (fun _ => by kernel_rfl) ?_
          refine sq_p (.pointer (some ⟨p12, 0, none⟩)) (by kernel_rfl) (fun _ => by kernel_rfl) ?_
          refine sq_p (.int .i64 1) (by kernel_rfl) (fun _ => by kernel_rfl) ?_
          refine sq_call #[.pointer (some ⟨p12, 0, none⟩), .int .i64 1] [1, 1, 1, 2] (by kernel_rfl) (keepRenA_spec ad p12 p13 bk14 bk15 (by omega) (fun hq => by cases hq) (by omega)) (fun _ => by kernel_rfl) h ?_; rintro v_ L_ w ⟨rfl, rfl⟩ h
          refine sq_p (.bool false) (by kernel_rfl) (fun _ => by kernel_rfl) ?_
          refine sq_p (.bool false) rfl (fun _ => by kernel_rfl) ?_
          refine lnil ?_
          refine thn_n ?_
          refine c_false (by kernel_rfl) ?_
          refine c_skip ?_
          refine thn_n ?_
          refine c_seq ?_
          refine c_reg ?_
          refine sq_p (.int .i64 ag) rfl (fun _ => by kernel_rfl) ?_
          refine sq_p (.int .i64 x18) rfl (fun _ => by kernel_rfl) ?_
          refine sq_q rfl h (g_eq (v := .int .i64 (IntKind.i64.wrap (ag + x18))) (v' := .int .i64 (ag + x18)) (g_pure fun _ => by kernel_rfl) (wr (by omega))) ?_
          refine sq_p (.int .i64 (ag + x18)) rfl (fun _ => by kernel_rfl) ?_
          refine lnil ?_
          refine thn_n ?_
          refine c_seq ?_
          refine c_seq ?_
          refine c_reg ?_
          refine sq_p (.int .i64 (ag + x18)) rfl (fun _ => by kernel_rfl) ?_
          refine sq_p (.bool (decide (ag + x18 ≥ 60))) rfl (fun _ => by kernel_rfl) ?_
          refine lnil ?_
          refine thn_n ?_
          refine c_cond (decide (ag + x18 ≥ 60)) (by kernel_rfl) (fun hc36 => ?_) (fun hc36 => ?_)
          · skip
            have hc36 := of_decide_eq_true hc36
            refine c_seq ?_
            refine c_seq ?_
            refine c_reg ?_
            refine sq_p (.bool true) rfl (fun _ => by kernel_rfl) ?_
            refine sq_p (.bool false) rfl (fun _ => by kernel_rfl) ?_
            refine sq_p (.bool false) rfl (fun _ => by kernel_rfl) ?_
            refine sn (by kernel_rfl) ?_
            refine sn (by kernel_rfl) ?_
            refine sn (by kernel_rfl) ?_
            refine sn (by kernel_rfl) ?_
            refine sn (by kernel_rfl) ?_
            refine sn (by kernel_rfl) ?_
            refine sn (by kernel_rfl) ?_
            refine sn (by kernel_rfl) ?_
            refine sn (by kernel_rfl) ?_
            refine sn (by kernel_rfl) ?_
            refine sq_p (.bool false) rfl (fun _ => by kernel_rfl) ?_
            refine sq_p (.bool false) rfl (fun _ => by kernel_rfl) ?_
            refine sq_p (.bool true) (by kernel_rfl) (fun _ => by kernel_rfl) ?_
            refine sq_p (.bool true) (by kernel_rfl) (fun _ => by kernel_rfl) ?_
            refine sq_p (v31) (by kernel_rfl) (fun _ => by kernel_rfl) ?_
            refine sq_q (by kernel_rfl) h (g_eq (v := .int .i64 (([].length : Nat) : Int)) (v' := .int .i64 0) (g_len (by kernel_rfl) 4 rfl) rfl) ?_
            refine sq_p (.bool false) (by kernel_rfl) (fun _ => by kernel_rfl) ?_
            refine sq_p (.bool false) (by kernel_rfl) (fun _ => by kernel_rfl) ?_
            refine sq_p (.bool false) rfl (fun _ => by kernel_rfl) ?_
            refine lnil ?_
            refine thn_n ?_
            refine c_false (by kernel_rfl) ?_
            refine c_skip ?_
            refine thn_n ?_
            refine c_reg ?_
            refine sq_p (.bool true) rfl (fun _ => by kernel_rfl) ?_
            refine lnil ?_
            refine thn_n ?_
            refine c_seq ?_
            refine c_seq ?_
            refine c_reg ?_
            refine sq_p (.bool true) rfl (fun _ => by kernel_rfl) ?_
            refine sq_p (.bool false) rfl (fun _ => by kernel_rfl) ?_
            refine sq_p (.bool false) rfl (fun _ => by kernel_rfl) ?_
            refine sn (by kernel_rfl) ?_
            refine sn (by kernel_rfl) ?_
            refine sn (by kernel_rfl) ?_
            refine sq_p (.bool false) rfl (fun _ => by kernel_rfl) ?_
            refine lnil ?_
            refine thn_n ?_
            refine c_false (by kernel_rfl) ?_
            refine c_skip ?_
            refine thn_n ?_
            refine c_seq ?_
            refine c_reg ?_
            refine sq_p (.bool true) rfl (fun _ => by kernel_rfl) ?_
            refine sq_p (.bool true) rfl (fun _ => by kernel_rfl) ?_
            refine sq_p (.pointer (some ⟨p12, 0, none⟩)) (by kernel_rfl) (fun _ => by kernel_rfl) ?_
            refine sq_p (.int .i64 2) (by kernel_rfl) (fun _ => by kernel_rfl) ?_
            refine sq_call #[.pointer (some ⟨p12, 0, none⟩), .int .i64 2] [0, 0, 0, 0] (by kernel_rfl) (keepRenG_spec ad p12 p13 bk14 bk15 (by omega) (by omega)) (fun _ => by kernel_rfl) h ?_; rintro v_ L_ w ⟨rfl, rfl⟩ h
            refine sq_call #[errV ad 5, .int .i64 5] [10] (by kernel_rfl) (coded2_spec ad 5 5 (by decide) rfl) (fun _ => by kernel_rfl) h ?_; rintro v_ L_ w ⟨rfl, rfl⟩ h
            refine sq_p (.bool false) (by kernel_rfl) (fun _ => by kernel_rfl) ?_
            refine sq_p (.bool false) rfl (fun _ => by kernel_rfl) ?_
            refine lnil ?_
            refine thn_n ?_
            refine c_false (by kernel_rfl) ?_
            refine c_skip ?_
            refine blk_n (thn_n ?_)
            refine c_reg ?_
            refine sq_p (.int .i64 (i0 : Int)) rfl (fun _ => by kernel_rfl) ?_
            refine sq_q rfl h (g_eq (v := .int .i64 (IntKind.i64.wrap ((i0 : Int) + 1))) (v' := .int .i64 ((i0 + 1 : Nat) : Int)) (g_pure fun _ => by kernel_rfl) (wr (by omega))) ?_
            refine sq_p (.int .i64 ((i0 + 1 : Nat) : Int)) rfl (fun _ => by kernel_rfl) ?_
            refine lnil ?_
            refine loop_end (fun j => ⟨(i0 + 1), true, (nw + x18), sb, (ag + x18), j⟩) (show ((i0 + 1) ≤ steps.length ∧ 0 ≤ (nw + x18) ∧ (nw + x18) ≤ 60 * (i0 + 1) ∧ 0 ≤ (ag + x18) ∧ (ag + x18) ≤ 60 * (i0 + 1) ∧ (true = false → sb = (nw + x18) - (ag + x18) ∧ 0 ≤ sb ∧ (ag + x18) < 60)) ∧ (steps.length - (i0 + 1)) < (steps.length - i0) from ⟨⟨by omega, by omega, by omega, by omega, by omega, fun hq => by cases hq⟩, by omega⟩) (by kernel_rfl) [1, 1, 1, 1, 3, 3, 3, 2, 2, 0] (by kernel_rfl) h
          · skip
            have hc36 := of_decide_eq_false hc36
            refine c_skip ?_
            refine thn_n ?_
            refine c_seq ?_
            refine c_seq ?_
            refine c_reg ?_
            refine sq_p (.bool true) rfl (fun _ => by kernel_rfl) ?_
            refine sq_p (.bool false) rfl (fun _ => by kernel_rfl) ?_
            refine sq_p (.bool false) rfl (fun _ => by kernel_rfl) ?_
            refine sn (by kernel_rfl) ?_
            refine sn (by kernel_rfl) ?_
            refine sn (by kernel_rfl) ?_
            refine sq_p (.bool false) rfl (fun _ => by kernel_rfl) ?_
            refine lnil ?_
            refine thn_n ?_
            refine c_false (by kernel_rfl) ?_
            refine c_skip ?_
            refine thn_n ?_
            refine c_seq ?_
            refine c_reg ?_
            refine sq_p (.bool true) rfl (fun _ => by kernel_rfl) ?_
            refine sq_p (.bool true) rfl (fun _ => by kernel_rfl) ?_
            refine sq_p (.pointer (some ⟨p12, 0, none⟩)) (by kernel_rfl) (fun _ => by kernel_rfl) ?_
            refine sq_p (.int .i64 2) (by kernel_rfl) (fun _ => by kernel_rfl) ?_
            refine sq_call #[.pointer (some ⟨p12, 0, none⟩), .int .i64 2] [0, 0, 0, 0] (by kernel_rfl) (keepRenG_spec ad p12 p13 bk14 bk15 (by omega) (by omega)) (fun _ => by kernel_rfl) h ?_; rintro v_ L_ w ⟨rfl, rfl⟩ h
            refine sq_call #[errV ad 5, .int .i64 5] [10] (by kernel_rfl) (coded2_spec ad 5 5 (by decide) rfl) (fun _ => by kernel_rfl) h ?_; rintro v_ L_ w ⟨rfl, rfl⟩ h
            refine sq_p (.bool false) (by kernel_rfl) (fun _ => by kernel_rfl) ?_
            refine sq_p (.bool false) rfl (fun _ => by kernel_rfl) ?_
            refine lnil ?_
            refine thn_n ?_
            refine c_false (by kernel_rfl) ?_
            refine c_skip ?_
            refine blk_n (thn_n ?_)
            refine c_reg ?_
            refine sq_p (.int .i64 (i0 : Int)) rfl (fun _ => by kernel_rfl) ?_
            refine sq_q rfl h (g_eq (v := .int .i64 (IntKind.i64.wrap ((i0 : Int) + 1))) (v' := .int .i64 ((i0 + 1 : Nat) : Int)) (g_pure fun _ => by kernel_rfl) (wr (by omega))) ?_
            refine sq_p (.int .i64 ((i0 + 1 : Nat) : Int)) rfl (fun _ => by kernel_rfl) ?_
            refine lnil ?_
            refine loop_end (fun j => ⟨(i0 + 1), true, (nw + x18), sb, (ag + x18), j⟩) (show ((i0 + 1) ≤ steps.length ∧ 0 ≤ (nw + x18) ∧ (nw + x18) ≤ 60 * (i0 + 1) ∧ 0 ≤ (ag + x18) ∧ (ag + x18) ≤ 60 * (i0 + 1) ∧ (true = false → sb = (nw + x18) - (ag + x18) ∧ 0 ≤ sb ∧ (ag + x18) < 60)) ∧ (steps.length - (i0 + 1)) < (steps.length - i0) from ⟨⟨by omega, by omega, by omega, by omega, by omega, fun hq => by cases hq⟩, by omega⟩) (by kernel_rfl) [1, 1, 1, 1, 3, 3, 3, 2, 2, 0] (by kernel_rfl) h
        · skip
          obtain ⟨hs1, hs2, hs3⟩ := hgn rfl
          refine sq_p (.tuple #[v32, .nilIface]) rfl (fun _ => by kernel_rfl) ?_
          refine sq_p (v32) rfl (fun _ => by kernel_rfl) ?_
          refine sq_p (.nilIface) rfl (fun _ => by kernel_rfl) ?_
          refine sq_p (v32) rfl (fun _ => by kernel_rfl) ?_
          refine sq_p (.nilIface) rfl (fun _ => by kernel_rfl) ?_
          refine lnil ?_
          refine thn_n ?_
          refine c_seq ?_
          refine c_seq ?_
          refine c_reg ?_
          refine sq_p (.nilIface) rfl (fun _ => by kernel_rfl) ?_
          refine sq_p (.bool false) rfl (fun _ => by kernel_rfl) ?_
          refine sq_p (.bool false) rfl (fun _ => by kernel_rfl) ?_
          refine sq_p (.pointer (some ⟨p12, 0, none⟩)) (by kernel_rfl) (fun _ => by kernel_rfl) ?_
          refine sq_p (.int .i64 1) (by kernel_rfl) (fun _ => by kernel_rfl) ?_
          refine sq_call #[.pointer (some ⟨p12, 0, none⟩), .int .i64 1] [1, 1, 1, 2] (by kernel_rfl) (keepRenA_spec ad p12 p13 bk14 bk15 (by omega) (fun _ => by omega) (by omega)) (fun _ => by kernel_rfl) h ?_; rintro v_ L_ w ⟨rfl, rfl⟩ h
          refine sq_p (.bool false) (by kernel_rfl) (fun _ => by kernel_rfl) ?_
          refine sq_p (.bool false) rfl (fun _ => by kernel_rfl) ?_
          refine lnil ?_
          refine thn_n ?_
          refine c_false (by kernel_rfl) ?_
          refine c_skip ?_
          refine thn_n ?_
          refine c_seq ?_
          refine c_reg ?_
          refine sq_p (.int .i64 ag) rfl (fun _ => by kernel_rfl) ?_
          refine sq_p (.int .i64 x18) rfl (fun _ => by kernel_rfl) ?_
          refine sq_q rfl h (g_eq (v := .int .i64 (IntKind.i64.wrap (ag + x18))) (v' := .int .i64 (ag + x18)) (g_pure fun _ => by kernel_rfl) (wr (by omega))) ?_
          refine sq_p (.int .i64 (ag + x18)) rfl (fun _ => by kernel_rfl) ?_
          refine lnil ?_
          refine thn_n ?_
          refine c_seq ?_
          refine c_seq ?_
          refine c_reg ?_
          refine sq_p (.int .i64 (ag + x18)) rfl (fun _ => by kernel_rfl) ?_
          refine sq_p (.bool (decide (ag + x18 ≥ 60))) rfl (fun _ => by kernel_rfl) ?_
          refine lnil ?_
          refine thn_n ?_
          refine c_cond (decide (ag + x18 ≥ 60)) (by kernel_rfl) (fun hc37 => ?_) (fun hc37 => ?_)
          · skip
            have hc37 := of_decide_eq_true hc37
            exfalso; omega
          · skip
            have hc37 := of_decide_eq_false hc37
            refine c_skip ?_
            refine thn_n ?_
            refine c_seq ?_
            refine c_seq ?_
            refine c_reg ?_
            refine sq_p (.bool false) rfl (fun _ => by kernel_rfl) ?_
            refine sq_p (.bool true) rfl (fun _ => by kernel_rfl) ?_
            refine sq_p (.bool true) rfl (fun _ => by kernel_rfl) ?_
            refine sq_p (.int .i64 (i0 : Int)) (by kernel_rfl) (fun _ => by kernel_rfl) ?_
            refine sq_p (.int .i64 sp) (by kernel_rfl) (fun _ => by kernel_rfl) ?_
            obtain ⟨b38, hb38⟩ : ∃ b_ : Bool, b_ = (decide ((i0 : Int) < sp)) := ⟨_, rfl⟩
            refine sq_q (v := .bool b38) (by kernel_rfl) h (by subst hb38; exact g_pure (v := .bool (decide ((i0 : Int) < sp))) fun _ => by kernel_rfl) ?_
            refine sq_p (.bool b38) rfl (fun _ => by kernel_rfl) ?_
            refine lnil ?_
            refine thn_n ?_
            refine c_cond (b38) (by kernel_rfl) (fun hc39 => ?_) (fun hc39 => ?_)
            · skip
              have q40 : (decide ((i0 : Int) < sp)) = true := by rw [← hb38]; exact hc39
              have q40 := of_decide_eq_true q40
              refine c_seq ?_
              refine c_reg ?_
              refine sq_p (.int .i64 0) rfl (fun _ => by kernel_rfl) ?_
              refine lnil ?_
              refine thn_n ?_
              refine c_seq ?_
              refine c_reg ?_
              refine sq_p (.pointer (some ⟨p12, 0, none⟩)) rfl (fun _ => by kernel_rfl) ?_
              refine sq_p (.int .i64 2) rfl (fun _ => by kernel_rfl) ?_
              refine sq_call #[.pointer (some ⟨p12, 0, none⟩), .int .i64 2] [0, 0, 0, 0] rfl (keepRenB_spec ad p12 p13 bk14 bk15 (by omega) (by omega) (by omega)) (fun _ => by kernel_rfl) h ?_; rintro v_ L_ w ⟨rfl, rfl⟩ h
              refine sq_p (.bool false) rfl (fun _ => by kernel_rfl) ?_
              refine lnil ?_
              refine thn_n ?_
              refine c_false (by kernel_rfl) ?_
              refine c_skip ?_
              refine thn_n ?_
              refine c_seq ?_
              refine c_reg ?_
              refine sq_p (.bool false) rfl (fun _ => by kernel_rfl) ?_
              refine sq_p (.bool false) rfl (fun _ => by kernel_rfl) ?_
              refine sn (by kernel_rfl) ?_
              refine sn (by kernel_rfl) ?_
              refine sn (by kernel_rfl) ?_
              refine sn (by kernel_rfl) ?_
              refine sn (by kernel_rfl) ?_
              refine sq_p (.bool false) rfl (fun _ => by kernel_rfl) ?_
              refine lnil ?_
              refine thn_n ?_
              refine c_false (by kernel_rfl) ?_
              refine c_skip ?_
              refine blk_n (thn_n ?_)
              refine c_reg ?_
              refine sq_p (.int .i64 (i0 : Int)) rfl (fun _ => by kernel_rfl) ?_
              refine sq_q rfl h (g_eq (v := .int .i64 (IntKind.i64.wrap ((i0 : Int) + 1))) (v' := .int .i64 ((i0 + 1 : Nat) : Int)) (g_pure fun _ => by kernel_rfl) (wr (by omega))) ?_
              refine sq_p (.int .i64 ((i0 + 1 : Nat) : Int)) rfl (fun _ => by kernel_rfl) ?_
              refine lnil ?_
              refine loop_end (fun j => ⟨(i0 + 1), false, (nw + x18), (nw + x18), (0 : Int), j⟩) (show ((i0 + 1) ≤ steps.length ∧ 0 ≤ (nw + x18) ∧ (nw + x18) ≤ 60 * (i0 + 1) ∧ 0 ≤ (0 : Int) ∧ (0 : Int) ≤ 60 * (i0 + 1) ∧ (false = false → (nw + x18) = (nw + x18) - (0 : Int) ∧ 0 ≤ (nw + x18) ∧ (0 : Int) < 60)) ∧ (steps.length - (i0 + 1)) < (steps.length - i0) from ⟨⟨by omega, by omega, by omega, by omega, by omega, fun _ => by omega⟩, by omega⟩) (by kernel_rfl) [0, 0, 0, 0, 2, 2, 2, 1, 1, 1] (by kernel_rfl) h
            · skip
              have q41 : (decide ((i0 : Int) < sp)) = false := by rw [← hb38]; exact hc39
              have q41 := of_decide_eq_false q41
              refine c_skip ?_
              refine thn_n ?_
              refine c_seq ?_
              refine c_reg ?_
              refine sq_p (.bool false) rfl (fun _ => by kernel_rfl) ?_
              refine sq_p (.bool false) rfl (fun _ => by kernel_rfl) ?_
              refine sn (by kernel_rfl) ?_
              refine sn (by kernel_rfl) ?_
              refine sn (by kernel_rfl) ?_
              refine sn (by kernel_rfl) ?_
              refine sn (by kernel_rfl) ?_
              refine sq_p (.bool false) rfl (fun _ => by kernel_rfl) ?_
              refine lnil ?_
              refine thn_n ?_
              refine c_false (by kernel_rfl) ?_
              refine c_skip ?_
              refine blk_n (thn_n ?_)
              refine c_reg ?_
              refine sq_p (.int .i64 (i0 : Int)) rfl (fun _ => by kernel_rfl) ?_
              refine sq_q rfl h (g_eq (v := .int .i64 (IntKind.i64.wrap ((i0 : Int) + 1))) (v' := .int .i64 ((i0 + 1 : Nat) : Int)) (g_pure fun _ => by kernel_rfl) (wr (by omega))) ?_
              refine sq_p (.int .i64 ((i0 + 1 : Nat) : Int)) rfl (fun _ => by kernel_rfl) ?_
              refine lnil ?_
              refine loop_end (fun j => ⟨(i0 + 1), false, (nw + x18), sb, (ag + x18), j⟩) (show ((i0 + 1) ≤ steps.length ∧ 0 ≤ (nw + x18) ∧ (nw + x18) ≤ 60 * (i0 + 1) ∧ 0 ≤ (ag + x18) ∧ (ag + x18) ≤ 60 * (i0 + 1) ∧ (false = false → sb = (nw + x18) - (ag + x18) ∧ 0 ≤ sb ∧ (ag + x18) < 60)) ∧ (steps.length - (i0 + 1)) < (steps.length - i0) from ⟨⟨by omega, by omega, by omega, by omega, by omega, fun _ => by omega⟩, by omega⟩) (by kernel_rfl) [0, 0, 0, 0, 2, 2, 2, 1, 1, 1] (by kernel_rfl) h
        · skip
          obtain ⟨hs1, hs2, hs3⟩ := hgn rfl
          refine sq_p (.tuple #[v33, .nilIface]) rfl (fun _ => by kernel_rfl) ?_
          refine sq_p (v33) rfl (fun _ => by kernel_rfl) ?_
          refine sq_p (.nilIface) rfl (fun _ => by kernel_rfl) ?_
          refine sq_p (v33) rfl (fun _ => by kernel_rfl) ?_
          refine sq_p (.nilIface) rfl (fun _ => by kernel_rfl) ?_
          refine lnil ?_
          refine thn_n ?_
          refine c_seq ?_
          refine c_seq ?_
          refine c_reg ?_
          refine sq_p (.nilIface) rfl (fun _ => by kernel_rfl) ?_
          refine sq_p (.bool false) rfl (fun _ => by kernel_rfl) ?_
          refine sq_p (.bool false) rfl (fun _ => by kernel_rfl) ?_
          refine sq_p (.pointer (some ⟨p12, 0, none⟩)) (by kernel_rfl) (fun _ => by kernel_rfl) ?_
          refine sq_p (.int .i64 1) (by kernel_rfl) (fun _ => by kernel_rfl) ?_
          refine sq_call #[.pointer (some ⟨p12, 0, none⟩), .int .i64 1] [1, 1, 1, 2] (by kernel_rfl) (keepRenA_spec ad p12 p13 bk14 bk15 (by omega) (fun hq => by cases hq) (by omega)) (fun _ => by kernel_rfl) h ?_; rintro v_ L_ w ⟨rfl, rfl⟩ h
          refine sq_p (.bool false) (by kernel_rfl) (fun _ => by kernel_rfl) ?_
          refine sq_p (.bool false) rfl (fun _ => by kernel_rfl) ?_
          refine lnil ?_
          refine thn_n ?_
          refine c_false (by kernel_rfl) ?_
          refine c_skip ?_
          refine thn_n ?_
          refine c_seq ?_
          refine c_reg ?_
          refine sq_p (.int .i64 ag) rfl (fun _ => by kernel_rfl) ?_
          refine sq_p (.int .i64 x18) rfl (fun _ => by kernel_rfl) ?_
          refine sq_q rfl h (g_eq (v := .int .i64 (IntKind.i64.wrap (ag + x18))) (v' := .int .i64 (ag + x18)) (g_pure fun _ => by kernel_rfl) (wr (by omega))) ?_
          refine sq_p (.int .i64 (ag + x18)) rfl (fun _ => by kernel_rfl) ?_
          refine lnil ?_
          refine thn_n ?_
          refine c_seq ?_
          refine c_seq ?_
          refine c_reg ?_
          refine sq_p (.int .i64 (ag + x18)) rfl (fun _ => by kernel_rfl) ?_
          refine sq_p (.bool (decide (ag + x18 ≥ 60))) rfl (fun _ => by kernel_rfl) ?_
          refine lnil ?_
          refine thn_n ?_
          refine c_cond (decide (ag + x18 ≥ 60)) (by kernel_rfl) (fun hc42 => ?_) (fun hc42 => ?_)
          · skip
            have hc42 := of_decide_eq_true hc42
            refine c_seq ?_
            refine c_seq ?_
            refine c_reg ?_
            refine sq_p (.bool false) rfl (fun _ => by kernel_rfl) ?_
            refine sq_p (.bool true) rfl (fun _ => by kernel_rfl) ?_
            refine sq_p (.bool true) rfl (fun _ => by kernel_rfl) ?_
            refine sq_p (v33) (by kernel_rfl) (fun _ => by kernel_rfl) ?_
            refine sq_q (by kernel_rfl) h (g_eq (v := .int .i64 (([twoI].length : Nat) : Int)) (v' := .int .i64 1) (g_len (by kernel_rfl) 4 rfl) rfl) ?_
            refine sq_p (.bool false) (by kernel_rfl) (fun _ => by kernel_rfl) ?_
            refine sq_p (.bool false) (by kernel_rfl) (fun _ => by kernel_rfl) ?_
            refine sq_p (v33) (by kernel_rfl) (fun _ => by kernel_rfl) ?_
            refine sq_q (by kernel_rfl) h (g_idx 0 (by kernel_rfl) (by decide : 0 < [twoI].length) 4 rfl) ?_
            refine sq_q (by kernel_rfl) h (g_ldr (b := blkN v33) (offN v33 + 0 * 1) [.int .i64 2] (.int .i64 2) (by kernel_rfl) 4 rfl (rdRow0 idC_len (rfl : [twoI][0]? = some twoI) (by kernel_rfl))) ?_
            refine sq_p (.int .i64 2) (by kernel_rfl) (fun _ => by kernel_rfl) ?_
            refine sq_p (.bool false) (by kernel_rfl) (fun _ => by kernel_rfl) ?_
            refine sq_p (.bool false) (by kernel_rfl) (fun _ => by kernel_rfl) ?_
            refine sq_p (.bool false) rfl (fun _ => by kernel_rfl) ?_
            refine sq_p (.bool false) rfl (fun _ => by kernel_rfl) ?_
            refine sq_p (.bool false) (by kernel_rfl) (fun _ => by kernel_rfl) ?_
            refine sq_p (.bool false) (by kernel_rfl) (fun _ => by kernel_rfl) ?_
            refine sn (by kernel_rfl) ?_
            refine sn (by kernel_rfl) ?_
            refine sn (by kernel_rfl) ?_
            refine sq_p (.bool false) (by kernel_rfl) (fun _ => by kernel_rfl) ?_
            refine sq_p (.bool false) rfl (fun _ => by kernel_rfl) ?_
            refine lnil ?_
            refine thn_n ?_
            refine c_false (by kernel_rfl) ?_
            refine c_skip ?_
            refine thn_n ?_
            refine c_reg ?_
            refine sq_p (.bool true) rfl (fun _ => by kernel_rfl) ?_
            refine lnil ?_
            refine thn_n ?_
            refine c_seq ?_
            refine c_seq ?_
            refine c_reg ?_
            refine sq_p (.bool true) rfl (fun _ => by kernel_rfl) ?_
            refine sq_p (.bool false) rfl (fun _ => by kernel_rfl) ?_
            refine sq_p (.bool false) rfl (fun _ => by kernel_rfl) ?_
            refine sn (by kernel_rfl) ?_
            refine sn (by kernel_rfl) ?_
            refine sn (by kernel_rfl) ?_
            refine sq_p (.bool false) rfl (fun _ => by kernel_rfl) ?_
            refine lnil ?_
            refine thn_n ?_
            refine c_false (by kernel_rfl) ?_
            refine c_skip ?_
            refine thn_n ?_
            refine c_seq ?_
            refine c_reg ?_
            refine sq_p (.bool true) rfl (fun _ => by kernel_rfl) ?_
            refine sq_p (.bool true) rfl (fun _ => by kernel_rfl) ?_
            refine sq_p (.pointer (some ⟨p12, 0, none⟩)) (by kernel_rfl) (fun _ => by kernel_rfl) ?_
            refine sq_p (.int .i64 2) (by kernel_rfl) (fun _ => by kernel_rfl) ?_
            refine sq_call #[.pointer (some ⟨p12, 0, none⟩), .int .i64 2] [0, 0, 0, 0] (by kernel_rfl) (keepRenG_spec ad p12 p13 bk14 bk15 (by omega) (by omega)) (fun _ => by kernel_rfl) h ?_; rintro v_ L_ w ⟨rfl, rfl⟩ h
            refine sq_call #[errV ad 5, .int .i64 5] [10] (by kernel_rfl) (coded2_spec ad 5 5 (by decide) rfl) (fun _ => by kernel_rfl) h ?_; rintro v_ L_ w ⟨rfl, rfl⟩ h
            refine sq_p (.bool false) (by kernel_rfl) (fun _ => by kernel_rfl) ?_
            refine sq_p (.bool false) rfl (fun _ => by kernel_rfl) ?_
            refine lnil ?_
            refine thn_n ?_
            refine c_false (by kernel_rfl) ?_
            refine c_skip ?_
            refine blk_n (thn_n ?_)
            refine c_reg ?_
            refine sq_p (.int .i64 (i0 : Int)) rfl (fun _ => by kernel_rfl) ?_
            refine sq_q rfl h (g_eq (v := .int .i64 (IntKind.i64.wrap ((i0 : Int) + 1))) (v' := .int .i64 ((i0 + 1 : Nat) : Int)) (g_pure fun _ => by kernel_rfl) (wr (by omega))) ?_
            refine sq_p (.int .i64 ((i0 + 1 : Nat) : Int)) rfl (fun _ => by kernel_rfl) ?_
            refine lnil ?_
            refine loop_end (fun j => ⟨(i0 + 1), true, (nw + x18), sb, (ag + x18), j⟩) (show ((i0 + 1) ≤ steps.length ∧ 0 ≤ (nw + x18) ∧ (nw + x18) ≤ 60 * (i0 + 1) ∧ 0 ≤ (ag + x18) ∧ (ag + x18) ≤ 60 * (i0 + 1) ∧ (true = false → sb = (nw + x18) - (ag + x18) ∧ 0 ≤ sb ∧ (ag + x18) < 60)) ∧ (steps.length - (i0 + 1)) < (steps.length - i0) from ⟨⟨by omega, by omega, by omega, by omega, by omega, fun hq => by cases hq⟩, by omega⟩) (by kernel_rfl) [1, 1, 1, 1, 3, 3, 3, 2, 2, 0] (by kernel_rfl) h
          · skip
            have hc42 := of_decide_eq_false hc42
            exfalso; omega
    · skip
      have hc16 := of_decide_eq_false hc16
      refine c_exit ?_
      refine thn_e (rnd_e (blk_e (thn_n ?_)))
      refine c_seq ?_
      refine c_reg ?_
      refine sq_p (.bool true) rfl (fun _ => by kernel_rfl) ?_
      refine lnil ?_
      refine thn_n ?_
      refine c_ret ?_
      refine ret_end [.bool true] [8, 8] h (by kernel_rfl) (res_t (by kernel_rfl) res_n) ?_
      exact ⟨rfl, rfl⟩

theorem leaseKeeps_any (ad : Nat → Addr) (a0 : Option Addr) (cap : Nat) (steps : List Int) (sp : Int) (w : World) (he : EnvA w.heap.size ad w) (hs : (Sh.slice Sh.int).At w w.heap.size (a0, cap, steps)) :
    Calls Tryd.prog 12 #[.slice a0 steps.length cap, .int .i64 sp] w fun e w' => e = .returned (.bool true) ∧ Chg Nil w w' := by
  refine ((leaseKeeps_spec (B := w.heap.size) ad (.slice a0 steps.length cap) steps sp).reads (w := w) rfl ?_).mono ?_
  · intro r hr
    simp only [List.mem_cons, List.mem_nil_iff, or_false] at hr
    rcases hr with rfl | rfl
    · exact arg_of_sh (s := Sh.int) hs
    · exact he
  · rintro e w' ⟨u, L', ⟨rfl, _⟩, he, hc'⟩
    exact ⟨he, hc'⟩

end Go.Proofs.YtofhnglgebllbaaDoor
