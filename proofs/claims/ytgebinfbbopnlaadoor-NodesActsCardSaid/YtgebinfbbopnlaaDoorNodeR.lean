/- The law NodesActs, plain: a table of nodes, and what the law itself keeps of each. -/
import Derived.Test.YtgebinfbbopnlaaDoorTabO
namespace Go.Proofs.YtgebinfbbopnlaaDoor
open Go.RowKit
set_option linter.unusedVariables false
set_option linter.unusedSimpArgs false
structure Spot where
  n : Int
  g : Int
  kind : Int
  asize : Int
  links : Int
  change : Int
  upn : Int
  upg : Int
  sz : Int
def spotC (s : Spot) : List Value := [.int .i64 s.n, .int .i64 s.g, .int .i64 s.kind, .int .i64 s.asize, .int .i64 s.links, .int .i64 s.change, .int .i64 s.upn, .int .i64 s.upg, .int .i64 s.sz]
theorem spotC_len (s : Spot) : (spotC s).length = 9 := rfl
structure Like (N : ND) (s : Spot) : Prop where
  kind : s.kind = N.kind
  asize : s.asize = N.size
  links : s.links = N.links
  change : s.change = N.change
  upn : s.upn = N.upn
  upg : s.upg = N.upg
  k12 : N.kind = 1 ∨ N.kind = 2
  file : N.kind = 1 → ∃ q, N.dq = some q ∧ q.size = s.sz
  dir : N.kind = 2 → N.dq = none
  sz : 0 ≤ s.sz ∧ s.sz ≤ 4096
structure NRel (most c : Nat) (ps : List (Option Nat)) (gs : List Int) (l : List (Option ND)) (here : List Spot) : Prop where
  lp : ps.length = most
  lg : gs.length = most
  ll : l.length = most
  hps : ∀ k : Nat, ps[k]? = (l[k]?).map (Option.map ND.nb)
  rng : ∀ x ∈ gs, 0 ≤ x ∧ x ≤ c
  nod : (here.map (·.n)).Nodup
  to : ∀ s ∈ here, ∃ (k : Nat) (N : ND), s.n = k ∧ l[k]? = some (some N) ∧ gs[k]? = some (s.g + 1) ∧ Like N s ∧ 0 ≤ s.change ∧ s.change ≤ c
  from_ : ∀ (k : Nat) (N : ND), l[k]? = some (some N) → ∃ s ∈ here, s.n = (k : Int)
  cnt : usedN ps = here.length
  few : here.length ≤ c
theorem usedN_setS : ∀ {ps : List (Option Nat)} {k nb : Nat}, ps[k]? = some none → usedN (ps.set k (some nb)) = usedN ps + 1
  | [], _, _, h => by simp at h
  | p :: r, 0, nb, h => by simp at h; subst h; rfl
  | none :: r, k + 1, nb, h => by
    have := usedN_setS (ps := r) (k := k) (nb := nb) (by simpa using h)
    simpa [usedN] using this
  | some q :: r, k + 1, nb, h => by
    have := usedN_setS (ps := r) (k := k) (nb := nb) (by simpa using h)
    simp [usedN, this]
theorem usedN_setN : ∀ {ps : List (Option Nat)} {k nb : Nat}, ps[k]? = some (some nb) → usedN ps = usedN (ps.set k none) + 1
  | [], _, _, h => by simp at h
  | p :: r, 0, nb, h => by simp at h; subst h; rfl
  | none :: r, k + 1, nb, h => by
    have := usedN_setN (ps := r) (k := k) (nb := nb) (by simpa using h)
    simpa [usedN] using this
  | some q :: r, k + 1, nb, h => by
    have := usedN_setN (ps := r) (k := k) (nb := nb) (by simpa using h)
    simp [usedN, this]
section
variable {most c : Nat} {ps : List (Option Nat)} {gs : List Int} {l : List (Option ND)} {here : List Spot}
theorem NRel.mono (h : NRel most c ps gs l here) {c' : Nat} (hc : c ≤ c') : NRel most c' ps gs l here :=
  ⟨h.lp, h.lg, h.ll, h.hps, fun x hx => ⟨(h.rng x hx).1, by have := (h.rng x hx).2; omega⟩, h.nod, fun s hs => by
    obtain ⟨k, N, h1, h2, h3, h4, h5, h6⟩ := h.to s hs
    exact ⟨k, N, h1, h2, h3, h4, h5, by omega⟩, h.from_, h.cnt, by have := h.few; omega⟩
theorem NRel.at_some (h : NRel most c ps gs l here) {s : Spot} (hs : s ∈ here) : ∃ (k : Nat) (N : ND), s.n = k ∧ l[k]? = some (some N) ∧ atOf ps gs (k : Int) s.g = some N.nb ∧ Like N s ∧ 0 ≤ s.change ∧ s.change ≤ c ∧ k < ps.length := by
  obtain ⟨k, N, h1, h2, h3, h4, h5, h6⟩ := h.to s hs
  refine ⟨k, N, h1, h2, ?_, h4, h5, h6, by rw [h.lp, ← h.ll]; exact (List.getElem?_eq_some_iff.1 h2).1⟩
  rw [atOf_in (p := some N.nb) (x := s.g + 1) (by rw [h.hps, h2]; rfl) h3]
  simp
theorem NRel.at_none (h : NRel most c ps gs l here) {n g : Int} (hn : ∀ s ∈ here, ¬ (s.n = n ∧ s.g = g)) : atOf ps gs n g = none := by
  by_cases hb : n < 0 ∨ (ps.length : Int) ≤ n
  · exact atOf_out hb
  · obtain ⟨k, rfl⟩ : ∃ k : Nat, n = k := ⟨n.toNat, by omega⟩
    have hk : k < ps.length := by omega
    have hkg : k < gs.length := by rw [h.lg, ← h.lp]; exact hk
    have hkl : k < l.length := by rw [h.ll, ← h.lp]; exact hk
    rw [atOf_in (List.getElem?_eq_getElem hk) (List.getElem?_eq_getElem hkg)]
    have hp := h.hps k
    rw [List.getElem?_eq_getElem hk, List.getElem?_eq_getElem hkl] at hp
    cases hq : l[k] with
    | none => rw [hq] at hp; simp at hp; rw [hp]; rfl
    | some N =>
      rw [hq] at hp
      simp at hp
      rw [hp]
      have hl2 : l[k]? = some (some N) := by rw [List.getElem?_eq_getElem hkl, hq]
      obtain ⟨s, hs, hsn⟩ := h.from_ k N hl2
      obtain ⟨k2, N2, h1, h2, h3, _⟩ := h.to s hs
      have hk2 : k2 = k := by omega
      subst hk2
      rw [List.getElem?_eq_getElem hkg] at h3
      have h4 : gs[k2] = s.g + 1 := by simpa using h3
      simp only [Option.bind_some]
      rw [if_neg (fun e => hn s hs ⟨hsn, by omega⟩)]
theorem NRel.same (h : NRel most c ps gs l here) {i j : Nat} {s t : Spot} (hi : here[i]? = some s) (hj : here[j]? = some t) (e : s.n = t.n) : i = j := by
  have hp := List.pairwise_iff_getElem.1 h.nod
  obtain ⟨hi1, hi2⟩ := List.getElem?_eq_some_iff.1 hi
  obtain ⟨hj1, hj2⟩ := List.getElem?_eq_some_iff.1 hj
  rcases Nat.lt_trichotomy i j with hl | hl | hl
  · exact (hp i j (by simpa using hi1) (by simpa using hj1) hl (by simp only [List.getElem_map, hi2, hj2, e])).elim
  · exact hl
  · exact (hp j i (by simpa using hj1) (by simpa using hi1) hl (by simp only [List.getElem_map, hi2, hj2, e])).elim
/-- The first number that is free. -/
theorem NRel.first (h : NRel most c ps gs l here) {n : Nat} (hu : ∀ q : Nat, q < n → ∃ s ∈ here, s.n = (q : Int)) (hn : ∀ s ∈ here, s.n ≠ (n : Int)) : (n < most → free0 ps = some n) ∧ (most ≤ n → free0 ps = none) := by
  have hsome : ∀ q : Nat, q < n → ∃ b, ps[q]? = some (some b) := fun q hq => by
    obtain ⟨s, hs, hsn⟩ := hu q hq
    obtain ⟨k, N, h1, h2, _⟩ := h.to s hs
    have : k = q := by omega
    subst this
    exact ⟨N.nb, by rw [h.hps, h2]; rfl⟩
  refine ⟨fun hm => free0_at ps n hsome ?_, fun hm => free0_none ps fun j hj => hsome j (by rw [h.lp] at hj; omega)⟩
  have hl : n < l.length := by rw [h.ll]; exact hm
  rw [h.hps, List.getElem?_eq_getElem hl]
  cases hq : l[n] with
  | none => rfl
  | some N =>
    obtain ⟨s, hs, hsn⟩ := h.from_ n N (by rw [List.getElem?_eq_getElem hl, hq])
    exact absurd hsn (hn s hs)
theorem NRel.used_le (h : NRel most c ps gs l here) {n : Nat} (hu : ∀ q : Nat, q < n → ∃ s ∈ here, s.n = (q : Int)) : n ≤ most := by
  by_cases hm : n ≤ most
  · exact hm
  · obtain ⟨s, hs, hsn⟩ := hu most (by omega)
    obtain ⟨k, N, h1, h2, _⟩ := h.to s hs
    have := (List.getElem?_eq_some_iff.1 h2).1
    have := h.ll
    omega
theorem NRel.add (h : NRel most c ps gs l here) {kf nb : Nat} {x kind : Int} {dq : Option DQ} (hf : free0 ps = some kf) (hx : gs[kf]? = some x) (hq : NewQ kind dq) :
    NRel most (c + 1) (ps.set kf (some nb)) (gs.set kf (x + 1)) (l.set kf (some (newND nb kind dq))) (here ++ [⟨kf, x, kind, 0, 0, 0, 0, 0, 0⟩]) := by
  have hp := free0_lt ps kf hf
  have hkl : kf < l.length := by rw [h.ll, ← h.lp]; exact (List.getElem?_eq_some_iff.1 hp).1
  have hkp : kf < ps.length := by rw [h.lp, ← h.ll]; exact hkl
  have hkg : kf < gs.length := by rw [h.lg, ← h.ll]; exact hkl
  have hno : ∀ s ∈ here, s.n ≠ (kf : Int) := fun s hs e => by
    obtain ⟨k, N, h1, h2, _⟩ := h.to s hs
    have : k = kf := by omega
    subst this
    have := h.hps k
    rw [hp, h2] at this
    cases this
  refine ⟨by simpa using h.lp, by simpa using h.lg, by simpa using h.ll, fun k => ?_, fun y hy => ?_, ?_, fun s hs => ?_, fun k N hk => ?_, ?_, ?_⟩
  · by_cases e : kf = k
    · subst e; rw [List.getElem?_set_self hkp, List.getElem?_set_self hkl]; rfl
    · rw [List.getElem?_set_ne e, List.getElem?_set_ne e]; exact h.hps k
  · rcases List.mem_or_eq_of_mem_set hy with hy | rfl
    · have := h.rng y hy; omega
    · have := h.rng x (List.mem_of_getElem? hx); omega
  · rw [List.map_append]
    refine List.nodup_append.2 ⟨h.nod, by simp, fun a ha b hb e => ?_⟩
    obtain ⟨s, hs, rfl⟩ := List.mem_map.1 ha
    simp at hb
    exact hno s hs (by rw [e, hb])
  · rcases List.mem_append.1 hs with hs | hs
    · obtain ⟨k, N, h1, h2, h3, h4, h5, h6⟩ := h.to s hs
      have hne : kf ≠ k := fun e => hno s hs (by rw [h1, e])
      exact ⟨k, N, h1, by rw [List.getElem?_set_ne hne]; exact h2, by rw [List.getElem?_set_ne hne]; exact h3, h4, h5, by omega⟩
    · rw [List.mem_singleton.1 hs]
      refine ⟨kf, newND nb kind dq, rfl, List.getElem?_set_self hkl, List.getElem?_set_self hkg, ⟨rfl, rfl, rfl, rfl, rfl, rfl, ?_, fun hk => ?_, fun hk => ?_, by simp⟩, by simp, by simp; omega⟩
      · rcases hq with ⟨e, _⟩ | ⟨e, _⟩
        · exact .inl e
        · exact .inr e
      · rcases hq with ⟨_, db, e⟩ | ⟨e, _⟩
        · exact ⟨newDQ db, e, rfl⟩
        · exact absurd (hk.symm.trans e) (by decide)
      · rcases hq with ⟨e, _⟩ | ⟨_, e⟩
        · exact absurd (hk.symm.trans e) (by decide)
        · exact e
  · by_cases e : kf = k
    · subst e; exact ⟨_, List.mem_append_right _ (List.mem_singleton.2 rfl), rfl⟩
    · rw [List.getElem?_set_ne e] at hk
      obtain ⟨s, hs, hsn⟩ := h.from_ k N hk
      exact ⟨s, List.mem_append_left _ hs, hsn⟩
  · rw [usedN_setS hp, h.cnt]; simp
  · have := h.few; simp; omega
theorem NRel.upd (h : NRel most c ps gs l here) {j k : Nat} {s s' : Spot} {N N' : ND} (hj : here[j]? = some s) (hn : s.n = k) (hk : l[k]? = some (some N)) (hb : N'.nb = N.nb) (e1 : s'.n = s.n) (e2 : s'.g = s.g) (hl : Like N' s') (h0 : 0 ≤ s'.change) (h1 : s'.change ≤ c + 1) :
    NRel most (c + 1) ps gs (l.set k (some N')) (here.set j s') := by
  have hkl := (List.getElem?_eq_some_iff.1 hk).1
  have hjl := (List.getElem?_eq_some_iff.1 hj).1
  refine ⟨h.lp, h.lg, by simpa using h.ll, fun i => ?_, fun y hy => by have := h.rng y hy; omega, ?_, fun t ht => ?_, fun i M hi => ?_, by simpa using h.cnt, by have := h.few; simp; omega⟩
  · by_cases e : k = i
    · subst e; rw [List.getElem?_set_self hkl, h.hps, hk]; simp [hb]
    · rw [List.getElem?_set_ne e]; exact h.hps i
  · rw [List.map_set, e1, set_same _ j s.n (by rw [List.getElem?_map, hj]; rfl)]; exact h.nod
  · obtain ⟨i, hi⟩ := List.getElem?_of_mem ht
    by_cases e : j = i
    · subst e
      rw [List.getElem?_set_self hjl] at hi
      cases hi
      obtain ⟨k2, N2, q1, q2, q3, _⟩ := h.to s (List.mem_of_getElem? hj)
      have : k2 = k := by omega
      subst this
      exact ⟨k2, N', by rw [e1, hn], List.getElem?_set_self hkl, by rw [e2]; exact q3, hl, h0, by exact_mod_cast h1⟩
    · rw [List.getElem?_set_ne e] at hi
      obtain ⟨k2, N2, q1, q2, q3, q4, q5, q6⟩ := h.to t (List.mem_of_getElem? hi)
      have hne : k ≠ k2 := fun e' => e (h.same hj hi (by rw [hn, q1, e']))
      exact ⟨k2, N2, q1, by rw [List.getElem?_set_ne hne]; exact q2, q3, q4, q5, by omega⟩
  · by_cases e : k = i
    · subst e; exact ⟨s', List.mem_of_getElem? (List.getElem?_set_self hjl), by rw [e1, hn]⟩
    · rw [List.getElem?_set_ne e] at hi
      obtain ⟨t, ht, htn⟩ := h.from_ i M hi
      obtain ⟨i2, hi2⟩ := List.getElem?_of_mem ht
      have hne : j ≠ i2 := fun e' => by
        subst e'
        rw [hj] at hi2; cases hi2
        omega
      exact ⟨t, List.mem_of_getElem? (by rw [List.getElem?_set_ne hne]; exact hi2), htn⟩
theorem NRel.gone (h : NRel most c ps gs l here) {j k : Nat} {s : Spot} {N : ND} (hj : here[j]? = some s) (hn : s.n = k) (hk : l[k]? = some (some N)) :
    NRel most c (ps.set k none) gs (l.set k none) (here.eraseIdx j) := by
  have hkl := (List.getElem?_eq_some_iff.1 hk).1
  have hjl := (List.getElem?_eq_some_iff.1 hj).1
  have hkp : k < ps.length := by rw [h.lp, ← h.ll]; exact hkl
  have hsub : (here.eraseIdx j).Sublist here := List.eraseIdx_sublist ..
  have hmem : ∀ t ∈ here.eraseIdx j, t ∈ here ∧ t.n ≠ (k : Int) := fun t ht => by
    have h1 := hsub.subset ht
    refine ⟨h1, fun e => ?_⟩
    obtain ⟨i, hi, hne⟩ : ∃ i, here[i]? = some t ∧ i ≠ j := by
      obtain ⟨i, hi⟩ := List.getElem?_of_mem ht
      rw [List.getElem?_eraseIdx] at hi
      split at hi
      · exact ⟨i, hi, by omega⟩
      · exact ⟨i + 1, hi, by omega⟩
    exact hne (h.same hi hj (by rw [e, hn]))
  refine ⟨by simpa using h.lp, h.lg, by simpa using h.ll, fun i => ?_, h.rng, (hsub.map _).nodup h.nod, fun t ht => ?_, fun i M hi => ?_, ?_, by have := h.few; have := hsub.length_le; omega⟩
  · by_cases e : k = i
    · subst e; rw [List.getElem?_set_self hkp, List.getElem?_set_self hkl]; rfl
    · rw [List.getElem?_set_ne e, List.getElem?_set_ne e]; exact h.hps i
  · obtain ⟨h1, h2⟩ := hmem t ht
    obtain ⟨k2, N2, q1, q2, q3, q4, q5, q6⟩ := h.to t h1
    have hne : k ≠ k2 := fun e' => h2 (by rw [q1, e'])
    exact ⟨k2, N2, q1, by rw [List.getElem?_set_ne hne]; exact q2, q3, q4, q5, q6⟩
  · by_cases e : k = i
    · subst e; rw [List.getElem?_set_self hkl] at hi; cases hi
    · rw [List.getElem?_set_ne e] at hi
      obtain ⟨t, ht, htn⟩ := h.from_ i M hi
      obtain ⟨i2, hi2⟩ := List.getElem?_of_mem ht
      have hne : i2 ≠ j := fun e' => by
        subst e'
        rw [hj] at hi2; cases hi2
        omega
      refine ⟨t, ?_, htn⟩
      by_cases hlt : i2 < j
      · exact List.mem_of_getElem? (i := i2) (by rw [List.getElem?_eraseIdx, if_pos hlt]; exact hi2)
      · exact List.mem_of_getElem? (i := i2 - 1) (by rw [List.getElem?_eraseIdx, if_neg (by omega), show i2 - 1 + 1 = i2 by omega]; exact hi2)
  · have hq : ps[k]? = some (some N.nb) := by rw [h.hps, hk]; rfl
    have := usedN_setN hq
    rw [List.length_eraseIdx_of_lt hjl]
    have := h.cnt
    omega
end
theorem NRel.new (m : Nat) : NRel m 0 (List.replicate m none) (List.replicate m 0) (List.replicate m none) [] where
  lp := by simp
  lg := by simp
  ll := by simp
  hps := fun k => by simp only [List.getElem?_replicate]; split <;> rfl
  rng := fun x hx => by rw [List.eq_of_mem_replicate hx]; simp
  nod := by simp
  to := fun s hs => by cases hs
  from_ := fun k N hk => by
    rw [List.getElem?_replicate] at hk
    split at hk <;> cases hk
  cnt := by
    induction m with
    | zero => rfl
    | succ n ih => rw [List.replicate_succ]; exact ih
  few := by simp
end Go.Proofs.YtgebinfbbopnlaaDoor
