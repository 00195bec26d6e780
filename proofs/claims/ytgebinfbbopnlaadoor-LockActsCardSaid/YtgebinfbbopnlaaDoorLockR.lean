/- The reference's ranges: what was painted, the runs that it makes; a table of runs that tells the same. -/
import Derived.Test.YtgebinfbbopnlaaDoorLockP
namespace Go.Proofs.YtgebinfbbopnlaaDoor
open Go.RowKit
set_option linter.unusedVariables false
set_option linter.unusedSimpArgs false

/-- What was painted: a node's handle, an owner, from, to (-1: no end), what. -/
abbrev Paint := (Int × Int) × Int × Int × Int × Int
def pntC (x : Paint) : List Value := [.int .i64 x.1.1, .int .i64 x.1.2, .int .i64 x.2.1, .int .i64 x.2.2.1, .int .i64 x.2.2.2.1, .int .i64 x.2.2.2.2]
theorem pntC_len (x : Paint) : (pntC x).length = 6 := rfl
def mineN (h : Int × Int) (o : Int) (p : Paint) : Bool := p.1 == h && p.2.1 == o
def covN (b : Int) (p : Paint) : Bool := decide (p.2.2.1 ≤ b) && (decide (p.2.2.2.1 < 0) || decide (b < p.2.2.2.1))
def atStep (h : Int × Int) (o b : Int) (w : Int) (p : Paint) : Int := if mineN h o p && covN b p then p.2.2.2.2 else w
def atP (l : List Paint) (h : Int × Int) (o b : Int) : Int := l.foldl (atStep h o b) 0
theorem atP_snoc (l : List Paint) (p : Paint) (h : Int × Int) (o b : Int) : atP (l ++ [p]) h o b = if mineN h o p && covN b p then p.2.2.2.2 else atP l h o b := by
  unfold atP; rw [List.foldl_append]; rfl
theorem atP_take {l : List Paint} {k : Nat} {x : Paint} (hx : l[k]? = some x) (h : Int × Int) (o b : Int) : atP (l.take (k + 1)) h o b = if mineN h o x && covN b x then x.2.2.2.2 else atP (l.take k) h o b := by
  rw [List.take_add_one, hx]; exact atP_snoc _ _ _ _ _
theorem mineN_iff {h : Int × Int} {o : Int} {p : Paint} : mineN h o p = true ↔ p.1 = h ∧ p.2.1 = o := by simp [mineN]
theorem covN_iff {b : Int} {p : Paint} : covN b p = true ↔ p.2.2.1 ≤ b ∧ (p.2.2.2.1 < 0 ∨ b < p.2.2.2.1) := by simp [covN]
theorem fold_filter {l : List Paint} {h : Int × Int} {o b : Int} (p : Paint → Bool) (hp : ∀ x ∈ l, mineN h o x = true → p x = true) : ∀ w, (l.filter p).foldl (atStep h o b) w = l.foldl (atStep h o b) w := by
  induction l with
  | nil => intro w; rfl
  | cons x l ih =>
    intro w
    have ih := ih (fun y hy => hp y (List.mem_cons_of_mem _ hy))
    cases hx : p x with
    | true => rw [List.filter_cons_of_pos hx]; exact ih _
    | false =>
      rw [List.filter_cons_of_neg (by simp [hx])]
      have : mineN h o x = false := by
        cases hm : mineN h o x
        · rfl
        · have := hp x (by simp) hm; rw [hx] at this; cases this
      show _ = l.foldl (atStep h o b) (atStep h o b w x)
      have e : atStep h o b w x = w := by unfold atStep; rw [this]; rfl
      rw [e]; exact ih w
theorem fold_none {l : List Paint} {h : Int × Int} {o b : Int} (hl : ∀ x ∈ l, mineN h o x = false) : ∀ w, l.foldl (atStep h o b) w = w := by
  induction l with
  | nil => intro w; rfl
  | cons x l ih =>
    intro w
    show l.foldl (atStep h o b) (atStep h o b w x) = w
    have e : atStep h o b w x = w := by unfold atStep; rw [hl x (by simp)]; rfl
    rw [e]; exact ih (fun y hy => hl y (by simp [hy])) w
/-- What a byte has depends on where it lies among the places alone. -/
theorem atP_congr {h : Int × Int} {o b b' : Int} : ∀ (l : List Paint), (∀ p ∈ l, mineN h o p = true → (p.2.2.1 ≤ b ↔ p.2.2.1 ≤ b') ∧ (0 ≤ p.2.2.2.1 → (p.2.2.2.1 ≤ b ↔ p.2.2.2.1 ≤ b'))) → ∀ w, l.foldl (atStep h o b) w = l.foldl (atStep h o b') w
  | [], _, w => rfl
  | p :: l, hl, w => by
    have e : atStep h o b w p = atStep h o b' w p := by
      unfold atStep
      cases hm : mineN h o p with
      | false => rfl
      | true =>
        obtain ⟨h1, h2⟩ := hl p (by simp) hm
        have : covN b p = covN b' p := by
          rw [Bool.eq_iff_iff, covN_iff, covN_iff]
          constructor
          · rintro ⟨a, c⟩; refine ⟨h1.1 a, ?_⟩; rcases c with c | c
            · exact .inl c
            · by_cases d : p.2.2.2.1 < 0
              · exact .inl d
              · have := h2 (by omega); exact .inr (by omega)
          · rintro ⟨a, c⟩; refine ⟨h1.2 a, ?_⟩; rcases c with c | c
            · exact .inl c
            · by_cases d : p.2.2.2.1 < 0
              · exact .inl d
              · have := h2 (by omega); exact .inr (by omega)
        rw [this]
    show l.foldl (atStep h o b) (atStep h o b w p) = l.foldl (atStep h o b') (atStep h o b' w p)
    rw [e]; exact atP_congr l (fun q hq => hl q (by simp [hq])) _

/-! ### Numbers put in, rising -/
def insI : List Int → Int → List Int
  | [], n => [n]
  | a :: l, n => if a < n then a :: insI l n else if a = n then a :: l else n :: a :: l
theorem insI_same : ∀ {l : List Int} {k : Nat} {n : Int}, (∀ j y, j < k → l[j]? = some y → y < n) → l[k]? = some n → insI l n = l
  | [], k, n, _, h => by simp at h
  | a :: l, 0, n, _, h => by
    obtain rfl : a = n := by simpa using h
    unfold insI; rw [if_neg (by omega), if_pos rfl]
  | a :: l, k + 1, n, hk, h => by
    unfold insI
    rw [if_pos (hk 0 a (by omega) rfl), insI_same (k := k) (fun j y hj hy => hk (j + 1) y (by omega) hy) (by simpa using h)]
theorem insI_new : ∀ {l : List Int} {k : Nat} {n : Int}, (∀ j y, j < k → l[j]? = some y → y < n) → (∀ y, l[k]? = some y → n < y) → k ≤ l.length → insI l n = (l.take k ++ [n]) ++ l.drop k
  | [], k, n, _, _, hl => by
    obtain rfl : k = 0 := by simpa using hl
    rfl
  | a :: l, 0, n, _, h, _ => by
    have := h a rfl
    unfold insI; rw [if_neg (by omega), if_neg (by omega)]; rfl
  | a :: l, k + 1, n, hk, h, hl => by
    unfold insI
    rw [if_pos (hk 0 a (by omega) rfl), insI_new (k := k) (fun j y hj hy => hk (j + 1) y (by omega) hy) (fun y hy => h y (by simpa using hy)) (by simpa using hl)]
    rfl
theorem insI_mem {n x : Int} : ∀ {l : List Int}, x ∈ insI l n ↔ x = n ∨ x ∈ l
  | [] => by simp [insI]
  | a :: l => by
    unfold insI
    split
    · rw [List.mem_cons, insI_mem, List.mem_cons]
      constructor
      · rintro (h | h | h) <;> simp [h]
      · rintro (h | h | h) <;> simp [h]
    · split
      · subst_vars; simp
      · simp
theorem insI_sorted {n : Int} : ∀ {l : List Int}, l.Pairwise (· < ·) → (insI l n).Pairwise (· < ·)
  | [], _ => by simp [insI]
  | a :: l, h => by
    obtain ⟨h1, h2⟩ := List.pairwise_cons.1 h
    unfold insI
    split
    · exact List.pairwise_cons.2 ⟨fun y hy => by rcases insI_mem.1 hy with rfl | hy; assumption; exact h1 y hy, insI_sorted h2⟩
    · split
      · exact h
      · refine List.pairwise_cons.2 ⟨fun y hy => ?_, h⟩
        rcases List.mem_cons.1 hy with rfl | hy
        · omega
        · have := h1 y hy; omega
theorem insI_len {n : Int} : ∀ {l : List Int}, (insI l n).length ≤ l.length + 1
  | [] => by simp [insI]
  | a :: l => by
    unfold insI
    split
    · have := insI_len (n := n) (l := l); simp only [List.length_cons]; omega
    · split <;> simp
def ownStep (h : Int × Int) (acc : List Int) (p : Paint) : List Int := if p.1 == h then insI acc p.2.1 else acc
def ownersP (l : List Paint) (h : Int × Int) : List Int := l.foldl (ownStep h) []
def plcStep (h : Int × Int) (o : Int) (acc : List Int) (p : Paint) : List Int := if mineN h o p then (if p.2.2.2.1 < 0 then insI acc p.2.2.1 else insI (insI acc p.2.2.1) p.2.2.2.1) else acc
def placesP (l : List Paint) (h : Int × Int) (o : Int) : List Int := l.foldl (plcStep h o) []
theorem owners_take {l : List Paint} {k : Nat} {x : Paint} (hx : l[k]? = some x) (h : Int × Int) : ownersP (l.take (k + 1)) h = if x.1 == h then insI (ownersP (l.take k) h) x.2.1 else ownersP (l.take k) h := by
  unfold ownersP; rw [List.take_add_one, hx, List.foldl_append]; rfl
theorem places_take {l : List Paint} {k : Nat} {x : Paint} (hx : l[k]? = some x) (h : Int × Int) (o : Int) : placesP (l.take (k + 1)) h o = if mineN h o x then (if x.2.2.2.1 < 0 then insI (placesP (l.take k) h o) x.2.2.1 else insI (insI (placesP (l.take k) h o) x.2.2.1) x.2.2.2.1) else placesP (l.take k) h o := by
  unfold placesP; rw [List.take_add_one, hx, List.foldl_append]; rfl
theorem owners_fold {h : Int × Int} {x : Int} : ∀ (l : List Paint) (acc : List Int), x ∈ l.foldl (ownStep h) acc ↔ x ∈ acc ∨ ∃ p ∈ l, p.1 = h ∧ p.2.1 = x
  | [], acc => by simp
  | p :: l, acc => by
    show x ∈ l.foldl (ownStep h) (ownStep h acc p) ↔ _
    rw [owners_fold l]
    unfold ownStep
    by_cases e : p.1 = h
    · rw [if_pos (by simpa using e), insI_mem]
      constructor
      · rintro ((h1 | h1) | ⟨q, h1, h2⟩)
        · exact .inr ⟨p, by simp, e, h1.symm⟩
        · exact .inl h1
        · exact .inr ⟨q, by simp [h1], h2⟩
      · rintro (h1 | ⟨q, h1, h2⟩)
        · exact .inl (.inr h1)
        · rcases List.mem_cons.1 h1 with rfl | h1
          · exact .inl (.inl h2.2.symm)
          · exact .inr ⟨q, h1, h2⟩
    · rw [if_neg (by simpa using e)]
      constructor
      · rintro (h1 | ⟨q, h1, h2⟩)
        · exact .inl h1
        · exact .inr ⟨q, by simp [h1], h2⟩
      · rintro (h1 | ⟨q, h1, h2⟩)
        · exact .inl h1
        · rcases List.mem_cons.1 h1 with rfl | h1
          · exact absurd h2.1 e
          · exact .inr ⟨q, h1, h2⟩
theorem owners_mem {l : List Paint} {h : Int × Int} {x : Int} : x ∈ ownersP l h ↔ ∃ p ∈ l, p.1 = h ∧ p.2.1 = x := by
  unfold ownersP; rw [owners_fold]; simp
theorem owners_fsort {h : Int × Int} : ∀ (l : List Paint) (acc : List Int), acc.Pairwise (· < ·) → (l.foldl (ownStep h) acc).Pairwise (· < ·)
  | [], acc, ha => ha
  | p :: l, acc, ha => by
    refine owners_fsort l (ownStep h acc p) ?_
    unfold ownStep
    split
    · exact insI_sorted ha
    · exact ha
theorem owners_sorted (l : List Paint) (h : Int × Int) : (ownersP l h).Pairwise (· < ·) := owners_fsort l [] List.Pairwise.nil
theorem owners_flen {h : Int × Int} : ∀ (l : List Paint) (acc : List Int), (l.foldl (ownStep h) acc).length ≤ acc.length + l.length
  | [], acc => by simp
  | p :: l, acc => by
    have := owners_flen (h := h) l (ownStep h acc p)
    have h2 : (ownStep h acc p).length ≤ acc.length + 1 := by
      unfold ownStep; split
      · exact insI_len
      · omega
    show (l.foldl (ownStep h) (ownStep h acc p)).length ≤ _
    simp only [List.length_cons]; omega
theorem owners_len (l : List Paint) (h : Int × Int) : (ownersP l h).length ≤ l.length := by have := owners_flen (h := h) l []; simpa [ownersP] using this
theorem places_fold {h : Int × Int} {o x : Int} : ∀ (l : List Paint) (acc : List Int), x ∈ l.foldl (plcStep h o) acc ↔ x ∈ acc ∨ ∃ p ∈ l, mineN h o p = true ∧ (x = p.2.2.1 ∨ 0 ≤ p.2.2.2.1 ∧ x = p.2.2.2.1)
  | [], acc => by simp
  | p :: l, acc => by
    show x ∈ l.foldl (plcStep h o) (plcStep h o acc p) ↔ _
    rw [places_fold l]
    have hs : x ∈ plcStep h o acc p ↔ x ∈ acc ∨ mineN h o p = true ∧ (x = p.2.2.1 ∨ 0 ≤ p.2.2.2.1 ∧ x = p.2.2.2.1) := by
      unfold plcStep
      split
      · rename_i hm
        split
        · rw [insI_mem]
          constructor
          · rintro (h1 | h1)
            · exact .inr ⟨hm, .inl h1⟩
            · exact .inl h1
          · rintro (h1 | ⟨_, h1 | ⟨h1, _⟩⟩)
            · exact .inr h1
            · exact .inl h1
            · omega
        · rw [insI_mem, insI_mem]
          constructor
          · rintro (h1 | h1 | h1)
            · exact .inr ⟨hm, .inr ⟨by omega, h1⟩⟩
            · exact .inr ⟨hm, .inl h1⟩
            · exact .inl h1
          · rintro (h1 | ⟨_, h1 | ⟨_, h1⟩⟩)
            · exact .inr (.inr h1)
            · exact .inr (.inl h1)
            · exact .inl h1
      · rename_i hm
        constructor
        · exact .inl
        · rintro (h1 | ⟨h1, _⟩)
          · exact h1
          · exact absurd h1 hm
    rw [hs]
    constructor
    · rintro ((h1 | h1) | ⟨q, h1, h2⟩)
      · exact .inl h1
      · exact .inr ⟨p, by simp, h1⟩
      · exact .inr ⟨q, by simp [h1], h2⟩
    · rintro (h1 | ⟨q, h1, h2⟩)
      · exact .inl (.inl h1)
      · rcases List.mem_cons.1 h1 with rfl | h1
        · exact .inl (.inr h2)
        · exact .inr ⟨q, h1, h2⟩
theorem places_mem {l : List Paint} {h : Int × Int} {o x : Int} : x ∈ placesP l h o ↔ ∃ p ∈ l, mineN h o p = true ∧ (x = p.2.2.1 ∨ 0 ≤ p.2.2.2.1 ∧ x = p.2.2.2.1) := by
  unfold placesP; rw [places_fold]; simp
theorem places_fsort {h : Int × Int} {o : Int} : ∀ (l : List Paint) (acc : List Int), acc.Pairwise (· < ·) → (l.foldl (plcStep h o) acc).Pairwise (· < ·)
  | [], acc, ha => ha
  | p :: l, acc, ha => by
    refine places_fsort l (plcStep h o acc p) ?_
    unfold plcStep
    split
    · split
      · exact insI_sorted ha
      · exact insI_sorted (insI_sorted ha)
    · exact ha
theorem places_sorted (l : List Paint) (h : Int × Int) (o : Int) : (placesP l h o).Pairwise (· < ·) := places_fsort l [] List.Pairwise.nil
theorem places_flen {h : Int × Int} {o : Int} : ∀ (l : List Paint) (acc : List Int), (l.foldl (plcStep h o) acc).length ≤ acc.length + 2 * l.length
  | [], acc => by simp
  | p :: l, acc => by
    have := places_flen (h := h) (o := o) l (plcStep h o acc p)
    have h2 : (plcStep h o acc p).length ≤ acc.length + 2 := by
      unfold plcStep; split
      · split
        · have := insI_len (n := p.2.2.1) (l := acc); omega
        · have := insI_len (n := p.2.2.1) (l := acc); have := insI_len (n := p.2.2.2.1) (l := insI acc p.2.2.1); omega
      · omega
    show (l.foldl (plcStep h o) (plcStep h o acc p)).length ≤ _
    simp only [List.length_cons]; omega
theorem places_len (l : List Paint) (h : Int × Int) (o : Int) : (placesP l h o).length ≤ 2 * l.length := by have := places_flen (h := h) (o := o) l []; simpa [placesP] using this

/-! ### Runs of one owner at a node -/
/-- out, what, from. -/
abbrev RunSt := List Run × Int × Int
def runStep (l : List Paint) (h : Int × Int) (o : Int) (s : RunSt) (p : Int) : RunSt :=
  if atP l h o p = s.2.1 then s else (if 0 < s.2.1 then s.1 ++ [(h, o, s.2.2, p - s.2.2, decide (s.2.1 = 2))] else s.1, atP l h o p, p)
def runsS (l : List Paint) (h : Int × Int) (o : Int) (ps : List Int) : RunSt := ps.foldl (runStep l h o) ([], 0, 0)
def runsE (h : Int × Int) (o : Int) (s : RunSt) : List Run := if 0 < s.2.1 then s.1 ++ [(h, o, s.2.2, 0, decide (s.2.1 = 2))] else s.1
def runsP (l : List Paint) (h : Int × Int) (o : Int) : List Run := runsE h o (runsS l h o (placesP l h o))
theorem runsS_take {l : List Paint} {h : Int × Int} {o : Int} {ps : List Int} {k : Nat} {x : Int} (hx : ps[k]? = some x) : runsS l h o (ps.take (k + 1)) = runStep l h o (runsS l h o (ps.take k)) x := by
  unfold runsS; rw [List.take_add_one, hx, List.foldl_append]; rfl
theorem runsS_flen {l : List Paint} {h : Int × Int} {o : Int} : ∀ (ps : List Int) (s : RunSt), (ps.foldl (runStep l h o) s).1.length ≤ s.1.length + ps.length
  | [], s => by simp
  | p :: ps, s => by
    have := runsS_flen (l := l) (h := h) (o := o) ps (runStep l h o s p)
    have h2 : (runStep l h o s p).1.length ≤ s.1.length + 1 := by
      unfold runStep
      split
      · omega
      · dsimp only
        split <;> simp
    show (ps.foldl (runStep l h o) (runStep l h o s p)).1.length ≤ _
    simp only [List.length_cons]; omega
theorem runsP_len (l : List Paint) (h : Int × Int) (o : Int) : (runsP l h o).length ≤ 2 * l.length + 1 := by
  have h1 := runsS_flen (l := l) (h := h) (o := o) (placesP l h o) ([], 0, 0)
  have h2 := places_len l h o
  unfold runsP runsE
  have h3 : (runsS l h o (placesP l h o)).1.length ≤ 2 * l.length := by
    show ((placesP l h o).foldl (runStep l h o) ([], 0, 0)).1.length ≤ _
    simp only [List.length_nil] at h1; omega
  split
  · simp; omega
  · omega
/-- No end. -/
abbrev ENDL : Int := 1152921504606846976
/-- As long as may be, all alike. -/
def MaxR (F : Int → Int) (f t w : Int) : Prop := f < t ∧ (∀ b, f ≤ b → b < t → F b = w) ∧ w ≠ 0 ∧ F (f - 1) ≠ w ∧ (t = ENDL ∨ F t ≠ w)
theorem MaxR.one {F : Int → Int} {f t w f' t' w' b : Int} (h : MaxR F f t w) (h' : MaxR F f' t' w') (ht : t ≤ ENDL) (ht' : t' ≤ ENDL) (b1 : f ≤ b) (b2 : b < t) (b3 : f' ≤ b) (b4 : b < t') : f = f' ∧ t = t' ∧ w = w' := by
  obtain ⟨h1, h2, h3, h4, h5⟩ := h
  obtain ⟨k1, k2, k3, k4, k5⟩ := h'
  have hw : w = w' := (h2 b b1 b2).symm.trans (k2 b b3 b4)
  subst hw
  refine ⟨?_, ?_, rfl⟩
  · rcases Int.lt_trichotomy f f' with c | c | c
    · exact absurd (h2 (f' - 1) (by omega) (by omega)) k4
    · exact c
    · exact absurd (k2 (f - 1) (by omega) (by omega)) h4
  · rcases Int.lt_trichotomy t t' with c | c | c
    · rcases h5 with h5 | h5
      · omega
      · exact absurd (k2 t (by omega) (by omega)) h5
    · exact c
    · rcases k5 with k5 | k5
      · omega
      · exact absurd (h2 t' (by omega) (by omega)) k5
/-- What was painted is right: from 0 to below 2^60, whats 0 to 2. -/
def PntOk (p : Paint) : Prop := 0 ≤ p.2.2.1 ∧ p.2.2.1 ≤ 2199023255552 ∧ (p.2.2.2.1 < 0 ∨ p.2.2.1 < p.2.2.2.1 ∧ p.2.2.2.1 ≤ 2199023255552) ∧ 0 ≤ p.2.2.2.2 ∧ p.2.2.2.2 ≤ 2
theorem atP_rng {l : List Paint} (hl : ∀ p ∈ l, PntOk p) (h : Int × Int) (o b : Int) : 0 ≤ atP l h o b ∧ atP l h o b ≤ 2 := by
  have aux : ∀ (l : List Paint) (w : Int), (∀ p ∈ l, PntOk p) → 0 ≤ w ∧ w ≤ 2 → 0 ≤ l.foldl (atStep h o b) w ∧ l.foldl (atStep h o b) w ≤ 2 := by
    intro l
    induction l with
    | nil => intro w _ hw; exact hw
    | cons p l ih =>
      intro w hl hw
      refine ih _ (fun q hq => hl q (by simp [hq])) ?_
      unfold atStep
      split
      · have := (hl p (by simp)).2.2.2; exact this
      · exact hw
  exact aux l 0 hl ⟨by omega, by omega⟩
theorem atP_low {l : List Paint} (hl : ∀ p ∈ l, PntOk p) (h : Int × Int) (o b : Int) (hb : ∀ q ∈ placesP l h o, b < q) : atP l h o b = 0 := by
  have aux : ∀ (l' : List Paint) (w : Int), (∀ p ∈ l', p ∈ l) → l'.foldl (atStep h o b) w = w := by
    intro l'
    induction l' with
    | nil => intro w _; rfl
    | cons p l' ih =>
      intro w hp
      show l'.foldl _ (atStep h o b w p) = w
      have e : atStep h o b w p = w := by
        unfold atStep
        cases hm : mineN h o p with
        | false => rfl
        | true =>
          have := hb p.2.2.1 (places_mem.2 ⟨p, hp p (by simp), hm, .inl rfl⟩)
          have hc : covN b p = false := by
            cases hc : covN b p
            · rfl
            · have := (covN_iff.1 hc).1; omega
          rw [hc]; rfl
      rw [e]; exact ih w (fun q hq => hp q (by simp [hq]))
  exact aux l 0 (fun p hp => hp)
/-- Between two places all bytes are alike. -/
theorem atP_between {l : List Paint} {h : Int × Int} {o b b' : Int} (hb : ∀ q ∈ placesP l h o, q ≤ b ↔ q ≤ b') : atP l h o b = atP l h o b' :=
  atP_congr l (fun p hp hm => ⟨hb _ (places_mem.2 ⟨p, hp, hm, .inl rfl⟩), fun h0 => hb _ (places_mem.2 ⟨p, hp, hm, .inr ⟨h0, rfl⟩⟩)⟩) 0
/-- A run of the reference (at, size) as one of the program's (from, to). -/
def toR (x : Run) : Int := if x.2.2.2.1 = 0 then ENDL else x.2.2.1 + x.2.2.2.1
def kdR (x : Run) : Int := if x.2.2.2.2 then 2 else 1
/-- Behind the places ps, rest to come. -/
structure RunInv (l : List Paint) (h : Int × Int) (o : Int) (ps rest : List Int) (s : RunSt) : Prop where
  here : ∀ x ∈ s.1, x.1 = h ∧ x.2.1 = o ∧ x.2.2.2.1 ≠ 0 ∧ MaxR (atP l h o) x.2.2.1 (toR x) (kdR x) ∧ toR x ≤ s.2.2 ∧ toR x < ENDL
  all : ∀ b, b < s.2.2 → atP l h o b ≠ 0 → ∃ x ∈ s.1, x.2.2.1 ≤ b ∧ b < toR x
  frm : s.2.2 ∈ ps ∧ (s.2.1 ≠ 0 → atP l h o (s.2.2 - 1) ≠ s.2.1) ∨ s = ([], 0, 0)
  same : ∀ b, s.2.2 ≤ b → (∀ q ∈ rest, b < q) → atP l h o b = s.2.1
  sorted : s.1.Pairwise (fun x y => toR x ≤ y.2.2.1)
theorem plc_rng {l : List Paint} (hl : ∀ p ∈ l, PntOk p) {h : Int × Int} {o q : Int} (hq : q ∈ placesP l h o) : 0 ≤ q ∧ q ≤ 2199023255552 := by
  obtain ⟨p, hp, _, e | ⟨e, e2⟩⟩ := places_mem.1 hq
  · have := hl p hp; exact ⟨by have := this.1; omega, by have := this.2.1; omega⟩
  · have := hl p hp; exact ⟨by omega, by have := this.2.2.1; omega⟩
theorem atP_neg {l : List Paint} (hl : ∀ p ∈ l, PntOk p) (h : Int × Int) (o : Int) {b : Int} (hb : b < 0) : atP l h o b = 0 :=
  atP_low hl h o b fun q hq => by have := (plc_rng hl hq).1; omega
theorem runInv_nil {l : List Paint} (hl : ∀ p ∈ l, PntOk p) (h : Int × Int) (o : Int) : RunInv l h o [] (placesP l h o) ([], 0, 0) :=
  ⟨fun x hx => (by cases hx), fun b hb hn => (hn (atP_neg hl h o hb)).elim, .inr rfl, fun b _ hb => atP_low hl h o b hb, List.Pairwise.nil⟩
theorem kd_what {w : Int} (h0 : 0 ≤ w) (h2 : w ≤ 2) (hn : w ≠ 0) {h : Int × Int} {o f t : Int} : kdR (h, o, f, t, decide (w = 2)) = w := by
  unfold kdR
  by_cases e : w = 2
  · simp [e]
  · simp [e]; omega
theorem RunInv.step {l : List Paint} (hl : ∀ p ∈ l, PntOk p) {h : Int × Int} {o : Int} {ps rest : List Int} {p : Int} {s : RunSt} (hI : RunInv l h o ps (p :: rest) s) (hp : placesP l h o = ps ++ p :: rest) (hw : 0 ≤ s.2.1 ∧ s.2.1 ≤ 2) :
    RunInv l h o (ps ++ [p]) rest (runStep l h o s p) := by
  obtain ⟨h1, h2, h3, h4, h5⟩ := hI
  have hs := places_sorted l h o
  rw [hp, List.pairwise_append, List.pairwise_cons] at hs
  obtain ⟨_, ⟨hs1, _⟩, hs2⟩ := hs
  have hp0 := plc_rng hl (h := h) (o := o) (q := p) (by rw [hp]; simp)
  have hbet : ∀ b, p ≤ b → (∀ q ∈ rest, b < q) → atP l h o b = atP l h o p := fun b hb hr => atP_between fun q hq => by
    rw [hp] at hq
    rcases List.mem_append.1 hq with hq | hq
    · have := hs2 q hq p (by simp); omega
    · rcases List.mem_cons.1 hq with rfl | hq
      · omega
      · have := hr q hq; have := hs1 q hq; omega
  have hold : ∀ b, s.2.2 ≤ b → b < p → atP l h o b = s.2.1 := fun b hb hb2 => h4 b hb fun q hq => by
    rcases List.mem_cons.1 hq with rfl | hq
    · exact hb2
    · have := hs1 q hq; omega
  have hfp : s.2.2 ≤ p ∧ (s.2.1 ≠ 0 → s.2.2 < p) := by
    rcases h3 with ⟨h3, _⟩ | h3
    · have := hs2 _ h3 p (by simp); exact ⟨by omega, fun _ => this⟩
    · rw [h3]; exact ⟨hp0.1, fun hn => (hn rfl).elim⟩
  unfold runStep
  by_cases e : atP l h o p = s.2.1
  · rw [if_pos e]
    refine ⟨h1, h2, ?_, fun b hb hr => ?_, h5⟩
    · rcases h3 with ⟨h3, h3'⟩ | h3
      · exact .inl ⟨by simp [h3], h3'⟩
      · exact .inr h3
    · by_cases hb2 : b < p
      · exact hold b hb hb2
      · rw [hbet b (by omega) hr, e]
  · rw [if_neg e]
    have hprev : atP l h o p ≠ 0 → atP l h o (p - 1) ≠ atP l h o p := fun hn => by
      by_cases c : s.2.2 ≤ p - 1
      · rw [hold (p - 1) c (by omega)]; exact fun q => e q.symm
      · rcases h3 with ⟨h3, _⟩ | h3
        · have := hs2 _ h3 p (by simp); omega
        · rw [h3] at c
          have c' : ¬ (0 : Int) ≤ p - 1 := c
          rw [atP_neg hl h o (by omega)]; exact fun q => hn q.symm
    by_cases hz : 0 < s.2.1
    · have hne : s.2.1 ≠ 0 := by omega
      have hlt := hfp.2 hne
      have hkd := kd_what hw.1 hw.2 hne (h := h) (o := o) (f := s.2.2) (t := p - s.2.2)
      have hto : toR (h, o, s.2.2, p - s.2.2, decide (s.2.1 = 2)) = p := by
        unfold toR; rw [if_neg (by show ¬ p - s.2.2 = 0; omega)]; show s.2.2 + (p - s.2.2) = p; omega
      simp only [if_pos hz]
      refine ⟨fun x hx => ?_, fun b hb hn => ?_, .inl ⟨by simp, hprev⟩, fun b hb hr => hbet b hb hr, ?_⟩
      · rcases List.mem_append.1 hx with hx | hx
        · obtain ⟨a1, a2, a3, a4, a5, a6⟩ := h1 x hx
          exact ⟨a1, a2, a3, a4, by show toR x ≤ p; omega, a6⟩
        · rw [List.mem_singleton.1 hx]
          refine ⟨rfl, rfl, by show p - s.2.2 ≠ 0; omega, ?_, by rw [hto]; exact Int.le_refl _, by rw [hto]; show p < 1152921504606846976; omega⟩
          rw [hto, hkd]
          refine ⟨hlt, fun b b1 b2 => hold b b1 b2, hne, ?_, .inr e⟩
          rcases h3 with ⟨_, h3⟩ | h3
          · exact h3 hne
          · rw [h3] at hne; exact (hne rfl).elim
      · by_cases c : b < s.2.2
        · obtain ⟨x, hx, q⟩ := h2 b c hn
          exact ⟨x, List.mem_append_left _ hx, q⟩
        · exact ⟨_, List.mem_append_right _ (List.mem_singleton.2 rfl), by show s.2.2 ≤ b; omega, by rw [hto]; exact hb⟩
      · rw [List.pairwise_append]
        exact ⟨h5, List.pairwise_singleton _ _, fun x hx y hy => by rw [List.mem_singleton.1 hy]; exact (h1 x hx).2.2.2.2.1⟩
    · have hne : s.2.1 = 0 := by omega
      simp only [if_neg hz]
      refine ⟨fun x hx => ?_, fun b hb hn => ?_, .inl ⟨by simp, hprev⟩, fun b hb hr => hbet b hb hr, h5⟩
      · obtain ⟨a1, a2, a3, a4, a5, a6⟩ := h1 x hx
        exact ⟨a1, a2, a3, a4, by show toR x ≤ p; omega, a6⟩
      · by_cases c : b < s.2.2
        · exact h2 b c hn
        · rw [hold b (by omega) hb, hne] at hn; exact (hn rfl).elim
theorem step_rng {l : List Paint} (hl : ∀ p ∈ l, PntOk p) {h : Int × Int} {o p : Int} {s : RunSt} (hw : 0 ≤ s.2.1 ∧ s.2.1 ≤ 2) : 0 ≤ (runStep l h o s p).2.1 ∧ (runStep l h o s p).2.1 ≤ 2 := by
  unfold runStep
  split
  · exact hw
  · exact atP_rng hl h o p
theorem RunInv.fold {l : List Paint} (hl : ∀ p ∈ l, PntOk p) {h : Int × Int} {o : Int} : ∀ (rest ps : List Int) (s : RunSt), RunInv l h o ps rest s → placesP l h o = ps ++ rest → 0 ≤ s.2.1 ∧ s.2.1 ≤ 2 →
    RunInv l h o (ps ++ rest) [] (rest.foldl (runStep l h o) s) ∧ 0 ≤ (rest.foldl (runStep l h o) s).2.1 ∧ (rest.foldl (runStep l h o) s).2.1 ≤ 2
  | [], ps, s, hI, _, hw => by rw [List.append_nil]; exact ⟨hI, hw⟩
  | p :: rest, ps, s, hI, hp, hw => by
    have := RunInv.fold hl rest (ps ++ [p]) (runStep l h o s p) (hI.step hl hp hw) (by rw [hp]; simp) (step_rng hl hw)
    rw [List.append_assoc] at this
    exact this
/-- The reference's runs are as long as may be; each byte that has something lies in one. -/
theorem runsP_ok {l : List Paint} (hl : ∀ p ∈ l, PntOk p) (h : Int × Int) (o : Int) :
    (∀ x ∈ runsP l h o, x.1 = h ∧ x.2.1 = o ∧ MaxR (atP l h o) x.2.2.1 (toR x) (kdR x) ∧ toR x ≤ ENDL ∧ (x.2.2.2.1 ≠ 0 → toR x < ENDL)) ∧
    (∀ b, b < ENDL → atP l h o b ≠ 0 → ∃ x ∈ runsP l h o, x.2.2.1 ≤ b ∧ b < toR x) ∧ (runsP l h o).Pairwise (fun x y => toR x ≤ y.2.2.1) := by
  obtain ⟨⟨h1, h2, h3, h4, h5⟩, hw⟩ := RunInv.fold hl (placesP l h o) [] ([], 0, 0) (runInv_nil hl h o) rfl ⟨Int.le_refl _, by show (0 : Int) ≤ 2; omega⟩
  unfold runsP runsE runsS
  generalize (placesP l h o).foldl (runStep l h o) ([], 0, 0) = s at *
  have hold : ∀ x ∈ s.1, x.1 = h ∧ x.2.1 = o ∧ MaxR (atP l h o) x.2.2.1 (toR x) (kdR x) ∧ toR x ≤ ENDL ∧ (x.2.2.2.1 ≠ 0 → toR x < ENDL) := fun x hx => by
    obtain ⟨a1, a2, a3, a4, a5, a6⟩ := h1 x hx
    exact ⟨a1, a2, a4, Int.le_of_lt a6, fun _ => a6⟩
  by_cases hz : 0 < s.2.1
  · have hne : s.2.1 ≠ 0 := by omega
    have hkd := kd_what hw.1 hw.2 hne (h := h) (o := o) (f := s.2.2) (t := 0)
    have hto : toR (h, o, s.2.2, 0, decide (s.2.1 = 2)) = ENDL := by unfold toR; rw [if_pos rfl]
    rw [if_pos hz]
    have h3' : s.2.2 ≤ 2199023255552 ∧ atP l h o (s.2.2 - 1) ≠ s.2.1 := by
      rcases h3 with ⟨h3, h3'⟩ | h3
      · exact ⟨(plc_rng hl (h := h) (o := o) (by simpa using h3)).2, h3' hne⟩
      · rw [h3] at hne; exact (hne rfl).elim
    refine ⟨fun x hx => ?_, fun b hb hn => ?_, ?_⟩
    · rcases List.mem_append.1 hx with hx | hx
      · exact hold x hx
      · rw [List.mem_singleton.1 hx]
        refine ⟨rfl, rfl, ?_, by rw [hto]; exact Int.le_refl _, fun q => (q rfl).elim⟩
        rw [hto, hkd]
        exact ⟨by show s.2.2 < 1152921504606846976; omega, fun b b1 b2 => h4 b b1 (fun q hq => by cases hq), hne, h3'.2, .inl rfl⟩
    · by_cases c : b < s.2.2
      · obtain ⟨x, hx, q⟩ := h2 b c hn
        exact ⟨x, List.mem_append_left _ hx, q⟩
      · exact ⟨_, List.mem_append_right _ (List.mem_singleton.2 rfl), by show s.2.2 ≤ b; omega, by rw [hto]; exact hb⟩
    · rw [List.pairwise_append]
      exact ⟨h5, List.pairwise_singleton _ _, fun x hx y hy => by rw [List.mem_singleton.1 hy]; exact (h1 x hx).2.2.2.2.1⟩
  · rw [if_neg hz]
    refine ⟨hold, fun b hb hn => ?_, h5⟩
    by_cases c : b < s.2.2
    · exact h2 b c hn
    · rw [h4 b (by omega) (fun q hq => by cases hq)] at hn
      omega

/-! ### Handles, rising -/
def ltH (a b : Int × Int) : Prop := a.1 < b.1 ∨ a.1 = b.1 ∧ a.2 < b.2
def ltHb (a b : Int × Int) : Bool := decide (a.1 < b.1) || (decide (a.1 = b.1) && decide (a.2 < b.2))
theorem ltHb_iff {a b : Int × Int} : ltHb a b = true ↔ ltH a b := by simp [ltHb, ltH]
theorem ltH_tri (a b : Int × Int) : ltH a b ∨ a = b ∨ ltH b a := by
  unfold ltH
  rcases Int.lt_trichotomy a.1 b.1 with c | c | c
  · exact .inl (.inl c)
  · rcases Int.lt_trichotomy a.2 b.2 with d | d | d
    · exact .inl (.inr ⟨c, d⟩)
    · exact .inr (.inl (Prod.ext c d))
    · exact .inr (.inr (.inr ⟨c.symm, d⟩))
  · exact .inr (.inr (.inl c))
theorem ltH_trans {a b c : Int × Int} (h1 : ltH a b) (h2 : ltH b c) : ltH a c := by unfold ltH at *; omega
theorem ltH_irr {a : Int × Int} (h : ltH a a) : False := by unfold ltH at h; omega
def insH : List (Int × Int) → Int × Int → List (Int × Int)
  | [], n => [n]
  | a :: l, n => if ltHb a n then a :: insH l n else if a = n then a :: l else n :: a :: l
theorem insH_same : ∀ {l : List (Int × Int)} {k : Nat} {n : Int × Int}, (∀ j y, j < k → l[j]? = some y → ltHb y n = true) → l[k]? = some n → insH l n = l
  | [], k, n, _, h => by simp at h
  | a :: l, 0, n, _, h => by
    obtain rfl : a = n := by simpa using h
    unfold insH; rw [if_neg (fun h => ltH_irr (ltHb_iff.1 h)), if_pos rfl]
  | a :: l, k + 1, n, hk, h => by
    unfold insH
    rw [if_pos (hk 0 a (by omega) rfl), insH_same (k := k) (fun j y hj hy => hk (j + 1) y (by omega) hy) (by simpa using h)]
theorem insH_new : ∀ {l : List (Int × Int)} {k : Nat} {n : Int × Int}, (∀ j y, j < k → l[j]? = some y → ltHb y n = true) → (∀ y, l[k]? = some y → ltHb y n = false ∧ y ≠ n) → k ≤ l.length → insH l n = (l.take k ++ [n]) ++ l.drop k
  | [], k, n, _, _, hl => by
    obtain rfl : k = 0 := by simpa using hl
    rfl
  | a :: l, 0, n, _, h, _ => by
    obtain ⟨h1, h2⟩ := h a rfl
    unfold insH; rw [if_neg (by simp [h1]), if_neg h2]; rfl
  | a :: l, k + 1, n, hk, h, hl => by
    unfold insH
    rw [if_pos (hk 0 a (by omega) rfl), insH_new (k := k) (fun j y hj hy => hk (j + 1) y (by omega) hy) (fun y hy => h y (by simpa using hy)) (by simpa using hl)]
    rfl
theorem insH_mem {n x : Int × Int} : ∀ {l : List (Int × Int)}, x ∈ insH l n ↔ x = n ∨ x ∈ l
  | [] => by simp [insH]
  | a :: l => by
    unfold insH
    split
    · rw [List.mem_cons, insH_mem, List.mem_cons]
      constructor
      · rintro (h | h | h) <;> simp [h]
      · rintro (h | h | h) <;> simp [h]
    · split
      · subst_vars; simp
      · simp
theorem insH_sorted {n : Int × Int} : ∀ {l : List (Int × Int)}, l.Pairwise ltH → (insH l n).Pairwise ltH
  | [], _ => by simp [insH]
  | a :: l, h => by
    obtain ⟨h1, h2⟩ := List.pairwise_cons.1 h
    unfold insH
    split
    · rename_i hlt
      exact List.pairwise_cons.2 ⟨fun y hy => by rcases insH_mem.1 hy with rfl | hy; exact ltHb_iff.1 hlt; exact h1 y hy, insH_sorted h2⟩
    · rename_i hlt
      split
      · exact h
      · rename_i hne
        have hna : ltH n a := by
          rcases ltH_tri a n with c | c | c
          · exact absurd (ltHb_iff.2 c) hlt
          · exact absurd c hne
          · exact c
        refine List.pairwise_cons.2 ⟨fun y hy => ?_, h⟩
        rcases List.mem_cons.1 hy with rfl | hy
        · exact hna
        · exact ltH_trans hna (h1 y hy)
theorem insH_len {n : Int × Int} : ∀ {l : List (Int × Int)}, (insH l n).length ≤ l.length + 1
  | [] => by simp [insH]
  | a :: l => by
    unfold insH
    split
    · have := insH_len (n := n) (l := l); simp only [List.length_cons]; omega
    · split <;> simp
def handlesP (l : List Paint) : List (Int × Int) := l.foldl (fun acc p => insH acc p.1) []
theorem handles_take {l : List Paint} {k : Nat} {x : Paint} (hx : l[k]? = some x) : handlesP (l.take (k + 1)) = insH (handlesP (l.take k)) x.1 := by
  unfold handlesP; rw [List.take_add_one, hx, List.foldl_append]; rfl
theorem handles_fold {x : Int × Int} : ∀ (l : List Paint) (acc : List (Int × Int)), x ∈ l.foldl (fun acc p => insH acc p.1) acc ↔ x ∈ acc ∨ ∃ p ∈ l, p.1 = x
  | [], acc => by simp
  | p :: l, acc => by
    show x ∈ l.foldl (fun acc p => insH acc p.1) (insH acc p.1) ↔ _
    rw [handles_fold l, insH_mem]
    constructor
    · rintro ((h1 | h1) | ⟨q, h1, h2⟩)
      · exact .inr ⟨p, by simp, h1.symm⟩
      · exact .inl h1
      · exact .inr ⟨q, by simp [h1], h2⟩
    · rintro (h1 | ⟨q, h1, h2⟩)
      · exact .inl (.inr h1)
      · rcases List.mem_cons.1 h1 with rfl | h1
        · exact .inl (.inl h2.symm)
        · exact .inr ⟨q, h1, h2⟩
theorem handles_mem {l : List Paint} {x : Int × Int} : x ∈ handlesP l ↔ ∃ p ∈ l, p.1 = x := by unfold handlesP; rw [handles_fold]; simp
theorem handles_fsort : ∀ (l : List Paint) (acc : List (Int × Int)), acc.Pairwise ltH → (l.foldl (fun acc p => insH acc p.1) acc).Pairwise ltH
  | [], acc, ha => ha
  | p :: l, acc, ha => handles_fsort l (insH acc p.1) (insH_sorted ha)
theorem handles_sorted (l : List Paint) : (handlesP l).Pairwise ltH := handles_fsort l [] List.Pairwise.nil
theorem handles_flen : ∀ (l : List Paint) (acc : List (Int × Int)), (l.foldl (fun acc p => insH acc p.1) acc).length ≤ acc.length + l.length
  | [], acc => by simp
  | p :: l, acc => by
    have := handles_flen l (insH acc p.1)
    have := insH_len (n := p.1) (l := acc)
    show (l.foldl (fun acc p => insH acc p.1) (insH acc p.1)).length ≤ _
    simp only [List.length_cons]; omega
theorem handles_len (l : List Paint) : (handlesP l).length ≤ l.length := by have := handles_flen l []; simpa [handlesP] using this

/-! ### The list -/
def hereP (l : List Paint) (h : Int × Int) : List Run := (ownersP l h).flatMap (runsP l h)
theorem flatM_len {α β : Type} {f : α → List β} {n : Nat} : ∀ (l : List α), (∀ x ∈ l, (f x).length ≤ n) → (l.flatMap f).length ≤ l.length * n
  | [], _ => by simp
  | x :: l, h => by
    have h1 := h x (by simp)
    have h2 := flatM_len l (fun y hy => h y (by simp [hy]))
    rw [List.flatMap_cons, List.length_append, List.length_cons, Nat.succ_mul]
    omega
theorem hereP_len (l : List Paint) (h : Int × Int) (hl : l.length ≤ 50) : (hereP l h).length ≤ 5050 := by
  have h1 := flatM_len (f := runsP l h) (n := 101) (ownersP l h) (fun o _ => by have := runsP_len l h o; omega)
  have h2 := owners_len l h
  unfold hereP
  have : (ownersP l h).length * 101 ≤ 50 * 101 := Nat.mul_le_mul_right _ (by omega)
  omega
theorem all_len (l : List Paint) (hl : l.length ≤ 50) (k : Nat) : (((handlesP l).take k).flatMap (hereP l)).length ≤ 252500 := by
  have h1 := flatM_len (f := hereP l) (n := 5050) ((handlesP l).take k) (fun h _ => hereP_len l h hl)
  have h2 := handles_len l
  have h3 : ((handlesP l).take k).length ≤ (handlesP l).length := by rw [List.length_take]; omega
  have : ((handlesP l).take k).length * 5050 ≤ 50 * 5050 := Nat.mul_le_mul_right _ (by omega)
  omega
/-- What the reference lists. -/
structure ListOk (l : List Paint) (R : List Run) : Prop where
  perm : R.Perm ((handlesP l).flatMap (hereP l))
  ord : R.Pairwise (fun x y => ¬ lockCf y x < 0)
/-- At first the least is taken out, then the least of the rest. -/
theorem take_least {α : Type} {here : List α} {k : Nat} {x : α} (hx : here[k]? = some x) : (x :: (here.take k ++ here.drop (k + 1))).Perm here := by
  have : here = here.take k ++ x :: here.drop (k + 1) := by
    obtain ⟨hk, rfl⟩ := List.getElem?_eq_some_iff.1 hx
    rw [List.getElem_cons_drop, List.take_append_drop]
  conv => rhs; rw [this]
  exact List.perm_middle.symm
end Go.Proofs.YtgebinfbbopnlaaDoor
