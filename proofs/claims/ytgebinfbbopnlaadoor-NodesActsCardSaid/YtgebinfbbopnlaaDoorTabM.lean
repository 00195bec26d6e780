/- Package nodes' table with its nodes and what files hold, as resources: New, Add, at, Count. No condition but that the table is one. -/
import Derived.Test.YtgebinfbbopnlaaDoorTabS
import Derived.Test.YtgebinfbbopnlaaDoorOp12
import Derived.Test.YtgebinfbbopnlaaDoorDataZ
namespace Go.Proofs.YtgebinfbbopnlaaDoor
open Go.RowKit
set_option linter.unusedVariables false
set_option linter.unusedSimpArgs false
/-- What a file holds: its block, the plain data, and where it lies. -/
structure DQ where
  db : Nat
  d : PData
  S : Nat → Prop
def DQ.size (q : DQ) : Int := q.d.size
def rData (q : DQ) : Res :=
  ⟨true, q.S, fun w => DataAt w q.db q.d q.S, fun w w' h hs hb => by
    obtain ⟨⟨mv, T, h1, h2, h3⟩, h4, h5, h6, h7⟩ := h
    refine ⟨⟨mv, T, (hb _ h4).trans h1, ?_, h3⟩, h4, fun x hx => Nat.lt_of_lt_of_le (h5 x hx) hs, h6, h7⟩
    rcases h2 with h2 | ⟨r, e, h2⟩
    · exact .inl h2
    · exact .inr ⟨r, e, by
        obtain ⟨es, clock, q1, q2⟩ := h2
        exact ⟨es, clock, (hb r (h3 r e)).trans q1, q2⟩⟩, fun w b h hb => h.lt b hb⟩
structure ND where
  nb : Nat
  kind : Int
  size : Int
  links : Int
  change : Int
  upn : Int
  upg : Int
  dq : Option DQ
def ndPtr (d : Option DQ) : Value := .pointer (d.map fun q => ⟨q.db, 0, none⟩)
def datRes : Option DQ → Res
  | none => rNone
  | some q => rData q
def ndCell (N : ND) : Res := rCell true N.nb [.int .i64 N.kind, .int .i64 N.size, .int .i64 N.links, .int .i64 N.change, .int .i64 N.upn, .int .i64 N.upg, ndPtr N.dq] 91
def ndRes : Option ND → Res
  | none => rNone
  | some N => rAll [ndCell N, datRes N.dq]
theorem datRes_wr (d : Option DQ) : (datRes d).wr = true := by cases d <;> rfl
theorem ndPtr_one (d : Option DQ) : (ndPtr d).oneCell' = true := by cases d <;> rfl
/-- The nodes of a table. -/
def rNds (l : List (Option ND)) : Res := rAll (l.map ndRes)
def rNdsO (l : List (Option ND)) (k : Nat) : Res := rAll ((l.map ndRes).set k rNone)
section
variable {w0 w : World} {E : Ent} {M : List Res} {l : List (Option ND)} {k : Nat} {N : ND}
theorem Own.ndOpen (h : Own w0 E (rNds l :: M) w) (hk : l[k]? = some (some N)) : Own w0 E (ndCell N :: datRes N.dq :: rNdsO l k :: M) w :=
  Own.allSplit (l := [ndCell N, datRes N.dq]) (h.mapOpen hk)
theorem Own.ndClose (N' : ND) (h : Own w0 E (ndCell N' :: datRes N'.dq :: rNdsO l k :: M) w) : Own w0 E (rNds (l.set k (some N')) :: M) w :=
  Own.mapSet (f := ndRes) (some N') (Own.allJoin [ndCell N', datRes N'.dq] (by
    intro r hr
    simp only [List.mem_cons, List.mem_nil_iff, or_false] at hr
    rcases hr with rfl | rfl
    · rfl
    · exact datRes_wr _) h) rfl
theorem set_same {α : Type} : ∀ (l : List α) (k : Nat) (x : α), l[k]? = some x → l.set k x = l
  | [], _, _, _ => rfl
  | y :: l, 0, x, h => by simp at h; subst h; rfl
  | y :: l, k + 1, x, h => by rw [List.set_cons_succ, set_same l k x (by simpa using h)]
/-- A node taken out and not turned. -/
theorem Own.ndBack (hk : l[k]? = some (some N)) (h : Own w0 E (ndCell N :: datRes N.dq :: rNdsO l k :: M) w) : Own w0 E (rNds l :: M) w := by
  have h1 := h.ndClose N
  rw [set_same l k _ hk] at h1
  exact h1
theorem Own.ndPut (N' : ND) (k : Nat) (h : Own w0 E (ndCell N' :: datRes N'.dq :: rNds l :: M) w) : Own w0 E (rNds (l.set k (some N')) :: M) w :=
  Own.mapPut (f := ndRes) (some N') k (Own.allJoin [ndCell N', datRes N'.dq] (by
    intro r hr
    simp only [List.mem_cons, List.mem_nil_iff, or_false] at hr
    rcases hr with rfl | rfl
    · rfl
    · exact datRes_wr _) h) rfl
theorem Own.ndFree (k : Nat) (h : Own w0 E (rNds l :: M) w) : Own w0 E (rNds (l.set k none) :: M) w :=
  Own.mapPut (f := ndRes) none k (h.addNone (r := rNone) (fun _ => trivial) (fun _ h => h)) rfl
theorem none_apart : ∀ n : Nat, ((List.replicate n (none : Option ND)).map ndRes).Pairwise Apart
  | 0 => List.Pairwise.nil
  | n + 1 => List.pairwise_cons.2 ⟨fun s _ b hb => hb.elim, none_apart n⟩
theorem Own.ndNew (n : Nat) (h : Own w0 E M w) : Own w0 E (rNds (List.replicate n none) :: M) w := by
  have hm : ∀ r ∈ (List.replicate n (none : Option ND)).map ndRes, r = rNone := by
    intro r hr
    simp only [List.map_replicate] at hr
    exact List.eq_of_mem_replicate hr
  exact h.addNone (r := rNds (List.replicate n none)) (fun w => ⟨fun r hr => by rw [hm r hr]; exact ⟨rfl, trivial⟩, none_apart n⟩) fun b ⟨r, hr, hb⟩ => by rw [hm r hr] at hb; exact hb
end
/-- A contract's end told otherwise. -/
theorem Spec.after {P : Program} {f : FuncId} {args : Array Value} {L : List Res} {Φ Ψ : Value → List Res → Prop} (h : Spec P f args L Φ) (hm : ∀ E w0 w u L1, Φ u L1 → Own w0 E L1 w → ∃ L2, Ψ u L2 ∧ Own w0 E L2 w) : Spec P f args L Ψ :=
  fun E w0 w ho => (h E w0 w ho).mono fun e w' ⟨v, L', h1, h2, h3⟩ => by
    obtain ⟨L2, h4, h5⟩ := hm E w0 w' v L' h1 h3
    exact ⟨v, L2, h4, h2, h5⟩
/-- More is owned. -/
theorem Spec.frame {P : Program} {f : FuncId} {args : Array Value} {L : List Res} {Φ : Value → List Res → Prop} (h : Spec P f args L Φ) (M : List Res) : Spec P f args (L ++ M) fun u L' => ∃ L1, Φ u L1 ∧ L' = L1 ++ M :=
  fun E w0 w ho => (h (entOf L) w w ho.focus).mono fun e w' ⟨v, L', h1, h2, h3⟩ => ⟨v, L' ++ M, ⟨L', h1, rfl⟩, h2, ho.unfocus h3⟩
theorem nodesAdd1_spec (b k : Nat) (x : Int) (ps : List (Option Nat)) (gs : List Int) (vl vg : Value) (T : TypeId) (Sl Sg : Nat → Prop) (hl : ps.length ≤ 300) (hlg : ps.length = gs.length) (hf : free0 ps = some k) (hx : gs[k]? = some x) (hxr : 0 ≤ x ∧ x ≤ 1000000) :
    Spec Tryd.prog 8 #[.pointer (some ⟨b, 0, none⟩), .int .i64 1] [rTab b ps gs vl vg T Sl Sg] fun u L => ∃ nb db, u = .tuple #[hdlV k x, .nilIface] ∧ L = [rCell true nb [.int .i64 1, .int .i64 0, .int .i64 0, .int .i64 0, .int .i64 0, .int .i64 0, .pointer (some ⟨db, 0, none⟩)] 91, rCell true db [.int .i64 0, .map none] 94, rTab b (ps.set k (some nb)) (gs.set k (x + 1)) vl vg T Sl Sg] := fun E w0 w ho => by
  have ht : TabAt w b ps gs vl vg T Sl Sg := ho.fact 0 rfl
  refine (nadd_ok b k 1 x ps gs vl vg T Sl Sg w ht (.inl rfl) hl hlg hf hx hxr).mono ?_
  rintro e w' ⟨nb, hnb, he, hc, ht', dp, hb', ⟨h2, _⟩ | ⟨_, rfl, hd⟩⟩
  · cases h2
  · have hfo : ∀ y, (rTab b ps gs vl vg T Sl Sg).foot y → y < w.heap.size := fun y hy => (rTab b ps gs vl vg T Sl Sg).alive w y ht hy
    refine ⟨_, _, ⟨nb, nb + 1, rfl, rfl⟩, he, Own.unfocus (L := [rTab b ps gs vl vg T Sl Sg]) (L' := [rCell true nb [.int .i64 1, .int .i64 0, .int .i64 0, .int .i64 0, .int .i64 0, .int .i64 0, .pointer (some ⟨nb + 1, 0, none⟩)] 91, rCell true (nb + 1) [.int .i64 0, .map none] 94, rTab b (ps.set k (some nb)) (gs.set k (x + 1)) vl vg T Sl Sg]) (M := []) ho ⟨hc.mono fun y _ hy => ⟨_, List.mem_singleton.2 rfl, .inr hy, fun e => e⟩, fun y ⟨q, h1, h2, _⟩ => ⟨q, h1, h2, fun e => by cases e⟩, ?_, ?_, ?_⟩⟩
    · intro q hq
      simp only [List.mem_cons, List.mem_nil_iff, or_false] at hq
      rcases hq with rfl | rfl | rfl
      · exact hb'
      · exact hd
      · exact ht'
    · refine List.pairwise_cons.2 ⟨fun q hq _ y hy hz => ?_, List.pairwise_cons.2 ⟨fun q hq _ y hy hz => ?_, List.pairwise_singleton _ _⟩⟩
      · have h3 : y = nb := hy
        simp only [List.mem_cons, List.mem_nil_iff, or_false] at hq
        rcases hq with rfl | rfl
        · have h4 : y = nb + 1 := hz
          omega
        · have := hfo y hz
          omega
      · rw [List.mem_singleton.1 hq] at hz
        have h3 : y = nb + 1 := hy
        have := hfo y hz
        omega
    · intro q hq y hy
      simp only [List.mem_cons, List.mem_nil_iff, or_false] at hq
      rcases hq with rfl | rfl | rfl
      · have h3 : y = nb := hy
        exact .inr (by omega)
      · have h3 : y = nb + 1 := hy
        exact .inr (by omega)
      · exact .inl ⟨_, List.mem_singleton.2 rfl, hy, fun e => e⟩
/-- A new node. -/
def newND (nb : Nat) (kind : Int) (dq : Option DQ) : ND := ⟨nb, kind, 0, 0, 0, 0, 0, dq⟩
def newDQ (db : Nat) : DQ := ⟨db, ⟨0, []⟩, (· = db)⟩
theorem Own.newData {w0 w : World} {E : Ent} {M : List Res} {db : Nat} (h : Own w0 E (rCell true db [.int .i64 0, .map none] 94 :: M) w) : Own w0 E (datRes (some (newDQ db)) :: M) w := by
  have hc := h.fact 0 rfl
  refine h.less rfl rfl ⟨⟨.map none, _, hc, .inl ⟨rfl, rfl⟩, fun r hr => by cases hr⟩, rfl, fun x hx => ?_, Nat.zero_le _, fun p hp => by cases hp⟩ fun b hb => hb
  have : x = db := hx
  rw [this]; exact lt_of_block hc
theorem tabAdd2_spec (b k : Nat) (x : Int) (ps : List (Option Nat)) (gs : List Int) (vl vg : Value) (T : TypeId) (Sl Sg : Nat → Prop) (l : List (Option ND)) (hl : ps.length ≤ 300) (hlg : ps.length = gs.length) (hf : free0 ps = some k) (hx : gs[k]? = some x) (hxr : 0 ≤ x ∧ x ≤ 1000000) :
    Spec Tryd.prog 8 #[.pointer (some ⟨b, 0, none⟩), .int .i64 2] [rTab b ps gs vl vg T Sl Sg, rNds l] fun u L => ∃ nb, u = .tuple #[hdlV k x, .nilIface] ∧ L = [rTab b (ps.set k (some nb)) (gs.set k (x + 1)) vl vg T Sl Sg, rNds (l.set k (some (newND nb 2 none)))] :=
  ((nodesAdd_spec b k x ps gs vl vg T Sl Sg hl hlg hf hx hxr).frame [rNds l]).after fun E w0 w u L1 h1 ho => by
    obtain ⟨L2, ⟨nb, rfl, rfl⟩, rfl⟩ := h1
    refine ⟨_, ⟨nb, rfl, rfl⟩, ?_⟩
    have h2 := Own.addNone (r := rNone) ho (fun _ => trivial) (fun _ h => h)
    have h3 : Own w0 E (ndCell (newND nb 2 none) :: datRes none :: rNds l :: [rTab b (ps.set k (some nb)) (gs.set k (x + 1)) vl vg T Sl Sg]) w := h2.pick [1, 0, 1, 0]
    exact (h3.ndPut (newND nb 2 none) k).pick [1, 0]
theorem tabAdd1_spec (b k : Nat) (x : Int) (ps : List (Option Nat)) (gs : List Int) (vl vg : Value) (T : TypeId) (Sl Sg : Nat → Prop) (l : List (Option ND)) (hl : ps.length ≤ 300) (hlg : ps.length = gs.length) (hf : free0 ps = some k) (hx : gs[k]? = some x) (hxr : 0 ≤ x ∧ x ≤ 1000000) :
    Spec Tryd.prog 8 #[.pointer (some ⟨b, 0, none⟩), .int .i64 1] [rTab b ps gs vl vg T Sl Sg, rNds l] fun u L => ∃ nb db, u = .tuple #[hdlV k x, .nilIface] ∧ L = [rTab b (ps.set k (some nb)) (gs.set k (x + 1)) vl vg T Sl Sg, rNds (l.set k (some (newND nb 1 (some (newDQ db)))))] :=
  ((nodesAdd1_spec b k x ps gs vl vg T Sl Sg hl hlg hf hx hxr).frame [rNds l]).after fun E w0 w u L1 h1 ho => by
    obtain ⟨L2, ⟨nb, db, rfl, rfl⟩, rfl⟩ := h1
    refine ⟨_, ⟨nb, db, rfl, rfl⟩, ?_⟩
    have h3 : Own w0 E (rCell true db [.int .i64 0, .map none] 94 :: [ndCell (newND nb 1 (some (newDQ db))), rTab b (ps.set k (some nb)) (gs.set k (x + 1)) vl vg T Sl Sg, rNds l]) w := ho.pick [1, 0, 0, 0]
    have h5 : Own w0 E (ndCell (newND nb 1 (some (newDQ db))) :: datRes (some (newDQ db)) :: rNds l :: [rTab b (ps.set k (some nb)) (gs.set k (x + 1)) vl vg T Sl Sg]) w := (h3.newData).pick [1, 0, 1, 0]
    exact (h5.ndPut (newND nb 1 (some (newDQ db))) k).pick [1, 0]
theorem tabNew_spec (n : Nat) (h1 : 1 ≤ n) (h2 : n ≤ 300) : Spec Tryd.prog 6 #[.int .i64 n] [] fun u L => ∃ b vl vg T Sl Sg, u = .tuple #[.pointer (some ⟨b, 0, none⟩), .nilIface] ∧ L = [rTab b (List.replicate n none) (List.replicate n 0) vl vg T Sl Sg, rNds (List.replicate n none)] :=
  (nodesNew_spec n h1 h2).after fun E w0 w u L1 h1 ho => by
    obtain ⟨b, vl, vg, T, Sl, Sg, rfl, rfl⟩ := h1
    exact ⟨_, ⟨b, vl, vg, T, Sl, Sg, rfl, rfl⟩, (ho.ndNew n).pick [1, 0]⟩
theorem tabAt_spec {B : Nat} (ad : Nat → Addr) (b : Nat) (n g : Int) (ps : List (Option Nat)) (gs : List Int) (vl vg : Value) (T : TypeId) (Sl Sg : Nat → Prop) (hl : ps.length = gs.length) (hr : ∀ x ∈ gs, 0 ≤ x ∧ x ≤ 1000000) :
    Spec Tryd.prog 33 #[.pointer (some ⟨b, 0, none⟩), .agg #[.int .i64 n, .int .i64 g]] [rTab b ps gs vl vg T Sl Sg, rEnv B ad [10]] fun u L => (∃ nb, atOf ps gs n g = some nb ∧ u = .tuple #[.pointer (some ⟨nb, 0, none⟩), .nilIface] ∧ L = [rTab b ps gs vl vg T Sl Sg, rEnv B ad [10]]) ∨ (atOf ps gs n g = none ∧ u = .tuple #[.pointer none, errV ad 10] ∧ L = [rTab b ps gs vl vg T Sl Sg, rEnv B ad [10]]) := fun E w0 w ho =>
  (nat_any ad b n g ps gs vl vg T Sl Sg w (ho.fact 1 rfl) (ho.fact 0 rfl) hl hr).mono fun e w' ⟨he, hc⟩ => by
    cases ha : atOf ps gs n g with
    | none => rw [ha] at he; exact ⟨_, _, .inr ⟨rfl, rfl, rfl⟩, he, ho.quiet hc⟩
    | some nb => rw [ha] at he; exact ⟨_, _, .inl ⟨nb, rfl, rfl, rfl⟩, he, ho.quiet hc⟩
theorem tabCount_spec (b : Nat) (ps : List (Option Nat)) (gs : List Int) (vl vg : Value) (T : TypeId) (Sl Sg : Nat → Prop) (hl : ps.length ≤ 300) : Spec Tryd.prog 15 #[.pointer (some ⟨b, 0, none⟩)] [rTab b ps gs vl vg T Sl Sg] fun u L => u = .int .i64 (usedN ps : Nat) ∧ L = [rTab b ps gs vl vg T Sl Sg] := fun E w0 w ho =>
  (ncount_any b ps gs vl vg T Sl Sg w (ho.fact 0 rfl) hl).mono fun e w' ⟨he, hc⟩ => ⟨_, _, ⟨rfl, rfl⟩, he, ho.quiet hc⟩
theorem sizeD_spec (q : DQ) : Spec Tryd.prog 34 #[.pointer (some ⟨q.db, 0, none⟩)] [datRes (some q)] fun u L => u = .int .i64 q.size ∧ L = [datRes (some q)] := fun E w0 w ho =>
  (dsize_any q.db q.d q.S w (ho.fact 0 rfl)).mono fun e w' ⟨he, hc⟩ => ⟨_, _, ⟨rfl, rfl⟩, he, hc ▸ ho⟩
/-- Write, at data taken out. -/
theorem writeD_spec {B : Nat} (ad : Nat → Addr) (q : DQ) (p : Int) (s : ByteArray) : Spec Tryd.prog 14 #[.pointer (some ⟨q.db, 0, none⟩), .int .i64 p, .string s] [datRes (some q), rEnv B ad [2]] fun u L => ∃ S', u = errV ad (dWrite q.d p s).2 ∧ L = [datRes (some ⟨q.db, (dWrite q.d p s).1, S'⟩), rEnv B ad [2]] := fun E w0 w ho =>
  (dwrite_any ad q.db p s q.d q.S w (ho.fact 1 rfl) (ho.fact 0 rfl)).mono fun e w' ⟨he, hc, S', h1, h2⟩ => ⟨_, _, ⟨S', rfl, rfl⟩, he, Own.upd ho 0 (r := rData q) (r' := rData ⟨q.db, (dWrite q.d p s).1, S'⟩) rfl rfl hc h1 fun b hb => (h2 b hb).imp id fun q => q.1⟩
end Go.Proofs.YtgebinfbbopnlaaDoor
