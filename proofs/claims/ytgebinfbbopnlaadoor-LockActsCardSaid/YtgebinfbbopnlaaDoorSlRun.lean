/- Package slices' functions at Run: any closure, any length. -/
import Derived.Test.YtgebinfbbopnlaaDoorLockP
import Derived.Test.YtgebinfbbopnlaaDoorDelF
import Derived.Test.YtgebinfbbopnlaaDoorLays
import Derived.Test.YtgebinfbbopnlaaDoorShareP
namespace Go.Proofs.YtgebinfbbopnlaaDoor
open Go.RowKit Go.Lib Go.Sort Go.Shelf
set_option linter.unusedVariables false
set_option linter.unusedSimpArgs false

set_option maxHeartbeats 1000000 in
theorem indexRun_none (a : Option Addr) (cap : Nat) (fv : Value) (w : World) : Calls Tryd.prog 56 #[.slice a 0 cap, fv] w fun e w' => e = .returned (.int .i64 (-1)) ∧ w' = w := by
  go_enter Tryd.func56, Tryd.ntmps56
  go_wp2_with fail
  go_loopg [5, 8] 0 (fun gg _ s8 wr => s8 = .int .i64 0 ∧ wr = w)
  case atStart => exact ⟨rfl, rfl⟩
  case round =>
    obtain ⟨rfl, rfl⟩ := hrel
    go_wp2_with fail
    go_ret
    exact ⟨rfl, rfl⟩
theorem indexRun_any (p : Run → Bool) (c : Nat) (cb : Array Value) (eg : ∀ args w, (callFunc c args).run Tryd.prog w = .ok (.enter c args) w) {v : Value} {n : Nat} {l : List Run} {S : Nat → Prop} (w : World) (h : SliceAt w v 104 6 n (l.flatMap runC) S)
    (hp : ∀ (W : World) (x : Run), Chg Nil w W → Calls Tryd.prog c (#[.agg (runC x).toArray] ++ cb) W fun e w' => e = .returned (.bool (p x)) ∧ Chg Nil W w') :
    Calls Tryd.prog 56 #[v, .func (.func c) #[] cb] w fun e w' => e = .returned (.int .i64 (firstAt p l)) ∧ Chg Nil w w' := by
  rcases Nat.eq_zero_or_pos n with h0 | h0
  · subst h0
    have hl := h.len runC_len (by decide)
    obtain rfl : l = [] := List.eq_nil_of_length_eq_zero hl.symm
    obtain ⟨a, cap, rfl⟩ := h.shape
    exact (indexRun_none a cap _ w).mono fun e w' ⟨h1, h2⟩ => ⟨h1, by subst h2; exact Chg.refl _ _⟩
  · exact indexS (P := Tryd.prog) Tryd.indexRun Tryd.isAgg104 Tryd.sizeOf104 (by decide) runC_len p c cb eg w h h0 hp

theorem infoRun : (Tryd.prog.info? 104).map (fun i => (i.zero, i.size, i.bytes)) = some (some (.agg #[.int .i64 0, .int .i64 0, .int .i64 0, .int .i64 0, .int .i64 0, .bool false]), 6, 48) := by kernel_rfl
theorem cloneRun_any {v : Value} {n : Nat} {l : List Run} {S : Nat → Prop} (w : World) (h : SliceAt w v 104 6 n (l.flatMap runC) S) (hbig : n ≤ 1000000) :
    Calls Tryd.prog 54 #[v] w fun e w' => ∃ v' S', e = .returned v' ∧ SliceAt w' v' 104 6 n (l.flatMap runC) S' ∧ Chg Nil w w' ∧ Grow Nil S' w w' :=
  cloneS (P := Tryd.prog) Tryd.cloneRun infoRun rfl (by decide) Tryd.sizeOf104 w h (fun u hu => by
    obtain ⟨x, _, hx⟩ := List.mem_flatMap.1 hu
    exact runC_one x u hx) (by omega)

theorem sortRun_any (cf : Run → Run → Int) (hO : SWO (ltOf cf)) (c : Nat) (cb : Array Value) (eg : ∀ args w, (callFunc c args).run Tryd.prog w = .ok (.enter c args) w) {v : Value} {n : Nat} {l : List Run} {S : Nat → Prop} (w : World) (h : SliceAt w v 104 6 n (l.flatMap runC) S) (hsmall : n ≤ 1000000)
    (hcmp : ∀ (W : World) (x y : Run), Chg S w W → Calls Tryd.prog c (#[.agg (runC x).toArray, .agg (runC y).toArray] ++ cb) W fun e w' => e = .returned (.int .i64 (cf x y)) ∧ ∃ q os', w' = grow (W.drewN q) os') :
    Calls Tryd.prog 50 #[v, .func (.func c) #[] cb] w fun e w' => e = .returned (.tuple #[]) ∧ ∃ l' : List Run, l'.Perm l ∧ l'.Pairwise (fun a b => ¬ cf b a < 0) ∧ SliceAt w' v 104 6 n (l'.flatMap runC) S ∧ Chg S w w' :=
  sortS (P := Tryd.prog) Tryd.sortRun Tryd.isAgg104 Tryd.sizeOf104 (by decide) runC_len runC_one cf hO c cb eg w h (by omega) hcmp

theorem zeroRun (w : World) : (zeroValue 104).run Tryd.prog w = .ok (.agg #[.int .i64 0, .int .i64 0, .int .i64 0, .int .i64 0, .int .i64 0, .bool false]) w := by kernel_rfl
set_option maxHeartbeats 8000000 in
set_option maxRecDepth 100000 in
theorem delRun_any (p : Run → Bool) (c : Nat) (cb : Array Value) (eg : ∀ args w, (callFunc c args).run Tryd.prog w = .ok (.enter c args) w) {v : Value} {n : Nat} {l : List Run} {S : Nat → Prop} (w : World) (h : SliceAt w v 104 6 n (l.flatMap runC) S)
    (hp : ∀ (W : World) (x : Run), Chg S w W → Calls Tryd.prog c (#[.agg (runC x).toArray] ++ cb) W fun e w' => e = .returned (.bool (p x)) ∧ Chg Nil W w') :
    Calls Tryd.prog 44 #[v, .func (.func c) #[] cb] w fun e w' => ∃ v', e = .returned v' ∧ SliceAt w' v' 104 6 (l.filter fun x => !p x).length ((l.filter fun x => !p x).flatMap runC) S ∧ Chg S w w' := by
  have hl := h.len runC_len (by decide)
  have hIF := indexRun_any p c cb eg w h (fun W x hW => hp W x hW.nil)
  have hle := h.le
  rcases first_cases p l with ⟨e1, _, hany⟩ | ⟨i0, x0, e1, _, hx0, hpx, _, hbef⟩
  · have hf : l.filter (fun x => !p x) = l := by
      rw [List.filter_eq_self]
      intro a ha
      have := List.any_eq_false.1 hany a ha
      simpa using this
    rw [e1] at hIF
    rw [hf, ← hl]
    have HI := Lib.hid hIF
    have HH := Lib.hid h
    clear hIF hp h hf hany e1 hl
    go_enter Tryd.func44, Tryd.ntmps44
    go_wp2_with fail
    refine HI.out.mono ?_
    rintro e w2 ⟨rfl, hc2⟩
    go_wp2_with fail
    go_ret
    exact ⟨_, rfl, HH.out.keep hc2 (fun _ _ f => f), hc2.nil⟩
  · have hi0 := (List.getElem?_eq_some_iff.1 hx0).1
    rw [e1] at hIF
    have HI := Lib.hid hIF
    obtain ⟨g, off, cap, cs, rfl, _, hnc, hcm, _, _, hS, hg⟩ := h.place (by omega)
    have HH := Lib.hid h
    have HP := Lib.hid hp
    have HS := Lib.hid hS
    have HG := Lib.hid (KeptL.start (q := fun x => !p x) hx0 (by simp [hpx]) (fun j y hj hy => by simp [hbef j y hj hy]))
    have hne1 : ((i0 : Int) == -1) = false := beq_eq_false_iff_ne.2 (by omega)
    have HL := Lib.hid hl
    have hi0n : i0 < n := by omega
    have hcap : cap ≤ 9223372036854775807 := hcm
    clear hIF hp h e1 hx0 hpx hbef hS hl hi0 hcm
    go_enter Tryd.func44, Tryd.ntmps44
    go_wp2_with fail
    refine HI.out.mono ?_
    rintro e w2 ⟨rfl, hc2⟩
    have HC2 := Lib.hid hc2
    clear hc2
    go_wp2_with fail
    go_loopg [5, 6, 7] n (fun gg s5 s6 _ wr => ∃ (i j : Nat) (cur : List Run), s5 = .int .i64 i ∧ s6 = .int .i64 j ∧ j ≤ n ∧ n - j ≤ gg ∧ Aside (KeptL (fun x => !p x) l cur i j) ∧ Aside (SliceAt wr (.slice (some ⟨g, off, none⟩) n cap) 104 6 n (cur.flatMap runC) S) ∧ Aside (Chg S w wr))
    case atStart => exact ⟨i0, i0 + 1, l, rfl, by go_num, by omega, by omega, HG.out, HH.out.keep HC2.out (fun _ _ f => f), HC2.out.nil⟩
    case round =>
      obtain ⟨i, j, cur, rfl, rfl, hjn, hgg, K, A, C⟩ := hrel
      have hij := K.out.lt
      have hcl : cur.length = n := K.out.len.trans HL.out.symm
      by_cases hlt : j < n
      · have hltz : (j : Int) < (n : Int) := by omega
        obtain ⟨⟨⟨a, b⟩, c, d, e, f⟩, hx⟩ : ∃ x, cur[j]? = some x := ⟨cur[j], List.getElem?_eq_getElem (by omega)⟩
        obtain ⟨y, hy⟩ : ∃ y, cur[i]? = some y := ⟨cur[i], List.getElem?_eq_getElem (by omega)⟩
        have hej := A.out.elem runC_len hx
        have c0 := (hej 0 _ rfl).1
        have c1 := (hej 1 _ rfl).1
        have c2 := (hej 2 _ rfl).1
        have c3 := (hej 3 _ rfl).1
        have c4 := (hej 4 _ rfl).1
        have c5 := (hej 5 _ rfl).1
        have hg2 := (hej 0 _ rfl).2.2
        simp only [Nat.add_zero] at c0 c1 c2 c3 c4 c5
        have HX := Lib.hid hx
        have HY := Lib.hid hy
        clear hx hy hej hcl
        cases hq : p ((a, b), c, d, e, f)
        all_goals
          have HQ := Lib.hid hq
          have HCL := Lib.hid (HP.out · ((a, b), c, d, e, f))
          rw [hq] at HCL
          clear hq
          go_wp2_with fail
          refine (HCL.out _ (C.out.alloc _)).mono ?_
          rintro e w3 ⟨rfl, hc3⟩
          have hb3 := hc3.keep (block_alloc wr (.cells #[.int .i64 a, .int .i64 b, .int .i64 c, .int .i64 d, .int .i64 e, .bool f] 104)) (fun f => f)
          have hsz3 := hc3.size
          simp only [World.size_alloc] at hsz3
          have HC3 := Lib.hid ((C.out.alloc (.cells #[.int .i64 a, .int .i64 b, .int .i64 c, .int .i64 d, .int .i64 e, .bool f] 104)).trans hc3 (fun _ _ f => f.elim))
          have HA3 := Lib.hid ((A.out.keep ((Chg.refl Nil wr).alloc (.cells #[.int .i64 a, .int .i64 b, .int .i64 c, .int .i64 d, .int .i64 e, .bool f] 104)) (fun _ _ f => f)).keep hc3 (fun _ _ f => f))
          clear c0 c1 c2 c3 c4 c5 hc3
        · have hei := HA3.out.elem runC_len HY.out
          obtain ⟨⟨a2, b2⟩, c2, d2, e2, f2⟩ := y
          have i0 := (hei 0 _ rfl).1
          have fi0 := (hei 0 _ rfl).2.1
          have i1 := (hei 1 _ rfl).1
          have fi1 := (hei 1 _ rfl).2.1
          have i2 := (hei 2 _ rfl).1
          have fi2 := (hei 2 _ rfl).2.1
          have i3 := (hei 3 _ rfl).1
          have fi3 := (hei 3 _ rfl).2.1
          have i4 := (hei 4 _ rfl).1
          have fi4 := (hei 4 _ rfl).2.1
          have i5 := (hei 5 _ rfl).1
          have fi5 := (hei 5 _ rfl).2.1
          simp only [Nat.add_zero] at i0 i1 i2 i3 i4 i5 fi0 fi1 fi2 fi3 fi4 fi5
          have d0 := cell_of hb3 0
          have d1 := cell_of hb3 1
          have d2 := cell_of hb3 2
          have d3 := cell_of hb3 3
          have d4 := cell_of hb3 4
          have d5 := cell_of hb3 5
          simp at d0 d1 d2 d3 d4 d5
          have hwl := lt_of_block hb3
          clear hei hb3
          go_wp2_with fail
          go_roundg (n - (j + 1))
          case measure => omega
          case rel =>
            refine ⟨i + 1, j + 1, cur.set i ((a, b), c, d, e, f), by go_num, by go_num, by omega, Nat.le_refl _, (show Aside _ from K.out.keep HX.out (by simp [HQ.out])), ?_, ?_⟩
            · show SliceAt (w3.setCells g (off + i * 6) (runC ((a, b), c, d, e, f))) (.slice (some ⟨g, off, none⟩) n cap) 104 6 n ((cur.set i ((a, b), c, d, e, f)).flatMap runC) S
              exact HA3.out.setElem runC_len (by have := K.out.len; have := HL.out; omega) _
            · show Chg S w (w3.setCells g (off + i * 6) (runC ((a, b), c, d, e, f)))
              exact HC3.out.trans (chg_setCells (b := g) _ _ _) (fun x _ e => by have : x = g := e; subst this; exact HS.out)
        · clear hb3
          go_wp2_with fail
          go_roundg (n - (j + 1))
          case measure => omega
          case rel => exact ⟨i, j + 1, cur, rfl, by go_num, by omega, Nat.le_refl _, (show Aside _ from K.out.skip HX.out (by simp [HQ.out])), HA3.out, HC3.out⟩
      · obtain rfl : j = n := by omega
        have hltz : ¬ (j : Int) < (j : Int) := by omega
        obtain ⟨g', off', cap', cs', e', hb, hnc', _, hcs, _, _, _⟩ := A.out.place (by omega)
        cases e'
        have hik : i * 6 + (j - i) * 6 = j * 6 := by rw [← Nat.add_mul]; congr 1; omega
        have hjk : j * 6 ≤ cap * 6 := Nat.mul_le_mul_right _ hnc'
        have hclr : ∀ ty, (Builtin.clear_ #[55] ty #[.slice (some ⟨g, off + i * 6, none⟩) (j - i) (cap - i)]).run Tryd.prog wr = .ok (.tuple #[]) (wr.setCells g (off + i * 6) (Builtin.zeroCells #[.int .i64 0, .int .i64 0, .int .i64 0, .int .i64 0, .int .i64 0, .bool false] (j - i)).toList) :=
          fun ty => run_clearK wr _ _ ty (.agg #[.int .i64 0, .int .i64 0, .int .i64 0, .int .i64 0, .int .i64 0, .bool false]) Tryd.underlying55 zeroRun (by intro u hu; simp [Value.cells] at hu; rcases hu with rfl | rfl <;> rfl) hb (by omega) (by show off + i * 6 + (j - i) * 6 ≤ cs'.size; omega)
        have hzl : (Builtin.zeroCells #[.int .i64 0, .int .i64 0, .int .i64 0, .int .i64 0, .int .i64 0, .bool false] (j - i)).toList.length = (j - i) * 6 := zeroCells_len _ _
        have HW := Lib.hid (A.out.cutOver runC_len (i := i) (by omega) hcl.symm hzl)
        obtain ⟨zs, hzs⟩ : ∃ zs, zs = (Builtin.zeroCells #[.int .i64 0, .int .i64 0, .int .i64 0, .int .i64 0, .int .i64 0, .bool false] (j - i)).toList := ⟨_, rfl⟩
        rw [← hzs] at hclr HW
        have hlen : (l.filter fun x => !p x).length = i := by
          rw [← K.out.done HL.out, List.length_take]; omega
        have HF := Lib.hid (K.out.done HL.out)
        have HN := Lib.hid hlen
        clear hb hcs hik hjk hzl hzs hlen hcl
        go_wp2_with fail
        go_ret
        refine ⟨_, rfl, ?_, ?_⟩
        · rw [HN.out, ← HF.out]; exact HW.out
        · exact C.out.trans (chg_setCells (b := g) _ _ _) (fun x _ e => by have : x = g := e; subst this; exact HS.out)
end Go.Proofs.YtgebinfbbopnlaaDoor
