/- The walk of law ShareSound. -/
import Derived.Test.YtofhnglgebllbaaDoorShare7
namespace Go.Proofs.YtofhnglgebllbaaDoor
open Go.RowKit Go.Lib Go.Sort
set_option linter.unusedVariables false
set_option linter.unusedSimpArgs false

theorem aside_get {l : List Opn} (hk : SharesOk l) {i j : Nat} {x y : Opn} (hx : l[i]? = some x) (hy : l[j]? = some y) (hne : i ≠ j) : AsideP x y := by
  obtain ⟨hi, rfl⟩ := List.getElem?_eq_some_iff.1 hx
  obtain ⟨hj, rfl⟩ := List.getElem?_eq_some_iff.1 hy
  have hp := List.pairwise_iff_getElem.1 hk.aside
  rcases Nat.lt_or_gt_of_ne hne with h | h
  · exact hp i j hi hj h
  · exact (hp j i hj hi h).symm
theorem open_cells {w : World} {g off cap n i : Nat} {l : List Opn} {S : Nat → Prop} (hs : SliceAt w (.slice (some ⟨g, off, none⟩) n cap) 76 5 n (l.flatMap opnC) S) {xn xg xo xa xd : Int} (hx : l[i]? = some ((xn, xg), xo, xa, xd)) {W : World} (hW : Chg Nil w W) :
    W.cell? ⟨g, off + i * 5, none⟩ = some (.int .i64 xn) ∧ W.cell? ⟨g, off + i * 5 + 1, none⟩ = some (.int .i64 xg) ∧ W.cell? ⟨g, off + i * 5 + 2, none⟩ = some (.int .i64 xo) ∧ W.cell? ⟨g, off + i * 5 + 3, none⟩ = some (.int .i64 xa) ∧ W.cell? ⟨g, off + i * 5 + 4, none⟩ = some (.int .i64 xd) := by
  have h := hs.keep hW (fun _ _ f => f)
  exact ⟨(h.elem opnC_len hx 0 _ rfl).1, (h.elem opnC_len hx 1 _ rfl).1, (h.elem opnC_len hx 2 _ rfl).1, (h.elem opnC_len hx 3 _ rfl).1, (h.elem opnC_len hx 4 _ rfl).1⟩
theorem sharesOk_nil : SharesOk [] := ⟨fun x hx => by simp at hx, by decide, List.Pairwise.nil⟩
/-- The state of the loop of acts: the table. -/
structure OneS (ad : Nat → Addr) (w wr : World) (b : Nat) (l : List Opn) : Prop where
  env : Env w.heap.size ad [2, 3, 5, 9, 11] wr
  chg : Chg Nil w wr
  ok : SharesOk l
  tab : ∃ S, ShAt wr b l S ∧ ∀ x, S x → w.heap.size ≤ x
theorem OneS.same {ad : Nat → Addr} {w wr wr' : World} {b : Nat} {l : List Opn} (h : OneS ad w wr b l) (c : Chg Nil wr wr') : OneS ad w wr' b l := by
  obtain ⟨h1, h2, h3, S, h4, h5⟩ := h
  exact ⟨h1.keepN c, h2.then c, h3, S, h4.keepN c, h5⟩
theorem OneS.step {ad : Nat → Addr} {w wr w1 w2 : World} {b : Nat} {l' : List Opn} {S : Nat → Prop} (he : Env w.heap.size ad [2, 3, 5, 9, 11] wr) (hc : Chg Nil w wr) (c1 : Chg Nil wr w1) (hS : ∀ x, S x → w.heap.size ≤ x) (hp : ShPost S w1 b l' w2) (hk : SharesOk l') : OneS ad w w2 b l' := by
  obtain ⟨c2, S', h2, hg⟩ := hp
  have := (hc.then c1).size
  exact ⟨(he.keepN c1).keep c2 hS, (hc.then c1).trans c2 (fun x hx h => by have := hS x h; omega), hk, S', h2, fun x hx => by
    rcases hg x hx with h | h
    · exact hS x h
    · omega⟩
def RelSS (ad : Nat → Addr) (w : World) (b n : Nat) (i : Value) (wr : World) : Prop := ∃ (k : Nat) (l : List Opn), k ≤ n ∧ i = .int .i64 k ∧ OneS ad w wr b l
def RelS2 (n : Nat) (w3 : World) (i : Value) (wr : World) : Prop := ∃ k : Nat, k ≤ n ∧ i = .int .i64 k ∧ Chg Nil w3 wr
theorem sact_cells {W : World} {ab : Nat} {v0 v1 v2 v3 v4 v5 : Value} {T : TypeId} (hb : W.heap[ab]? = some (.cells #[v0, v1, v2, v3, v4, v5] T (0, 0))) :
    W.cell? ⟨ab, 1, none⟩ = some v1 ∧ W.cell? ⟨ab, 2, none⟩ = some v2 ∧ W.cell? ⟨ab, 3, none⟩ = some v3 ∧ W.cell? ⟨ab, 4, none⟩ = some v4 ∧ W.cell? ⟨ab, 5, none⟩ = some v5 := ⟨by simp [cell_of hb], by simp [cell_of hb], by simp [cell_of hb], by simp [cell_of hb], by simp [cell_of hb]⟩

set_option maxHeartbeats 8000000 in
set_option maxRecDepth 100000 in
theorem shareSound_any (ad : Nat → Addr) (a0 : Option Addr) (cap : Nat) (acts : List SAct) (w : World) (he : Env w.heap.size ad [2, 3, 5, 9, 11] w)
    (hs : (Sh.slice shSAct).At w w.heap.size (a0, cap, acts)) :
    Calls Tryd.prog 5 #[.slice a0 acts.length cap] w fun e w' => e = .returned (.bool true) ∧ Chg Nil w w' := by
  have HT := Lib.hid (shared_any ad w (he.sub (by decide)))
  have HE := Lib.hid he
  have hl1 : acts.length ≤ 9223372036854775807 := Nat.le_trans hs.1 hs.2.1
  have HC := Lib.hid hs.2.2
  clear he hs
  by_cases h1 : 80 < acts.length
  · go_enter Tryd.func5, Tryd.ntmps5
    go_wp2_with fail
    refine HT.out.mono ?_
    rintro e w1 ⟨rfl, hc1⟩
    go_wp2_with fail
    go_ret
    exact ⟨rfl, hc1⟩
  go_enter Tryd.func5, Tryd.ntmps5
  go_wp2_with fail
  refine HT.out.mono ?_
  rintro e w1 ⟨rfl, hc1⟩
  have hz1 := hc1.size
  have HC1 := Lib.hid hc1
  go_wp2_with fail
  go_loopw [5] (fun i wr => RelSS ad w w1.heap.size acts.length i wr) (fun i _ => (acts.length - intOf i).toNat)
  case atStart =>
    exact ⟨0, [], Nat.zero_le _, rfl, ⟨(HE.out.keepN hc1).alloc _, hc1.alloc _, sharesOk_nil, _, rowAt_new w1 _, fun x e => by subst e; exact hz1⟩⟩
  case round =>
    rename_i wr _
    obtain ⟨k, l, hk, rfl, hH⟩ := hrel
    clear hc1
    by_cases hlt : k < acts.length
    · obtain ⟨x, hx⟩ : ∃ x, acts[k]? = some x := ⟨acts[k], List.getElem?_eq_getElem hlt⟩
      obtain ⟨hxa, g, off, rfl, hg, hcx⟩ := HC.out k x hx
      obtain ⟨kind, ⟨n, gn, _⟩, o, a, d, _⟩ := x
      obtain ⟨hks, _⟩ := hxa
      have hgr := Nat.lt_of_lt_of_le hg hH.chg.size
      have c0 := (hH.chg.cell (p := ⟨g, off + k * 6 + 0, none⟩) hg (fun f => f)).trans (hcx 0 _ rfl)
      have c1 := (hH.chg.cell (p := ⟨g, off + k * 6 + 1, none⟩) hg (fun f => f)).trans (hcx 1 _ rfl)
      have c2 := (hH.chg.cell (p := ⟨g, off + k * 6 + 2, none⟩) hg (fun f => f)).trans (hcx 2 _ rfl)
      have c3 := (hH.chg.cell (p := ⟨g, off + k * 6 + 3, none⟩) hg (fun f => f)).trans (hcx 3 _ rfl)
      have c4 := (hH.chg.cell (p := ⟨g, off + k * 6 + 4, none⟩) hg (fun f => f)).trans (hcx 4 _ rfl)
      have c5 := (hH.chg.cell (p := ⟨g, off + k * 6 + 5, none⟩) hg (fun f => f)).trans (hcx 5 _ rfl)
      simp only [Nat.add_zero] at c0
      clear hcx hx
      obtain ⟨hEA, hC, hOk, S, hT, hB⟩ := id hH
      have hA := (Chg.refl Nil wr).alloc (.cells #[.string kind, .int .i64 n, .int .i64 gn, .int .i64 o, .int .i64 a, .int .i64 d] 71)
      have HOK := Lib.hid hOk
      have HB := Lib.hid hB
      have HEA := Lib.hid hEA
      have HCC := Lib.hid hC
      have HA := Lib.hid hA
      have HTA := Lib.hid (hT.keepN hA)
      have hfew := hOk.few
      have HH := Lib.hid hH
      clear hOk hB hEA hC hA hT hH
      by_cases k1 : kind = ⟨#[111, 112, 101, 110]⟩
      · subst k1
        go_wp2_with fail
        refine (shOpen_any (B := w.heap.size) ad w1.heap.size n gn o a d l S _ ((HEA.out.keepN HA.out).sub (by decide)) HTA.out (by omega)).mono ?_
        rintro e w2 ⟨rfl, hp⟩
        have hH' := OneS.step HEA.out HCC.out HA.out HB.out hp (HOK.out.open_ (n, gn) o a d)
        clear hp
        go_wp2_with fail
        go_roundw
        case rel => exact ⟨k + 1, _, by omega, by go_num, hH'⟩
        case measure => simp [intOf]; omega
      have q1 : (kind.toList == [111, 112, 101, 110]) = false := kind_ne k1
      clear k1
      by_cases k2 : kind = ⟨#[100, 111, 119, 110]⟩
      · subst k2
        clear q1
        go_wp2_with fail
        refine (shDown_any (B := w.heap.size) ad w1.heap.size n gn o a d l S _ ((HEA.out.keepN HA.out).sub (by decide)) HTA.out).mono ?_
        rintro e w2 ⟨rfl, hp⟩
        have hH' := OneS.step HEA.out HCC.out HA.out HB.out hp (HOK.out.down (n, gn) o a d)
        clear hp
        go_wp2_with fail
        go_roundw
        case rel => exact ⟨k + 1, _, by omega, by go_num, hH'⟩
        case measure => simp [intOf]; omega
      have q2 : (kind.toList == [100, 111, 119, 110]) = false := kind_ne k2
      clear k2
      by_cases k3 : kind = ⟨#[99, 108, 111, 115, 101]⟩
      · subst k3
        clear q1 q2
        go_wp2_with fail
        refine (shClose_any (B := w.heap.size) ad w1.heap.size n gn o l S _ ((HEA.out.keepN HA.out).sub (by decide)) HB.out HTA.out).mono ?_
        rintro e w2 ⟨rfl, hp⟩
        have hH' := OneS.step HEA.out HCC.out HA.out HB.out hp (HOK.out.filter _)
        clear hp
        go_wp2_with fail
        go_roundw
        case rel => exact ⟨k + 1, _, by omega, by go_num, hH'⟩
        case measure => simp [intOf]; omega
      have q3 : (kind.toList == [99, 108, 111, 115, 101]) = false := kind_ne k3
      clear k3
      by_cases k4 : kind = ⟨#[100, 114, 111, 112]⟩
      · subst k4
        clear q1 q2 q3
        go_wp2_with fail
        refine (shDrop_any w1.heap.size o l S _ HTA.out).mono ?_
        rintro e w2 ⟨rfl, hp⟩
        have hH' := OneS.step HEA.out HCC.out HA.out HB.out hp (HOK.out.filter _)
        clear hp
        go_wp2_with fail
        go_roundw
        case rel => exact ⟨k + 1, _, by omega, by go_num, hH'⟩
        case measure => simp [intOf]; omega
      have q4 : (kind.toList == [100, 114, 111, 112]) = false := kind_ne k4
      clear k4
      go_wp2_with fail
      go_roundw
      case rel => exact ⟨k + 1, _, by omega, by go_num, HH.out.same HA.out⟩
      case measure => simp [intOf]; omega
    · go_wp2_with fail
      obtain ⟨hEA, hC, hOk, S, hT, hB⟩ := hH
      have hfew := hOk.few
      refine (shList_any w1.heap.size l S _ hT (by omega)).mono ?_
      rintro e w3 ⟨v', rfl, hL⟩
      obtain ⟨l', S', hp, _, hs3, hc3, _⟩ := hL
      have hOk' := hOk.perm hp
      rw [← hp.length_eq] at hs3
      have HSL := Lib.hid hs3
      have HE3 := Lib.hid (hEA.keepN hc3)
      have HT3 := Lib.hid (hT.keepN hc3)
      have HC3 := Lib.hid (hC.then hc3)
      have HOK' := Lib.hid hOk'
      have HMAY := Lib.hid (fun x (hx : x ∈ l') => hOk.may (hp.mem_iff.1 hx))
      have hfew' := hOk'.few
      clear hp hs3 hOk' hOk hT hEA hC hc3 hfew hk hlt
      obtain ⟨sa, cap', rfl⟩ := HSL.out.shape
      go_wp2_with fail
      go_loopw [8] (fun i wq => RelS2 l'.length w3 i wq) (fun i _ => (l'.length - intOf i).toNat)
      case atStart => exact ⟨0, Nat.zero_le _, rfl, Chg.refl _ _⟩
      case round =>
        obtain ⟨i, hi, rfl, hq⟩ := hrel
        by_cases hil : i < l'.length
        · obtain ⟨x, hx⟩ : ∃ x, l'[i]? = some x := ⟨l'[i], List.getElem?_eq_getElem hil⟩
          obtain ⟨g, off, cap'', cs, e', _⟩ := HSL.out.place (by omega)
          cases e'
          have hxm : x ∈ l' := List.mem_of_getElem? hx
          have hmay := HMAY.out x hxm
          have hbx := rightP_iff.1 (HOK'.out.bnd x hxm)
          obtain ⟨⟨xn, xg⟩, xo, xa, xd⟩ := x
          have g1 : decide (xa < 1) = false := by have := hbx.1; dsimp only at this; simp; omega
          have g2 : decide (3 < xa) = false := by have := hbx.1; dsimp only at this; simp; omega
          have g3 : decide (xd < 0) = false := by have := hbx.2; dsimp only at this; simp; omega
          have g4 : decide (3 < xd) = false := by have := hbx.2; dsimp only at this; simp; omega
          have HQ := Lib.hid hq
          have HX := Lib.hid hx
          have HBX := Lib.hid hbx
          have HC5 := Lib.hid (fun (W : World) (hW : Chg Nil wr W) => open_cells HSL.out hx (hq.then hW))
          have HM := Lib.hid (fun (W : World) (hW : Chg Nil wr W) => (shMay_any (B := w.heap.size) ad w1.heap.size xn xg xo xa l S W ((HE3.out.keepN (hq.then hW)).sub (by decide)) (HT3.out.keepN (hq.then hW))).mono (fun e w' h => (show e = .returned .nilIface ∧ Chg Nil wr w' from ⟨by rw [h.1]; dsimp only at hmay; rw [hmay]; rfl, hW.then h.2⟩)))
          clear hq hx hbx hxm hmay
          go_wp2_with fail
          go_region_held3 (fun w' => w'.cell? ⟨g, off + i * 5, none⟩ = some (.int .i64 xn) ∧ w'.cell? ⟨g, off + i * 5 + 1, none⟩ = some (.int .i64 xg) ∧ w'.cell? ⟨g, off + i * 5 + 2, none⟩ = some (.int .i64 xo) ∧ w'.cell? ⟨g, off + i * 5 + 3, none⟩ = some (.int .i64 xa) ∧ w'.cell? ⟨g, off + i * 5 + 4, none⟩ = some (.int .i64 xd))
            (first | (with_reducible exact HC5.out _ HC6.out) | (with_reducible exact HC5.out _ (Chg.refl _ _)) | (with_reducible exact HC5.out _ ((Chg.refl _ _).drew)))
            ((go_at_call 43; with_reducible refine (HM.out _ ((Chg.refl _ _).drew)).mono ?_; rintro e w5 ⟨rfl, hc6⟩; have HC6 := Lib.hid hc6; clear hc6))
          clear g1 g2 g3 g4
          go_wp2_with fail
          go_loopw [9] (fun j wq => RelS2 l'.length w5 j wq) (fun j _ => (l'.length - intOf j).toNat)
          case atStart => exact ⟨0, Nat.zero_le _, rfl, Chg.refl _ _⟩
          case round =>
            obtain ⟨j, hj, rfl, hq⟩ := hrel
            by_cases hjl : j < l'.length
            · have hq0 := HC6.out.then hq
              by_cases hji : j = i
              · subst hji
                clear hj
                have HQ1 := Lib.hid hq
                clear hq hq0
                go_wp2_with fail
                go_quiet (fail)
                go_wp2_with fail
                go_roundw
                case rel => exact ⟨j + 1, by omega, by go_num, HQ1.out.then (by first | exact Chg.refl _ _ | exact Chg.drewN _ _ | exact (Chg.drewN _ _).then (Chg.drewN _ _))⟩
                case measure => simp [intOf]; omega
              · obtain ⟨y, hy⟩ : ∃ y, l'[j]? = some y := ⟨l'[j], List.getElem?_eq_getElem hjl⟩
                have hne : ((j : Int) == (i : Int)) = false := by simp; omega
                have has := aside_get HOK'.out HX.out hy (fun e => hji e.symm)
                have hby := rightP_iff.1 (HOK'.out.bnd y (List.mem_of_getElem? hy))
                obtain ⟨⟨yn, yg⟩, yo, ya, yd⟩ := y
                obtain ⟨x0, x1, x2, x3, x4⟩ := HC5.out _ hq0
                obtain ⟨y0, y1, y2, y3, y4⟩ := open_cells HSL.out hy (HQ.out.then hq0)
                have HSS := Lib.hid (fun (W : World) (hW : Chg Nil wr W) => (show W.cell? ⟨g, off + i * 5 + 2, none⟩ = some (.int .i64 xo) ∧ W.cell? ⟨g, off + i * 5 + 3, none⟩ = some (.int .i64 xa) ∧ W.cell? ⟨g, off + j * 5 + 2, none⟩ = some (.int .i64 yo) ∧ W.cell? ⟨g, off + j * 5 + 4, none⟩ = some (.int .i64 yd) from ⟨(HC5.out _ (hq0.then hW)).2.2.1, (HC5.out _ (hq0.then hW)).2.2.2.1, (open_cells HSL.out hy ((HQ.out.then hq0).then hW)).2.2.1, (open_cells HSL.out hy ((HQ.out.then hq0).then hW)).2.2.2.2⟩))
                have HQ1 := Lib.hid hq
                have HBY := Lib.hid hby
                have HAS := Lib.hid has
                clear hq hq0 hy hji has hby
                by_cases hyn : yn = xn
                case' neg =>
                  have hh : (yn == xn) = false := by simpa using hyn
                  clear hyn
                  go_wp2_with fail
                  go_quiet (fail)
                  go_wp2_with fail
                  go_roundw
                  case rel => exact ⟨j + 1, by omega, by go_num, HQ1.out.then (by first | exact Chg.refl _ _ | exact Chg.drewN _ _ | exact (Chg.drewN _ _).then (Chg.drewN _ _))⟩
                  case measure => simp [intOf]; omega
                subst hyn
                by_cases hyg : yg = xg
                case' neg =>
                  have hh : (yg == xg) = false := by simpa using hyg
                  clear hyg
                  go_wp2_with fail
                  go_quiet (fail)
                  go_wp2_with fail
                  go_roundw
                  case rel => exact ⟨j + 1, by omega, by go_num, HQ1.out.then (by first | exact Chg.refl _ _ | exact Chg.drewN _ _ | exact (Chg.drewN _ _).then (Chg.drewN _ _))⟩
                  case measure => simp [intOf]; omega
                · subst hyg
                  obtain ⟨ho, hm, _⟩ := HAS.out rfl
                  have hon : (yo == xo) = false := by simp; exact fun e => ho e.symm
                  have HM2 := Lib.hid (fun W => meet_any (.inr HBX.out.1) HBY.out.2 W)
                  dsimp only at HM2 hm
                  rw [hm] at HM2
                  clear ho hm
                  go_wp2_with fail
                  go_quiet (fail)
                  go_wp2_with fail
                  obtain ⟨wn, hwn⟩ : ∃ wn, wn = wr.drewN nq := ⟨_, rfl⟩
                  rw [← hwn]
                  have hcn : Chg Nil wr wn := by rw [hwn]; exact Chg.drewN _ _
                  have HQ2 := Lib.hid (HQ1.out.then hcn)
                  have HS2 := Lib.hid (fun (W : World) (hW : Chg Nil wn W) => HSS.out W (hcn.then hW))
                  clear hwn hcn y0 y1 y2 y3 y4 x0 x1 x2 x3 x4
                  go_region_held3 (fun w' => w'.cell? ⟨g, off + i * 5 + 2, none⟩ = some (.int .i64 xo) ∧ w'.cell? ⟨g, off + i * 5 + 3, none⟩ = some (.int .i64 xa) ∧ w'.cell? ⟨g, off + j * 5 + 2, none⟩ = some (.int .i64 yo) ∧ w'.cell? ⟨g, off + j * 5 + 4, none⟩ = some (.int .i64 yd))
                    (first | (with_reducible exact HS2.out _ ((Chg.refl _ _).drew)) | (with_reducible exact HS2.out _ (Chg.refl _ _)))
                    ((go_at_call 44; with_reducible refine (HM2.out _).mono ?_; rintro e w6 ⟨rfl, rfl⟩))
                  go_wp2_with fail
                  go_roundw
                  case rel => exact ⟨j + 1, by omega, by go_num, HQ2.out.then ((Chg.refl _ _).drew)⟩
                  case measure => simp [intOf]; omega
            · go_wp2_with fail
              go_roundw
              case rel => exact ⟨i + 1, by omega, by go_num, (HQ.out.then HC6.out).then hq⟩
              case measure => simp [intOf]; omega
        · go_wp2_with fail
          go_ret
          exact ⟨rfl, HC3.out.then hq⟩
end Go.Proofs.YtofhnglgebllbaaDoor
