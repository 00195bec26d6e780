/- What the Writer wrote the Reader reads: plain. -/
import Derived.Test.YtofhnglgebllbaaDoorXdr11
import Derived.Test.YtofhnglgebllbaaDoorPutX
namespace Go.Proofs.YtofhnglgebllbaaDoor
open Go.RowKit Go.Lib
set_option linter.unusedVariables false
set_option linter.unusedSimpArgs false

theorem of_list {s : ByteArray} {l : List UInt8} (h : s.data.toList = l) : s = ⟨l.toArray⟩ := by
  obtain ⟨d⟩ := s
  simp only at h
  subst h
  rfl
theorem size_list (s : ByteArray) : s.size = s.data.toList.length := Array.length_toList.symm
theorem numK_big : ∀ (k m : Nat) (s : ByteArray) (r : List UInt8), s.data.toList = bigL k m ++ r → m < 256 ^ k → numK s k = m
  | 0, m, s, r, _, h => by simp at h; rw [numK, h]
  | k + 1, m, s, r, h, hm => by
    have h2 : s.data.toList = bigL k (m / 256) ++ ([byteOf ((m % 256 : Nat) : Int)] ++ r) := by rw [h, bigL, List.append_assoc]
    rw [numK, numK_big k (m / 256) s _ h2 (by rw [Nat.pow_succ] at hm; omega), h2, List.getElem?_append_right (by rw [bigL_len]; omega), bigL_len, Nat.sub_self]
    show m / 256 * 256 + (byteOf ((m % 256 : Nat) : Int)).toNat = m
    rw [byteOf_mod]
    unfold u8c
    have : (UInt8.ofNat ((m : Int) % 256).toNat).toNat = m % 256 := by
      rw [UInt8.toNat_ofNat']; omega
    rw [this]; omega
theorem drop_big {s : ByteArray} {k m : Nat} {r : List UInt8} (h : s.data.toList = bigL k m ++ r) : s.extract k s.size = ⟨r.toArray⟩ := by
  apply of_list
  have hs : s.size = k + r.length := by rw [size_list, h, List.length_append, bigL_len]
  rw [extract_list, h, List.drop_left' (bigL_len k m), List.take_of_length_le (by omega)]
theorem rdNum_big {s : ByteArray} {k m : Nat} {r : List UInt8} (ok : Nat → Bool) (h : s.data.toList = bigL k m ++ r) (hm : m < 256 ^ k) (ho : ok m = true) : rdNum s k ok = (m, ⟨r.toArray⟩, 0) := by
  unfold rdNum
  rw [numK_big k m s r h hm, drop_big h, if_pos ⟨by rw [size_list, h, List.length_append, bigL_len]; omega, ho⟩]
theorem itemB_list (x : ByteArray) : (itemB x).data.toList = bigL 4 x.size ++ (x.data.toList ++ List.replicate (padN x.size) 0) := by
  unfold itemB bigB
  simp [ByteArray.data_append, zerosB, padN]
theorem rdItem_big {s x : ByteArray} {r : List UInt8} (h : s.data.toList = (itemB x).data.toList ++ r) (hx : x.size ≤ 4000) : rdItem s 4000 = (x, ⟨r.toArray⟩, 0) := by
  have h1 : s.data.toList = bigL 4 x.size ++ (x.data.toList ++ (List.replicate (padN x.size) 0 ++ r)) := by rw [h, itemB_list]; simp only [List.append_assoc]
  have hn : numK s 4 = x.size := numK_big 4 _ s _ h1 (by omega)
  have hxl := size_list x
  have hs : s.size = 4 + x.size + padN x.size + r.length := by rw [size_list, h1]; simp only [List.length_append, bigL_len, List.length_replicate]; omega
  have hd4 : s.data.toList.drop 4 = x.data.toList ++ (List.replicate (padN x.size) 0 ++ r) := by rw [h1, List.drop_left' (bigL_len _ _)]
  have hdx : s.data.toList.drop (4 + x.size) = List.replicate (padN x.size) 0 ++ r := by rw [← List.drop_drop, hd4, List.drop_left' hxl.symm]
  have hdp : s.data.toList.drop (4 + x.size + padN x.size) = r := by rw [← List.drop_drop, hdx, List.drop_left' (by simp)]
  have hok : itemOk s 4000 := by
    unfold itemOk
    rw [hn]
    refine ⟨by omega, by omega, by omega, fun j hj => ?_⟩
    have : (s.data.toList.drop (4 + x.size))[j]? = some 0 := by rw [hdx, List.getElem?_append_left (by simpa using hj)]; simp [hj]
    rwa [List.getElem?_drop] at this
  rw [rdItem_yes hok, hn]
  have e1 : s.extract 4 (4 + x.size) = x := by
    rw [of_list (s := s.extract 4 (4 + x.size)) (l := x.data.toList)]
    rw [extract_list, hd4, List.take_append_of_le_length (by omega), List.take_of_length_le (by omega)]
  have e2 : s.extract (4 + x.size + padN x.size) s.size = ⟨r.toArray⟩ := by
    apply of_list
    rw [extract_list, hdp, List.take_of_length_le (by omega)]
  rw [e1, e2]

/-- The bytes of an act. -/
def encP (x : XPut) : ByteArray := if x.1 = kwInt then bigB 4 x.2.1.toNat else if x.1 = kwLong then bigB 8 x.2.1.toNat else if x.1 = kwBool then bigB 4 (if 0 < x.2.1 then 1 else 0) else itemB x.2.2.1
def okP (x : XPut) : Prop := if x.1 = kwInt then 0 ≤ x.2.1 ∧ x.2.1 < 4294967296 else if x.1 = kwLong then 0 ≤ x.2.1 ∧ x.2.1 ≤ 9223372036854775807 else if x.1 = kwBool then True else x.2.2.1.size ≤ 4000
def wX (t : List UInt8) (x : XPut) : List UInt8 × Nat := if x.1 = kwInt then wInt t x.2.1 else if x.1 = kwLong then wLong t x.2.1 else if x.1 = kwBool then wBool t (decide (0 < x.2.1)) else wBytes t x.2.2.1
def txtP (l : List XPut) : List UInt8 := l.flatMap fun x => (encP x).data.toList
theorem txtP_snoc (l : List XPut) (x : XPut) : txtP (l ++ [x]) = txtP l ++ (encP x).data.toList := by simp [txtP]
theorem wPut_cases (t : List UInt8) (s : ByteArray) : wPut t s = (t, 9) ∨ (wPut t s = (t ++ s.data.toList, 0) ∧ t.length + s.size ≤ 4000) := by
  unfold wPut
  by_cases h : 4000 < t.length + s.size
  · rw [if_pos h]; exact .inl rfl
  · rw [if_neg h]; exact .inr ⟨rfl, by omega⟩
theorem wX_cases (t : List UInt8) (x : XPut) (hx : x.2.1 ≤ 9223372036854775807) :
    (∃ c, 0 < c ∧ c ≤ 15 ∧ wX t x = (t, c)) ∨ (wX t x = (t ++ (encP x).data.toList, 0) ∧ okP x ∧ t.length + (encP x).size ≤ 4000) := by
  obtain ⟨kind, n, s, u⟩ := x
  unfold wX encP okP
  simp only at hx ⊢
  by_cases k1 : kind = kwInt
  · rw [if_pos k1, if_pos k1, if_pos k1]
    unfold wInt
    by_cases hb : n < 0 ∨ 4294967296 ≤ n
    · rw [if_pos hb]; exact .inl ⟨2, by omega, by omega, rfl⟩
    · rw [if_neg hb]
      rcases wPut_cases t (bigB 4 n.toNat) with h | ⟨h, h2⟩
      · exact .inl ⟨9, by omega, by omega, h⟩
      · exact .inr ⟨h, by omega, h2⟩
  rw [if_neg k1, if_neg k1, if_neg k1]
  by_cases k2 : kind = kwLong
  · rw [if_pos k2, if_pos k2, if_pos k2]
    unfold wLong
    by_cases hb : n < 0
    · rw [if_pos hb]; exact .inl ⟨2, by omega, by omega, rfl⟩
    · rw [if_neg hb]
      rcases wPut_cases t (bigB 8 n.toNat) with h | ⟨h, h2⟩
      · exact .inl ⟨9, by omega, by omega, h⟩
      · exact .inr ⟨h, by omega, h2⟩
  rw [if_neg k2, if_neg k2, if_neg k2]
  by_cases k3 : kind = kwBool
  · rw [if_pos k3, if_pos k3, if_pos k3]
    have e : wBool t (decide (0 < n)) = wPut t (bigB 4 (if 0 < n then 1 else 0)) := by
      unfold wBool wInt
      by_cases h : 0 < n
      · simp [h]
      · simp [h]
    rw [e]
    rcases wPut_cases t (bigB 4 (if 0 < n then 1 else 0)) with h | ⟨h, h2⟩
    · exact .inl ⟨9, by omega, by omega, h⟩
    · exact .inr ⟨h, trivial, h2⟩
  rw [if_neg k3, if_neg k3, if_neg k3]
  unfold wBytes
  rcases wPut_cases t (itemB s) with h | ⟨h, h2⟩
  · exact .inl ⟨9, by omega, by omega, h⟩
  · refine .inr ⟨h, ?_, h2⟩
    rw [itemB_size] at h2; omega
end Go.Proofs.YtofhnglgebllbaaDoor
