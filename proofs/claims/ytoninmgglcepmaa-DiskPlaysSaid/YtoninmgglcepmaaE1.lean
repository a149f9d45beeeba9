/- The document's directories: lists of entries; what its functions on them come to. -/
import Derived.Test.YtoninmgglcepmaaQDiskPlaysx2
import Derived.Test.YtoninmgglcepmaaQDiskPlaysx3
import Derived.Test.YtoninmgglcepmaaDH
namespace Go.Proofs.Ytoninmgglcepmaa.Dk
open Go.ChangeMaps hiding rd
open RegD Go.RowKit Go.Proofs.YtoninmgglcepmaaW.PrintWords Go.Proofs.YtoninmgglcepmaaW.PrintLast Go.Proofs.YtoninmgglcepmaaW.PrintMore Mp QDiskPlays
set_option linter.unusedVariables false
set_option linter.unusedSimpArgs false
theorem toList_inj {s t : ByteArray} (h : s.toList = t.toList) : s = t := by
  rw [ByteArray.toList_eq, ByteArray.toList_eq] at h
  exact congrArg strB h
theorem rd91 {l : List S91} {i : Nat} (h : i < l.length) : rd_T91 l (i : Int) = l[i] := by
  rw [rd_T91, Int.toNat_natCast, List.getD_eq_getElem?_getD, List.getElem?_eq_getElem h]
  rfl
theorem w64 {i : Nat} (h : i ≤ 1000000) : wrap64 ((i : Int) + 1) = ((i + 1 : Nat) : Int) := by unfold wrap64; omega
theorem rname (s : ByteArray) : columbariumref18_name.f s = some (!badName s) := by
  unfold columbariumref18_name.f badName
  have : s.toList.isEmpty = decide (s.size = 0) := by
    rw [ByteArray.toList_eq, ← data_length]
    cases s.data.toList <;> simp
  rw [this]
  by_cases h1 : s.size = 0
  · rw [if_neg (by omega), decide_eq_true h1]; rfl
  · rw [if_pos (by omega), decide_eq_false h1]
    by_cases h2 : s.size ≤ 30
    · rw [decide_eq_true (by omega : (s.size : Int) ≤ 30), decide_eq_false (by omega : ¬ (30 : Int) < (s.size : Int))]; rfl
    · rw [decide_eq_false (by omega : ¬ (s.size : Int) ≤ 30), decide_eq_true (by omega : (30 : Int) < (s.size : Int))]; rfl
/-- find. -/
def findI : List S91 → ByteArray → Int
  | [], _ => -1
  | e :: l, s => if e.f0 = s then e.f1 else findI l s
theorem rfind_go (l : List S91) (s : ByteArray) (hl : l.length ≤ 1000000) : ∀ (k i : Nat), l.length < k + i → i ≤ l.length → columbariumref18_find.l0 k l s (i : Int) = some (findI (l.drop i) s)
  | 0, i, h, h2 => by omega
  | k + 1, i, h, h2 => by
    simp only [columbariumref18_find.l0]
    by_cases hi : i < l.length
    · rw [if_pos (by omega), if_pos (by omega), rd91 hi, List.drop_eq_getElem_cons hi]
      by_cases hc : l[i].f0 = s
      · rw [if_pos (by rw [hc])]
        simp only [findI]
        rw [if_pos hc]
      · rw [if_neg (fun h => hc (toList_inj h)), w64 (by omega), rfind_go l s hl k (i + 1) (by omega) hi]
        simp only [findI]
        rw [if_neg hc]
    · rw [if_neg (by omega), List.drop_eq_nil_of_le (by omega)]
      rfl
theorem rfind (l : List S91) (s : ByteArray) (hl : l.length ≤ 1000000) : columbariumref18_find.f (l.length + 1) l s = some (findI l s) := rfind_go l s hl _ 0 (by omega) (Nat.zero_le _)
/-- drop. -/
def dropL (l : List S91) (s : ByteArray) : List S91 := l.filter fun e => decide (e.f0 ≠ s)
theorem dropL_len (l : List S91) (s : ByteArray) : (dropL l s).length ≤ l.length := List.length_filter_le _ _
theorem rdrop_go (l : List S91) (s : ByteArray) (hl : l.length ≤ 1000000) : ∀ (k i : Nat), l.length < k + i → i ≤ l.length → columbariumref18_drop.l0 k l s (dropL (l.take i) s) (i : Int) = some (dropL l s)
  | 0, i, h, h2 => by omega
  | k + 1, i, h, h2 => by
    simp only [columbariumref18_drop.l0]
    by_cases hi : i < l.length
    · have hs : l.take (i + 1) = l.take i ++ [l[i]] := by rw [List.take_add_one, List.getElem?_eq_getElem hi]; rfl
      rw [if_pos (by omega), if_pos (by omega), rd91 hi]
      by_cases hc : l[i].f0 = s
      · rw [if_pos (by rw [hc]), w64 (by omega)]
        have := rdrop_go l s hl k (i + 1) (by omega) hi
        rw [hs] at this
        unfold dropL at this ⊢
        rw [List.filter_append] at this
        simpa [hc] using this
      · rw [if_neg (fun h => hc (toList_inj h)), if_pos (by have := dropL_len (l.take i) s; rw [List.length_take] at this; omega), w64 (by omega)]
        have := rdrop_go l s hl k (i + 1) (by omega) hi
        rw [hs] at this
        unfold dropL at this ⊢
        rw [List.filter_append] at this
        simpa [hc] using this
    · rw [if_neg (by omega), List.take_of_length_le (by omega)]
theorem rdrop (l : List S91) (s : ByteArray) (hl : l.length ≤ 1000000) {k : Nat} (hk : l.length + 1 ≤ k) : columbariumref18_drop.f k l s = some (dropL l s) := by
  exact rdrop_go l s hl k 0 (by omega) (Nat.zero_le _)
/-- put. -/
def lessB (s : ByteArray) (e : S91) : Bool := Op.bytesLess e.f0.toList s.toList
def putL (l : List S91) (s : ByteArray) (g : Int) : List S91 := (dropL l s).takeWhile (lessB s) ++ ⟨s, g⟩ :: (dropL l s).dropWhile (lessB s)
theorem rput_go (l : List S91) (s : ByteArray) (g : Int) (hl : l.length ≤ 1000000) : ∀ (k i : Nat), l.length < k + i → i ≤ l.length → (∀ j (h : j < l.length), j < i → lessB s l[j] = true) → columbariumref18_put.l0 k l s g (i : Int) = some (l.takeWhile (lessB s) ++ ⟨s, g⟩ :: l.dropWhile (lessB s))
  | 0, i, h, h2, _ => by omega
  | k + 1, i, h, h2, h3 => by
    have hcut : (∀ (hi : i < l.length), lessB s l[i] = false) → l.takeWhile (lessB s) = l.take i ∧ l.dropWhile (lessB s) = l.drop i := fun hn => by
      have h4 : ∀ x ∈ l.take i, lessB s x = true := fun x hx => by
        obtain ⟨j, hj, rfl⟩ := List.mem_iff_getElem.1 hx
        rw [List.length_take] at hj
        rw [List.getElem_take]
        exact h3 j (by omega) (by omega)
      have h5 : (l.drop i).takeWhile (lessB s) = [] ∧ (l.drop i).dropWhile (lessB s) = l.drop i := by
        by_cases hi : i < l.length
        · rw [List.drop_eq_getElem_cons hi, List.takeWhile_cons, List.dropWhile_cons, hn hi]
          simp
        · rw [List.drop_eq_nil_of_le (by omega)]
          simp
      have h6 : l = l.take i ++ l.drop i := (List.take_append_drop i l).symm
      refine ⟨?_, ?_⟩
      · conv => lhs; rw [h6]
        rw [List.takeWhile_append_of_pos h4, h5.1, List.append_nil]
      · conv => lhs; rw [h6]
        rw [List.dropWhile_append_of_pos h4, h5.2]
    simp only [columbariumref18_put.l0]
    by_cases hi : i < l.length
    · rw [if_pos (by omega), if_pos (by omega), rd91 hi]
      by_cases hc : lessB s l[i] = true
      · rw [if_pos (show Op.bytesLess l[i].f0.toList s.toList = true from hc), w64 (by omega)]
        exact rput_go l s g hl k (i + 1) (by omega) hi (fun j hj hji => by
          rcases Nat.lt_or_ge j i with h4 | h4
          · exact h3 j hj h4
          · obtain rfl : j = i := by omega
            exact hc)
      · rw [if_neg (show ¬ Op.bytesLess l[i].f0.toList s.toList = true from hc)]
        obtain ⟨e1, e2⟩ := hcut (fun _ => by simpa using hc)
        rw [e1, e2]
        have : i ≤ l.length := h2
        simp [Int.toNat_natCast]
        omega
    · rw [if_neg (by omega)]
      obtain ⟨e1, e2⟩ := hcut (fun h => absurd h hi)
      rw [e1, e2]
      have : i ≤ l.length := h2
      simp [Int.toNat_natCast]
      omega
theorem rput (l : List S91) (s : ByteArray) (g : Int) (hl : l.length ≤ 1000000) {k : Nat} (hk : l.length + 1 ≤ k) : columbariumref18_put.f k l s g = some (putL l s g) := by
  unfold columbariumref18_put.f
  rw [rdrop l s hl hk]
  have := dropL_len l s
  exact rput_go (dropL l s) s g (by omega) k 0 (by omega) (Nat.zero_le _) (fun j _ h => by omega)
/-- do. -/
def doL (l : List S91) (c : S88) : List S91 := if c.f0 = 1 then putL l c.f2 c.f3 else if c.f0 = 2 then putL (dropL l c.f1) c.f2 c.f3 else dropL l c.f1
theorem rdo (l : List S91) (c : S88) (hl : l.length ≤ 1000000) : columbariumref18_do.f (l.length + 1) l c.f0 c.f1 c.f2 c.f3 = some (doL l c) := by
  unfold columbariumref18_do.f doL
  have := dropL_len l c.f1
  split
  · rw [rput l _ _ hl (Nat.le_refl _)]; rfl
  · split
    · rw [rdrop l _ hl (Nat.le_refl _)]
      simp only [Option.bind_some]
      rw [rput (dropL l c.f1) _ _ (by omega) (by omega)]
      rfl
    · rw [rdrop l _ hl (Nat.le_refl _)]; rfl
end Go.Proofs.Ytoninmgglcepmaa.Dk
