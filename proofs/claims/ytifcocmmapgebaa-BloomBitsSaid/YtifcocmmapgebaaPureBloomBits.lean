/- One text sets four bits at most, and one at least; two together set just those of both, if the bits are as many. No condition. -/
import Derived.Test.YtifcocmmapgebaaTBloomBaseBloomBits
namespace Go.Proofs.Ytifcocmmapgebaa.Pure
open Go.RowKit Go.Proofs.Ytifcocmmapgebaa.QBloomBits Go.Proofs.YtifcocmmapgebaaW.PrintWords Go.Proofs.YtifcocmmapgebaaW.PrintLast Go.Proofs.Ytifcocmmapgebaa.Base
set_option linter.unusedVariables false
set_option linter.unusedSimpArgs false
set_option linter.unusedSectionVars false

/-- How many of the first numbers are in a list. -/
def cnt (K : List Nat) : Nat → Nat
  | 0 => 0
  | p + 1 => cnt K p + (decide (p ∈ K)).toNat
theorem cnt_le (K : List Nat) (P : Nat) : cnt K P ≤ P := by
  induction P with
  | zero => exact Nat.le_refl _
  | succ P ih =>
    rw [cnt]
    have := Bool.toNat_le (decide (P ∈ K))
    omega
theorem cnt_cons (k : Nat) (K : List Nat) (P : Nat) : cnt (k :: K) P ≤ (decide (k < P)).toNat + cnt K P := by
  induction P with
  | zero => simp [cnt]
  | succ P ih =>
    rw [cnt, cnt]
    by_cases h : P = k
    · subst h
      rw [decide_eq_false (Nat.lt_irrefl _), Bool.toNat_false] at ih
      rw [decide_eq_true (show P ∈ P :: K from List.mem_cons_self), decide_eq_true (Nat.lt_succ_self _), Bool.toNat_true]
      omega
    · have e1 : decide (P ∈ k :: K) = decide (P ∈ K) := by
        rw [Bool.eq_iff_iff, decide_eq_true_eq, decide_eq_true_eq, List.mem_cons]
        exact ⟨fun h' => h'.elim (fun e => absurd e h) id, .inr⟩
      have e2 : (decide (k < P)).toNat ≤ (decide (k < P + 1)).toNat := by
        by_cases h2 : k < P
        · rw [decide_eq_true h2, decide_eq_true (show k < P + 1 by omega)]
          exact Nat.le_refl _
        · rw [decide_eq_false h2]
          exact Nat.zero_le _
      rw [e1]
      omega
theorem cnt_most (K : List Nat) (P : Nat) : cnt K P ≤ K.length := by
  induction K with
  | nil =>
    induction P with
    | zero => exact Nat.le_refl _
    | succ P ih =>
      rw [cnt, decide_eq_false (by simp), Bool.toNat_false]
      exact ih
  | cons k K ih =>
    have h1 := cnt_cons k K P
    have h2 := Bool.toNat_le (decide (k < P))
    rw [List.length_cons]
    omega
theorem cnt_least {K : List Nat} {k : Nat} (hk : k ∈ K) (P : Nat) (h : k < P) : 1 ≤ cnt K P := by
  induction P with
  | zero => omega
  | succ P ih =>
    rw [cnt]
    by_cases e : k = P
    · subst e
      rw [decide_eq_true hk, Bool.toNat_true]
      omega
    · have := ih (by omega)
      omega
section
variable {A B C : List Nat} {K : List Nat} (hA : ∀ x ∈ A, x < 256) (hB : ∀ x ∈ B, x < 256) (hC : ∀ x ∈ C, x < 256) (lA : A.length = 8) (lB : B.length = 8) (lC : C.length = 8)
  (hK : ∀ p, hasb A p = decide (p ∈ K)) (hu : ∀ p, hasb C p = (hasb A p || hasb B p)) (h1 : 1 ≤ cnt K 64) (h4 : cnt K 64 ≤ 4)
include hA hB hC lA lB lC hK hu h1 h4
theorem union_at (i : Nat) (hi : i < 8) : Go.bits .or .u8 (rd (ints A) (i : Int)) (rd (ints B) (i : Int)) = rd (ints C) (i : Int) := by
  have a1 : A.getD i 0 < 2 ^ 8 := getD_lt (by decide) hA _
  have b1 : B.getD i 0 < 2 ^ 8 := getD_lt (by decide) hB _
  have c1 : C.getD i 0 < 2 ^ 8 := getD_lt (by decide) hC _
  rw [rd_ints, rd_ints, rd_ints, or8 a1 b1]
  congr 1
  refine Nat.eq_of_testBit_eq fun j => ?_
  rw [Nat.testBit_or]
  by_cases hj : j < 8
  · have := hu (8 * i + j)
    unfold hasb at this
    rw [show (8 * i + j) / 8 = i by omega, show (8 * i + j) % 8 = j by omega] at this
    exact this.symm
  · rw [testBit_ge a1 (by omega), testBit_ge b1 (by omega), testBit_ge c1 (by omega)]
    rfl
theorem bits_l1 (i : Nat) (hi : i < 8) (r : Bool) (hr : Ev (fun k => columbariumlaw9_BloomBits.l0 k ((cnt K (8 * i + 8) : Nat) : Int) ((i + 1 : Nat) : Int) 64 (ints A) 64 (ints B) 64 (ints C)) r) (m : Nat) : ∀ j, 8 - j = m → j ≤ 8 →
    Ev (fun k => columbariumlaw9_BloomBits.l1 k ((cnt K (8 * i + j) : Nat) : Int) (i : Int) (j : Int) 64 (ints A) 64 (ints B) 64 (ints C)) r := by
  induction m with
  | zero =>
    intro j hm hj
    obtain rfl : j = 8 := by omega
    exact Ev.step (fun k => by rw [columbariumlaw9_BloomBits.l1, if_neg (by omega), succ64 (by omega)]) hr
  | succ m ih =>
    intro j hm hj
    have e1 : Go.bits .and .u8 (shr .u8 (rd (ints A) (i : Int)) (j : Int)) 1 = (((decide (8 * i + j ∈ K)).toNat : Nat) : Int) := by
      have := ask_bit hA (8 * i + j)
      rw [show (8 * i + j) / 8 = i by omega, show (8 * i + j) % 8 = j by omega] at this
      rw [this, ← hK]
      unfold hasb
      rw [show (8 * i + j) / 8 = i by omega, show (8 * i + j) % 8 = j by omega]
    have hc := cnt_le K (8 * i + j)
    have hb := Bool.toNat_le (decide (8 * i + j ∈ K))
    have e2 : wrap64 (((cnt K (8 * i + j) : Nat) : Int) + wrap64 (((decide (8 * i + j ∈ K)).toNat : Nat) : Int)) = ((cnt K (8 * i + (j + 1)) : Nat) : Int) := by
      rw [show 8 * i + (j + 1) = (8 * i + j) + 1 by omega, cnt]
      generalize cnt K (8 * i + j) = c at *
      generalize (decide (8 * i + j ∈ K)).toNat = b at *
      rw [w64 (x := (b : Int)) (by omega) (by omega), w64 (by omega) (by omega)]
      omega
    have e3 : IntKind.u64.wrap ((j : Int) + 1) = ((j + 1 : Nat) : Int) := by rw [wu64 (by omega) (by omega)]; omega
    refine Ev.step (fun k => ?_) (ih (j + 1) (by omega) (by omega))
    rw [columbariumlaw9_BloomBits.l1, if_pos (by omega), if_pos (by omega), if_pos (by rw [ints_length]; omega), if_pos (by omega), e1, e2, e3]
theorem bits_l0 (m : Nat) : ∀ i, 8 - i = m → i ≤ 8 →
    Ev (fun k => columbariumlaw9_BloomBits.l0 k ((cnt K (8 * i) : Nat) : Int) (i : Int) 64 (ints A) 64 (ints B) 64 (ints C)) true := by
  induction m with
  | zero =>
    intro i hm hi
    obtain rfl : i = 8 := by omega
    exact Ev.step (fun k => by rw [columbariumlaw9_BloomBits.l0, if_neg (by omega), if_pos (by have e : cnt K (8 * 8) = cnt K 64 := rfl; omega), if_pos (by have e : cnt K (8 * 8) = cnt K 64 := rfl; omega)]) (Ev.bind known_ev (Ev.now _))
  | succ m ih =>
    intro i hm hi
    have h := bits_l1 hA hB hC lA lB lC hK hu h1 h4 i (by omega) true (ih (i + 1) (by omega) (by omega)) _ 0 rfl (Nat.zero_le _)
    refine Ev.step (fun k => ?_) h
    rw [columbariumlaw9_BloomBits.l0, if_pos (by omega), if_pos (by omega), if_pos (by rw [ints_length]; omega), if_pos (by rw [ints_length]; omega), if_pos (by rw [ints_length]; omega), if_pos (union_at hA hB hC lA lB lC hK hu h1 h4 i (by omega))]
    rfl
end
theorem fbits_64 {l : List ByteArray} (h : l.length ≤ 2) : fbits l = 64 := by
  have := set_length l
  rw [fbits, bitsOf, if_pos (by omega)]
theorem BloomBits : columbariumlaw9_BloomBits.Pure := by
  intro s t hs ht
  refine Ev.rounds ?_
  have hs' : s.size ≤ 9223372036854775807 := Nat.le_trans hs (by decide)
  have ht' : t.size ≤ 9223372036854775807 := Nat.le_trans ht (by decide)
  have bA := build_ev [s] (by simp) (Nat.le_trans (set_length _) (by simp)) (fun x hx => by rw [List.mem_singleton.1 hx]; exact hs')
  have bB := build_ev [t] (by simp) (Nat.le_trans (set_length _) (by simp)) (fun x hx => by rw [List.mem_singleton.1 hx]; exact ht')
  have bC := build_ev [s, t] (by simp) (Nat.le_trans (set_length _) (by simp)) (fun x hx => by
    simp only [List.mem_cons, List.not_mem_nil, or_false] at hx
    rcases hx with rfl | rfl
    · exact hs'
    · exact ht')
  have eA : fbits [s] = 64 := fbits_64 (by simp)
  have eB : fbits [t] = 64 := fbits_64 (by simp)
  have eC : fbits [s, t] = 64 := fbits_64 (by simp)
  have lA : (fbytes [s]).length = 8 := by rw [fbytes_length, eA]
  have lB : (fbytes [t]).length = 8 := by rw [fbytes_length, eB]
  have lC : (fbytes [s, t]).length = 8 := by rw [fbytes_length, eC]
  have hK : ∀ p, hasb (fbytes [s]) p = decide (p ∈ spotsN s 64) := fun p => by
    rw [hasb_fbytes, eA]
    simp
  have hK2 : ∀ p, hasb (fbytes [t]) p = decide (p ∈ spotsN t 64) := fun p => by
    rw [hasb_fbytes, eB]
    simp
  have hu : ∀ p, hasb (fbytes [s, t]) p = (hasb (fbytes [s]) p || hasb (fbytes [t]) p) := fun p => by
    rw [hasb_fbytes, eC, hK, hK2]
    simp
  have hl := spotsN_length s 64
  have hr := (spots_ints s (n := 64) (by decide) (by decide)).2
  have h4 : cnt (spotsN s 64) 64 ≤ 4 := hl ▸ cnt_most (spotsN s 64) 64
  have h1 : 1 ≤ cnt (spotsN s 64) 64 := by
    cases hk : spotsN s 64 with
    | nil => rw [hk] at hl; simp at hl
    | cons k K => exact cnt_least List.mem_cons_self 64 (hr k (by rw [hk]; exact List.mem_cons_self))
  have hm := bits_l0 (fbytes_lt [s]) (fbytes_lt [t]) (fbytes_lt [s, t]) lA lB lC hK hu h1 h4 _ 0 rfl (Nat.zero_le _)
  rw [eA] at bA
  rw [eB] at bB
  rw [eC] at bC
  generalize fbytes [s] = A at *
  generalize fbytes [t] = B at *
  generalize fbytes [s, t] = C at *
  refine Ev.congr (fun k => rfl) (Ev.bind bA (Ev.bind bB (Ev.bind bC ?_)))
  refine Ev.congr (f := fun k => columbariumlaw9_BloomBits.j0 k false 64 (ints A) 64 (ints B) 64 (ints C)) (fun k => ?_) ?_
  · refine (if_pos rfl).trans ((if_pos rfl).trans ((if_pos rfl).trans ((if_pos (by rw [ints_length, lA]; rfl)).trans ((if_pos (by rw [ints_length, lB]; rfl)).trans ?_))))
    rw [ints_length, lC]
    rfl
  · exact Ev.step (fun k => by rw [columbariumlaw9_BloomBits.j0, if_neg Bool.false_ne_true]; rfl) hm

end Go.Proofs.Ytifcocmmapgebaa.Pure
