/- Marks as a list of yes and no: what the methods tell and leave, in these words. -/
import Derived.Test.YtodadonpfcefbaaM2
import Derived.Test.YtodadonpfcefbaaB0
namespace Go.Proofs.Ytodadonpfcefbaa.Marks
open Go.RowKit Go.Proofs.YtodadonpfcefbaaW.PrintWords Go.Proofs.YtodadonpfcefbaaW.PrintLast Go.Proofs.YtodadonpfcefbaaW.PrintMore Go.Proofs.Ytodadonpfcefbaa.QDelsReads Go.Proofs.Ytodadonpfcefbaa.Base
set_option linter.unusedVariables false
set_option linter.unusedSimpArgs false
/-- These bytes hold these marks. -/
structure Good (l : List Bool) (A : List Nat) : Prop where
  small : l.length ≤ 1048576
  len : A.length = (l.length + 7) / 8
  lt : ∀ x ∈ A, x < 256
  bit : ∀ p, p < l.length → l.getD p false = (A.getD (p / 8) 0).testBit (p % 8)
theorem getD_lt8 {A : List Nat} (hA : ∀ x ∈ A, x < 256) (i : Nat) : A.getD i 0 < 2 ^ 8 := by
  rw [List.getD_eq_getElem?_getD]
  cases h : A[i]? with
  | none => simp
  | some x => exact hA x (List.mem_of_getElem? h)
theorem ask_bit {A : List Nat} (hA : ∀ x ∈ A, x < 256) (p : Nat) : Go.bits .and .u8 (shr .u8 (rd (ints A) ((p / 8 : Nat) : Int)) ((p % 8 : Nat) : Int)) 1 = (((A.getD (p / 8) 0).testBit (p % 8)).toNat : Int) := by
  have h1 : A.getD (p / 8) 0 < 2 ^ 8 := getD_lt8 hA _
  have h2 : p % 8 < 8 := Nat.mod_lt _ (by decide)
  rw [rd_ints, shr_nat (show p % 8 ≤ IntKind.u8.bits from (show p % 8 ≤ 8 by omega)), show (1 : Int) = ((1 : Nat) : Int) from rfl, and8 (Nat.lt_of_le_of_lt (Nat.shiftRight_le _ _) h1) (by decide), bit_or_one]
/-- Is the row marked? -/
def hasL (l : List Bool) (a : Int) : Bool := decide (0 ≤ a) && l.getD a.toNat false
theorem getD_out {l : List Bool} {p : Nat} (h : l.length ≤ p) : l.getD p false = false := by
  rw [List.getD_eq_getElem?_getD, List.getElem?_eq_none h]; rfl
theorem has_f {l : List Bool} {A : List Nat} (h : Good l A) (a : Int) : dels_Marks_Has.f l.length (ints A) a = some (hasL l a, (l.length : Int)) := by
  unfold dels_Marks_Has.f hasL
  by_cases c1 : a ≥ 0
  · rw [if_pos c1]
    obtain ⟨p, rfl⟩ := Int.eq_ofNat_of_zero_le c1
    by_cases c2 : (p : Int) < (l.length : Int)
    · have hp : p < l.length := by omega
      have hs := h.small
      rw [if_pos c2, div8 (by omega), if_pos (by omega), if_pos (by rw [ints_length, h.len]; omega), mod8, if_pos (by omega), ask_bit h.lt, Int.toNat_natCast, h.bit p hp, decide_eq_true c1]
      cases (A.getD (p / 8) 0).testBit (p % 8) <;> rfl
    · rw [if_neg c2, Int.toNat_natCast, getD_out (by omega), Bool.and_false]
  · rw [if_neg c1, decide_eq_false c1, Bool.false_and]
/-- With the row marked. -/
def setL (l : List Bool) (a : Int) : List Bool := if 0 ≤ a then l.set a.toNat true else l
theorem setL_length (l : List Bool) (a : Int) : (setL l a).length = l.length := by unfold setL; split <;> simp
/-- Is it a row that is not yet marked? -/
def freshL (l : List Bool) (a : Int) : Bool := decide (0 ≤ a) && decide (a.toNat < l.length) && !l.getD a.toNat false
theorem set_same {l : List Bool} {p : Nat} (h : l.length ≤ p ∨ l.getD p false = true) : l.set p true = l := by
  apply List.ext_getElem?
  intro j
  rw [List.getElem?_set]
  by_cases e : p = j
  · subst e
    rw [if_pos rfl]
    by_cases hp : p < l.length
    · rw [if_pos hp]
      rcases h with h | h
      · omega
      · rw [List.getD_eq_getElem?_getD, List.getElem?_eq_getElem hp] at h
        rw [List.getElem?_eq_getElem hp]
        exact congrArg some h.symm
    · rw [if_neg hp, List.getElem?_eq_none (by omega)]
  · rw [if_neg e]
theorem or_bit {a r : Nat} (ha : a < 256) (hr : r < 8) : Go.bits .or .u8 (a : Int) (2 ^ min ((r : Nat) : Int).toNat 8 % 256) = ((a ||| 2 ^ r : Nat) : Int) := by
  have e : ((2 : Int) ^ min ((r : Nat) : Int).toNat 8 % 256) = ((2 ^ r : Nat) : Int) := by
    have : r = 0 ∨ r = 1 ∨ r = 2 ∨ r = 3 ∨ r = 4 ∨ r = 5 ∨ r = 6 ∨ r = 7 := by omega
    rcases this with h | h | h | h | h | h | h | h <;> subst h <;> rfl
  have h2 : 2 ^ r < 2 ^ 8 := Nat.pow_lt_pow_right (by decide) hr
  rw [e, or8 ha h2]
theorem or_lt {a r : Nat} (ha : a < 256) (hr : r < 8) : a ||| 2 ^ r < 256 := by
  have h2 : 2 ^ r < 2 ^ 8 := Nat.pow_lt_pow_right (by decide) hr
  exact Nat.or_lt_two_pow (n := 8) ha h2
theorem good_set {l : List Bool} {A : List Nat} (h : Good l A) {p : Nat} (hp : p < l.length) : Good (l.set p true) (A.set (p / 8) (A.getD (p / 8) 0 ||| 2 ^ (p % 8))) := by
  have hq : p / 8 < A.length := by rw [h.len]; omega
  refine ⟨by rw [List.length_set]; exact h.small, by rw [List.length_set, List.length_set]; exact h.len, ?_, ?_⟩
  · intro x hx
    rcases List.mem_or_eq_of_mem_set hx with h1 | h1
    · exact h.lt x h1
    · rw [h1]
      exact or_lt (getD_lt8 h.lt _) (Nat.mod_lt _ (by decide))
  · intro j hj
    rw [List.length_set] at hj
    have hb := h.bit j hj
    rw [List.getD_eq_getElem?_getD, List.getD_eq_getElem?_getD, List.getElem?_set, List.getElem?_set]
    by_cases e : p = j
    · subst e
      rw [if_pos rfl, if_pos hp, if_pos rfl, if_pos hq]
      simp only [Option.getD_some, Nat.testBit_or, Nat.testBit_two_pow, decide_true, Bool.or_true]
    · rw [if_neg e, ← List.getD_eq_getElem?_getD, hb]
      by_cases e2 : p / 8 = j / 8
      · rw [if_pos e2, if_pos hq, e2]
        have hne : ¬ p % 8 = j % 8 := by omega
        simp only [Option.getD_some, Nat.testBit_or, Nat.testBit_two_pow, decide_eq_false hne, Bool.or_false]
      · rw [if_neg e2, ← List.getD_eq_getElem?_getD]
theorem set_f {l : List Bool} {A : List Nat} (h : Good l A) (a : Int) : ∃ A', markSet l.length (ints A) a = some (freshL l a, ints A') ∧ Good (setL l a) A' := by
  unfold markSet freshL setL
  by_cases c1 : a < 0
  · rw [if_pos c1, decide_eq_false (by omega), if_neg (by omega)]
    exact ⟨A, rfl, h⟩
  · have c0 : 0 ≤ a := by omega
    obtain ⟨p, rfl⟩ := Int.eq_ofNat_of_zero_le c0
    rw [if_neg c1, decide_eq_true c0, if_pos c0, Int.toNat_natCast]
    by_cases c2 : (p : Int) ≥ (l.length : Int)
    · rw [if_pos c2, decide_eq_false (by omega), set_same (.inl (by omega))]
      exact ⟨A, rfl, h⟩
    · have hp : p < l.length := by omega
      have hs := h.small
      rw [if_neg c2, has_f h, Option.bind_some, decide_eq_true hp]
      have e : hasL l (p : Int) = l.getD p false := by simp [hasL]
      cases hb : l.getD p false with
      | true =>
        rw [hb] at e
        rw [if_pos e, set_same (.inr hb)]
        exact ⟨A, rfl, h⟩
      | false =>
        rw [hb] at e
        rw [if_neg (by rw [e]; exact Bool.false_ne_true), div8 (by omega), if_pos (by omega), if_pos (by rw [ints_length, h.len]; omega), mod8, if_pos (by omega), rd_ints, or_bit (getD_lt8 h.lt _) (Nat.mod_lt _ (by decide)), Int.toNat_natCast, ints_set]
        exact ⟨_, rfl, good_set h hp⟩
/-- The rows that are not marked, counted from i. -/
def leftFrom : Nat → List Bool → List Int
  | _, [] => []
  | i, true :: r => leftFrom (i + 1) r
  | i, false :: r => (i : Int) :: leftFrom (i + 1) r
def leftL (l : List Bool) : List Int := leftFrom 0 l
theorem left_l0 {l : List Bool} {A : List Nat} (h : Good l A) (d : Nat) : ∀ i k (acc : List Int), l.length - i = d → i ≤ l.length → d < k → acc.length ≤ i → dels_Marks_Left.l0 k acc (l.length : Int) (i : Int) (l.length : Int) (ints A) = some (acc ++ leftFrom i (l.drop i), (l.length : Int)) := by
  have hs := h.small
  induction d with
  | zero =>
    intro i k acc h1 h2 h3 h4
    cases k with
    | zero => omega
    | succ k =>
      rw [dels_Marks_Left.l0, if_neg (by omega), List.drop_eq_nil_of_le (by omega), leftFrom, List.append_nil]
  | succ d ih =>
    intro i k acc h1 h2 h3 h4
    cases k with
    | zero => omega
    | succ k =>
      have hi : i < l.length := by omega
      have hsu := succ64 (j := i) (by omega)
      have e : hasL l (i : Int) = l[i] := by simp [hasL, hi]
      rw [dels_Marks_Left.l0, if_pos (by omega), has_f h, Option.bind_some, e, hsu, List.drop_eq_getElem_cons hi]
      cases l[i] with
      | true =>
        rw [if_pos rfl, ih (i + 1) k acc (by omega) (by omega) (by omega) (by omega), leftFrom]
      | false =>
        rw [if_neg Bool.false_ne_true, if_pos (by omega), ih (i + 1) k _ (by omega) (by omega) (by omega) (by simp; omega), leftFrom, List.append_assoc]
        rfl
theorem left_f {l : List Bool} {A : List Nat} (h : Good l A) : dels_Marks_Left.f (l.length + 1) (l.length : Int) (ints A) = some (leftL l, (l.length : Int)) := by
  have := left_l0 h l.length 0 (l.length + 1) [] (by omega) (by omega) (by omega) (by simp)
  simpa [dels_Marks_Left.f, leftL] using this
theorem leftFrom_length (l : List Bool) : ∀ i, (leftFrom i l).length + l.count true = l.length := by
  induction l with
  | nil => intro i; rfl
  | cons b r ih =>
    intro i
    have := ih (i + 1)
    cases b <;> simp [leftFrom] <;> omega
/-- How many rows are marked. -/
def cntL (l : List Bool) : Int := (l.count true : Int)
theorem count_f {l : List Bool} (h : l.length ≤ 1048576) : IntKind.i64.wrap ((l.length : Int) - ((leftL l).length : Int)) = cntL l := by
  have := leftFrom_length l 0
  rw [IntKind.wrap_i64, leftL, cntL]
  omega
theorem good_new {n : Nat} (h : n ≤ 1048576) : Good (List.replicate n false) (List.replicate ((n + 7) / 8) 0) := by
  refine ⟨by simpa using h, by simp, fun x hx => ?_, fun p hp => ?_⟩
  · rw [(List.mem_replicate.1 hx).2]; decide
  · rw [List.getD_eq_getElem?_getD, List.getD_eq_getElem?_getD, List.getElem?_replicate, List.getElem?_replicate]
    split <;> split <;> simp
/-- Joined. -/
def orL (l o : List Bool) : List Bool := List.zipWith (fun a c => a || c) l o
theorem or_ints {A B : List Nat} (hA : ∀ x ∈ A, x < 256) (hB : ∀ x ∈ B, x < 256) : List.zipWith (fun a c => Go.bits .or .u8 a c) (ints A) (ints B) = ints (List.zipWith (fun a c => a ||| c) A B) := by
  unfold ints
  rw [List.zipWith_map, List.map_zipWith]
  apply List.ext_getElem?
  intro i
  rw [List.getElem?_zipWith, List.getElem?_zipWith]
  cases ha : A[i]? with
  | none => rfl
  | some a =>
    cases hb : B[i]? with
    | none => rfl
    | some b => exact congrArg some (or8 (hA a (List.mem_of_getElem? ha)) (hB b (List.mem_of_getElem? hb)))
theorem good_or {l o : List Bool} {A B : List Nat} (h : Good l A) (k : Good o B) (hl : l.length = o.length) : Good (orL l o) (List.zipWith (fun a c => a ||| c) A B) := by
  have hAB : A.length = B.length := by rw [h.len, k.len, hl]
  refine ⟨by simp [orL, hl]; exact k.small, by simp [orL, hl, hAB]; exact k.len, fun x hx => ?_, fun p hp => ?_⟩
  · obtain ⟨i, hi⟩ := List.mem_iff_getElem?.1 hx
    rw [List.getElem?_zipWith] at hi
    cases ha : A[i]? with
    | none => simp [ha] at hi
    | some a =>
      cases hb : B[i]? with
      | none => simp [ha, hb] at hi
      | some b =>
        simp only [ha, hb, Option.some.injEq] at hi
        subst hi
        exact Nat.or_lt_two_pow (n := 8) (h.lt a (List.mem_of_getElem? ha)) (k.lt b (List.mem_of_getElem? hb))
  · have hp1 : p < l.length := by simp [orL] at hp; omega
    have hp2 : p < o.length := by omega
    have q1 : p / 8 < A.length := by rw [h.len]; omega
    have q2 : p / 8 < B.length := by omega
    have e1 := h.bit p hp1
    have e2 := k.bit p hp2
    simp only [List.getD_eq_getElem?_getD, orL, List.getElem?_zipWith, List.getElem?_eq_getElem hp1, List.getElem?_eq_getElem hp2, List.getElem?_eq_getElem q1, List.getElem?_eq_getElem q2, Option.getD_some] at e1 e2 ⊢
    rw [e1, e2, Nat.testBit_or]
/-! ### marks behind a pointer, as a list -/
def MkL (w : World) (b g : Nat) (l : List Bool) : Prop := ∃ A, Mk w b g l.length (ints A) ∧ Good l A
theorem MkL.below {w W : World} {b g : Nat} {l : List Bool} (h : MkL w b g l) (hb : Below w.heap.size w W) : MkL W b g l := by
  obtain ⟨A, h1, h2⟩ := h
  exact ⟨A, h1.below hb, h2⟩
theorem MkL.drewN {w : World} {b g : Nat} {l : List Bool} (h : MkL w b g l) (n : Nat) : MkL (w.drewN n) b g l := h
theorem MkL.drew {w : World} {b g : Nat} {l : List Bool} (h : MkL w b g l) : MkL w.drew b g l := h
theorem MkL.grown {w W : World} {b g : Nat} {l : List Bool} {row : Option Nat} (h : MkL w b g l) (hk : w.grownBy W row) (n1 : some b ≠ row) (n2 : some g ≠ row) : MkL W b g l := by
  obtain ⟨A, h1, h2⟩ := h
  exact ⟨A, h1.grown hk n1 n2, h2⟩
theorem MkL.lt {w : World} {b g : Nat} {l : List Bool} (h : MkL w b g l) : b < g ∧ g < w.heap.size := by
  obtain ⟨A, h1, h2⟩ := h
  exact ⟨h1.1, h1.lt⟩
theorem MkL.small {w : World} {b g : Nat} {l : List Bool} (h : MkL w b g l) : l.length ≤ 1048576 := by
  obtain ⟨A, h1, h2⟩ := h
  exact h2.small
theorem hasC {w : World} {b g : Nat} {l : List Bool} (h : MkL w b g l) (a : Int) : Calls Try.prog 10 #[.pointer (some ⟨g, 0, none⟩), .int .i64 a] w fun e w' => e = .returned (.bool (hasL l a)) ∧ Below w.heap.size w w' := by
  obtain ⟨A, h1, h2⟩ := h
  exact has_calls h1 (has_f h2 a)
theorem hasR {w : World} {b g : Nat} {l : List Bool} (h : MkL w b g l) (a : Int) {r : Bool} (hr : hasL l a = r) : Calls Try.prog 10 #[.pointer (some ⟨g, 0, none⟩), .int .i64 a] w fun e w' => e = .returned (.bool r) ∧ Below w.heap.size w w' := by
  subst hr
  exact hasC h a
theorem hasQ {w : World} {b g : Nat} {l : List Bool} (h : MkL w b g l) (n : Nat) (a : Int) {r : Bool} (hr : hasL l a = r) : Calls Try.prog 10 #[.pointer (some ⟨g, 0, none⟩), .int .i64 a] (w.drewN n) fun e w'' => e = .returned (.bool r) ∧ ∃ m, w'' = w.drewN m := by
  subst hr
  obtain ⟨A, h1, h2⟩ := h
  exact Calls.quiet_of ((has_drawn b g _ _ a _ _ (w.drewN n) h1 (has_f h2 a)).mono fun e w' ⟨he, hd⟩ => ⟨he, hd.out⟩)
theorem setC {w : World} {b g : Nat} {l : List Bool} (h : MkL w b g l) (a : Int) : Calls Try.prog 11 #[.pointer (some ⟨g, 0, none⟩), .int .i64 a] w fun e w' => e = .returned (.bool (freshL l a)) ∧ MkL w' b g (setL l a) ∧ w.grownBy w' (some b) := by
  obtain ⟨A, h1, h2⟩ := h
  obtain ⟨A', h3, h4⟩ := set_f h2 a
  refine (set_calls h1 h3).mono fun e w' ⟨he, hm, hg⟩ => ⟨he, ⟨A', ?_, h4⟩, hg⟩
  rw [setL_length]
  exact hm
theorem setR {w : World} {b g : Nat} {l l2 : List Bool} (h : MkL w b g l) (a : Int) {r : Bool} (hr : freshL l a = r) (h2 : setL l a = l2) : Calls Try.prog 11 #[.pointer (some ⟨g, 0, none⟩), .int .i64 a] w fun e w' => e = .returned (.bool r) ∧ MkL w' b g l2 ∧ w.grownBy w' (some b) := by
  subst hr
  subst h2
  exact setC h a
theorem leftC {w : World} {b g : Nat} {l : List Bool} (h : MkL w b g l) : Calls Try.prog 13 #[.pointer (some ⟨g, 0, none⟩)] w fun e w' => ∃ v0_ : Value, e = .returned (v0_) ∧ Kd.R (Kd.int .i64) 3 w' w.heap.size (fun _ => True) v0_ (leftL l) ∧ Below w.heap.size w w' := by
  obtain ⟨A, h1, h2⟩ := h
  exact left_calls h1 (left_f h2)
theorem countC {w : World} {b g : Nat} {l : List Bool} (h : MkL w b g l) : Calls Try.prog 12 #[.pointer (some ⟨g, 0, none⟩)] w fun e w' => e = .returned (.int .i64 (cntL l)) ∧ Below w.heap.size w w' := by
  obtain ⟨A, h1, h2⟩ := h
  exact count_calls h1 (left_f h2) (count_f h2.small)
theorem countR {w : World} {b g : Nat} {l : List Bool} (h : MkL w b g l) {n : Int} (hn : cntL l = n) : Calls Try.prog 12 #[.pointer (some ⟨g, 0, none⟩)] w fun e w' => e = .returned (.int .i64 n) ∧ Below w.heap.size w w' := by
  subst hn
  exact countC h
theorem newBadC (n : Int) (w : World) (h : n < 0 ∨ n > 1048576) : Calls Try.prog 9 #[.int .i64 n] w fun e w' => e = .returned (.tuple #[.pointer none, .int .i64 1]) ∧ Below w.heap.size w w' := newBad_calls n w h
theorem newC (n : Nat) (w : World) (h1 : n ≤ 1048576) : Calls Try.prog 9 #[.int .i64 (n : Int)] w fun e w' => ∃ b g, e = .returned (.tuple #[.pointer (some ⟨g, 0, none⟩), .int .i64 0]) ∧ MkL w' b g (List.replicate n false) ∧ w.heap.size ≤ b ∧ Below w.heap.size w w' := by
  refine (newOk_calls n ((n + 7) / 8) w h1 rfl).mono fun e w' ⟨b, g, he, hm, hb, hB⟩ => ⟨b, g, he, ⟨List.replicate ((n + 7) / 8) 0, ?_, good_new h1⟩, hb, hB⟩
  have e2 : (List.replicate ((n + 7) / 8) (0 : Int)) = ints (List.replicate ((n + 7) / 8) 0) := ints_replicate _ 0
  rw [List.length_replicate, ← e2]
  exact hm
theorem orNilC {p : Value} {w : World} : Calls Try.prog 14 #[p, .pointer none] w fun e w' => e = .returned (.int .i64 1) ∧ Below w.heap.size w w' := orNil_calls
theorem orBadC {w : World} {b g b2 g2 : Nat} {l o : List Bool} (h : MkL w b g l) (k : MkL w b2 g2 o) (hne : o.length ≠ l.length) : Calls Try.prog 14 #[.pointer (some ⟨g, 0, none⟩), .pointer (some ⟨g2, 0, none⟩)] w fun e w' => e = .returned (.int .i64 1) ∧ Below w.heap.size w w' := by
  obtain ⟨A, h1, h2⟩ := h
  obtain ⟨B, k1, k2⟩ := k
  exact orBad_calls h1 k1 (by omega)
theorem orC {w : World} {b g b2 g2 : Nat} {l o : List Bool} (h : MkL w b g l) (k : MkL w b2 g2 o) (hl : l.length = o.length) (n1 : b ≠ b2) (n2 : b ≠ g2) : Calls Try.prog 14 #[.pointer (some ⟨g, 0, none⟩), .pointer (some ⟨g2, 0, none⟩)] w fun e w' => e = .returned (.int .i64 0) ∧ MkL w' b g (orL l o) ∧ w.grownBy w' (some b) := by
  obtain ⟨A, h1, h2⟩ := h
  obtain ⟨B, k1, k2⟩ := k
  have hAB : A.length = B.length := by rw [h2.len, k2.len, hl]
  rw [← hl] at k1
  refine (orOk_calls h1 k1 (by rw [ints_length, ints_length, hAB]) n1 n2).mono fun e w' ⟨he, hm, hg⟩ => ⟨he, ⟨_, ?_, good_or h2 k2 hl⟩, hg⟩
  have e1 : orAt (ints A) (ints B) (ints B).length = ints (List.zipWith (fun a c => a ||| c) A B) := by
    rw [orAt, or_ints h2.lt k2.lt, List.take_of_length_le (by simp [ints_length]; omega), List.drop_eq_nil_of_le (by simp [ints_length]; omega), List.append_nil]
  rw [e1] at hm
  have e2 : (orL l o).length = l.length := by simp [orL, hl]
  rw [e2]
  exact hm
set_option maxHeartbeats 4000000 in
set_option maxRecDepth 100000 in
theorem rowsC {w : World} {b g : Nat} {l : List Bool} (h : MkL w b g l) : Calls Try.prog 22 #[.pointer (some ⟨g, 0, none⟩)] w fun e w' => e = .returned (.int .i64 (l.length : Int)) ∧ Below w.heap.size w w' := by
  obtain ⟨A, h1, h2⟩ := h
  have hcz0 := mk_cell0 h1.2.2.2
  go_enter Try.func22, Try.ntmps22
  go_wp2
  go_ret
  exact ⟨rfl, by repeat (first | exact Below.refl _ _ | apply pw_below_drewN | apply Below.drew)⟩
end Go.Proofs.Ytodadonpfcefbaa.Marks
