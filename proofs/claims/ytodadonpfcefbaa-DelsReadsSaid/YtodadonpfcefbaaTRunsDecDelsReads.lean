/- runs.Decode and the document's Decode come to the same. -/
import Derived.Test.YtodadonpfcefbaaTR5DelsReads
import Derived.Test.YtodadonpfcefbaaTV5DelsReads
namespace Go.Proofs.Ytodadonpfcefbaa.QDelsReadsB
open Go.Proofs.Ytodadonpfcefbaa.QDelsReads Go.RowKit Go.Proofs.YtodadonpfcefbaaW.PrintWords Go.Proofs.YtodadonpfcefbaaW.PrintLast Go.Proofs.YtodadonpfcefbaaW.PrintMore Go.Proofs.Ytodadonpfcefbaa.Base
set_option linter.unusedVariables false
set_option linter.unusedSimpArgs false
set_option linter.unusedSectionVars false

theorem runs_val_range : ∀ (P : List Int) (k v : Int), 0 ≤ v ∧ v ≤ 18446744073709551615 → 0 ≤ runs_val P k v ∧ runs_val P k v ≤ 18446744073709551615
  | [], _, v, h => h
  | c :: P, k, v, h => runs_val_range P _ _ (bits_range _ _ _)
theorem any_pos : ∀ Z : List Nat, (ints Z).any (fun x => decide (0 < x)) = (ints Z).any (fun x => x != 0)
  | [] => rfl
  | z :: Z => by
    have ih := any_pos Z
    show (decide (0 < (z : Int)) || (ints Z).any _) = (((z : Int) != 0) || (ints Z).any _)
    rw [ih]
    congr 1
    by_cases h : z = 0
    · subst h; rfl
    · rw [decide_eq_true (by omega), (bne_iff_ne.mpr (by omega) : ((z : Int) != 0) = true)]
theorem runs_part_ints (B : List Nat) (a s : Nat) : runs_part (ints B) (a : Int) (s : Int) = ints ((B.take (a + s)).drop a) := by
  unfold runs_part
  rw [show ((a : Int) + (s : Int)).toNat = a + s by omega, show (a : Int).toNat = a from rfl, ints_take, ints_drop]

section
variable {B : List Nat} (hB : ∀ x ∈ B, x < 256) (hl : B.length ≤ 140737488351232) {n w : Nat} (hw : w ≤ 32) (hn : n ≤ 1048576)
include hB hl hw hn
theorem unp_groups (a m : Nat) (hm : m ≤ 131073) (ha : a + m * w ≤ B.length) : ∃ X : List Nat, X.length = 8 * m ∧ (∀ x ∈ X, x < 2 ^ 64) ∧ unp ((B.take (a + m * w)).drop a) ((8 * m : Nat) : Int) (w : Int) = (X, 0) := by
  have hPl : ((B.take (a + m * w)).drop a).length = m * w := by rw [List.length_drop, List.length_take]; omega
  have hPb : ∀ x ∈ (B.take (a + m * w)).drop a, x < 2 ^ 8 := fun x hx => hB x (List.mem_of_mem_take (List.mem_of_mem_drop hx))
  have hs : sizeOf_ ((8 * m : Nat) : Int) (w : Int) = ((m * w : Nat) : Int) := by
    rw [size_nat (by omega) (by omega)]
    congr 1
    rw [Nat.mul_assoc]
    omega
  have hv := val_lt _ hPb
  refine ⟨digits w (8 * m) (val 8 ((B.take (a + m * w)).drop a)), digits_length _ _ _, fun x hx => Nat.lt_of_lt_of_le (digits_lt w _ _ x hx) (Nat.pow_le_pow_right (by decide) (by omega)), ?_⟩
  unfold unp
  rw [if_neg (by omega), if_neg (by omega), hs, hPl, if_neg (by omega), if_neg (by omega), if_neg ?_]
  · rfl
  · rw [hPl] at hv
    rw [Int.toNat_natCast, Int.toNat_natCast, Nat.mul_assoc]
    omega
theorem grp_both {O : List Nat} (hO : ∀ x ∈ O, x < 2 ^ 64) (hOn : O.length < n) (a m : Nat) (ha : a ≤ B.length) (hm : m < 2 ^ 64) :
    (∃ e p o p' o', e ≠ 0 ∧ Ev (fun k => runs_groups.f k (ints B) (ints O) (a : Int) (n : Int) (w : Int) (m : Int)) (e, p, o) ∧ Ev (fun k => ref5_groups.f k (ints B) (ints O) (a : Int) (n : Int) (w : Int) (m : Int)) (e, p', o')) ∨
    (∃ (X : List Nat) (q : Nat), (∀ x ∈ X, x < 2 ^ 64) ∧ a ≤ q ∧ q ≤ B.length ∧ X.length ≤ 1048584 ∧ Ev (fun k => runs_groups.f k (ints B) (ints O) (a : Int) (n : Int) (w : Int) (m : Int)) (0, (q : Int), ints (O ++ X)) ∧
      Ev (fun k => ref5_groups.f k (ints B) (ints O) (a : Int) (n : Int) (w : Int) (m : Int)) (if ((ints (O ++ X)).drop n).any (fun x => x != 0) then (12, (a : Int), ints O) else (0, (q : Int), ints ((O ++ X).take n)))) := by
  have hdiv : (((ints B).length : Int) - (a : Int)) / (w : Int) = (((B.length - a) / w : Nat) : Int) := by
    rw [ints_length, show (B.length : Int) - (a : Int) = ((B.length - a : Nat) : Int) by omega, Int.natCast_ediv]
  have hend : ∀ g : Nat → Option (Int × Int × List Int), (∀ k, g k = some (10, (a : Int), ints O)) → Ev g (10, (a : Int), ints O) := fun g h => Ev.congr (f := fun _ => some _) h (Ev.now _)
  by_cases g1 : 0 < w ∧ B.length < m
  · refine .inl ⟨10, _, _, _, _, by decide, hend _ fun k => ?_, hend _ fun k => ?_⟩
    · rw [runs_groups.f, if_pos ⟨by omega, by rw [ints_length]; omega⟩]
    · rw [ref5_groups.f, hdiv, if_pos ⟨by omega, by have := Nat.div_le_self (B.length - a) w; omega⟩]
  have hmw : 0 < w → m ≤ B.length := fun h => by
    by_cases h2 : B.length < m
    · exact absurd ⟨h, h2⟩ g1
    · omega
  have hsz : IntKind.u64.wrap ((m : Int) * (w : Int)) = ((m * w : Nat) : Int) := by
    rw [← Int.natCast_mul]
    by_cases h : 0 < w
    · have h1 := hmw h
      have h2 : m * w ≤ 140737488351232 * 32 := Nat.mul_le_mul (by omega) hw
      exact wu64 (by omega) (by omega)
    · rw [show w = 0 by omega, Nat.mul_zero]
      rfl
  have g1' : ¬ ((0 : Int) < (w : Int) ∧ ((ints B).length : Int) < (m : Int)) := by rw [ints_length]; omega
  by_cases g2 : B.length - a < m * w
  · refine .inl ⟨10, _, _, _, _, by decide, hend _ fun k => ?_, hend _ fun k => ?_⟩
    · rw [runs_groups.f, if_neg g1', hsz, if_pos (by rw [ints_length]; omega)]
    · have hw0 : 0 < w := by
        rcases Nat.eq_zero_or_pos w with h | h
        · rw [h, Nat.mul_zero] at g2; omega
        · exact h
      have := (Nat.div_lt_iff_lt_mul hw0).2 g2
      rw [ref5_groups.f, hdiv, if_pos ⟨by omega, by omega⟩]
  have g2' : ¬ ((0 : Int) < (w : Int) ∧ (((B.length - a) / w : Nat) : Int) < (m : Int)) := by
    rintro ⟨h1, h2⟩
    exact g2 ((Nat.div_lt_iff_lt_mul (by omega)).1 (by omega))
  by_cases g3 : m = 0 ∨ (n - O.length + 7) / 8 < m
  · refine .inl ⟨12, (a : Int) + ((m * w : Nat) : Int), ints O, (a : Int), ints O, by decide, Ev.congr (f := fun _ => some _) (fun k => ?_) (Ev.now _), Ev.congr (f := fun _ => some _) (fun k => ?_) (Ev.now _)⟩
    · rw [runs_groups.f, if_neg g1', hsz, if_neg (by rw [ints_length]; omega), if_pos (by rw [ints_length]; omega)]
    · rw [ref5_groups.f, hdiv, if_neg g2', if_pos (by rw [ints_length]; omega)]
  have hm9 : m ≤ 131073 := by omega
  obtain ⟨X, hXl, hX, hu⟩ := unp_groups hB hl hw hn a m hm9 (by omega)
  have hPl : ((B.take (a + m * w)).drop a).length ≤ 140737488351232 := by rw [List.length_drop, List.length_take]; omega
  have hPb : ∀ x ∈ (B.take (a + m * w)).drop a, x < 256 := fun x hx => hB x (List.mem_of_mem_take (List.mem_of_mem_drop hx))
  have hU := unpack_ev hPb hPl ((8 * m : Nat) : Int) (w : Int)
  have hU3 := unpack3_ev hPb hPl ((8 * m : Nat) : Int) (w : Int)
  rw [hu] at hU hU3
  have hU : Ev (fun k => bits_Unpack.f k (ints ((B.take (a + m * w)).drop a)) ((8 * m : Nat) : Int) (w : Int)) (ints X, 0) := hU
  have hU3 : Ev (fun k => columbariumref3_Unpack.f k (ints ((B.take (a + m * w)).drop a)) ((8 * m : Nat) : Int) (w : Int)) (ints X, 0) := hU3
  refine .inr ⟨X, a + m * w, hX, by omega, by omega, by omega, ?_, ?_⟩
  · refine Ev.congr (f := fun k => (bits_Unpack.f k (ints ((B.take (a + m * w)).drop a)) ((8 * m : Nat) : Int) (w : Int)).bind fun t => if t.1.length ≤ 1048584 then some (t.2, (a : Int) + ((m * w : Nat) : Int), if t.2 = 0 then ints O ++ t.1 else ints O) else none) (fun k => ?_) ?_
    · rw [runs_groups.f, if_neg g1', hsz, if_neg (by rw [ints_length]; omega), if_neg (by rw [ints_length]; omega), runs_part_ints]
      rfl
    · refine Ev.bind hU (Ev.congr (f := fun _ => some _) (fun k => ?_) (Ev.now _))
      rw [if_pos (by rw [ints_length]; omega), if_pos rfl, ints_append]
      rfl
  · refine Ev.congr (f := fun k => (columbariumref3_Unpack.f k (ints ((B.take (a + m * w)).drop a)) ((8 * m : Nat) : Int) (w : Int)).bind fun t => if t.2 = 0 then (if ((ints O ++ t.1).drop n).any (fun x => x != 0) then some (12, (a : Int), ints O) else some (0, (a : Int) + ((m * w : Nat) : Int), (ints O ++ t.1).take n)) else some (12, (a : Int), ints O)) (fun k => ?_) ?_
    · rw [ref5_groups.f, hdiv, if_neg g2', if_neg (by rw [ints_length]; omega), ← Int.natCast_mul, runs_part_ints]
      rfl
    · refine Ev.bind hU3 (Ev.congr (f := fun _ => some _) (fun k => ?_) (Ev.now _))
      rw [if_pos rfl, ints_append]
      by_cases h : ((ints (O ++ X)).drop n).any (fun x => x != 0) = true
      · rw [if_pos h, if_pos h]
      · rw [if_neg h, if_neg h, ints_take]
        rfl
def Good (r : List Int × Int × Int) : Prop := ∃ R : List Nat, r.1 = ints R ∧ R.length ≤ 1048576 ∧ ∀ x ∈ R, x < 2 ^ 64
omit hB hl hw hn in
theorem good_nil (a b : Int) : Good ([], a, b) := ⟨[], rfl, by simp, by simp⟩
theorem last_both {T : List Nat} (hT : ∀ x ∈ T, x < 2 ^ 64) (hTn : T.length = n) (a1 a : Nat) (h1 : a1 ≤ a) (h2 : a ≤ B.length) : ∃ r, Good r ∧
    (∀ Z : List Nat, Z.take n = T → ((ints Z).drop n).any (fun x => x != 0) = false → Ev (fun k => runs_Decode.last k (ints B) (a1 : Int) (n : Int) (w : Int) (a : Int) (ints Z)) r) ∧
    Ev (fun k => columbariumref5_Decode.last k (ints B) (a1 : Int) (w : Int) (a : Int) (ints T)) r := by
  have he := enc_ev hT (by omega) (w : Int)
  have he5 := enc5_ev hT (by omega) (w : Int)
  have hf : ∀ (k : Nat) (t : List Int × Int), (if t.2 = 0 then (if (a1 : Int) ≤ (a : Int) then (bytes_Equal.f t.1 (((ints B).take (a : Int).toNat).drop (a1 : Int).toNat)).bind fun b => if b = true then some (ints T, (a : Int), (0 : Int)) else some ([], 0, 12) else none) else some ([], 0, 12)) =
      (if t.2 = 0 then (if (strOfNums t.1).toList = (strOfNums (((ints B).take (a : Int).toNat).drop (a1 : Int).toNat)).toList then some (ints T, (a : Int), (0 : Int)) else some ([], 0, 12)) else some (([] : List Int), (0 : Int), (12 : Int))) := by
    intro k t
    by_cases h0 : t.2 = 0
    · rw [if_pos h0, if_pos h0, if_pos (by omega), bytes_Equal.f, Option.bind_some]
      by_cases h3 : (strOfNums t.1).toList = (strOfNums (((ints B).take (a : Int).toNat).drop (a1 : Int).toNat)).toList
      · rw [if_pos h3, if_pos (beq_iff_eq.mpr h3)]
      · rw [if_neg h3, if_neg (by simpa using h3)]
    · rw [if_neg h0, if_neg h0]
  obtain ⟨r, hr⟩ : ∃ r, (if ((ints (enc T (w : Int)).1, (enc T (w : Int)).2) : List Int × Int).2 = 0 then (if (strOfNums (ints (enc T (w : Int)).1)).toList = (strOfNums (((ints B).take (a : Int).toNat).drop (a1 : Int).toNat)).toList then some (ints T, (a : Int), (0 : Int)) else some ([], 0, 12)) else some (([] : List Int), (0 : Int), (12 : Int))) = some r ∧ Good r := by
    split
    · split
      · exact ⟨_, rfl, T, rfl, by omega, hT⟩
      · exact ⟨_, rfl, good_nil _ _⟩
    · exact ⟨_, rfl, good_nil _ _⟩
  refine ⟨r, hr.2, fun Z hZ hany => ?_, ?_⟩
  · refine Ev.congr (f := fun k => (runs_Encode.f k (ints T) (w : Int)).bind fun t => if t.2 = 0 then (if (a1 : Int) ≤ (a : Int) then (bytes_Equal.f t.1 (((ints B).take (a : Int).toNat).drop (a1 : Int).toNat)).bind fun b => if b = true then some (ints T, (a : Int), (0 : Int)) else some ([], 0, 12) else none) else some ([], 0, 12)) (fun k => ?_) ?_
    · rw [runs_Decode.last, show ((n : Nat) : Int).toNat = n from rfl, ints_drop, any_pos, ← ints_drop, if_neg (by rw [hany]; decide), ints_take, hZ]
    · refine Ev.bind he (Ev.congr (f := fun _ => some r) (fun k => ?_) (Ev.now _))
      rw [hf k]
      exact hr.1
  · refine Ev.congr (fun k => by rw [columbariumref5_Decode.last]) (Ev.bind he5 (Ev.congr (f := fun _ => some r) (fun k => ?_) (Ev.now _)))
    rw [← hr.1]
    by_cases h0 : ((ints (enc T (w : Int)).1, (enc T (w : Int)).2) : List Int × Int).2 = 0
    · rw [if_pos h0, if_pos h0, if_pos (by rw [ints_length]; omega)]
    · rw [if_neg h0, if_neg h0]
theorem run_both {O : List Nat} (hO : ∀ x ∈ O, x < 2 ^ 64) (hOn : O.length < n) (a m : Nat) (ha : a ≤ B.length) :
    (∃ e p o, e ≠ 0 ∧ runs_run.f (ints B) (ints O) (a : Int) (n : Int) (w : Int) (m : Int) = (e, p, o)) ∨
    (∃ (X : List Nat) (q : Nat), (∀ x ∈ X, x < 2 ^ 64) ∧ a ≤ q ∧ q ≤ B.length ∧ (O ++ X).length ≤ n ∧ runs_run.f (ints B) (ints O) (a : Int) (n : Int) (w : Int) (m : Int) = (0, (q : Int), ints (O ++ X))) := by
  unfold runs_run.f
  by_cases c1 : ((ints B).length : Int) - (a : Int) < ((w : Int) + 7) / 8
  · exact .inl ⟨10, _, _, by decide, by rw [if_pos c1]⟩
  rw [if_neg c1]
  by_cases c2 : (m : Int) = 0 ∨ (n : Int) - (ints O).length < (m : Int)
  · exact .inl ⟨12, _, _, by decide, by rw [if_pos c2]⟩
  rw [if_neg c2]
  have hv := runs_val_range (runs_part (ints B) (a : Int) (((w : Int) + 7) / 8)) 0 0 (by decide)
  obtain ⟨v, hv2⟩ := Int.eq_ofNat_of_zero_le hv.1
  rw [ints_length] at c1 c2
  refine .inr ⟨List.replicate m v, a + (w + 7) / 8, fun x hx => ?_, by omega, by omega, by rw [List.length_append, List.length_replicate]; omega, ?_⟩
  · rw [List.eq_of_mem_replicate hx]
    have := hv.2
    omega
  · rw [hv2, ← ints_append, show (m : Int).toNat = m from rfl]
    have e : (a : Int) + ((w : Int) + 7) / 8 = ((a + (w + 7) / 8 : Nat) : Int) := by omega
    rw [e, ← ints_replicate m v]
theorem dec_l (a1 : Nat) : ∀ d (a : Nat) (O : List Nat), B.length - a ≤ d → a1 ≤ a → a ≤ B.length → O.length ≤ n → (∀ x ∈ O, x < 2 ^ 64) →
    ∃ r, Good r ∧ Ev (fun k => runs_Decode.l0 k (ints B) (a1 : Int) (n : Int) (w : Int) (a : Int) (ints O)) r ∧ Ev (fun k => columbariumref5_Decode.l0 k (ints B) (a1 : Int) (n : Int) (w : Int) (a : Int) (ints O)) r := by
  intro d
  induction d using Nat.strongRecOn with
  | _ d ih =>
    intro a O hd h1 h2 hOn hO
    by_cases hlt : O.length < n
    · have hg := get_ev hB (by omega) (a : Int)
      have hg1 := get1_ev hB (by omega) (a : Int)
      have hgood : ((0 ≤ (getS B (a : Int)).1 ∧ (getS B (a : Int)).1 ≤ 18446744073709551615) ∧ ((getS B (a : Int)).2.2 = 0 → (a : Int) < (getS B (a : Int)).2.1 ∧ (getS B (a : Int)).2.1 ≤ (B.length : Int))) := by
        unfold getS
        rw [if_neg (by omega)]
        have := getR_good (B.drop (a : Int).toNat) (a : Int).toNat
        rw [List.length_drop, show (a : Int).toNat = a from rfl] at this
        rw [show (a : Int).toNat = a from rfl]
        refine ⟨this.1, fun h => ?_⟩
        have := this.2 h
        omega
      generalize getS B (a : Int) = t at hg hg1 hgood
      obtain ⟨t1, t2, t3⟩ := t
      have hP : ∀ r, Ev (fun k => if t3 = 0 then (if (0 ≤ t1 ∧ t1 ≤ 18446744073709551615) ∧ (0 ≤ t2 ∧ t2 ≤ ((ints B).length : Int)) then ((runs_Decode.step k (ints B) (n : Int) (w : Int) t1 t2 (ints O)).bind fun s => if s.1 = 0 then (if 0 ≤ s.2.1 ∧ s.2.1 ≤ ((ints B).length : Int) then runs_Decode.l0 k (ints B) (a1 : Int) (n : Int) (w : Int) s.2.1 s.2.2 else none) else some ([], 0, s.1)) else none) else some ([], 0, t3)) r →
          Ev (fun k => runs_Decode.l0 k (ints B) (a1 : Int) (n : Int) (w : Int) (a : Int) (ints O)) r := fun r hr =>
        Ev.step (f := fun k => (varint_Get.f k (ints B) (a : Int)).bind fun t => if t.2.2 = 0 then (if (0 ≤ t.1 ∧ t.1 ≤ 18446744073709551615) ∧ (0 ≤ t.2.1 ∧ t.2.1 ≤ ((ints B).length : Int)) then ((runs_Decode.step k (ints B) (n : Int) (w : Int) t.1 t.2.1 (ints O)).bind fun s => if s.1 = 0 then (if 0 ≤ s.2.1 ∧ s.2.1 ≤ ((ints B).length : Int) then runs_Decode.l0 k (ints B) (a1 : Int) (n : Int) (w : Int) s.2.1 s.2.2 else none) else some ([], 0, s.1)) else none) else some ([], 0, t.2.2))
          (fun k => by rw [runs_Decode.l0, if_pos (by rw [ints_length]; omega)]) (Ev.bind hg hr)
      have hR : ∀ r, Ev (fun k => if t3 = 0 then (if (0 ≤ t1 ∧ t1 ≤ 18446744073709551615) ∧ (0 ≤ t2 ∧ t2 ≤ ((ints B).length : Int)) then ((columbariumref5_Decode.step k (ints B) (n : Int) (w : Int) t1 t2 (ints O)).bind fun s => if s.1 = 0 then columbariumref5_Decode.l0 k (ints B) (a1 : Int) (n : Int) (w : Int) s.2.1 s.2.2 else some ([], 0, s.1)) else none) else some ([], 0, t3)) r →
          Ev (fun k => columbariumref5_Decode.l0 k (ints B) (a1 : Int) (n : Int) (w : Int) (a : Int) (ints O)) r := fun r hr =>
        Ev.step (f := fun k => (columbariumref1_Get.f k (ints B) (a : Int)).bind fun t => if t.2.2 = 0 then (if (0 ≤ t.1 ∧ t.1 ≤ 18446744073709551615) ∧ (0 ≤ t.2.1 ∧ t.2.1 ≤ ((ints B).length : Int)) then ((columbariumref5_Decode.step k (ints B) (n : Int) (w : Int) t.1 t.2.1 (ints O)).bind fun s => if s.1 = 0 then columbariumref5_Decode.l0 k (ints B) (a1 : Int) (n : Int) (w : Int) s.2.1 s.2.2 else some ([], 0, s.1)) else none) else some ([], 0, t.2.2))
          (fun k => by rw [columbariumref5_Decode.l0, if_pos (by rw [ints_length]; omega)]) (Ev.bind hg1 hr)
      by_cases ht3 : t3 = 0
      case neg =>
        exact ⟨_, good_nil 0 t3, hP _ (Ev.congr (f := fun _ => some _) (fun k => by rw [if_neg ht3]) (Ev.now _)), hR _ (Ev.congr (f := fun _ => some _) (fun k => by rw [if_neg ht3]) (Ev.now _))⟩
      obtain ⟨hq1, hq2⟩ := hgood
      have hq2 := hq2 ht3
      simp only at hq1 hq2
      obtain ⟨e, rfl⟩ := Int.eq_ofNat_of_zero_le (show 0 ≤ t2 by omega)
      obtain ⟨hd', rfl⟩ := Int.eq_ofNat_of_zero_le hq1.1
      have hguard : ((0 : Int) ≤ (hd' : Int) ∧ (hd' : Int) ≤ 18446744073709551615) ∧ ((0 : Int) ≤ (e : Int) ∧ (e : Int) ≤ ((ints B).length : Int)) := by rw [ints_length]; omega
      have hP2 : ∀ r s, Ev (fun k => runs_Decode.step k (ints B) (n : Int) (w : Int) (hd' : Int) (e : Int) (ints O)) s → Ev (fun k => if s.1 = 0 then (if 0 ≤ s.2.1 ∧ s.2.1 ≤ ((ints B).length : Int) then runs_Decode.l0 k (ints B) (a1 : Int) (n : Int) (w : Int) s.2.1 s.2.2 else none) else some ([], 0, s.1)) r → Ev (fun k => runs_Decode.l0 k (ints B) (a1 : Int) (n : Int) (w : Int) (a : Int) (ints O)) r := fun r s hs hr =>
        hP r (Ev.congr (fun k => by rw [if_pos ht3, if_pos hguard]) (Ev.bind hs hr))
      have hR2 : ∀ r s, Ev (fun k => columbariumref5_Decode.step k (ints B) (n : Int) (w : Int) (hd' : Int) (e : Int) (ints O)) s → Ev (fun k => if s.1 = 0 then columbariumref5_Decode.l0 k (ints B) (a1 : Int) (n : Int) (w : Int) s.2.1 s.2.2 else some ([], 0, s.1)) r → Ev (fun k => columbariumref5_Decode.l0 k (ints B) (a1 : Int) (n : Int) (w : Int) (a : Int) (ints O)) r := fun r s hs hr =>
        hR r (Ev.congr (fun k => by rw [if_pos ht3, if_pos hguard]) (Ev.bind hs hr))
      clear hP hR
      have hhalf : (hd' : Int) / 2 = ((hd' / 2 : Nat) : Int) := by omega
      by_cases hev : (hd' : Int) % 2 = 0
      · have hs : ∀ s, runs_run.f (ints B) (ints O) (e : Int) (n : Int) (w : Int) ((hd' / 2 : Nat) : Int) = s → Ev (fun k => runs_Decode.step k (ints B) (n : Int) (w : Int) (hd' : Int) (e : Int) (ints O)) s ∧ Ev (fun k => columbariumref5_Decode.step k (ints B) (n : Int) (w : Int) (hd' : Int) (e : Int) (ints O)) s := fun s h =>
          ⟨Ev.congr (f := fun _ => some s) (fun k => by rw [runs_Decode.step, if_pos hev, hhalf, h]) (Ev.now _), Ev.congr (f := fun _ => some s) (fun k => by rw [columbariumref5_Decode.step, if_pos hev, hhalf, h]) (Ev.now _)⟩
        rcases run_both hB hl hw hn hO hlt e (hd' / 2) (by omega) with ⟨er, p, o, her, hrun⟩ | ⟨X, q, hX, hq, hqB, hXn, hrun⟩
        · obtain ⟨s1, s2⟩ := hs _ hrun
          exact ⟨_, good_nil 0 er, hP2 _ _ s1 (Ev.congr (f := fun _ => some _) (fun k => by rw [if_neg her]) (Ev.now _)), hR2 _ _ s2 (Ev.congr (f := fun _ => some _) (fun k => by rw [if_neg her]) (Ev.now _))⟩
        · obtain ⟨s1, s2⟩ := hs _ hrun
          obtain ⟨r, hgr, hr1, hr2⟩ := ih (B.length - q) (by omega) q (O ++ X) (Nat.le_refl _) (by omega) hqB hXn (fun x hx => (List.mem_append.1 hx).elim (hO x) (hX x))
          exact ⟨r, hgr, hP2 _ _ s1 (Ev.congr (fun k => by rw [if_pos rfl, if_pos ⟨show (0 : Int) ≤ (q : Int) by omega, show (q : Int) ≤ ((ints B).length : Int) by rw [ints_length]; omega⟩]) hr1), hR2 _ _ s2 (Ev.congr (fun k => by rw [if_pos rfl]) hr2)⟩
      · have hs1 : ∀ s, Ev (fun k => runs_groups.f k (ints B) (ints O) (e : Int) (n : Int) (w : Int) ((hd' / 2 : Nat) : Int)) s → Ev (fun k => runs_Decode.step k (ints B) (n : Int) (w : Int) (hd' : Int) (e : Int) (ints O)) s := fun s h =>
          Ev.congr (fun k => by rw [runs_Decode.step, if_neg hev, hhalf]) h
        have hs2 : ∀ s, Ev (fun k => ref5_groups.f k (ints B) (ints O) (e : Int) (n : Int) (w : Int) ((hd' / 2 : Nat) : Int)) s → Ev (fun k => columbariumref5_Decode.step k (ints B) (n : Int) (w : Int) (hd' : Int) (e : Int) (ints O)) s := fun s h =>
          Ev.congr (fun k => by rw [columbariumref5_Decode.step, if_neg hev, hhalf]) h
        rcases grp_both hB hl hw hn hO hlt e (hd' / 2) (by omega) (by omega) with ⟨er, p, o, p', o', her, g1, g2⟩ | ⟨X, q, hX, hq, hqB, hXl, g1, g2⟩
        · exact ⟨_, good_nil 0 er, hP2 _ _ (hs1 _ g1) (Ev.congr (f := fun _ => some _) (fun k => by rw [if_neg her]) (Ev.now _)), hR2 _ _ (hs2 _ g2) (Ev.congr (f := fun _ => some _) (fun k => by rw [if_neg her]) (Ev.now _))⟩
        · have hOX : ∀ x ∈ O ++ X, x < 2 ^ 64 := fun x hx => (List.mem_append.1 hx).elim (hO x) (hX x)
          have hnext : ∀ r, Ev (fun k => runs_Decode.l0 k (ints B) (a1 : Int) (n : Int) (w : Int) (q : Int) (ints (O ++ X))) r → Ev (fun k => runs_Decode.l0 k (ints B) (a1 : Int) (n : Int) (w : Int) (a : Int) (ints O)) r := fun r hr =>
            hP2 _ _ (hs1 _ g1) (Ev.congr (fun k => by rw [if_pos rfl, if_pos ⟨show (0 : Int) ≤ (q : Int) by omega, show (q : Int) ≤ ((ints B).length : Int) by rw [ints_length]; omega⟩]) hr)
          by_cases hany : ((ints (O ++ X)).drop n).any (fun x => x != 0) = true
          · rw [if_pos hany] at g2
            have hlong : ¬ (O ++ X).length < n := fun h => by
              rw [List.drop_eq_nil_of_le (by rw [ints_length]; omega)] at hany
              cases hany
            refine ⟨_, good_nil 0 12, hnext _ (Ev.step (f := fun _ => some _) (fun k => ?_) (Ev.now _)), hR2 _ _ (hs2 _ g2) (Ev.congr (f := fun _ => some _) (fun k => by rw [if_neg (show ¬ (12 : Int) = 0 by decide)]) (Ev.now _))⟩
            rw [runs_Decode.l0, if_neg (by rw [ints_length]; omega), runs_Decode.last, show ((n : Nat) : Int).toNat = n from rfl, ints_drop, any_pos, ← ints_drop, if_pos hany]
          · rw [if_neg hany] at g2
            have href : ∀ r, Ev (fun k => columbariumref5_Decode.l0 k (ints B) (a1 : Int) (n : Int) (w : Int) (q : Int) (ints ((O ++ X).take n))) r → Ev (fun k => columbariumref5_Decode.l0 k (ints B) (a1 : Int) (n : Int) (w : Int) (a : Int) (ints O)) r := fun r hr =>
              hR2 _ _ (hs2 _ g2) (Ev.congr (fun k => by rw [if_pos rfl]) hr)
            by_cases hfull : (O ++ X).length < n
            · rw [List.take_of_length_le (by omega)] at href
              obtain ⟨r, hgr, hr1, hr2⟩ := ih (B.length - q) (by omega) q (O ++ X) (Nat.le_refl _) (by omega) hqB (by omega) hOX
              exact ⟨r, hgr, hnext r hr1, href r hr2⟩
            · obtain ⟨r, hgr, hr1, hr2⟩ := last_both hB hl hw hn (T := (O ++ X).take n) (fun x hx => hOX x (List.mem_of_mem_take hx)) (by rw [List.length_take]; omega) a1 q (by omega) hqB
              refine ⟨r, hgr, hnext r (Ev.step (fun k => by rw [runs_Decode.l0, if_neg (by rw [ints_length]; omega)]) (hr1 (O ++ X) rfl (by simpa using hany))), href r (Ev.step (fun k => by rw [columbariumref5_Decode.l0, if_neg (by rw [ints_length, List.length_take]; omega)]) hr2)⟩
    · obtain ⟨r, hgr, hr1, hr2⟩ := last_both hB hl hw hn (T := O) hO (by omega) a1 a h1 h2
      refine ⟨r, hgr, Ev.step (fun k => by rw [runs_Decode.l0, if_neg (by rw [ints_length]; omega)]) (hr1 O (List.take_of_length_le (by omega)) (by rw [List.drop_eq_nil_of_le (by rw [ints_length]; omega)]; rfl)), Ev.step (fun k => by rw [columbariumref5_Decode.l0, if_neg (by rw [ints_length]; omega)]) hr2⟩
end
theorem dec_both {B : List Nat} (hB : ∀ x ∈ B, x < 256) (hl : B.length ≤ 140737488351232) (a1 a2 a3 : Int) :
    ∃ r, Good r ∧ Ev (fun k => runs_Decode.f k (ints B) a1 a2 a3) r ∧ Ev (fun k => columbariumref5_Decode.f k (ints B) a1 a2 a3) r := by
  have hc : (ints B).length ≤ 140737488355328 := by rw [ints_length]; omega
  have hbad : ∀ e : Int, (∀ k, runs_Decode.f k (ints B) a1 a2 a3 = some ([], 0, e)) → (∀ k, columbariumref5_Decode.f k (ints B) a1 a2 a3 = some ([], 0, e)) → ∃ r, Good r ∧ Ev (fun k => runs_Decode.f k (ints B) a1 a2 a3) r ∧ Ev (fun k => columbariumref5_Decode.f k (ints B) a1 a2 a3) r := fun e h1 h2 =>
    ⟨_, good_nil 0 e, Ev.congr (f := fun _ => some _) h1 (Ev.now _), Ev.congr (f := fun _ => some _) h2 (Ev.now _)⟩
  by_cases c1 : a3 < 0
  · exact hbad 15 (fun k => by rw [runs_Decode.f, if_pos hc, if_pos c1]) (fun k => by rw [columbariumref5_Decode.f, if_pos hc, if_pos c1])
  by_cases c2 : a3 > 32
  · exact hbad 15 (fun k => by rw [runs_Decode.f, if_pos hc, if_neg c1, if_pos c2]) (fun k => by rw [columbariumref5_Decode.f, if_pos hc, if_neg c1, if_pos c2])
  by_cases c3 : a2 < 0
  · exact hbad 1 (fun k => by rw [runs_Decode.f, if_pos hc, if_neg c1, if_neg c2, if_pos c3]) (fun k => by rw [columbariumref5_Decode.f, if_pos hc, if_neg c1, if_neg c2, if_pos c3])
  by_cases c4 : a2 > 1048576
  · exact hbad 1 (fun k => by rw [runs_Decode.f, if_pos hc, if_neg c1, if_neg c2, if_neg c3, if_pos c4]) (fun k => by rw [columbariumref5_Decode.f, if_pos hc, if_neg c1, if_neg c2, if_neg c3, if_pos c4])
  by_cases c5 : a1 < 0
  · exact hbad 1 (fun k => by rw [runs_Decode.f, if_pos hc, if_neg c1, if_neg c2, if_neg c3, if_neg c4, if_pos c5]) (fun k => by rw [columbariumref5_Decode.f, if_pos hc, if_neg c1, if_neg c2, if_neg c3, if_neg c4, if_pos c5])
  by_cases c6 : a1 > ((ints B).length : Int)
  · exact hbad 1 (fun k => by rw [runs_Decode.f, if_pos hc, if_neg c1, if_neg c2, if_neg c3, if_neg c4, if_neg c5, if_pos c6]) (fun k => by rw [columbariumref5_Decode.f, if_pos hc, if_neg c1, if_neg c2, if_neg c3, if_neg c4, if_neg c5, if_pos c6])
  obtain ⟨p, rfl⟩ := Int.eq_ofNat_of_zero_le (show 0 ≤ a1 by omega)
  obtain ⟨n, rfl⟩ := Int.eq_ofNat_of_zero_le (show 0 ≤ a2 by omega)
  obtain ⟨w, rfl⟩ := Int.eq_ofNat_of_zero_le (show 0 ≤ a3 by omega)
  rw [ints_length] at c6
  obtain ⟨r, hgr, hr1, hr2⟩ := dec_l hB hl (n := n) (w := w) (by omega) (by omega) p _ p [] (Nat.le_refl _) (Nat.le_refl _) (by omega) (by simp) (by simp)
  refine ⟨r, hgr, Ev.congr (fun k => ?_) hr1, Ev.congr (fun k => ?_) hr2⟩
  · rw [runs_Decode.f, if_pos hc, if_neg c1, if_neg c2, if_neg c3, if_neg c4, if_neg c5, if_neg (by rw [ints_length]; exact c6)]
    rfl
  · rw [columbariumref5_Decode.f, if_pos hc, if_neg c1, if_neg c2, if_neg c3, if_neg c4, if_neg c5, if_neg (by rw [ints_length]; exact c6)]
    rfl

end Go.Proofs.Ytodadonpfcefbaa.QDelsReadsB
