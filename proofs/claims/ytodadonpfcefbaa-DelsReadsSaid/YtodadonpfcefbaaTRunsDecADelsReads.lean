/- runs.Decode: what is read, and that what Encode wrote is read again. -/
import Derived.Test.YtodadonpfcefbaaQDelsReadsx9
import Derived.Test.YtodadonpfcefbaaTRADelsReads
import Derived.Test.YtodadonpfcefbaaTUnpackDelsReads
namespace Go.Proofs.Ytodadonpfcefbaa.QDelsReads
open Go.RowKit Go.Proofs.YtodadonpfcefbaaW.PrintWords Go.Proofs.YtodadonpfcefbaaW.PrintLast Go.Proofs.YtodadonpfcefbaaW.PrintMore Go.Proofs.Ytodadonpfcefbaa.Base
set_option linter.unusedVariables false
set_option linter.unusedSimpArgs false
set_option linter.unusedSectionVars false

theorem runs_val_range : ∀ (P : List Int) (k v : Int), 0 ≤ v ∧ v ≤ 18446744073709551615 → 0 ≤ runs_val P k v ∧ runs_val P k v ≤ 18446744073709551615
  | [], _, v, h => h
  | c :: P, k, v, h => runs_val_range P _ _ (bits_range _ _ _)
theorem any_pos : ∀ Z : List Nat, (ints Z).any (fun x => decide (0 < x)) = (ints Z).any (fun x => x != 0)
  | [] => rfl
  | z :: Z => by
    have ih := any_pos Z
    show (decide (0 < (z : Int)) || (ints Z).any _) = (((z : Int) != 0) || (ints Z).any _)
    rw [ih]
    congr 1
    by_cases h : z = 0
    · subst h; rfl
    · rw [decide_eq_true (by omega), (bne_iff_ne.mpr (by omega) : ((z : Int) != 0) = true)]
theorem runs_part_ints (B : List Nat) (a s : Nat) : runs_part (ints B) (a : Int) (s : Int) = ints ((B.take (a + s)).drop a) := by
  unfold runs_part
  rw [show ((a : Int) + (s : Int)).toNat = a + s by omega, show (a : Int).toNat = a from rfl, ints_take, ints_drop]

section
variable {B : List Nat} (hB : ∀ x ∈ B, x < 256) (hl : B.length ≤ 140737488355327) {n w : Nat} (hw : w ≤ 32) (hn : n ≤ 1048576)
include hB hl hw hn
theorem unp_groups (a m : Nat) (hm : m ≤ 131073) (ha : a + m * w ≤ B.length) : ∃ X : List Nat, X.length = 8 * m ∧ (∀ x ∈ X, x < 2 ^ 64) ∧ unp ((B.take (a + m * w)).drop a) ((8 * m : Nat) : Int) (w : Int) = (X, 0) := by
  have hPl : ((B.take (a + m * w)).drop a).length = m * w := by rw [List.length_drop, List.length_take]; omega
  have hPb : ∀ x ∈ (B.take (a + m * w)).drop a, x < 2 ^ 8 := fun x hx => hB x (List.mem_of_mem_take (List.mem_of_mem_drop hx))
  have hs : sizeOf_ ((8 * m : Nat) : Int) (w : Int) = ((m * w : Nat) : Int) := by
    rw [size_nat (by omega) (by omega)]
    congr 1
    rw [Nat.mul_assoc]
    omega
  have hv := val_lt _ hPb
  refine ⟨digits w (8 * m) (val 8 ((B.take (a + m * w)).drop a)), digits_length _ _ _, fun x hx => Nat.lt_of_lt_of_le (digits_lt w _ _ x hx) (Nat.pow_le_pow_right (by decide) (by omega)), ?_⟩
  unfold unp
  rw [if_neg (by omega), if_neg (by omega), hs, hPl, if_neg (by omega), if_neg (by omega), if_neg ?_]
  · rfl
  · rw [hPl] at hv
    rw [Int.toNat_natCast, Int.toNat_natCast, Nat.mul_assoc]
    omega
theorem grp_ev {O X : List Nat} (a m : Nat) (g1' : ¬ ((0 : Int) < (w : Int) ∧ ((ints B).length : Int) < (m : Int))) (hsz : IntKind.u64.wrap ((m : Int) * (w : Int)) = ((m * w : Nat) : Int)) (g2 : a + m * w ≤ B.length) (g3 : ¬ (m = 0 ∨ (n - O.length + 7) / 8 < m)) (hOn : O.length < n) (hXl : X.length = 8 * m) (hu : unp ((B.take (a + m * w)).drop a) ((8 * m : Nat) : Int) (w : Int) = (X, 0)) :
    Ev (fun k => runs_groups.f k (ints B) (ints O) (a : Int) (n : Int) (w : Int) (m : Int)) (0, ((a + m * w : Nat) : Int), ints (O ++ X)) := by
  have hPl : ((B.take (a + m * w)).drop a).length ≤ 140737488351232 := by
    have hmw : m * w ≤ 131073 * 32 := Nat.mul_le_mul (by omega) hw
    rw [List.length_drop, List.length_take]
    omega
  have hPb : ∀ x ∈ (B.take (a + m * w)).drop a, x < 256 := fun x hx => hB x (List.mem_of_mem_take (List.mem_of_mem_drop hx))
  have hU := unpack_ev hPb hPl ((8 * m : Nat) : Int) (w : Int)
  rw [hu] at hU
  have hU : Ev (fun k => bits_Unpack.f k (ints ((B.take (a + m * w)).drop a)) ((8 * m : Nat) : Int) (w : Int)) (ints X, 0) := hU
  refine Ev.congr (f := fun k => (bits_Unpack.f k (ints ((B.take (a + m * w)).drop a)) ((8 * m : Nat) : Int) (w : Int)).bind fun t => if t.1.length ≤ 1048584 then some (t.2, (a : Int) + ((m * w : Nat) : Int), if t.2 = 0 then ints O ++ t.1 else ints O) else none) (fun k => ?_) ?_
  · rw [runs_groups.f, if_neg g1', hsz, if_neg (by rw [ints_length]; omega), if_neg (by rw [ints_length]; omega), runs_part_ints]
    rfl
  · refine Ev.bind hU (Ev.congr (f := fun _ => some _) (fun k => ?_) (Ev.now _))
    rw [if_pos (by rw [ints_length]; omega), if_pos rfl, ints_append]
    rfl
theorem grp_one {O : List Nat} (hO : ∀ x ∈ O, x < 2 ^ 64) (hOn : O.length < n) (a m : Nat) (ha : a ≤ B.length) (hm : m < 2 ^ 64) :
    (∃ e p o, e ≠ 0 ∧ Ev (fun k => runs_groups.f k (ints B) (ints O) (a : Int) (n : Int) (w : Int) (m : Int)) (e, p, o)) ∨
    (∃ (X : List Nat) (q : Nat), (∀ x ∈ X, x < 2 ^ 64) ∧ a ≤ q ∧ q ≤ B.length ∧ X.length ≤ 1048584 ∧ Ev (fun k => runs_groups.f k (ints B) (ints O) (a : Int) (n : Int) (w : Int) (m : Int)) (0, (q : Int), ints (O ++ X))) := by
  have hend : ∀ g : Nat → Option (Int × Int × List Int), (∀ k, g k = some (10, (a : Int), ints O)) → Ev g (10, (a : Int), ints O) := fun g h => Ev.congr (f := fun _ => some _) h (Ev.now _)
  by_cases g1 : 0 < w ∧ B.length < m
  · exact .inl ⟨10, _, _, by decide, hend _ fun k => by rw [runs_groups.f, if_pos ⟨by omega, by rw [ints_length]; omega⟩]⟩
  have hmw : 0 < w → m ≤ B.length := fun h => by
    by_cases h2 : B.length < m
    · exact absurd ⟨h, h2⟩ g1
    · omega
  have hsz : IntKind.u64.wrap ((m : Int) * (w : Int)) = ((m * w : Nat) : Int) := by
    rw [← Int.natCast_mul]
    by_cases h : 0 < w
    · have h1 := hmw h
      have h2 : m * w ≤ 140737488355328 * 32 := Nat.mul_le_mul (by omega) hw
      exact wu64 (by omega) (by omega)
    · rw [show w = 0 by omega, Nat.mul_zero]
      rfl
  have g1' : ¬ ((0 : Int) < (w : Int) ∧ ((ints B).length : Int) < (m : Int)) := by rw [ints_length]; omega
  by_cases g2 : B.length - a < m * w
  · exact .inl ⟨10, _, _, by decide, hend _ fun k => by rw [runs_groups.f, if_neg g1', hsz, if_pos (by rw [ints_length]; omega)]⟩
  by_cases g3 : m = 0 ∨ (n - O.length + 7) / 8 < m
  · exact .inl ⟨12, (a : Int) + ((m * w : Nat) : Int), ints O, by decide, Ev.congr (f := fun _ => some _) (fun k => by rw [runs_groups.f, if_neg g1', hsz, if_neg (by rw [ints_length]; omega), if_pos (by rw [ints_length]; omega)]) (Ev.now _)⟩
  have hm9 : m ≤ 131073 := by omega
  obtain ⟨X, hXl, hX, hu⟩ := unp_groups hB hl hw hn a m hm9 (by omega)
  exact .inr ⟨X, a + m * w, hX, by omega, by omega, by omega, grp_ev hB hl hw hn a m g1' hsz (by omega) (by omega) (by omega) hXl hu⟩
theorem run_both {O : List Nat} (hO : ∀ x ∈ O, x < 2 ^ 64) (hOn : O.length < n) (a m : Nat) (ha : a ≤ B.length) :
    (∃ e p o, e ≠ 0 ∧ runs_run.f (ints B) (ints O) (a : Int) (n : Int) (w : Int) (m : Int) = (e, p, o)) ∨
    (∃ (X : List Nat) (q : Nat), (∀ x ∈ X, x < 2 ^ 64) ∧ a ≤ q ∧ q ≤ B.length ∧ (O ++ X).length ≤ n ∧ runs_run.f (ints B) (ints O) (a : Int) (n : Int) (w : Int) (m : Int) = (0, (q : Int), ints (O ++ X))) := by
  unfold runs_run.f
  by_cases c1 : ((ints B).length : Int) - (a : Int) < ((w : Int) + 7) / 8
  · exact .inl ⟨10, _, _, by decide, by rw [if_pos c1]⟩
  rw [if_neg c1]
  by_cases c2 : (m : Int) = 0 ∨ (n : Int) - (ints O).length < (m : Int)
  · exact .inl ⟨12, _, _, by decide, by rw [if_pos c2]⟩
  rw [if_neg c2]
  have hv := runs_val_range (runs_part (ints B) (a : Int) (((w : Int) + 7) / 8)) 0 0 (by decide)
  obtain ⟨v, hv2⟩ := Int.eq_ofNat_of_zero_le hv.1
  rw [ints_length] at c1 c2
  refine .inr ⟨List.replicate m v, a + (w + 7) / 8, fun x hx => ?_, by omega, by omega, by rw [List.length_append, List.length_replicate]; omega, ?_⟩
  · rw [List.eq_of_mem_replicate hx]
    have := hv.2
    omega
  · rw [hv2, ← ints_append, show (m : Int).toNat = m from rfl]
    have e : (a : Int) + ((w : Int) + 7) / 8 = ((a + (w + 7) / 8 : Nat) : Int) := by omega
    rw [e, ← ints_replicate m v]
end

/-! ### what is read -/
/-- A result of Decode: a refusal without numbers; or numbers, whose bytes are those that were read. -/
def GoodA (B : List Nat) (a1 n : Nat) (w : Int) (r : List Int × Int × Int) : Prop :=
  (r.2.2 ≠ 0 ∧ r.1 = []) ∨ (r.2.2 = 0 ∧ ∃ (R : List Nat) (q : Nat), r.1 = ints R ∧ r.2.1 = (q : Int) ∧ a1 ≤ q ∧ q ≤ B.length ∧ R.length = n ∧ (∀ x ∈ R, x < 2 ^ 64) ∧ (enc R w).2 = 0 ∧ (enc R w).1 = (B.take q).drop a1)
theorem good_no {B : List Nat} {a1 n : Nat} {w a b : Int} (h : b ≠ 0) : GoodA B a1 n w ([], a, b) := .inl ⟨h, rfl⟩
section
variable {B : List Nat} (hB : ∀ x ∈ B, x < 256) (hl : B.length ≤ 140737488355327) {n w : Nat} (hw : w ≤ 32) (hn : n ≤ 1048576)
include hB hl hw hn
def lastR (B T : List Nat) (w a1 a : Nat) : List Int × Int × Int := if (enc T (w : Int)).2 = 0 ∧ (enc T (w : Int)).1 = (B.take a).drop a1 then (ints T, (a : Int), 0) else ([], 0, 12)
theorem last_one {T : List Nat} (hT : ∀ x ∈ T, x < 2 ^ 64) (hTn : T.length = n) (a1 a : Nat) (h1 : a1 ≤ a) (h2 : a ≤ B.length) (Z : List Nat) (hZ : Z.take n = T) (hany : ((ints Z).drop n).any (fun x => x != 0) = false) :
    Ev (fun k => runs_Decode.last k (ints B) (a1 : Int) (n : Int) (w : Int) (a : Int) (ints Z)) (lastR B T w a1 a) := by
  have he := enc_ev hT (by omega) (w : Int)
  refine Ev.congr (f := fun k => (runs_Encode.f k (ints T) (w : Int)).bind fun t => if t.2 = 0 then (if (a1 : Int) ≤ (a : Int) then (bytes_Equal.f t.1 (((ints B).take (a : Int).toNat).drop (a1 : Int).toNat)).bind fun b => if b = true then some (ints T, (a : Int), (0 : Int)) else some ([], 0, 12) else none) else some ([], 0, 12)) (fun k => ?_) ?_
  · rw [runs_Decode.last, show ((n : Nat) : Int).toNat = n from rfl, ints_drop, any_pos, ← ints_drop, if_neg (by rw [hany]; decide), ints_take, hZ]
  · refine Ev.bind he (Ev.congr (f := fun _ => some (lastR B T w a1 a)) (fun k => ?_) (Ev.now _))
    unfold lastR
    by_cases h0 : (enc T (w : Int)).2 = 0
    · have hM : ∀ x ∈ (B.take a).drop a1, x < 256 := fun x hx => hB x (List.mem_of_mem_take (List.mem_of_mem_drop hx))
      rw [if_pos h0, if_pos (by omega), bytes_Equal.f, Option.bind_some, show (a : Int).toNat = a from rfl, show (a1 : Int).toNat = a1 from rfl, ints_take, ints_drop]
      by_cases h3 : (enc T (w : Int)).1 = (B.take a).drop a1
      · rw [if_pos (beq_iff_eq.mpr ((str_inj (enc_bytes _ _) hM).2 h3)), if_pos ⟨h0, h3⟩]
      · rw [if_neg (fun h => h3 ((str_inj (enc_bytes _ _) hM).1 (beq_iff_eq.mp h))), if_neg (fun h => h3 h.2)]
    · rw [if_neg h0, if_neg (fun h => h0 h.1)]
omit hB hl hw hn in
theorem lastR_good {T : List Nat} (hT : ∀ x ∈ T, x < 2 ^ 64) (hTn : T.length = n) (a1 a : Nat) (h1 : a1 ≤ a) (h2 : a ≤ B.length) : GoodA B a1 n (w : Int) (lastR B T w a1 a) := by
  unfold lastR
  split
  · rename_i h
    exact .inr ⟨rfl, T, a, rfl, rfl, h1, h2, hTn, hT, h.1, h.2⟩
  · exact good_no (by decide)
/-- One round, whose head is known. -/
theorem round_ev {O : List Nat} (hOn : O.length < n) (a1 a e hd : Nat) (hget : getS B (a : Int) = ((hd : Int), (e : Int), 0)) (hhd : hd < 2 ^ 64) (he : e ≤ B.length) {s : Int × Int × List Int} (hs : Ev (fun k => runs_Decode.step k (ints B) (n : Int) (w : Int) (hd : Int) (e : Int) (ints O)) s) {r : List Int × Int × Int}
    (hr : Ev (fun k => if s.1 = 0 then (if 0 ≤ s.2.1 ∧ s.2.1 ≤ ((ints B).length : Int) then runs_Decode.l0 k (ints B) (a1 : Int) (n : Int) (w : Int) s.2.1 s.2.2 else none) else some ([], 0, s.1)) r) :
    Ev (fun k => runs_Decode.l0 k (ints B) (a1 : Int) (n : Int) (w : Int) (a : Int) (ints O)) r := by
  have hg := get_ev hB hl (a : Int)
  rw [hget] at hg
  refine Ev.step (f := fun k => (varint_Get.f k (ints B) (a : Int)).bind fun t => if t.2.2 = 0 then (if (0 ≤ t.1 ∧ t.1 ≤ 18446744073709551615) ∧ (0 ≤ t.2.1 ∧ t.2.1 ≤ ((ints B).length : Int)) then ((runs_Decode.step k (ints B) (n : Int) (w : Int) t.1 t.2.1 (ints O)).bind fun s => if s.1 = 0 then (if 0 ≤ s.2.1 ∧ s.2.1 ≤ ((ints B).length : Int) then runs_Decode.l0 k (ints B) (a1 : Int) (n : Int) (w : Int) s.2.1 s.2.2 else none) else some ([], 0, s.1)) else none) else some ([], 0, t.2.2))
    (fun k => by rw [runs_Decode.l0, if_pos (by rw [ints_length]; omega)]) (Ev.bind hg ?_)
  have hguard : ((0 : Int) ≤ (hd : Int) ∧ (hd : Int) ≤ 18446744073709551615) ∧ ((0 : Int) ≤ (e : Int) ∧ (e : Int) ≤ ((ints B).length : Int)) := by rw [ints_length]; omega
  exact Ev.congr (fun k => by rw [if_pos rfl, if_pos hguard]) (Ev.bind hs hr)
theorem step_run (O : List Nat) (e hd : Nat) (h : hd % 2 = 0) {s : Int × Int × List Int} (hs : runs_run.f (ints B) (ints O) (e : Int) (n : Int) (w : Int) ((hd / 2 : Nat) : Int) = s) : Ev (fun k => runs_Decode.step k (ints B) (n : Int) (w : Int) (hd : Int) (e : Int) (ints O)) s :=
  Ev.congr (f := fun _ => some s) (fun k => by rw [runs_Decode.step, if_pos (by omega), show (hd : Int) / 2 = ((hd / 2 : Nat) : Int) by omega, hs]) (Ev.now _)
theorem step_grp (O : List Nat) (e hd : Nat) (h : hd % 2 = 1) {s : Int × Int × List Int} (hs : Ev (fun k => runs_groups.f k (ints B) (ints O) (e : Int) (n : Int) (w : Int) ((hd / 2 : Nat) : Int)) s) : Ev (fun k => runs_Decode.step k (ints B) (n : Int) (w : Int) (hd : Int) (e : Int) (ints O)) s :=
  Ev.congr (fun k => by rw [runs_Decode.step, if_neg (by omega), show (hd : Int) / 2 = ((hd / 2 : Nat) : Int) by omega]) hs
theorem dec_one (a1 : Nat) : ∀ d (a : Nat) (O : List Nat), B.length - a ≤ d → a1 ≤ a → a ≤ B.length → O.length ≤ n → (∀ x ∈ O, x < 2 ^ 64) →
    ∃ r, GoodA B a1 n (w : Int) r ∧ Ev (fun k => runs_Decode.l0 k (ints B) (a1 : Int) (n : Int) (w : Int) (a : Int) (ints O)) r := by
  intro d
  induction d using Nat.strongRecOn with
  | _ d ih =>
    intro a O hd h1 h2 hOn hO
    by_cases hlt : O.length < n
    · have hgood : ((0 ≤ (getS B (a : Int)).1 ∧ (getS B (a : Int)).1 ≤ 18446744073709551615) ∧ ((getS B (a : Int)).2.2 = 0 → (a : Int) < (getS B (a : Int)).2.1 ∧ (getS B (a : Int)).2.1 ≤ (B.length : Int))) := by
        unfold getS
        rw [if_neg (by omega)]
        have := getR_good (B.drop (a : Int).toNat) (a : Int).toNat
        rw [List.length_drop, show (a : Int).toNat = a from rfl] at this
        rw [show (a : Int).toNat = a from rfl]
        refine ⟨this.1, fun h => ?_⟩
        have := this.2 h
        omega
      obtain ⟨t, ht⟩ : ∃ t, getS B (a : Int) = t := ⟨_, rfl⟩
      rw [ht] at hgood
      obtain ⟨t1, t2, t3⟩ := t
      by_cases ht3 : t3 = 0
      case neg =>
        have hg := get_ev hB hl (a : Int)
        rw [ht] at hg
        refine ⟨_, good_no (a := 0) ht3, Ev.step (f := fun k => (varint_Get.f k (ints B) (a : Int)).bind fun t => if t.2.2 = 0 then (if (0 ≤ t.1 ∧ t.1 ≤ 18446744073709551615) ∧ (0 ≤ t.2.1 ∧ t.2.1 ≤ ((ints B).length : Int)) then ((runs_Decode.step k (ints B) (n : Int) (w : Int) t.1 t.2.1 (ints O)).bind fun s => if s.1 = 0 then (if 0 ≤ s.2.1 ∧ s.2.1 ≤ ((ints B).length : Int) then runs_Decode.l0 k (ints B) (a1 : Int) (n : Int) (w : Int) s.2.1 s.2.2 else none) else some ([], 0, s.1)) else none) else some ([], 0, t.2.2))
          (fun k => by rw [runs_Decode.l0, if_pos (by rw [ints_length]; omega)]) (Ev.bind hg (Ev.congr (f := fun _ => some _) (fun k => by rw [if_neg ht3]) (Ev.now _)))⟩
      subst ht3
      obtain ⟨hq1, hq2⟩ := hgood
      have hq2 := hq2 rfl
      simp only at hq1 hq2
      obtain ⟨e, rfl⟩ := Int.eq_ofNat_of_zero_le (show 0 ≤ t2 by omega)
      obtain ⟨hd', rfl⟩ := Int.eq_ofNat_of_zero_le hq1.1
      by_cases hev : hd' % 2 = 0
      · rcases run_both hB hl hw hn hO hlt e (hd' / 2) (by omega) with ⟨er, p, o, her, hrun⟩ | ⟨X, q, hX, hq, hqB, hXn, hrun⟩
        · exact ⟨_, good_no (a := 0) her, round_ev hB hl hw hn hlt a1 a e hd' ht (by omega) (by omega) (step_run hB hl hw hn O e hd' hev hrun) (Ev.congr (f := fun _ => some _) (fun k => by rw [if_neg her]) (Ev.now _))⟩
        · obtain ⟨r, hgr, hr1⟩ := ih (B.length - q) (by omega) q (O ++ X) (Nat.le_refl _) (by omega) hqB hXn (fun x hx => (List.mem_append.1 hx).elim (hO x) (hX x))
          exact ⟨r, hgr, round_ev hB hl hw hn hlt a1 a e hd' ht (by omega) (by omega) (step_run hB hl hw hn O e hd' hev hrun) (Ev.congr (fun k => by rw [if_pos rfl, if_pos ⟨show (0 : Int) ≤ (q : Int) by omega, show (q : Int) ≤ ((ints B).length : Int) by rw [ints_length]; omega⟩]) hr1)⟩
      · rcases grp_one hB hl hw hn hO hlt e (hd' / 2) (by omega) (by omega) with ⟨er, p, o, her, g1⟩ | ⟨X, q, hX, hq, hqB, hXl, g1⟩
        · exact ⟨_, good_no (a := 0) her, round_ev hB hl hw hn hlt a1 a e hd' ht (by omega) (by omega) (step_grp hB hl hw hn O e hd' (by omega) g1) (Ev.congr (f := fun _ => some _) (fun k => by rw [if_neg her]) (Ev.now _))⟩
        · have hOX : ∀ x ∈ O ++ X, x < 2 ^ 64 := fun x hx => (List.mem_append.1 hx).elim (hO x) (hX x)
          have hnext : ∀ r, Ev (fun k => runs_Decode.l0 k (ints B) (a1 : Int) (n : Int) (w : Int) (q : Int) (ints (O ++ X))) r → Ev (fun k => runs_Decode.l0 k (ints B) (a1 : Int) (n : Int) (w : Int) (a : Int) (ints O)) r := fun r hr =>
            round_ev hB hl hw hn hlt a1 a e hd' ht (by omega) (by omega) (step_grp hB hl hw hn O e hd' (by omega) g1) (Ev.congr (fun k => by rw [if_pos rfl, if_pos ⟨show (0 : Int) ≤ (q : Int) by omega, show (q : Int) ≤ ((ints B).length : Int) by rw [ints_length]; omega⟩]) hr)
          by_cases hfull : (O ++ X).length < n
          · obtain ⟨r, hgr, hr1⟩ := ih (B.length - q) (by omega) q (O ++ X) (Nat.le_refl _) (by omega) hqB (by omega) hOX
            exact ⟨r, hgr, hnext r hr1⟩
          · by_cases hany : ((ints (O ++ X)).drop n).any (fun x => x != 0) = true
            · refine ⟨_, good_no (a := 0) (b := 12) (by decide), hnext _ (Ev.step (f := fun _ => some _) (fun k => ?_) (Ev.now _))⟩
              rw [runs_Decode.l0, if_neg (by rw [ints_length]; omega), runs_Decode.last, show ((n : Nat) : Int).toNat = n from rfl, ints_drop, any_pos, ← ints_drop, if_pos hany]
            · have hT : ∀ x ∈ (O ++ X).take n, x < 2 ^ 64 := fun x hx => hOX x (List.mem_of_mem_take hx)
              have hTn : ((O ++ X).take n).length = n := by rw [List.length_take]; omega
              exact ⟨_, lastR_good hT hTn a1 q (by omega) hqB, hnext _ (Ev.step (fun k => by rw [runs_Decode.l0, if_neg (by rw [ints_length]; omega)]) (last_one hB hl hw hn hT hTn a1 q (by omega) hqB (O ++ X) rfl (by simpa using hany)))⟩
    · exact ⟨_, lastR_good hO (by omega) a1 a h1 h2, Ev.step (fun k => by rw [runs_Decode.l0, if_neg (by rw [ints_length]; omega)]) (last_one hB hl hw hn hO (by omega) a1 a h1 h2 O (List.take_of_length_le (by omega)) (by rw [List.drop_eq_nil_of_le (by rw [ints_length]; omega)]; rfl))⟩
theorem dec_ev (a1 : Nat) (h1 : a1 ≤ B.length) : ∃ r, GoodA B a1 n (w : Int) r ∧ Ev (fun k => runs_Decode.f k (ints B) (a1 : Int) (n : Int) (w : Int)) r := by
  obtain ⟨r, hg, hr⟩ := dec_one hB hl hw hn a1 _ a1 [] (Nat.le_refl _) (Nat.le_refl _) h1 (by simp) (by simp)
  refine ⟨r, hg, Ev.congr (fun k => ?_) hr⟩
  rw [runs_Decode.f, if_pos (by rw [ints_length]; omega), if_neg (by omega), if_neg (by omega), if_neg (by omega), if_neg (by omega), if_neg (by omega), if_neg (by rw [ints_length]; omega)]
  rfl
end

end Go.Proofs.Ytodadonpfcefbaa.QDelsReads
