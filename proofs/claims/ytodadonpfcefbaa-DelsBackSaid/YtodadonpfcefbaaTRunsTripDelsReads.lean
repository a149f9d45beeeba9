/- What runs.Encode wrote, runs.Decode reads. -/
import Derived.Test.YtodadonpfcefbaaTRunsDecADelsReads
namespace Go.Proofs.Ytodadonpfcefbaa.QDelsReads
open Go.RowKit Go.Proofs.YtodadonpfcefbaaW.PrintWords Go.Proofs.YtodadonpfcefbaaW.PrintLast Go.Proofs.YtodadonpfcefbaaW.PrintMore Go.Proofs.Ytodadonpfcefbaa.Base
set_option linter.unusedVariables false
set_option linter.unusedSimpArgs false
set_option linter.unusedSectionVars false

/-! ### a number that was put is got -/
theorem moreN_put : ∀ (v : Nat) (R : List Nat), moreN (putN v ++ R) + 1 = (putN v).length := by
  intro v
  induction v using Nat.strongRecOn with
  | _ v ih =>
    intro R
    by_cases h : v < 128
    · rw [putN_small h]
      simp [moreN, show ¬ 128 ≤ v by omega]
    · have := ih (v / 128) (by omega) R
      rw [putN_big h]
      simp only [moreN, List.cons_append, List.length_cons] at this ⊢
      rw [List.takeWhile_cons_of_pos (by simp), List.length_cons]
      omega
theorem putN_pos (v : Nat) : 0 < (putN v).length := by
  have := moreN_put v []
  omega
theorem putN_last : ∀ v : Nat, 0 < v → (putN v).getD ((putN v).length - 1) 0 ≠ 0 := by
  intro v
  induction v using Nat.strongRecOn with
  | _ v ih =>
    intro h0
    by_cases h : v < 128
    · rw [putN_small h]
      simpa using by omega
    · have := ih (v / 128) (by omega) (by omega)
      have hp := putN_pos (v / 128)
      rw [putN_big h, List.length_cons, Nat.add_sub_cancel]
      obtain ⟨m, hm⟩ : ∃ m, (putN (v / 128)).length = m + 1 := ⟨(putN (v / 128)).length - 1, by omega⟩
      rw [hm] at this ⊢
      rw [List.getD_cons_succ]
      simpa using this
theorem putN_digit : ∀ (j v : Nat), j < (putN v).length → (putN v).getD j 0 % 128 = v / 128 ^ j % 128
  | 0, v, _ => by
    by_cases h : v < 128
    · rw [putN_small h]; simp
    · rw [putN_big h]; simp
  | j + 1, v, hj => by
    by_cases h : v < 128
    · rw [putN_small h] at hj
      simp at hj
    · rw [putN_big h] at hj ⊢
      have := putN_digit j (v / 128) (by simpa using hj)
      rw [List.getD_cons_succ, this, Nat.div_div_eq_div_mul, Nat.pow_succ, Nat.mul_comm (128 ^ j)]
theorem putN_bound : ∀ v : Nat, v < 128 ^ (putN v).length := by
  intro v
  induction v using Nat.strongRecOn with
  | _ v ih =>
    by_cases h : v < 128
    · rw [putN_small h]; simpa using h
    · have := ih (v / 128) (by omega)
      rw [putN_big h, List.length_cons, Nat.pow_succ]
      omega
theorem or_shift {a x i : Nat} (ha : a < 2 ^ i) : a ||| x <<< i = a + 2 ^ i * x := by
  rw [Nat.shiftLeft_eq, Nat.mul_comm x, Nat.or_comm, ← Nat.two_pow_add_eq_or_of_lt ha]
  omega
theorem gv_put {v : Nat} (hv : v < 2 ^ 28) (R : List Nat) : ∀ j, j ≤ (putN v).length → gv (putN v ++ R) j = ((v % 2 ^ (7 * j) : Nat) : Int)
  | 0, _ => by simp [gv, Nat.mod_one]
  | j + 1, hj => by
    have hlen : (putN v).length ≤ 4 := putN_length 3 v (Nat.lt_of_lt_of_le hv (by decide))
    have ih := gv_put hv R j (by omega)
    have hd := putN_digit j v (by omega)
    have hb : (putN v).getD j 0 < 256 := getD_lt (by decide) (putN_lt v) j
    have hg : (putN v ++ R).getD j 0 = (putN v).getD j 0 := by
      rw [List.getD_eq_getElem?_getD, List.getD_eq_getElem?_getD, List.getElem?_append_left (by omega)]
    have hp : 2 ^ (7 * j) ≤ 2 ^ 21 := Nat.pow_le_pow_right (by decide) (by omega)
    have h0 := Nat.two_pow_pos (7 * j)
    have hm : v % 2 ^ (7 * j) < 2 ^ (7 * j) := Nat.mod_lt _ h0
    have hx : v / 2 ^ (7 * j) % 128 < 128 := Nat.mod_lt _ (by decide)
    have hs : (v / 2 ^ (7 * j) % 128) <<< (7 * j) < 2 ^ 28 := by
      rw [Nat.shiftLeft_eq]
      calc (v / 2 ^ (7 * j) % 128) * 2 ^ (7 * j) < 128 * 2 ^ (7 * j) := Nat.mul_lt_mul_of_pos_right hx h0
        _ ≤ 128 * 2 ^ 21 := Nat.mul_le_mul_left _ hp
        _ = 2 ^ 28 := by decide
    rw [gv, gstep, ih, hg, show (127 : Int) = ((127 : Nat) : Int) from rfl, and8 hb (by decide), show (127 : Nat) = 2 ^ 7 - 1 from rfl, Nat.and_two_pow_sub_one_eq_mod, show (2 : Nat) ^ 7 = 128 from rfl, hd, show (128 : Nat) ^ j = 2 ^ (7 * j) from by rw [show (128 : Nat) = 2 ^ 7 from rfl, ← Nat.pow_mul]]
    rw [wu64 (by omega) (by omega), shl64 (by omega), Nat.mod_eq_of_lt (a := (v / 2 ^ (7 * j) % 128) <<< (7 * j)) (by omega), or64 (by omega) (by omega), or_shift hm, show 7 * (j + 1) = 7 * j + 7 by omega, Nat.pow_add, show (2 : Nat) ^ 7 = 128 from rfl, Nat.mod_mul]
theorem getS_put {B R : List Nat} {p v : Nat} (hv : v < 2 ^ 28) (hB : B.drop p = putN v ++ R) (hp : p ≤ B.length) : getS B (p : Int) = ((v : Int), ((p + (putN v).length : Nat) : Int), 0) := by
  have hm := moreN_put v R
  have hpos := putN_pos v
  have hlen : (putN v).length ≤ 4 := putN_length 3 v (Nat.lt_of_lt_of_le hv (by decide))
  have hg : (putN v ++ R).getD (moreN (putN v ++ R)) 0 = (putN v).getD ((putN v).length - 1) 0 := by
    rw [show moreN (putN v ++ R) = (putN v).length - 1 by omega, List.getD_eq_getElem?_getD, List.getD_eq_getElem?_getD, List.getElem?_append_left (by omega)]
  unfold getS
  rw [if_neg (by omega), show (p : Int).toNat = p from rfl, hB, getR, if_neg (by rw [List.length_append]; omega), if_neg ?_]
  · rw [hm, gv_put hv R _ (Nat.le_refl _), Nat.mod_eq_of_lt (a := v) (by rw [Nat.pow_mul]; exact putN_bound v), show p + moreN (putN v ++ R) + 1 = p + (putN v).length by omega]
  · rw [hg]
    rintro (h | ⟨h, _⟩ | ⟨h, hz⟩)
    · omega
    · omega
    · refine putN_last v ?_ hz
      rcases Nat.eq_zero_or_pos v with h0 | h0
      · subst h0
        rw [putN_small (show 0 < 128 by decide)] at hm h
        simp only [List.length_singleton] at hm
        omega
      · exact h0

/-! ### a run's number -/
theorem few_val {v c : Nat} (hc : c ≤ 4) (d : Nat) : ∀ j, c - j = d → j ≤ c → runs_val (ints ((fewN v c).drop j)) (j : Int) ((v % 2 ^ (8 * j) : Nat) : Int) = ((v % 2 ^ (8 * c) : Nat) : Int) := by
  induction d with
  | zero =>
    intro j hd hj
    obtain rfl : j = c := by omega
    rw [List.drop_eq_nil_of_le (by rw [fewN_length]; omega)]
    rfl
  | succ d ih =>
    intro j hd hj
    have hg : (fewN v c).getD j 0 = (v >>> (8 * j)) % 256 := by
      simp [fewN, List.getD_eq_getElem?_getD, List.getElem?_map, List.getElem?_range (show j < c by omega)]
    have hp : 2 ^ (8 * j) ≤ 2 ^ 24 := Nat.pow_le_pow_right (by decide) (by omega)
    have h0 := Nat.two_pow_pos (8 * j)
    have hm : v % 2 ^ (8 * j) < 2 ^ (8 * j) := Nat.mod_lt _ h0
    have hx : v / 2 ^ (8 * j) % 256 < 256 := Nat.mod_lt _ (by decide)
    have hs : (v / 2 ^ (8 * j) % 256) <<< (8 * j) < 2 ^ 32 := by
      rw [Nat.shiftLeft_eq]
      have h1 : (v / 2 ^ (8 * j) % 256) * 2 ^ (8 * j) < 256 * 2 ^ (8 * j) := Nat.mul_lt_mul_of_pos_right hx h0
      have h2 : 256 * 2 ^ (8 * j) ≤ 256 * 2 ^ 24 := Nat.mul_le_mul_left _ hp
      omega
    rw [drop_cons _ j (by rw [fewN_length]; omega), hg, Nat.shiftRight_eq_div_pow]
    show runs_val (ints ((fewN v c).drop (j + 1))) ((j : Int) + 1) (Go.bits .or .u64 ((v % 2 ^ (8 * j) : Nat) : Int) (shl .u64 (IntKind.u64.wrap ((v / 2 ^ (8 * j) % 256 : Nat) : Int)) (8 * (j : Int)))) = _
    rw [wu64 (by omega) (by omega), show 8 * (j : Int) = ((8 * j : Nat) : Int) by omega, shl64 (by omega), Nat.mod_eq_of_lt (a := (v / 2 ^ (8 * j) % 256) <<< (8 * j)) (by omega), or64 (by omega) (by omega), or_shift hm, show (256 : Nat) = 2 ^ 8 from rfl, ← Nat.mod_mul, ← Nat.pow_add, show 8 * j + 8 = 8 * (j + 1) by omega]
    exact ih (j + 1) (by omega) (by omega)
theorem few_val0 {v c : Nat} (hc : c ≤ 4) (hv : v < 2 ^ (8 * c)) : runs_val (ints (fewN v c)) 0 0 = (v : Int) := by
  have := few_val (v := v) hc _ 0 rfl (by omega)
  rw [List.drop_zero, Nat.mod_eq_of_lt (a := v) hv] at this
  simpa [Nat.mod_one] using this

/-! ### groups -/
theorem unp_packed {C : List Nat} {g w : Nat} (hw : w ≤ 32) (hg : g ≤ 131073) (hl : C.length = 8 * g) (hC : ∀ x ∈ C, x < 2 ^ w) : unp (packed C w) ((8 * g : Nat) : Int) (w : Int) = (C, 0) := by
  have hb : (C.length * w + 7) / 8 = g * w := by rw [hl, Nat.mul_assoc]; omega
  have hs : sizeOf_ ((8 * g : Nat) : Int) (w : Int) = ((g * w : Nat) : Int) := by
    rw [size_nat (by omega) (by omega)]
    congr 1
    rw [Nat.mul_assoc]
    omega
  have hpl : (packed C w).length = g * w := by rw [packed_length, hb]
  have hv := val_lt C hC
  have e : w * C.length = 8 * (g * w) := by rw [hl, Nat.mul_comm w, Nat.mul_assoc]
  have hval : val 8 (packed C w) = val w C := by
    rw [packed, val_digits, hb, Nat.mod_eq_of_lt]
    rwa [← e]
  unfold unp
  rw [if_neg (by omega), if_neg (by omega), hs, hpl, if_neg (by omega), if_neg (by omega), hval, if_neg ?_]
  · show (digits w (8 * g) (val w C), (0 : Int)) = (C, 0)
    rw [← hl, digits_val C hC]
  · show ¬ 2 ^ (8 * g * w) ≤ val w C
    rw [← hl, Nat.mul_comm]
    omega

/-! ### the whole -/
theorem encS_out {L : List Nat} {w : Nat} : ∀ d i out, L.length - i ≤ d → encS L w i out = out ++ encS L w i [] := by
  intro d
  induction d using Nat.strongRecOn with
  | _ d ih =>
    intro i out hd
    by_cases hi : i < L.length
    · by_cases h8 : 8 ≤ sameN L i
      · have h1 := fun o => ih (L.length - (i + sameN L i)) (by omega) (i + sameN L i) o (Nat.le_refl _)
        rw [encS_run hi h8, h1, encS_run (out := []) hi h8, h1 ([] ++ _ ++ _)]
        simp only [List.nil_append, List.append_assoc]
      · have h1 := fun o => ih (L.length - (i + 8 * (grpN L (i + 8) + 1))) (by omega) (i + 8 * (grpN L (i + 8) + 1)) o (Nat.le_refl _)
        rw [encS_grp hi h8, h1, encS_grp (out := []) hi h8, h1 ([] ++ _ ++ _)]
        simp only [List.nil_append, List.append_assoc]
    · rw [encS_end (by omega), encS_end (by omega), List.append_nil]
theorem same_take (L : List Nat) (i : Nat) (hi : i < L.length) : L.take i ++ List.replicate (sameN L i) (L.getD i 0) = L.take (i + sameN L i) := by
  have h : (L.drop i).take (sameN L i) = List.replicate (sameN L i) (L.getD i 0) := by
    have e : (L.drop i).take (sameN L i) = (L.drop i).takeWhile (fun x => x == L.getD i 0) := by
      have h1 := List.takeWhile_append_dropWhile (p := fun x => x == L.getD i 0) (l := L.drop i)
      have h2 : (L.drop i).take ((L.drop i).takeWhile (fun x => x == L.getD i 0)).length = (L.drop i).takeWhile (fun x => x == L.getD i 0) := by
        rw [← List.prefix_iff_eq_take.1 (List.takeWhile_prefix _)]
      exact h2
    rw [e]
    refine List.eq_replicate_iff.2 ⟨rfl, fun b hb => ?_⟩
    have := List.all_eq_true.1 (List.all_takeWhile (p := fun x => x == L.getD i 0) (l := L.drop i)) b hb
    simpa using this
  rw [← h, List.take_add]
theorem chunk_take (L : List Nat) (i g : Nat) (hi : i < L.length) : L.take i ++ chunkN L i g = L.take (i + 8 * g) ++ List.replicate (i + 8 * g - L.length) 0 := by
  rw [chunkN, ← List.append_assoc, ← List.take_add, show 8 * g - (L.length - i) = i + 8 * g - L.length by omega]
section
variable {B L : List Nat} (hB : ∀ x ∈ B, x < 256) (hl : B.length ≤ 140737488355327) {w : Nat} (hw : w ≤ 32) (hn : L.length ≤ 1048576) (hL : ∀ x ∈ L, x < 2 ^ w)
include hB hl hw hn hL
theorem trip_l (a1 : Nat) (R : List Nat) : ∀ d (i p : Nat), L.length - i ≤ d → a1 ≤ p → p ≤ B.length → i ≤ L.length + 7 → B.drop p = encS L w i [] ++ R → (B.take (p + (encS L w i []).length)).drop a1 = encS L w 0 [] →
    Ev (fun k => runs_Decode.l0 k (ints B) (a1 : Int) ((L.length : Nat) : Int) (w : Int) (p : Int) (ints (L.take i ++ List.replicate (i - L.length) 0))) (ints L, ((p + (encS L w i []).length : Nat) : Int), 0) := by
  have hL64 : ∀ x ∈ L, x < 2 ^ 64 := fun x hx => Nat.lt_of_lt_of_le (hL x hx) (Nat.pow_le_pow_right (by decide) (by omega))
  intro d
  induction d using Nat.strongRecOn with
  | _ d ih =>
    intro i p hd h1 h2 hi7 hdrop hend
    have hlenB : B.length = p + (encS L w i []).length + R.length := by
      have := congrArg List.length hdrop
      rw [List.length_drop, List.length_append] at this
      omega
    by_cases hi : i < L.length
    · rw [show i - L.length = 0 by omega, List.replicate_zero, List.append_nil]
      have hOl : (L.take i).length = i := by rw [List.length_take]; omega
      by_cases h8 : 8 ≤ sameN L i
      · have hs := sameN_le L i
        have hrest := encS_out (L := L) (w := w) _ (i + sameN L i) ([] ++ putN (2 * sameN L i) ++ fewN (L.getD i 0) ((w + 7) / 8)) (Nat.le_refl _)
        rw [← encS_run hi h8, List.nil_append] at hrest
        rw [hrest, List.append_assoc, List.append_assoc] at hdrop
        have hget := getS_put (v := 2 * sameN L i) (by omega) hdrop h2
        have hlen2 : (encS L w i []).length = (putN (2 * sameN L i)).length + (w + 7) / 8 + (encS L w (i + sameN L i) []).length := by rw [hrest, List.length_append, List.length_append, fewN_length]
        have hv : L.getD i 0 < 2 ^ w := getD_lt (Nat.two_pow_pos w) hL i
        have hpart : runs_part (ints B) ((p + (putN (2 * sameN L i)).length : Nat) : Int) (((w : Int) + 7) / 8) = ints (fewN (L.getD i 0) ((w + 7) / 8)) := by
          rw [show ((w : Int) + 7) / 8 = (((w + 7) / 8 : Nat) : Int) by omega, runs_part_ints, ← List.take_drop, ← List.drop_drop, hdrop, List.drop_left, List.take_left' (fewN_length _ _)]
        have hrun : runs_run.f (ints B) (ints (L.take i)) ((p + (putN (2 * sameN L i)).length : Nat) : Int) ((L.length : Nat) : Int) (w : Int) ((2 * sameN L i / 2 : Nat) : Int) = (0, ((p + (putN (2 * sameN L i)).length + (w + 7) / 8 : Nat) : Int), ints (L.take (i + sameN L i))) := by
          unfold runs_run.f
          rw [if_neg (by rw [ints_length]; omega), if_neg (by rw [ints_length, hOl]; omega), hpart, few_val0 (by omega) (Nat.lt_of_lt_of_le hv (Nat.pow_le_pow_right (by decide) (by omega))), show ((2 * sameN L i / 2 : Nat) : Int).toNat = sameN L i by omega, ints_replicate, ints_append, same_take L i hi]
          congr 2
        have hn2 := ih (L.length - (i + sameN L i)) (by omega) (i + sameN L i) (p + (putN (2 * sameN L i)).length + (w + 7) / 8) (Nat.le_refl _) (by omega) (by omega) (by omega) (by
          rw [Nat.add_assoc, ← List.drop_drop, hdrop, ← List.append_assoc, List.drop_left' (by rw [List.length_append, fewN_length])]) (by rw [← hend, hlen2]; congr 2; omega)
        rw [show i + sameN L i - L.length = 0 by omega, List.replicate_zero, List.append_nil] at hn2
        rw [show p + (encS L w i []).length = p + (putN (2 * sameN L i)).length + (w + 7) / 8 + (encS L w (i + sameN L i) []).length by omega]
        refine round_ev hB hl hw hn (by omega) a1 p _ _ hget (by omega) (by omega) (step_run hB hl hw hn _ _ _ (by omega) hrun) (Ev.congr (fun k => by rw [if_pos rfl, if_pos ⟨show (0 : Int) ≤ ((p + (putN (2 * sameN L i)).length + (w + 7) / 8 : Nat) : Int) by omega, show ((p + (putN (2 * sameN L i)).length + (w + 7) / 8 : Nat) : Int) ≤ ((ints B).length : Int) by rw [ints_length]; omega⟩]) hn2)
      · obtain ⟨g, hg⟩ : ∃ g, g = grpN L (i + 8) + 1 := ⟨_, rfl⟩
        have hgl := grpN_le L _ (i + 8) (Nat.le_refl _)
        have hrest := encS_out (L := L) (w := w) _ (i + 8 * g) ([] ++ putN (2 * g + 1) ++ packed (chunkN L i g) w) (Nat.le_refl _)
        rw [hg, ← encS_grp hi h8, ← hg, List.nil_append] at hrest
        rw [hrest, List.append_assoc, List.append_assoc] at hdrop
        have hcl := chunkN_length L i g
        have hpl : (packed (chunkN L i g) w).length = g * w := by rw [packed_length, hcl, Nat.mul_assoc]; omega
        have hget := getS_put (v := 2 * g + 1) (by omega) hdrop h2
        have hlen2 : (encS L w i []).length = (putN (2 * g + 1)).length + g * w + (encS L w (i + 8 * g) []).length := by rw [hrest, List.length_append, List.length_append, hpl]
        have hC : ∀ x ∈ chunkN L i g, x < 2 ^ w := chunkN_lt (Nat.two_pow_pos w) hL i g
        have hpart : (B.take (p + (putN (2 * g + 1)).length + g * w)).drop (p + (putN (2 * g + 1)).length) = packed (chunkN L i g) w := by
          rw [← List.take_drop, ← List.drop_drop, hdrop, List.drop_left, List.take_left' hpl]
        have hu : unp ((B.take (p + (putN (2 * g + 1)).length + g * w)).drop (p + (putN (2 * g + 1)).length)) ((8 * g : Nat) : Int) (w : Int) = (chunkN L i g, 0) := by
          rw [hpart]
          exact unp_packed hw (by omega) hcl hC
        have hgw : 0 < w → g ≤ g * w := fun h => Nat.le_mul_of_pos_right _ h
        have hgw2 : g * w ≤ 131073 * 32 := Nat.mul_le_mul (by omega) hw
        have hge := grp_ev hB hl hw hn (O := L.take i) (X := chunkN L i g) (p + (putN (2 * g + 1)).length) g (by rw [ints_length]; omega) (by rw [← Int.natCast_mul]; exact wu64 (by omega) (by omega)) (by omega) (by rw [hOl]; omega) (by omega) hcl hu
        rw [chunk_take L i g hi] at hge
        have hn2 := ih (L.length - (i + 8 * g)) (by omega) (i + 8 * g) (p + (putN (2 * g + 1)).length + g * w) (Nat.le_refl _) (by omega) (by omega) (by omega) (by
          rw [Nat.add_assoc, ← List.drop_drop, hdrop, ← List.append_assoc, List.drop_left' (by rw [List.length_append, hpl])]) (by rw [← hend, hlen2]; congr 2; omega)
        rw [show p + (encS L w i []).length = p + (putN (2 * g + 1)).length + g * w + (encS L w (i + 8 * g) []).length by omega]
        refine round_ev hB hl hw hn (by omega) a1 p _ _ hget (by omega) (by omega) (step_grp hB hl hw hn _ _ _ (by omega) (by rw [show (2 * g + 1) / 2 = g by omega]; exact hge)) (Ev.congr (fun k => by rw [if_pos rfl, if_pos ⟨show (0 : Int) ≤ ((p + (putN (2 * g + 1)).length + g * w : Nat) : Int) by omega, show ((p + (putN (2 * g + 1)).length + g * w : Nat) : Int) ≤ ((ints B).length : Int) by rw [ints_length]; omega⟩]) hn2)
    · rw [encS_end (by omega)] at hend hdrop hlenB ⊢
      rw [List.length_nil, Nat.add_zero] at hend ⊢
      rw [List.take_of_length_le (by omega)]
      have hwd := (wd_le L w).2 hL
      have he : enc L (w : Int) = (encS L w 0 [], 0) := by unfold enc; rw [if_neg (by omega)]; rfl
      have hlast := last_one hB hl hw hn hL64 rfl a1 p h1 h2 (L ++ List.replicate (i - L.length) 0) (List.take_left' rfl) (by
        rw [ints_drop, List.drop_left' rfl, List.any_eq_false]
        intro x hx
        obtain ⟨y, hy, rfl⟩ := List.mem_map.1 hx
        rw [List.eq_of_mem_replicate hy]
        decide)
      have hR : lastR B L w a1 p = (ints L, (p : Int), 0) := by
        unfold lastR
        rw [he, if_pos ⟨rfl, hend.symm⟩]
      rw [hR] at hlast
      exact Ev.step (fun k => by rw [runs_Decode.l0, if_neg (by rw [ints_length, List.length_append, List.length_replicate]; omega)]) hlast
theorem trip_ev (a1 : Nat) (R : List Nat) (h1 : a1 ≤ B.length) (hdrop : B.drop a1 = (enc L (w : Int)).1 ++ R) : Ev (fun k => runs_Decode.f k (ints B) (a1 : Int) ((L.length : Nat) : Int) (w : Int)) (ints L, ((a1 + (enc L (w : Int)).1.length : Nat) : Int), 0) := by
  have hwd := (wd_le L w).2 hL
  have he : (enc L (w : Int)).1 = encS L w 0 [] := by unfold enc; rw [if_neg (by omega)]; rfl
  rw [he] at hdrop ⊢
  have h := trip_l hB hl hw hn hL a1 R _ 0 a1 (Nat.le_refl _) (Nat.le_refl _) h1 (by omega) hdrop (by
    rw [← List.take_drop, hdrop, List.take_left' rfl])
  refine Ev.congr (fun k => ?_) h
  rw [runs_Decode.f, if_pos (by rw [ints_length]; omega), if_neg (by omega), if_neg (by omega), if_neg (by omega), if_neg (by omega), if_neg (by omega), if_neg (by rw [ints_length]; omega)]
  simp [ints]
end

end Go.Proofs.Ytodadonpfcefbaa.QDelsReads
