/- Filters are built, asked, written and read as the document says, for any texts, filters and bytes. -/
import Derived.Test.YtifcocmmapgebaaTVarGet5BloomTells
namespace Go.Proofs.Ytifcocmmapgebaa.QBloomTells
open Go.RowKit Go.Proofs.YtifcocmmapgebaaW.PrintWords Go.Proofs.YtifcocmmapgebaaW.PrintLast Go.Proofs.YtifcocmmapgebaaW.PrintMore Go.Proofs.Ytifcocmmapgebaa.Base
set_option linter.unusedVariables false
set_option linter.unusedSimpArgs false

/-! ### sizes of filters -/
theorem and_pred {n i : Nat} (h1 : 2 ^ i ≤ n) (h2 : n < 2 ^ (i + 1)) : n &&& (n - 1) = 0 ↔ n = 2 ^ i := by
  constructor
  · intro h
    rcases Nat.lt_or_ge (2 ^ i) n with h3 | h3
    · have b1 : n.testBit i = true := Nat.testBit_of_two_pow_le_and_two_pow_add_one_gt h1 h2
      have b2 : (n - 1).testBit i = true := Nat.testBit_of_two_pow_le_and_two_pow_add_one_gt (by omega) (by omega)
      have b3 : (n &&& (n - 1)).testBit i = true := by rw [Nat.testBit_and, b1, b2]; rfl
      rw [h, Nat.zero_testBit] at b3
      cases b3
    · omega
  · intro h
    rw [h, Nat.and_two_pow_sub_one_eq_mod, Nat.mod_self]
/-- The sizes that a filter may have. -/
def isPow (n : Int) : Prop := n = 64 ∨ n = 128 ∨ n = 256 ∨ n = 512 ∨ n = 1024 ∨ n = 2048 ∨ n = 4096 ∨ n = 8192 ∨ n = 16384 ∨ n = 32768 ∨ n = 65536
instance (n : Int) : Decidable (isPow n) := by unfold isPow; infer_instance
theorem wraps_i64' (n : Int) (h0 : 0 ≤ n) (h1 : n < 2 ^ 63) : IntKind.i64.wrap n = n := by
  have h1' : n < 9223372036854775808 := by simpa using h1
  rw [IntKind.wrap_i64]
  omega
theorem size_f (n : Int) : bloom_size.f n = some (decide (isPow n)) := by
  unfold bloom_size.f
  by_cases h1 : n ≥ 64
  · rw [if_pos h1]
    by_cases h2 : n ≤ 65536
    · rw [if_pos h2]
      obtain ⟨m, rfl⟩ := Int.eq_ofNat_of_zero_le (show 0 ≤ n by omega)
      have e1 : wrap64 ((m : Int) - 1) = ((m - 1 : Nat) : Int) := by rw [w64 (by omega) (by omega)]; omega
      have e2 : Go.bits .and .i64 (m : Int) ((m - 1 : Nat) : Int) = ((m &&& (m - 1) : Nat) : Int) := (bits_nat .i64 63 (by decide) wraps_i64' m (m - 1) (by omega) (by omega)).1
      rw [e1, e2]
      congr 1
      rw [Bool.eq_iff_iff, beq_iff_eq, decide_eq_true_eq]
      have key : ∀ i : Nat, 2 ^ i ≤ m → m < 2 ^ (i + 1) → (((m &&& (m - 1) : Nat) : Int) = 0 ↔ m = 2 ^ i) := fun i a b => by
        rw [← and_pred a b]
        omega
      unfold isPow
      rcases Nat.lt_or_ge m 128 with c | c
      · rw [key 6 (by omega) (by omega)]; omega
      rcases Nat.lt_or_ge m 256 with c | c
      · rw [key 7 (by omega) (by omega)]; omega
      rcases Nat.lt_or_ge m 512 with c | c
      · rw [key 8 (by omega) (by omega)]; omega
      rcases Nat.lt_or_ge m 1024 with c | c
      · rw [key 9 (by omega) (by omega)]; omega
      rcases Nat.lt_or_ge m 2048 with c | c
      · rw [key 10 (by omega) (by omega)]; omega
      rcases Nat.lt_or_ge m 4096 with c | c
      · rw [key 11 (by omega) (by omega)]; omega
      rcases Nat.lt_or_ge m 8192 with c | c
      · rw [key 12 (by omega) (by omega)]; omega
      rcases Nat.lt_or_ge m 16384 with c | c
      · rw [key 13 (by omega) (by omega)]; omega
      rcases Nat.lt_or_ge m 32768 with c | c
      · rw [key 14 (by omega) (by omega)]; omega
      rcases Nat.lt_or_ge m 65536 with c | c
      · rw [key 15 (by omega) (by omega)]; omega
      · rw [key 16 (by omega) (by omega)]; omega
    · rw [if_neg h2, decide_eq_false (by unfold isPow; omega)]
  · rw [if_neg h1, decide_eq_false (by unfold isPow; omega)]
/-- May a filter be? -/
def goodF (n : Int) (B : List Int) : Bool := decide (isPow n) && ((B.length : Int) == wrap64 (Int.tdiv n 8))
theorem bright_f (n : Int) (B : List Int) : bloom_Right.f n B = some (goodF n B) := by
  rw [bloom_Right.f, size_f, Option.bind_some, goodF]
  by_cases h : isPow n
  · rw [decide_eq_true h, if_pos rfl, Bool.true_and]
  · rw [decide_eq_false h, if_neg Bool.false_ne_true, Bool.false_and]
theorem rright_ev (n : Int) (B : List Int) : Ev (fun k => columbariumref9_Right.f k n B) (goodF n B) := by
  have step : ∀ x : Int, x ≤ 65536 → 0 ≤ x → (n = x → goodF n B = ((B.length : Int) == wrap64 (Int.tdiv x 8))) → (n ≠ x → Ev (fun k => columbariumref9_Right.l0 k (2 * x) n B) (goodF n B)) → Ev (fun k => columbariumref9_Right.l0 k x n B) (goodF n B) := by
    intro x hx h0 h1 h2
    by_cases h : n = x
    · rw [h1 h]
      exact Ev.step (f := fun _ => some ((B.length : Int) == wrap64 (Int.tdiv x 8))) (fun k => by rw [columbariumref9_Right.l0, if_pos hx, if_pos h]) (Ev.now _)
    · refine Ev.step (fun k => ?_) (h2 h)
      rw [columbariumref9_Right.l0, if_pos hx, if_neg h, w64 (x := 2 * x) (by omega) (by omega)]
  have at_ : ∀ x : Int, isPow x → n = x → goodF n B = ((B.length : Int) == wrap64 (Int.tdiv x 8)) := fun x hx h => by
    rw [goodF, h, decide_eq_true hx, Bool.true_and]
  refine step 64 (by decide) (by decide) (at_ _ (by decide)) fun n1 => ?_
  refine step 128 (by decide) (by decide) (at_ _ (by decide)) fun n2 => ?_
  refine step 256 (by decide) (by decide) (at_ _ (by decide)) fun n3 => ?_
  refine step 512 (by decide) (by decide) (at_ _ (by decide)) fun n4 => ?_
  refine step 1024 (by decide) (by decide) (at_ _ (by decide)) fun n5 => ?_
  refine step 2048 (by decide) (by decide) (at_ _ (by decide)) fun n6 => ?_
  refine step 4096 (by decide) (by decide) (at_ _ (by decide)) fun n7 => ?_
  refine step 8192 (by decide) (by decide) (at_ _ (by decide)) fun n8 => ?_
  refine step 16384 (by decide) (by decide) (at_ _ (by decide)) fun n9 => ?_
  refine step 32768 (by decide) (by decide) (at_ _ (by decide)) fun n10 => ?_
  refine step 65536 (by decide) (by decide) (at_ _ (by decide)) fun n11 => ?_
  have e : goodF n B = false := by
    rw [goodF, decide_eq_false (show ¬ isPow n by unfold isPow; omega), Bool.false_and]
  rw [e]
  exact Ev.step (f := fun _ => some false) (fun k => by rw [columbariumref9_Right.l0, if_neg (by decide)]) (Ev.now _)
theorem good_nat {n : Int} {B : List Int} (h : goodF n B = true) : ∃ m : Nat, n = (m : Int) ∧ 64 ≤ m ∧ m ≤ 65536 ∧ m % 8 = 0 ∧ B.length = m / 8 := by
  rw [goodF, Bool.and_eq_true, decide_eq_true_eq, beq_iff_eq] at h
  obtain ⟨h1, h2⟩ := h
  have hn : 64 ≤ n ∧ n ≤ 65536 ∧ n % 8 = 0 := by unfold isPow at h1; omega
  obtain ⟨m, rfl⟩ := Int.eq_ofNat_of_zero_le (show 0 ≤ n by omega)
  rw [div8 (by omega)] at h2
  exact ⟨m, rfl, by omega, by omega, by omega, by omega⟩
/-! ### asked -/
theorem runset_f {B : List Nat} (hB : ∀ x ∈ B, x < 256) {p : Nat} (hp : p / 8 < B.length) (hp2 : p < 9223372036854775808) : columbariumref9_unset (ints B) (p : Int) = some (!hasb B p) := by
  rw [columbariumref9_unset, div8 hp2, if_pos (by omega), if_pos (by rw [ints_length]; omega), umod8, ask_bit hB, hasb]
  cases (B.getD (p / 8) 0).testBit (p % 8) <;> rfl
theorem rall_f {B : List Nat} (hB : ∀ x ∈ B, x < 256) (hl : B.length < 1000000) (K : List Nat) (hK : ∀ k ∈ K, k / 8 < B.length) : columbariumref9_all (ints B) (ints K) = some (K.all (hasb B)) := by
  induction K with
  | nil => rfl
  | cons k K ih =>
    have h1 := hK k List.mem_cons_self
    have h2 := ih fun x hx => hK x (List.mem_cons_of_mem _ hx)
    rw [show ints (k :: K) = (k : Int) :: ints K from rfl, columbariumref9_all, runset_f hB h1 (by omega), Option.bind_some, List.all_cons]
    cases hasb B k
    · rw [Bool.not_false, if_pos rfl, Bool.false_and]
    · rw [Bool.not_true, if_neg Bool.false_ne_true, h2, Bool.true_and]
theorem may_same (n : Int) {B : List Nat} (hB : ∀ x ∈ B, x < 256) (s : ByteArray) (hs : s.size ≤ 9223372036854775807) : ∃ t, Ev (fun k => bloom_May.f k n (ints B) s) t ∧ Ev (fun k => columbariumref9_May.f k n (ints B) s) t := by
  cases hg : goodF n (ints B) with
  | false =>
    refine ⟨true, ?_, ?_⟩
    · exact Ev.congr (f := fun _ => some true) (fun k => by rw [bloom_May.f, bright_f, hg, Option.bind_some, if_neg Bool.false_ne_true]) (Ev.now _)
    · have hr := rright_ev n (ints B)
      rw [hg] at hr
      exact Ev.congr (fun k => rfl) (Ev.bind hr (Ev.congr (f := fun _ => some true) (fun k => by rw [if_neg Bool.false_ne_true]) (Ev.now _)))
  | true =>
    obtain ⟨m, rfl, h1, h2, h3, h4⟩ := good_nat hg
    rw [ints_length] at h4
    have h0 : 0 < m := by omega
    have hn : m < 9223372036854775808 := by omega
    obtain ⟨e, hr⟩ := spots_ints s h0 hn
    have hK : ∀ k ∈ spotsN s m, k / 8 < B.length := fun k hk => by have := hr k hk; omega
    refine ⟨(spotsN s m).all (hasb B), ?_, ?_⟩
    · have hsp := spots_ev s hs h0 hn
      rw [e] at hsp
      refine Ev.congr (f := fun k => (bloom_spots.f k s (m : Int)).bind fun K => if K.length ≤ 17592186044416 then (bloom_any (ints B) K).bind fun b => some (!b) else none) (fun k => by rw [bloom_May.f, bright_f, hg, Option.bind_some, if_pos rfl]) (Ev.bind hsp ?_)
      refine Ev.congr (f := fun _ => some ((spotsN s m).all (hasb B))) (fun k => ?_) (Ev.now _)
      rw [if_pos (by rw [ints_length, spotsN_length]; decide), any_f hB (by omega) _ hK, Option.bind_some, Bool.not_not]
    · have hb := rbits_ev s hs h0 hn
      rw [e] at hb
      have hright := rright_ev (m : Int) (ints B)
      rw [hg] at hright
      refine Ev.congr (fun k => rfl) (Ev.bind hright (Ev.congr (fun k => by rw [if_pos rfl]) (Ev.bind hb ?_)))
      exact Ev.congr (f := fun _ => some ((spotsN s m).all (hasb B))) (fun k => by rw [rall_f hB (by omega) _ hK]) (Ev.now _)
/-! ### written -/
theorem put_same {n : Int} (h : isPow n) : ∃ v : List Nat, v.length ≤ 3 ∧ (∀ x ∈ v, x < 256) ∧ Ev (fun k => varint_Put.f k ([] : List Int) (IntKind.u64.wrap n)) (ints v) ∧ Ev (fun k => columbariumref1_Put.f k ([] : List Int) (IntKind.u64.wrap n)) (ints v) := by
  have go : ∀ (v : List Nat), v.length ≤ 3 → (∀ x ∈ v, x < 256) → varint_Put.f 20 ([] : List Int) (IntKind.u64.wrap n) = some (ints v) → columbariumref1_Put.f 20 ([] : List Int) (IntKind.u64.wrap n) = some (ints v) →
      ∃ v : List Nat, v.length ≤ 3 ∧ (∀ x ∈ v, x < 256) ∧ Ev (fun k => varint_Put.f k ([] : List Int) (IntKind.u64.wrap n)) (ints v) ∧ Ev (fun k => columbariumref1_Put.f k ([] : List Int) (IntKind.u64.wrap n)) (ints v) :=
    fun v a b c d => ⟨v, a, b, Ev.of (fun k => varint_Put.mono _ _ k) c, Ev.of (fun k => columbariumref1_Put.mono _ _ k) d⟩
  rcases h with rfl | rfl | rfl | rfl | rfl | rfl | rfl | rfl | rfl | rfl | rfl
  · exact go [64] (by decide) (by decide) (by decide +kernel) (by decide +kernel)
  · exact go [128, 1] (by decide) (by decide) (by decide +kernel) (by decide +kernel)
  · exact go [128, 2] (by decide) (by decide) (by decide +kernel) (by decide +kernel)
  · exact go [128, 4] (by decide) (by decide) (by decide +kernel) (by decide +kernel)
  · exact go [128, 8] (by decide) (by decide) (by decide +kernel) (by decide +kernel)
  · exact go [128, 16] (by decide) (by decide) (by decide +kernel) (by decide +kernel)
  · exact go [128, 32] (by decide) (by decide) (by decide +kernel) (by decide +kernel)
  · exact go [128, 64] (by decide) (by decide) (by decide +kernel) (by decide +kernel)
  · exact go [128, 128, 1] (by decide) (by decide) (by decide +kernel) (by decide +kernel)
  · exact go [128, 128, 2] (by decide) (by decide) (by decide +kernel) (by decide +kernel)
  · exact go [128, 128, 4] (by decide) (by decide) (by decide +kernel) (by decide +kernel)
theorem enc_same (n : Int) {B : List Nat} (hB : ∀ x ∈ B, x < 256) (hl : B.length ≤ 9000) : ∃ (v : List Nat) (e : Int), v.length ≤ 9003 ∧ (∀ x ∈ v, x < 256) ∧ Ev (fun k => bloom_Encode.f k n (ints B)) (ints v, e) ∧ Ev (fun k => columbariumref9_Encode.f k n (ints B)) (ints v, e) := by
  have hr := rright_ev n (ints B)
  cases hg : goodF n (ints B) with
  | false =>
    rw [hg] at hr
    refine ⟨[], 12, by simp, by simp, ?_, ?_⟩
    · exact Ev.congr (f := fun _ => some (ints [], 12)) (fun k => by rw [bloom_Encode.f, bright_f, hg, Option.bind_some, if_neg Bool.false_ne_true]; rfl) (Ev.now _)
    · exact Ev.congr (fun k => rfl) (Ev.bind hr (Ev.congr (f := fun _ => some (ints [], 12)) (fun k => by rw [if_neg Bool.false_ne_true]; rfl) (Ev.now _)))
  | true =>
    rw [hg] at hr
    have hp : isPow n := by
      rw [goodF, Bool.and_eq_true, decide_eq_true_eq] at hg
      exact hg.1
    obtain ⟨v, h3, hv, e1, e2⟩ := put_same hp
    have hlen : (ints v).length + (ints B).length < 140737488355328 := by rw [ints_length, ints_length]; omega
    refine ⟨v ++ B, 0, by rw [List.length_append]; omega, fun x hx => (List.mem_append.1 hx).elim (hv x) (hB x), ?_, ?_⟩
    · refine Ev.congr (f := fun k => (varint_Put.f k ([] : List Int) (IntKind.u64.wrap n)).bind fun t => if t.length + (ints B).length < 140737488355328 then some (t ++ ints B, 0) else none) (fun k => by rw [bloom_Encode.f, bright_f, hg, Option.bind_some, if_pos rfl]) (Ev.bind e1 ?_)
      exact Ev.congr (f := fun _ => some (ints (v ++ B), 0)) (fun k => by rw [if_pos hlen, ints_append]) (Ev.now _)
    · refine Ev.congr (fun k => rfl) (Ev.bind hr (Ev.congr (fun k => by rw [if_pos rfl]) (Ev.bind e2 ?_)))
      exact Ev.congr (f := fun _ => some (ints (v ++ B), 0)) (fun k => by rw [if_pos hlen, ints_append]) (Ev.now _)
/-! ### read -/
theorem getS_good (B : List Nat) (a : Int) : (0 ≤ (getS B a).1 ∧ (getS B a).1 ≤ 18446744073709551615) ∧ ((getS B a).2.2 = 0 → 0 ≤ (getS B a).2.1 ∧ (getS B a).2.1 ≤ B.length) := by
  unfold getS
  split
  · exact ⟨⟨by decide, by decide⟩, fun h => by cases h⟩
  · rename_i h
    have hg := getR_good (B.drop a.toNat) a.toNat
    rw [List.length_drop] at hg
    refine ⟨hg.1, fun e => ?_⟩
    have := hg.2 e
    omega
/-- What is read. -/
def decR (B : List Nat) (a : Int) : Int × List Int × Int × Int :=
  if (getS B a).2.2 = 0 then (if isPow (getS B a).1 then (if (B.length : Int) - (getS B a).2.1 < (getS B a).1 / 8 then (0, [], 0, 10)
    else ((getS B a).1, ints ((B.take ((getS B a).2.1 + (getS B a).1 / 8).toNat).drop (getS B a).2.1.toNat), (getS B a).2.1 + (getS B a).1 / 8, 0)) else (0, [], 0, 12)) else (0, [], 0, (getS B a).2.2)
theorem pow_range {v : Int} (h : isPow v) : 64 ≤ v ∧ v ≤ 65536 := by unfold isPow at h; omega
theorem pow_div {v : Int} (h : isPow v) : wrap64 (Int.tdiv v 8) = v / 8 := by
  have hr := pow_range h
  rw [Int.tdiv_eq_ediv_of_nonneg (by omega), w64 (by omega) (by omega)]
theorem bdec_ev {B : List Nat} (hB : ∀ x ∈ B, x < 256) (hl : B.length ≤ 281474976710655) (a : Int) : Ev (fun k => bloom_Decode.f k (ints B) a) (decR B a) := by
  have hg := getS_good B a
  have he := get_ev hB hl a
  unfold decR
  generalize getS B a = s at *
  obtain ⟨v, p, e⟩ := s
  dsimp only at hg ⊢
  have em : wrap64 (mn v 1099511627776) = mn v 1099511627776 := by
    unfold mn
    split <;> rw [w64 (by omega) (by omega)]
  have ep : isPow (mn v 1099511627776) ↔ isPow v := by
    unfold mn
    split
    · constructor <;> intro h <;> have := pow_range h <;> omega
    · rfl
  have emv : isPow v → mn v 1099511627776 = v := fun h => by
    have := pow_range h
    unfold mn
    rw [if_neg (by omega)]
  refine Ev.congr (f := fun k => (varint_Get.f k (ints B) a).bind fun bt => if bt.2.2 = 0 then ((bloom_size.f (wrap64 (mn bt.1 1099511627776))).bind fun t263 => (if t263 = true then (if (wrap64 (((ints B).length : Int) - bt.2.1)) < (wrap64 (Int.tdiv (wrap64 (mn bt.1 1099511627776)) 8)) then (some (0, ([] : List Int), 0, 10)) else (if 0 ≤ bt.2.1 then (if bt.2.1 ≤ (wrap64 (bt.2.1 + (wrap64 (Int.tdiv (wrap64 (mn bt.1 1099511627776)) 8)))) then (if (wrap64 (bt.2.1 + (wrap64 (Int.tdiv (wrap64 (mn bt.1 1099511627776)) 8)))) ≤ ((ints B).length : Int) then ((slices_Clone_byte_byte.f (((ints B).take ((wrap64 (bt.2.1 + (wrap64 (Int.tdiv (wrap64 (mn bt.1 1099511627776)) 8)))) : Int).toNat).drop (bt.2.1 : Int).toNat)).bind fun t265 => (some (wrap64 (mn bt.1 1099511627776), t265, wrap64 (bt.2.1 + (wrap64 (Int.tdiv (wrap64 (mn bt.1 1099511627776)) 8))), 0))) else (none)) else (none)) else (none))) else (some (0, ([] : List Int), 0, 12)))) else (some (0, ([] : List Int), 0, bt.2.2))) (fun k => by rw [bloom_Decode.f, varint_Small.f, Option.bind_assoc]; rfl) (Ev.bind he ?_)
  dsimp only
  by_cases h0 : e = 0
  · refine Ev.congr (fun k => by rw [if_pos h0, em, size_f, Option.bind_some]) ?_
    rw [if_pos h0]
    obtain ⟨q1, q2⟩ := hg.2 h0
    by_cases hp : isPow v
    · have hr := pow_range hp
      have ed := pow_div hp
      rw [if_pos hp]
      refine Ev.congr (fun k => by rw [if_pos (decide_eq_true (ep.2 hp)), emv hp, ints_length, ed, w64 (x := (B.length : Int) - p) (by omega) (by omega), w64 (x := p + v / 8) (by omega) (by omega)]) ?_
      by_cases h2 : (B.length : Int) - p < v / 8
      · simp only [if_pos h2]
        exact Ev.now _
      · simp only [if_neg h2]
        have hcl : slices_Clone_byte_byte.f (((ints B).take (p + v / 8).toNat).drop p.toNat) = some (ints ((B.take (p + v / 8).toNat).drop p.toNat)) := by
          rw [slices_Clone_byte_byte.f, ints_take, ints_drop, if_pos]
          rw [ints_length, List.length_drop, List.length_take]
          omega
        exact Ev.congr (f := fun _ => some (v, ints ((B.take (p + v / 8).toNat).drop p.toNat), p + v / 8, 0)) (fun k => by rw [if_pos q1, if_pos (by omega), if_pos (by omega), hcl, Option.bind_some]) (Ev.now _)
    · rw [if_neg hp]
      exact Ev.congr (f := fun _ => some (0, [], 0, 12)) (fun k => by rw [if_neg (fun h => hp (ep.1 (of_decide_eq_true h)))]) (Ev.now _)
  · simp only [if_neg h0]
    exact Ev.now _
theorem rj0_true (B : List Int) (v p : Int) : Ev (fun k => columbariumref9_Decode.j0 k B v p true) (0, [], 0, 12) := Ev.step (f := fun _ => some (0, [], 0, 12)) (fun k => by rw [columbariumref9_Decode.j0, if_pos rfl]) (Ev.now _)
theorem rdec_ev {B : List Nat} (hB : ∀ x ∈ B, x < 256) (hl : B.length ≤ 281474976710655) (a : Int) : Ev (fun k => columbariumref9_Decode.f k (ints B) a) (decR B a) := by
  have hg := getS_good B a
  have he := get1_ev hB hl a
  unfold decR
  generalize getS B a = s at *
  obtain ⟨v, p, e⟩ := s
  dsimp only at hg ⊢
  refine Ev.congr (fun k => rfl) (Ev.bind he ?_)
  dsimp only
  by_cases h0 : e = 0
  · rw [if_pos h0]
    refine Ev.congr (fun k => by rw [if_pos h0]) ?_
    obtain ⟨q1, q2⟩ := hg.2 h0
    by_cases h1 : v > 65536
    · rw [if_neg (show ¬ isPow v from fun h => by have := pow_range h; omega)]
      exact Ev.congr (fun k => by rw [if_pos h1]) (rj0_true _ _ _)
    · have e8 : IntKind.u64.wrap (Int.tdiv v 8) = v / 8 := by
        rw [Int.tdiv_eq_ediv_of_nonneg (by omega), wu64 (by omega) (by omega)]
      have ew : wrap64 v = v := w64 (by omega) (by omega)
      have hr := rright_ev v (List.replicate (v / 8).toNat 0)
      refine Ev.congr (fun k => by rw [if_neg h1, e8, if_pos (by omega), if_pos (by omega), ew]) (Ev.bind hr ?_)
      by_cases hp : isPow v
      · have hgood : goodF v (List.replicate (v / 8).toNat 0) = true := by
          have := pow_range hp
          rw [goodF, decide_eq_true hp, Bool.true_and, List.length_replicate, pow_div hp, beq_iff_eq]
          omega
        have hrg := pow_range hp
        have ed := pow_div hp
        rw [hgood, if_pos hp]
        refine Ev.step (fun k => by rw [Bool.not_true, columbariumref9_Decode.j0, if_neg Bool.false_ne_true, ew, ints_length, ed, w64 (x := (B.length : Int) - p) (by omega) (by omega), w64 (x := p + v / 8) (by omega) (by omega)]) ?_
        by_cases h2 : (B.length : Int) - p < v / 8
        · simp only [if_pos h2]
          exact Ev.now _
        · simp only [if_neg h2]
          refine Ev.congr (f := fun _ => some (v, ints ((B.take (p + v / 8).toNat).drop p.toNat), p + v / 8, 0)) (fun k => ?_) (Ev.now _)
          rw [Option.bind_some, if_pos q1, if_pos (by omega), if_pos (by omega), ints_take, ints_drop, if_pos]
          · rfl
          · rw [ints_length, List.length_drop, List.length_take, List.length_nil]
            omega
      · have hgood : goodF v (List.replicate (v / 8).toNat 0) = false := by rw [goodF, decide_eq_false hp, Bool.false_and]
        rw [hgood, if_neg hp]
        exact rj0_true _ _ _
  · rw [if_neg h0]
    exact Ev.congr (f := fun _ => some (0, [], 0, e)) (fun k => by rw [if_neg h0]) (Ev.now _)
/-! ### the law -/
theorem tells_l0 (s : ByteArray) (hs : s.size ≤ 300) (a : Int) (x : List S26) (hx : x.length = 2) (hf : ∀ f ∈ x, ∃ B : List Nat, f.f1 = ints B ∧ (∀ y ∈ B, y < 256) ∧ B.length ≤ 9000) (m : Nat) : ∀ (i : Nat) (b : List Nat), x.length - i = m → i ≤ x.length → (∀ y ∈ b, y < 256) → b.length + (2 - i) * 9003 < 141836999983104 →
    Ev (fun k => columbariumlaw9_BloomTells.l0 k s (ints b) a x (x.length : Int) (i : Int)) true := by
  induction m with
  | zero =>
    intro i b hm hi hb hl
    have h1 := bdec_ev hb (by omega) a
    have h2 := rdec_ev hb (by omega) a
    refine Ev.step (fun k => by rw [columbariumlaw9_BloomTells.l0, if_neg (by omega)]) (Ev.bind h1 (Ev.bind h2 ?_))
    exact Ev.congr (fun k => by rw [if_pos rfl, if_pos rfl, if_pos rfl, if_pos rfl]) (Ev.bind known_ev (Ev.now _))
  | succ m ih =>
    intro i b hm hi hb hl
    have hi2 : i < x.length := by omega
    have hmem : rd_T26 x (i : Int) ∈ x := by
      rw [rd_T26, Int.toNat_natCast, List.getD_eq_getElem?_getD, List.getElem?_eq_getElem hi2, Option.getD_some]
      exact List.getElem_mem hi2
    obtain ⟨B, hB1, hB2, hB3⟩ := hf _ hmem
    obtain ⟨v, e, hv1, hv2, e1, e2⟩ := enc_same (rd_T26 x (i : Int)).f0 hB2 hB3
    obtain ⟨t, m1, m2⟩ := may_same (rd_T26 x (i : Int)).f0 hB2 s (by omega)
    have r2 := rright_ev (rd_T26 x (i : Int)).f0 (ints B)
    have h9 : (2 - i) * 9003 = (2 - (i + 1)) * 9003 + 9003 := by
      rcases (show i = 0 ∨ i = 1 by omega) with rfl | rfl <;> rfl
    have h99 : 9003 ≤ (2 - i) * 9003 := by omega
    have hnext := ih (i + 1) (b ++ v) (by omega) (by omega) (fun y hy => (List.mem_append.1 hy).elim (hb y) (hv2 y)) (by rw [List.length_append]; omega)
    rw [← ints_append] at hnext
    rw [← hB1] at e1 e2 m1 m2 r2
    refine Ev.step (fun k => by rw [columbariumlaw9_BloomTells.l0, if_pos (by omega), if_pos (by omega), if_pos (by omega)]) (Ev.bind e1 ?_)
    refine Ev.congr (fun k => by rw [columbariumlaw9_in.f, Option.bind_some]) (Ev.bind e2 (Ev.bind m1 ?_))
    refine Ev.congr (fun k => by rw [Option.bind_some]) (Ev.bind m2 ?_)
    refine Ev.congr (fun k => by rw [if_neg (by cases t <;> decide), bright_f, Option.bind_some, Option.bind_some]) (Ev.bind r2 ?_)
    refine Ev.congr (fun k => ?_) hnext
    rw [if_neg (by cases goodF (rd_T26 x (i : Int)).f0 (rd_T26 x (i : Int)).f1 <;> decide), if_pos rfl, if_pos rfl, Option.bind_some, if_pos (by rw [List.length_nil, ints_length]; omega), Option.bind_some, List.nil_append, if_pos (by rw [ints_length, ints_length]; omega), succ64 (by omega)]

end Go.Proofs.Ytifcocmmapgebaa.QBloomTells
namespace Go.Proofs.Ytifcocmmapgebaa.Pure
open Go.RowKit Go.Proofs.Ytifcocmmapgebaa.QBloomTells Go.Proofs.YtifcocmmapgebaaW.PrintWords Go.Proofs.YtifcocmmapgebaaW.PrintLast Go.Proofs.Ytifcocmmapgebaa.Base

theorem BloomTells : columbariumlaw9_BloomTells.Pure := by
  intro l s n B0 b0 a hl hls hs hn hB0 hbl hbm hbw ha
  apply Ev.rounds
  obtain ⟨B, rfl, hB⟩ := ints_of (B := 256) (l := B0) fun x hx => wf_u8 (hB0.2 x hx)
  obtain ⟨b, rfl, hb⟩ := ints_of (B := 256) (l := b0) fun x hx => wf_u8 (hbw x hx)
  rw [ints_length] at hbl hbm
  have known0 : ∀ L : List ByteArray, Ev (fun k => columbariumlaw9_BloomTells.j0 k L s (ints b) a true n (ints B)) true := fun L =>
    Ev.step (fun k => by rw [columbariumlaw9_BloomTells.j0, if_pos rfl]) (Ev.bind known_ev (Ev.now _))
  refine Ev.congr (f := fun k => if ((ints B).length : Int) > 9000 then (columbariumlaw9_BloomTells.j0 k (l.take 40) s (ints b) a true n (ints B)) else (columbariumlaw9_BloomTells.j0 k (l.take 40) s (ints b) a (decide ((s.size : Int) > 300)) n (ints B))) (fun k => by rw [columbariumlaw9_BloomTells.f, few_f, Option.bind_some]) ?_
  by_cases h1 : ((ints B).length : Int) > 9000
  · exact Ev.congr (fun k => by rw [if_pos h1]) (known0 _)
  refine Ev.congr (fun k => by rw [if_neg h1]) ?_
  by_cases h2 : (s.size : Int) > 300
  · rw [decide_eq_true h2]
    exact known0 _
  rw [decide_eq_false h2]
  rw [ints_length] at h1
  have hL : (l.take 40).length ≤ 40 := List.length_take_le _ _
  have hLs : ∀ x ∈ l.take 40, x.size ≤ 9223372036854775807 := fun x hx => Nat.le_trans (hls x (List.mem_of_mem_take hx)) (by decide)
  have hd : (dict_set (l.take 40)).length ≤ 128 := Nat.le_trans (set_length _) (by omega)
  have b1 := build_ev (l.take 40) (by omega) hd hLs
  have b2 := rbuild9_ev (l.take 40) (by omega) hd hLs
  refine Ev.step (fun k => by rw [columbariumlaw9_BloomTells.j0, if_neg Bool.false_ne_true]) (Ev.bind b1 (Ev.bind b2 ?_))
  refine Ev.congr (fun k => by rw [if_pos rfl, bne_self_eq_false]) (Ev.step (fun k => by rw [columbariumlaw9_BloomTells.j1, if_neg Bool.false_ne_true, Option.bind_some]) ?_)
  refine tells_l0 s (by omega) a _ rfl (fun f hf => ?_) 2 0 b rfl (by simp) hb (by omega)
  rcases List.mem_cons.1 hf with rfl | hf
  · exact ⟨B, rfl, hB, by omega⟩
  · rw [List.mem_singleton.1 hf]
    refine ⟨fbytes (l.take 40), rfl, fbytes_lt _, ?_⟩
    rw [fbytes_length]
    have := (bitsOf_range (dict_set (l.take 40)).length).2.1
    have : fbits (l.take 40) ≤ 1024 := this
    omega

end Go.Proofs.Ytifcocmmapgebaa.Pure
