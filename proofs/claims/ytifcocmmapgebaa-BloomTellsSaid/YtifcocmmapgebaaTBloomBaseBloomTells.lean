/- Filters of texts: what Build, Right and May come to, as printed for BloomTells. -/
import Derived.Test.YtifcocmmapgebaaTTextSetBloomTells
namespace Go.Proofs.Ytifcocmmapgebaa.QBloomTells
open Go.RowKit Go.Proofs.YtifcocmmapgebaaW.PrintWords Go.Proofs.YtifcocmmapgebaaW.PrintLast Go.Proofs.YtifcocmmapgebaaW.PrintMore Go.Proofs.Ytifcocmmapgebaa.Base
set_option linter.unusedVariables false
set_option linter.unusedSimpArgs false

theorem few_f (l : List ByteArray) : columbariumlaw9_few.f l = some (l.take 40) := by
  unfold columbariumlaw9_few.f
  by_cases h : (l.length : Int) > 40
  · rw [if_pos h, if_pos (by omega)]
  · rw [if_neg h, List.take_of_length_le (by omega)]
/-! ### the bits of a text -/
theorem u64_range (x : Int) : 0 ≤ IntKind.u64.wrap x ∧ IntKind.u64.wrap x < 18446744073709551616 := by
  rw [u64_wrap]
  omega
theorem bits64_range (o : BinOp) (x y : Int) : 0 ≤ Go.bits o .u64 x y ∧ Go.bits o .u64 x y < 18446744073709551616 := by
  unfold Go.bits
  exact u64_range _
def fnvG (s : ByteArray) : Nat → Nat → Int → Int
  | 0, _, h => h
  | m + 1, i, h => fnvG s m (i + 1) (IntKind.u64.wrap ((Go.bits .xor .u64 h (IntKind.u64.wrap (bt s (i : Int)))) * 1099511628211))
def fnvI (s : ByteArray) : Int := fnvG s s.size 0 14695981039346656037
theorem fnv_l0 (s : ByteArray) (hs : s.size ≤ 9223372036854775807) (m : Nat) : ∀ i h, s.size - i = m → i ≤ s.size → Ev (fun k => sum_Fnv.l0 k s h (s.size : Int) (i : Int)) (fnvG s m i h) := by
  induction m with
  | zero =>
    intro i h hm hi
    exact Ev.step (f := fun _ => some h) (fun k => by rw [sum_Fnv.l0, if_neg (by omega)]) (Ev.now _)
  | succ m ih =>
    intro i h hm hi
    refine Ev.step (fun k => ?_) (ih (i + 1) _ (by omega) (by omega))
    rw [sum_Fnv.l0, if_pos (by omega), if_pos (by omega), if_pos (by omega), succ64 (by omega)]
theorem fnv_ev (s : ByteArray) (hs : s.size ≤ 9223372036854775807) : Ev (fun k => sum_Fnv.f k s) (fnvI s) := fnv_l0 s hs _ 0 _ rfl (Nat.zero_le _)
def spot (a b i n : Int) : Int := Int.tmod (IntKind.u64.wrap (a + IntKind.u64.wrap (i * b))) (IntKind.u64.wrap n)
def spotsI (s : ByteArray) (n : Int) : List Int := [spot (Go.bits .and .u64 (fnvI s) 4294967295) (Go.bits .or .u64 (fnvI s / 4294967296) 1) 0 n, spot (Go.bits .and .u64 (fnvI s) 4294967295) (Go.bits .or .u64 (fnvI s / 4294967296) 1) 1 n, spot (Go.bits .and .u64 (fnvI s) 4294967295) (Go.bits .or .u64 (fnvI s / 4294967296) 1) 2 n, spot (Go.bits .and .u64 (fnvI s) 4294967295) (Go.bits .or .u64 (fnvI s / 4294967296) 1) 3 n]
theorem spot_range (a b i : Int) {n : Nat} (h0 : 0 < n) (hn : n < 9223372036854775808) : 0 ≤ spot a b i (n : Int) ∧ spot a b i (n : Int) < (n : Int) := by
  have h := u64_range (a + IntKind.u64.wrap (i * b))
  have e : IntKind.u64.wrap (n : Int) = (n : Int) := wu64 (by omega) (by omega)
  rw [spot, e]
  exact ⟨Int.tmod_nonneg _ h.1, Int.tmod_lt_of_pos _ (by omega)⟩
theorem spots_ev (s : ByteArray) (hs : s.size ≤ 9223372036854775807) {n : Nat} (h0 : 0 < n) (hn : n < 9223372036854775808) : Ev (fun k => bloom_spots.f k s (n : Int)) (spotsI s (n : Int)) := by
  have e : ¬ IntKind.u64.wrap (n : Int) = 0 := by
    rw [wu64 (by omega) (by omega)]
    omega
  refine Ev.congr (fun k => rfl) (Ev.bind (fnv_ev s hs) ?_)
  refine Ev.step (fun k => by rw [bloom_spots.l0, if_pos (by decide), if_neg e, if_pos (by decide)]) ?_
  refine Ev.step (fun k => by rw [bloom_spots.l0, if_pos (by decide), if_neg e, if_pos (by simp)]) ?_
  refine Ev.step (fun k => by rw [bloom_spots.l0, if_pos (by decide), if_neg e, if_pos (by simp)]) ?_
  refine Ev.step (fun k => by rw [bloom_spots.l0, if_pos (by decide), if_neg e, if_pos (by simp)]) ?_
  exact Ev.step (f := fun _ => some (spotsI s (n : Int))) (fun k => by rw [bloom_spots.l0, if_neg (by decide)]; rfl) (Ev.now _)
/-- The bits of a text. -/
def spotsN (s : ByteArray) (n : Nat) : List Nat := (spotsI s (n : Int)).map Int.toNat
theorem spots_ints (s : ByteArray) {n : Nat} (h0 : 0 < n) (hn : n < 9223372036854775808) : spotsI s (n : Int) = ints (spotsN s n) ∧ (∀ k ∈ spotsN s n, k < n) := by
  have h := fun i => spot_range (Go.bits .and .u64 (fnvI s) 4294967295) (Go.bits .or .u64 (fnvI s / 4294967296) 1) i h0 hn
  have hall : ∀ x ∈ spotsI s (n : Int), 0 ≤ x ∧ x < (n : Int) := by
    intro x hx
    simp only [spotsI, List.mem_cons, List.not_mem_nil, or_false] at hx
    rcases hx with rfl | rfl | rfl | rfl <;> exact h _
  constructor
  · rw [spotsN, ints, List.map_map]
    conv => lhs; rw [← List.map_id (spotsI s (n : Int))]
    refine List.map_congr_left fun x hx => ?_
    have := hall x hx
    simp only [Function.comp_apply, id_eq]
    omega
  · intro k hk
    obtain ⟨x, hx, rfl⟩ := List.mem_map.1 hk
    have := hall x hx
    omega
theorem spotsN_length (s : ByteArray) (n : Nat) : (spotsN s n).length = 4 := by
  rw [spotsN, List.length_map]
  rfl
/-! ### bits of bytes -/
def setb (B : List Nat) (k : Nat) : List Nat := B.set (k / 8) (B.getD (k / 8) 0 ||| 1 <<< (k % 8))
def hasb (B : List Nat) (p : Nat) : Bool := (B.getD (p / 8) 0).testBit (p % 8)
def fill (B : List Nat) (K : List Nat) : List Nat := K.foldl setb B
theorem setb_length (B : List Nat) (k : Nat) : (setb B k).length = B.length := List.length_set ..
theorem fill_length (K : List Nat) : ∀ B : List Nat, (fill B K).length = B.length := by
  induction K with
  | nil => exact fun B => rfl
  | cons k K ih => exact fun B => (ih (setb B k)).trans (setb_length B k)
theorem shift_lt (k : Nat) : 1 <<< (k % 8) < 2 ^ 8 := by
  rw [Nat.one_shiftLeft]
  exact Nat.pow_lt_pow_right (by decide) (Nat.mod_lt _ (by decide))
theorem setb_lt {B : List Nat} (hB : ∀ x ∈ B, x < 256) (k : Nat) : ∀ x ∈ setb B k, x < 256 := by
  have h0 : B.getD (k / 8) 0 < 2 ^ 8 := getD_lt (by decide) hB _
  have h2 : B.getD (k / 8) 0 ||| 1 <<< (k % 8) < 256 := Nat.or_lt_two_pow h0 (shift_lt k)
  exact fun x hx => (List.mem_or_eq_of_mem_set hx).elim (hB x) fun h => h ▸ h2
theorem fill_lt (K : List Nat) : ∀ B : List Nat, (∀ x ∈ B, x < 256) → ∀ x ∈ fill B K, x < 256 := by
  induction K with
  | nil => exact fun B h => h
  | cons k K ih => exact fun B h => ih (setb B k) (setb_lt h k)
theorem hasb_setb {B : List Nat} {k : Nat} (hk : k / 8 < B.length) (p : Nat) : hasb (setb B k) p = (hasb B p || decide (p = k)) := by
  unfold hasb setb
  by_cases h : p / 8 = k / 8
  · rw [h, List.getD_eq_getElem?_getD, List.getElem?_set_self hk, Option.getD_some, Nat.testBit_or, Nat.one_shiftLeft, Nat.testBit_two_pow]
    congr 1
    rw [Bool.eq_iff_iff, decide_eq_true_eq, decide_eq_true_eq]
    omega
  · rw [List.getD_eq_getElem?_getD, List.getElem?_set_ne (fun e => h e.symm), ← List.getD_eq_getElem?_getD, decide_eq_false (show ¬ p = k from fun e => h (by rw [e])), Bool.or_false]
theorem hasb_fill (K : List Nat) (p : Nat) : ∀ B : List Nat, (∀ k ∈ K, k / 8 < B.length) → hasb (fill B K) p = (hasb B p || decide (p ∈ K)) := by
  induction K with
  | nil => exact fun B _ => by simp [fill]
  | cons k K ih =>
    intro B hK
    have h1 := ih (setb B k) (fun x hx => by rw [setb_length]; exact hK x (List.mem_cons_of_mem _ hx))
    have h2 := hasb_setb (hK k List.mem_cons_self) p
    rw [show fill B (k :: K) = fill (setb B k) K from rfl, h1, h2, Bool.or_assoc]
    congr 1
    rw [Bool.eq_iff_iff, Bool.or_eq_true, decide_eq_true_eq, decide_eq_true_eq, decide_eq_true_eq, List.mem_cons]
theorem hasb_zeros (n p : Nat) : hasb (List.replicate n 0) p = false := by
  have : (List.replicate n 0).getD (p / 8) 0 = 0 := by
    rw [List.getD_eq_getElem?_getD, List.getElem?_replicate]
    split <;> rfl
  rw [hasb, this, Nat.zero_testBit]
/-! ### Build -/
theorem or_byte {a b r : Nat} (ha : a < 256) (hr : r < 8) (hb : b ≤ 1) : Go.bits .or .u8 (a : Int) (shl .u8 (b : Int) (r : Int)) = ((a ||| b <<< r : Nat) : Int) := by
  have h1 : b <<< r < 2 ^ 8 := by
    rw [Nat.shiftLeft_eq]
    have h3 : 2 ^ r ≤ 2 ^ 7 := Nat.pow_le_pow_right (by decide) (by omega)
    exact Nat.lt_of_le_of_lt (Nat.mul_le_mul hb h3) (by decide)
  rw [shl8 (by omega), Nat.mod_eq_of_lt h1, or8 ha h1]
theorem fill_l2 (d : List ByteArray) {K : List Nat} (hK : K.length ≤ 1000) (n : Nat) (i : Nat) (r : Int × List Int) (hi : i < 1000000)
    (m : Nat) : ∀ j B, K.length - j = m → j ≤ K.length → (∀ x ∈ B, x < 256) → (∀ k ∈ K, k / 8 < B.length) → (∀ k ∈ K, k < 9223372036854775807) →
    Ev (fun k => bloom_Build.l1 k d (d.length : Int) ((i + 1 : Nat) : Int) (n : Int) (ints (fill B (K.drop j)))) r → Ev (fun k => bloom_Build.l2 k d (d.length : Int) (i : Int) (ints K) (K.length : Int) (j : Int) (n : Int) (ints B)) r := by
  induction m with
  | zero =>
    intro j B hm hj hB hlt hk hr
    rw [List.drop_eq_nil_of_le (by omega)] at hr
    exact Ev.step (fun k => by rw [bloom_Build.l2, if_neg (by omega), succ64 (by omega)]; rfl) hr
  | succ m ih =>
    intro j B hm hj hB hlt hk hr
    have h1 : j < K.length := by omega
    have ek : K.drop j = K.getD j 0 :: K.drop (j + 1) := by
      rw [List.drop_eq_getElem_cons h1, List.getD_eq_getElem?_getD, List.getElem?_eq_getElem h1]
      rfl
    have hmem : K.getD j 0 ∈ K := by
      rw [List.getD_eq_getElem?_getD, List.getElem?_eq_getElem h1]
      exact List.getElem_mem h1
    rw [ek] at hr
    have a1 := hk _ hmem
    have a2 := hlt _ hmem
    have e1 : IntKind.u64.wrap (Int.tdiv ((K.getD j 0 : Nat) : Int) 8) = ((K.getD j 0 / 8 : Nat) : Int) := by
      rw [show (8 : Int) = ((8 : Nat) : Int) from rfl, tdiv_nat, wu64 (by omega) (by omega)]
    have e2 := mod8 (K.getD j 0)
    have e3 := or_byte (a := B.getD (K.getD j 0 / 8) 0) (b := 1) (r := K.getD j 0 % 8) (getD_lt (by decide) hB _) (Nat.mod_lt _ (by decide)) (by decide)
    refine Ev.step (fun k => ?_) (ih (j + 1) (setb B (K.getD j 0)) (by omega) (by omega) (setb_lt hB _) (fun k hk' => by rw [setb_length]; exact hlt k hk') hk hr)
    rw [bloom_Build.l2, if_pos (by omega), if_pos (by omega), if_pos (by rw [ints_length]; omega), rd_ints, e1, if_pos (by omega), if_pos (by rw [ints_length]; omega), e2, if_pos (by omega), rd_ints, show (1 : Int) = ((1 : Nat) : Int) from rfl, e3, Int.toNat_natCast, ints_set]
    rw [show ((1 : Nat) : Int) = 1 from rfl, succ64 (by omega)]
    rfl
/-- The texts' bits, set one text behind the other. -/
def fillAll (B : List Nat) (n : Nat) (d : List ByteArray) : List Nat := d.foldl (fun B s => fill B (spotsN s n)) B
theorem fillAll_length (n : Nat) (d : List ByteArray) : ∀ B : List Nat, (fillAll B n d).length = B.length := by
  induction d with
  | nil => exact fun B => rfl
  | cons s r ih => exact fun B => (ih _).trans (fill_length _ _)
theorem fillAll_lt (n : Nat) (d : List ByteArray) : ∀ B : List Nat, (∀ x ∈ B, x < 256) → ∀ x ∈ fillAll B n d, x < 256 := by
  induction d with
  | nil => exact fun B h => h
  | cons s r ih => exact fun B h => ih _ (fill_lt _ _ h)
theorem hasb_fillAll {n : Nat} (h0 : 0 < n) (h8 : n % 8 = 0) (hn : n < 9223372036854775808) (d : List ByteArray) (p : Nat) : ∀ B : List Nat, B.length = n / 8 → hasb (fillAll B n d) p = (hasb B p || decide (∃ s ∈ d, p ∈ spotsN s n)) := by
  induction d with
  | nil => exact fun B _ => by simp [fillAll]
  | cons s r ih =>
    intro B hB
    have hK : ∀ k ∈ spotsN s n, k / 8 < B.length := fun k hk => by
      have := (spots_ints s h0 hn).2 k hk
      omega
    have h1 := ih (fill B (spotsN s n)) (by rw [fill_length]; exact hB)
    have h2 := hasb_fill (spotsN s n) p B hK
    rw [show fillAll B n (s :: r) = fillAll (fill B (spotsN s n)) n r from rfl, h1, h2, Bool.or_assoc]
    congr 1
    rw [Bool.eq_iff_iff, Bool.or_eq_true, decide_eq_true_eq, decide_eq_true_eq, decide_eq_true_eq]
    simp
theorem fill_l1 {n : Nat} (h0 : 0 < n) (h8 : n % 8 = 0) (hn : n ≤ 65536) (d : List ByteArray) (hd : d.length < 1000) (hs : ∀ s ∈ d, s.size ≤ 9223372036854775807) (m : Nat) : ∀ i B, d.length - i = m → i ≤ d.length → (∀ x ∈ B, x < 256) → B.length = n / 8 →
    Ev (fun k => bloom_Build.l1 k d (d.length : Int) (i : Int) (n : Int) (ints B)) ((n : Int), ints (fillAll B n (d.drop i))) := by
  induction m with
  | zero =>
    intro i B hm hi hB hl
    rw [List.drop_eq_nil_of_le (by omega)]
    exact Ev.step (f := fun _ => some ((n : Int), ints B)) (fun k => by rw [bloom_Build.l1, if_neg (by omega)]) (Ev.now _)
  | succ m ih =>
    intro i B hm hi hB hl
    have h1 : i < d.length := by omega
    have hi' := ih (i + 1) (fill B (spotsN (gt d i) n)) (by omega) (by omega) (fill_lt _ _ hB) (by rw [fill_length]; exact hl)
    obtain ⟨e, hr⟩ := spots_ints (gt d i) h0 (show n < 9223372036854775808 by omega)
    have hsp := spots_ev (gt d i) (hs _ (gt_mem d i h1)) h0 (show n < 9223372036854775808 by omega)
    rw [e] at hsp
    rw [List.drop_eq_getElem_cons h1, ← gt_get d i h1]
    refine Ev.step (fun k => by rw [bloom_Build.l1, if_pos (by omega), if_pos (by omega), if_pos (by omega), rd_gt]) (Ev.bind hsp ?_)
    refine Ev.congr (fun k => by rw [ints_length]; rfl) (fill_l2 d (K := spotsN (gt d i) n) (by rw [spotsN_length]; decide) n i _ (by omega) _ 0 B rfl (Nat.zero_le _) hB (fun k hk => ?_) (fun k hk => ?_) ?_)
    · have := hr k hk
      omega
    · have := hr k hk
      omega
    · rw [List.drop_zero]
      exact hi'
/-- How many bits there are for so many texts. -/
def bitsOf (m : Nat) : Nat := if 8 * m ≤ 64 then 64 else if 8 * m ≤ 128 then 128 else if 8 * m ≤ 256 then 256 else if 8 * m ≤ 512 then 512 else 1024
theorem bitsOf_range (m : Nat) : 64 ≤ bitsOf m ∧ bitsOf m ≤ 1024 ∧ bitsOf m % 8 = 0 := by
  unfold bitsOf
  split
  · decide
  · split
    · decide
    · split
      · decide
      · split <;> decide
theorem build_j1 (d : List ByteArray) (hd : d.length ≤ 128) (hs : ∀ s ∈ d, s.size ≤ 9223372036854775807) {n : Nat} (h : 64 ≤ n ∧ n ≤ 1024 ∧ n % 8 = 0) : Ev (fun k => bloom_Build.j1 k d (n : Int)) ((n : Int), ints (fillAll (List.replicate (n / 8) 0) n d)) := by
  have e1 := div8 (p := n) (by omega)
  refine Ev.step (fun k => ?_) (fill_l1 (show 0 < n by omega) h.2.2 (by omega) d (by omega) hs _ 0 (List.replicate (n / 8) 0) rfl (Nat.zero_le _) (fun x hx => ?_) (by rw [List.length_replicate]))
  · rw [bloom_Build.j1, e1, if_pos (by omega), if_pos (by omega), Int.toNat_natCast, ← ints_replicate]
    rfl
  · rw [List.eq_of_mem_replicate hx]
    decide
theorem build_l0 (d : List ByteArray) (hd : d.length ≤ 128) (r : Int × List Int) (hr : Ev (fun k => bloom_Build.j1 k d ((bitsOf d.length : Nat) : Int)) r) : Ev (fun k => bloom_Build.l0 k d 64) r := by
  have e8 : wrap64 (8 * (d.length : Int)) = ((8 * d.length : Nat) : Int) := by rw [w64 (by omega) (by omega)]; omega
  have stop : ∀ n : Nat, n < 65536 → ¬ n < 8 * d.length → bitsOf d.length = n → Ev (fun k => bloom_Build.l0 k d (n : Int)) r := by
    intro n h1 h2 h3
    rw [h3] at hr
    exact Ev.step (fun k => by rw [bloom_Build.l0, if_pos (by omega), e8, if_neg (by omega)]) hr
  have next : ∀ n : Nat, n < 65536 → n < 8 * d.length → Ev (fun k => bloom_Build.l0 k d ((n * 2 : Nat) : Int)) r → Ev (fun k => bloom_Build.l0 k d (n : Int)) r := by
    intro n h1 h2 h3
    refine Ev.step (fun k => ?_) h3
    have e2 : wrap64 ((n : Int) * 2) = ((n * 2 : Nat) : Int) := by rw [w64 (by omega) (by omega)]; omega
    rw [bloom_Build.l0, if_pos (by omega), e8, if_pos (by omega), e2]
  by_cases h1 : 8 * d.length ≤ 64
  · exact stop 64 (by decide) (by omega) (by unfold bitsOf; rw [if_pos h1])
  refine next 64 (by decide) (by omega) ?_
  by_cases h2 : 8 * d.length ≤ 128
  · exact stop 128 (by decide) (by omega) (by unfold bitsOf; rw [if_neg h1, if_pos h2])
  refine next 128 (by decide) (by omega) ?_
  by_cases h3 : 8 * d.length ≤ 256
  · exact stop 256 (by decide) (by omega) (by unfold bitsOf; rw [if_neg h1, if_neg h2, if_pos h3])
  refine next 256 (by decide) (by omega) ?_
  by_cases h4 : 8 * d.length ≤ 512
  · exact stop 512 (by decide) (by omega) (by unfold bitsOf; rw [if_neg h1, if_neg h2, if_neg h3, if_pos h4])
  refine next 512 (by decide) (by omega) ?_
  exact stop 1024 (by decide) (by omega) (by unfold bitsOf; rw [if_neg h1, if_neg h2, if_neg h3, if_neg h4])
/-- How many bits the filter of texts has; its bytes. -/
def fbits (l : List ByteArray) : Nat := bitsOf (dict_set l).length
def fbytes (l : List ByteArray) : List Nat := fillAll (List.replicate (fbits l / 8) 0) (fbits l) (dict_set l)
theorem sortL_length (l : List ByteArray) : (sortL l).length = l.length := by rw [sortL, List.length_map, List.length_mergeSort, List.length_map]
theorem build_ev (l : List ByteArray) (hl : l.length < 8796093022208) (hd : (dict_set l).length ≤ 128) (hs : ∀ s ∈ l, s.size ≤ 9223372036854775807) : Ev (fun k => bloom_Build.f k l) (((fbits l : Nat) : Int), ints (fbytes l)) := by
  have hs' : ∀ s ∈ dict_set l, s.size ≤ 9223372036854775807 := fun s h => hs s (mem_set.1 h)
  refine Ev.congr (f := fun k => bloom_Build.l0 k (dict_set l) 64) (fun k => ?_) (build_l0 _ hd _ (build_j1 _ hd hs' (bitsOf_range _)))
  rw [bloom_Build.f, slices_Clone_string_string.f, if_pos hl, Option.bind_some, slices_Sort_string_string.f, if_pos hl, Option.bind_some, slices_Compact_string_string.f, if_pos (by rw [sortL_length]; exact hl), Option.bind_some, compact_sortL]
theorem fbytes_length (l : List ByteArray) : (fbytes l).length = fbits l / 8 := (fillAll_length _ _ _).trans List.length_replicate
theorem fbytes_lt (l : List ByteArray) : ∀ x ∈ fbytes l, x < 256 := fillAll_lt _ _ _ fun x hx => by rw [List.eq_of_mem_replicate hx]; decide
theorem hasb_fbytes (l : List ByteArray) (p : Nat) : hasb (fbytes l) p = decide (∃ s ∈ l, p ∈ spotsN s (fbits l)) := by
  have hb := bitsOf_range (dict_set l).length
  have h := hasb_fillAll (n := fbits l) (Nat.lt_of_lt_of_le (by decide) hb.1) hb.2.2 (Nat.lt_of_le_of_lt hb.2.1 (by decide)) (dict_set l) p (List.replicate (fbits l / 8) 0) List.length_replicate
  rw [hasb_zeros, Bool.false_or] at h
  refine h.trans ?_
  rw [Bool.eq_iff_iff, decide_eq_true_eq, decide_eq_true_eq]
  simp only [mem_set]
/-! ### Right and May -/
theorem size_five {n : Nat} (h : n = 64 ∨ n = 128 ∨ n = 256 ∨ n = 512 ∨ n = 1024) : bloom_size.f (n : Int) = some true := by
  rcases h with rfl | rfl | rfl | rfl | rfl <;> decide +kernel
theorem bitsOf_five (m : Nat) : bitsOf m = 64 ∨ bitsOf m = 128 ∨ bitsOf m = 256 ∨ bitsOf m = 512 ∨ bitsOf m = 1024 := by
  unfold bitsOf
  split
  · simp
  · split
    · simp
    · split
      · simp
      · split <;> simp
theorem right_f (l : List ByteArray) : bloom_Right.f ((fbits l : Nat) : Int) (ints (fbytes l)) = some true := by
  have hb := bitsOf_range (dict_set l).length
  have hd := div8 (p := fbits l) (Nat.lt_of_le_of_lt hb.2.1 (by decide))
  rw [bloom_Right.f, show bloom_size.f ((fbits l : Nat) : Int) = some true from size_five (bitsOf_five _), Option.bind_some, if_pos rfl, ints_length, fbytes_length, hd, beq_self_eq_true]
theorem ask_bit {A : List Nat} (hA : ∀ x ∈ A, x < 256) (p : Nat) : Go.bits .and .u8 (shr .u8 (rd (ints A) ((p / 8 : Nat) : Int)) ((p % 8 : Nat) : Int)) 1 = (((A.getD (p / 8) 0).testBit (p % 8)).toNat : Int) := by
  have h1 : A.getD (p / 8) 0 < 2 ^ 8 := getD_lt (by decide) hA _
  rw [rd_ints, shr_nat (show p % 8 ≤ IntKind.u8.bits from (show p % 8 ≤ 8 by omega)), show (1 : Int) = ((1 : Nat) : Int) from rfl, and8 (Nat.lt_of_le_of_lt (Nat.shiftRight_le _ _) h1) (by decide), bit_or_one]
theorem may1_f {B : List Nat} (hB : ∀ x ∈ B, x < 256) {p : Nat} (hp : p / 8 < B.length) (hp2 : p < 9223372036854775808) : bloom_May_1.f (ints B) (p : Int) = some (!hasb B p) := by
  have e1 : IntKind.u64.wrap (Int.tdiv (p : Int) 8) = ((p / 8 : Nat) : Int) := by
    rw [show (8 : Int) = ((8 : Nat) : Int) from rfl, tdiv_nat, wu64 (by omega) (by omega)]
  rw [bloom_May_1.f, e1, if_pos (by omega), if_pos (by rw [ints_length]; omega), mod8, if_pos (by omega), ask_bit hB, hasb]
  cases (B.getD (p / 8) 0).testBit (p % 8) <;> rfl
theorem any_f {B : List Nat} (hB : ∀ x ∈ B, x < 256) (hl : B.length < 1000000) (K : List Nat) (hK : ∀ k ∈ K, k / 8 < B.length) : bloom_any (ints B) (ints K) = some (!K.all (hasb B)) := by
  induction K with
  | nil => rfl
  | cons k K ih =>
    have h1 := hK k List.mem_cons_self
    have h2 := ih fun x hx => hK x (List.mem_cons_of_mem _ hx)
    rw [show ints (k :: K) = (k : Int) :: ints K from rfl, bloom_any, may1_f hB h1 (by omega), Option.bind_some, List.all_cons]
    cases hasb B k
    · rw [Bool.not_false, if_pos rfl, Bool.false_and, Bool.not_false]
    · rw [Bool.not_true, if_neg Bool.false_ne_true, h2, Bool.true_and]
theorem may_ev (l : List ByteArray) (s : ByteArray) (hs : s.size ≤ 9223372036854775807) : Ev (fun k => bloom_May.f k ((fbits l : Nat) : Int) (ints (fbytes l)) s) ((spotsN s (fbits l)).all (hasb (fbytes l))) := by
  have hb : 64 ≤ fbits l ∧ fbits l ≤ 1024 ∧ fbits l % 8 = 0 := bitsOf_range (dict_set l).length
  have h0 : 0 < fbits l := by omega
  have hn : fbits l < 9223372036854775808 := by omega
  obtain ⟨e, hr⟩ := spots_ints s h0 hn
  have hsp := spots_ev s hs h0 hn
  have hl4 := spotsN_length s (fbits l)
  rw [e] at hsp
  have ha := any_f (fbytes_lt l) (by rw [fbytes_length]; omega) (spotsN s (fbits l)) (fun k hk => by have := hr k hk; rw [fbytes_length]; omega)
  refine Ev.congr (f := fun k => (bloom_spots.f k s ((fbits l : Nat) : Int)).bind fun K => if K.length ≤ 17592186044416 then (bloom_any (ints (fbytes l)) K).bind fun b => some (!b) else none) (fun k => by rw [bloom_May.f, right_f, Option.bind_some, if_pos rfl]) (Ev.bind hsp ?_)
  refine Ev.congr (f := fun _ => some ((spotsN s (fbits l)).all (hasb (fbytes l)))) (fun k => ?_) (Ev.now _)
  rw [if_pos (by rw [ints_length, hl4]; decide), ha, Option.bind_some, Bool.not_not]
theorem may_self (l : List ByteArray) {s : ByteArray} (h : s ∈ l) : (spotsN s (fbits l)).all (hasb (fbytes l)) = true := by
  rw [List.all_eq_true]
  intro p hp
  rw [hasb_fbytes, decide_eq_true_eq]
  exact ⟨s, h, hp⟩
theorem known_ev : Ev (fun k => columbariumlaw9_known.f k) true := by
  have b0 := build_ev ([] : List ByteArray) (by simp) (by decide) (by simp)
  have b2 := build_ev ([(⟨#[97]⟩ : ByteArray), (⟨#[97]⟩ : ByteArray)] : List ByteArray) (by simp) (Nat.le_trans (set_length _) (by simp)) (fun s hs => by simp at hs; rw [hs]; decide)
  have b1 := build_ev ([(⟨#[97]⟩ : ByteArray)] : List ByteArray) (by simp) (Nat.le_trans (set_length _) (by simp)) (fun s hs => by simp at hs; rw [hs]; decide)
  have m0 := may_ev ([] : List ByteArray) (⟨#[97]⟩ : ByteArray) (by decide)
  have m2 := may_ev ([(⟨#[97]⟩ : ByteArray), (⟨#[97]⟩ : ByteArray)] : List ByteArray) (⟨#[97]⟩ : ByteArray) (by decide)
  have e0 : fbits ([] : List ByteArray) = 64 := rfl
  have e1 : fbytes ([] : List ByteArray) = List.replicate 8 0 := rfl
  have f0 : (spotsN (⟨#[97]⟩ : ByteArray) (fbits ([] : List ByteArray))).all (hasb (fbytes ([] : List ByteArray))) = false := by
    have hl := spotsN_length (⟨#[97]⟩ : ByteArray) (fbits ([] : List ByteArray))
    cases hK : spotsN (⟨#[97]⟩ : ByteArray) (fbits ([] : List ByteArray)) with
    | nil => rw [hK] at hl; simp at hl
    | cons k K => rw [List.all_cons, e1, hasb_zeros, Bool.false_and]
  have f2 := may_self ([(⟨#[97]⟩ : ByteArray), (⟨#[97]⟩ : ByteArray)] : List ByteArray) (s := (⟨#[97]⟩ : ByteArray)) (by simp)
  have e2 : dict_set ([(⟨#[97]⟩ : ByteArray), (⟨#[97]⟩ : ByteArray)] : List ByteArray) = dict_set [(⟨#[97]⟩ : ByteArray)] := rising_ext (set_rises _) (set_rises _) fun x => by rw [mem_set, mem_set]; simp
  have e3 : fbytes ([(⟨#[97]⟩ : ByteArray), (⟨#[97]⟩ : ByteArray)] : List ByteArray) = fbytes [(⟨#[97]⟩ : ByteArray)] := by rw [fbytes, fbytes, fbits, fbits, e2]
  rw [f0] at m0
  rw [f2] at m2
  have s0 : (strOfNums (ints (fbytes ([] : List ByteArray)))).toList = ([0, 0, 0, 0, 0, 0, 0, 0] : List UInt8) := by
    rw [e1, str_ints]
    rfl
  refine Ev.congr (fun k => rfl) (Ev.bind b0 (Ev.bind b2 (Ev.bind b1 ?_)))
  refine Ev.congr (fun k => by rw [if_pos (show ((fbits ([] : List ByteArray) : Nat) : Int) = 64 from rfl), if_pos s0]) (Ev.bind m0 ?_)
  refine Ev.congr (fun k => by rw [if_neg Bool.false_ne_true]) (Ev.bind m2 ?_)
  exact Ev.congr (f := fun _ => some true) (fun k => by rw [if_pos rfl, e3, beq_self_eq_true]) (Ev.now _)

end Go.Proofs.Ytifcocmmapgebaa.QBloomTells
