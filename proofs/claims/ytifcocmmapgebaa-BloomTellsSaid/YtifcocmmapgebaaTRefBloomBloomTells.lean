/- The document's filters: Build comes to the same, as printed for BloomTells. -/
import Derived.Test.YtifcocmmapgebaaTRefBuildBloomTells
namespace Go.Proofs.Ytifcocmmapgebaa.QBloomTells
open Go.RowKit Go.Proofs.YtifcocmmapgebaaW.PrintWords Go.Proofs.YtifcocmmapgebaaW.PrintLast Go.Proofs.YtifcocmmapgebaaW.PrintMore Go.Proofs.Ytifcocmmapgebaa.Base
set_option linter.unusedVariables false
set_option linter.unusedSimpArgs false

theorem rfnv_l0 (s : ByteArray) (hs : s.size ≤ 9223372036854775807) (m : Nat) : ∀ i h, s.size - i = m → i ≤ s.size → Ev (fun k => columbariumref2_Fnv.l0 k s h (i : Int)) (fnvG s m i h) := by
  induction m with
  | zero =>
    intro i h hm hi
    exact Ev.step (f := fun _ => some h) (fun k => by rw [columbariumref2_Fnv.l0, if_neg (by omega)]) (Ev.now _)
  | succ m ih =>
    intro i h hm hi
    refine Ev.step (fun k => ?_) (ih (i + 1) _ (by omega) (by omega))
    rw [columbariumref2_Fnv.l0, if_pos (by omega), if_pos (by omega), succ64 (by omega)]
theorem rfnv_ev (s : ByteArray) (hs : s.size ≤ 9223372036854775807) : Ev (fun k => columbariumref2_Fnv.f k s) (fnvI s) := rfnv_l0 s hs _ 0 _ rfl (Nat.zero_le _)
theorem rbit (h : Int) (i : Int) {n : Nat} (h0 : 0 < n) (hn : n < 9223372036854775808) : columbariumref9_bit h n i = spot (Go.bits .and .u64 h 4294967295) (Go.bits .or .u64 (h / 4294967296) 1) i n := by
  have hr := spot_range (Go.bits .and .u64 h 4294967295) (Go.bits .or .u64 (h / 4294967296) 1) i h0 hn
  exact w64 (x := spot (Go.bits .and .u64 h 4294967295) (Go.bits .or .u64 (h / 4294967296) 1) i n) (by omega) (by omega)
theorem rbits_ev (s : ByteArray) (hs : s.size ≤ 9223372036854775807) {n : Nat} (h0 : 0 < n) (hn : n < 9223372036854775808) : Ev (fun k => columbariumref9_bits.f k s (n : Int)) (spotsI s (n : Int)) := by
  have e : ¬ IntKind.u64.wrap (n : Int) = 0 := by
    rw [wu64 (by omega) (by omega)]
    omega
  refine Ev.bind (rfnv_ev s hs) ?_
  refine Ev.congr (f := fun _ => some (spotsI s (n : Int))) (fun k => ?_) (Ev.now _)
  rw [if_neg e, rbit _ _ h0 hn, rbit _ _ h0 hn, rbit _ _ h0 hn, rbit _ _ h0 hn]
  rfl
theorem rset_f {B : List Nat} (hB : ∀ x ∈ B, x < 256) {p : Nat} (hp : p / 8 < B.length) (hp2 : p < 9223372036854775808) : columbariumref9_set (ints B) (p : Int) = some (ints (setb B p)) := by
  have e3 := or_byte (a := B.getD (p / 8) 0) (b := 1) (r := p % 8) (getD_lt (by decide) hB _) (Nat.mod_lt _ (by decide)) (by decide)
  rw [columbariumref9_set, div8 hp2, if_pos (by omega), if_pos (by rw [ints_length]; omega), umod8, rd_ints, show (1 : Int) = ((1 : Nat) : Int) from rfl, e3, Int.toNat_natCast, ints_set]
  rfl
theorem rfill_f (K : List Nat) : ∀ B : List Nat, (∀ x ∈ B, x < 256) → (∀ k ∈ K, k / 8 < B.length) → (∀ k ∈ K, k < 9223372036854775808) → columbariumref9_fill (ints B) (ints K) = some (ints (fill B K)) := by
  induction K with
  | nil => exact fun B _ _ _ => rfl
  | cons k K ih =>
    intro B hB hK hk
    rw [show ints (k :: K) = (k : Int) :: ints K from rfl, columbariumref9_fill, rset_f hB (hK k List.mem_cons_self) (hk k List.mem_cons_self), Option.bind_some]
    exact ih _ (setb_lt hB k) (fun x hx => by rw [setb_length]; exact hK x (List.mem_cons_of_mem _ hx)) (fun x hx => hk x (List.mem_cons_of_mem _ hx))
theorem rtexts_ev {n : Nat} (h0 : 0 < n) (h8 : n % 8 = 0) (hn : n ≤ 65536) : ∀ (d : List ByteArray) (B : List Nat), (∀ s ∈ d, s.size ≤ 9223372036854775807) → (∀ x ∈ B, x < 256) → B.length = n / 8 →
    Ev (fun k => columbariumref9_texts k (n : Int) (ints B) d) (ints (fillAll B n d))
  | [], B, _, _, _ => Ev.now _
  | s :: d, B, hs, hB, hl => by
    obtain ⟨e, hr⟩ := spots_ints s h0 (show n < 9223372036854775808 by omega)
    have hsp := rbits_ev s (hs s List.mem_cons_self) h0 (show n < 9223372036854775808 by omega)
    rw [e] at hsp
    refine Ev.congr (fun k => by rw [columbariumref9_texts]) (Ev.bind hsp ?_)
    refine Ev.congr (fun k => by rw [rfill_f _ B hB (fun k hk => by have := hr k hk; omega) (fun k hk => by have := hr k hk; omega), Option.bind_some]) ?_
    exact rtexts_ev h0 h8 hn d _ (fun x hx => hs x (List.mem_cons_of_mem _ hx)) (fill_lt _ _ hB) (by rw [fill_length]; exact hl)
theorem rgrow_ev (m : Nat) (hm : m ≤ 128) : Ev (fun k => columbariumref9_grow k (wrap64 (8 * (m : Int))) 64) ((bitsOf m : Nat) : Int) := by
  have e8 : wrap64 (8 * (m : Int)) = ((8 * m : Nat) : Int) := by rw [w64 (by omega) (by omega)]; omega
  have stop : ∀ n : Nat, n < 65536 → ¬ n < 8 * m → bitsOf m = n → Ev (fun k => columbariumref9_grow k (wrap64 (8 * (m : Int))) (n : Int)) ((bitsOf m : Nat) : Int) := by
    intro n h1 h2 h3
    rw [h3]
    exact Ev.step (f := fun _ => some (n : Int)) (fun k => by rw [columbariumref9_grow, e8, if_neg (by omega)]) (Ev.now _)
  have next : ∀ n : Nat, n < 65536 → n < 8 * m → Ev (fun k => columbariumref9_grow k (wrap64 (8 * (m : Int))) ((n * 2 : Nat) : Int)) ((bitsOf m : Nat) : Int) → Ev (fun k => columbariumref9_grow k (wrap64 (8 * (m : Int))) (n : Int)) ((bitsOf m : Nat) : Int) := by
    intro n h1 h2 h3
    refine Ev.step (fun k => ?_) h3
    have e2 : wrap64 (2 * (n : Int)) = ((n * 2 : Nat) : Int) := by rw [w64 (by omega) (by omega)]; omega
    rw [columbariumref9_grow, if_pos (by rw [e8]; omega), if_pos (by omega), e2]
  by_cases h1 : 8 * m ≤ 64
  · exact stop 64 (by decide) (by omega) (by unfold bitsOf; rw [if_pos h1])
  refine next 64 (by decide) (by omega) ?_
  by_cases h2 : 8 * m ≤ 128
  · exact stop 128 (by decide) (by omega) (by unfold bitsOf; rw [if_neg h1, if_pos h2])
  refine next 128 (by decide) (by omega) ?_
  by_cases h3 : 8 * m ≤ 256
  · exact stop 256 (by decide) (by omega) (by unfold bitsOf; rw [if_neg h1, if_neg h2, if_pos h3])
  refine next 256 (by decide) (by omega) ?_
  by_cases h4 : 8 * m ≤ 512
  · exact stop 512 (by decide) (by omega) (by unfold bitsOf; rw [if_neg h1, if_neg h2, if_neg h3, if_pos h4])
  refine next 512 (by decide) (by omega) ?_
  exact stop 1024 (by decide) (by omega) (by unfold bitsOf; rw [if_neg h1, if_neg h2, if_neg h3, if_neg h4])
theorem rbuild9_ev (l : List ByteArray) (hl : l.length < 1000) (hd : (dict_set l).length ≤ 128) (hs : ∀ s ∈ l, s.size ≤ 9223372036854775807) : Ev (fun k => columbariumref9_Build.f k l) (((fbits l : Nat) : Int), ints (fbytes l)) := by
  have hs' : ∀ s ∈ dict_set l, s.size ≤ 9223372036854775807 := fun s h => hs s (mem_set.1 h)
  have hb := bitsOf_range (dict_set l).length
  have e1 := div8 (p := fbits l) (Nat.lt_of_le_of_lt hb.2.1 (by decide))
  have hz : (List.replicate (fbits l / 8) (0 : Nat)).length = fbits l / 8 := List.length_replicate
  refine Ev.congr (fun k => rfl) (Ev.bind (rbuild_ev l hl) (Ev.bind (rgrow_ev _ hd) ?_))
  have h64 : fbits l / 8 ≤ 281474976710656 := by
    have : fbits l ≤ 1024 := hb.2.1
    omega
  refine Ev.congr (fun k => by rw [show ((bitsOf (dict_set l).length : Nat) : Int) = ((fbits l : Nat) : Int) from rfl, e1, if_pos (by omega), Int.toNat_natCast, if_pos h64, show (0 : Int) = ((0 : Nat) : Int) from rfl, ints_replicate]) (Ev.bind (rtexts_ev (Nat.lt_of_lt_of_le (by decide) hb.1) hb.2.2 (Nat.le_trans hb.2.1 (by decide)) (dict_set l) _ hs' (fun x hx => ?_) hz) (Ev.now _))
  rw [List.eq_of_mem_replicate hx]
  decide

end Go.Proofs.Ytifcocmmapgebaa.QBloomTells
