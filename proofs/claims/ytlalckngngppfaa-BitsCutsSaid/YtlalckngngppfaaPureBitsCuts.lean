/- Bytes that lack one, or have one more, are no pack; with a bit that is left turned they are none. For every list of whole numbers, number and byte. -/
import Derived.Test.YtlalckngngppfaaTUnpackBitsCuts
import Derived.Test.YtlalckngngppfaaTBookBitsCuts
namespace Go.Proofs.Ytlalckngngppfaa.Pure
open Go.RowKit Go.Proofs.Ytlalckngngppfaa.QBitsCuts Go.Proofs.YtlalckngngppfaaW.PrintWords Go.Proofs.YtlalckngngppfaaW.PrintLast Go.Proofs.YtlalckngngppfaaW.PrintMore Go.Proofs.Ytlalckngngppfaa.Base
set_option linter.unusedVariables false
set_option linter.unusedSimpArgs false

theorem few_take (L : List Nat) : columbariumlaw3_few.f (ints L) = some (ints (L.take 60)) := by
  unfold columbariumlaw3_few.f
  by_cases h : ((ints L).length : Int) > 60
  · rw [if_pos h, if_pos (by omega), ints_take]
  · rw [if_neg h]
    rw [ints_length] at h
    rw [List.take_of_length_le (by omega)]
theorem known_ev : Ev (fun k => columbariumlaw3_known.f k) true := Ev.of columbariumlaw3_known.mono (k := 30) (by decide +kernel)
theorem unp_more {B : List Nat} {n w : Nat} (hn : n ≤ 16777216) (hw : w ≤ 64) (h : B.length = (n * w + 7) / 8 + 1) : unp B (n : Int) (w : Int) = ([], 11) := by
  have hs := size_nat hn hw
  unfold unp
  rw [if_neg (by omega), if_neg (by omega), hs, if_neg (by omega), if_pos (by omega)]
theorem unp_less {B : List Nat} {n w : Nat} (hn : n ≤ 16777216) (hw : w ≤ 64) (h : B.length + 1 = (n * w + 7) / 8) : unp B (n : Int) (w : Int) = ([], 10) := by
  have hs := size_nat hn hw
  unfold unp
  rw [if_neg (by omega), if_neg (by omega), hs, if_pos (by omega)]
theorem unp_bad {B : List Nat} {n w : Nat} (hn : n ≤ 16777216) (hw : w ≤ 64) (h : B.length = (n * w + 7) / 8) (h2 : 2 ^ (n * w) ≤ val 8 B) : unp B (n : Int) (w : Int) = ([], 12) := by
  have hs := size_nat hn hw
  unfold unp
  rw [if_neg (by omega), if_neg (by omega), hs, if_neg (by omega), if_neg (by omega), Int.toNat_natCast, Int.toNat_natCast, if_pos h2]
theorem turned_val {P : List Nat} (hP : ∀ x ∈ P, x < 256) {S k b : Nat} (hS : P.length = S + 1) (hk : k < 8) (hb : b ≤ 8 * S + k) : 2 ^ b ≤ val 8 (P.set S (P.getD S 0 ||| 1 <<< k)) ∧ ∀ x ∈ P.set S (P.getD S 0 ||| 1 <<< k), x < 256 := by
  have h0 : P.getD S 0 < 2 ^ 8 := getD_lt (by decide) hP S
  have h1 : 1 <<< k < 2 ^ 8 := by
    rw [Nat.one_shiftLeft]
    exact Nat.pow_lt_pow_right (by decide) hk
  have h2 : P.getD S 0 ||| 1 <<< k < 256 := Nat.or_lt_two_pow h0 h1
  have hC : ∀ x ∈ P.set S (P.getD S 0 ||| 1 <<< k), x < 256 := fun x hx => (List.mem_or_eq_of_mem_set hx).elim (hP x) fun h => h ▸ h2
  refine ⟨?_, hC⟩
  have ht := val_testBit_any (w := 8) (by decide) (P.set S (P.getD S 0 ||| 1 <<< k)) (show ∀ x ∈ _, x < 2 ^ 8 from hC) (8 * S + k)
  have hx : (P.set S (P.getD S 0 ||| 1 <<< k)).getD S 0 = P.getD S 0 ||| 1 <<< k := by
    rw [List.getD_eq_getElem?_getD, List.getElem?_set_self (by omega)]
    rfl
  have hy : (P.getD S 0 ||| 1 <<< k).testBit k = true := by rw [Nat.testBit_or, Nat.one_shiftLeft, Nat.testBit_two_pow_self, Bool.or_true]
  rw [show (8 * S + k) / 8 = S by omega, show (8 * S + k) % 8 = k by omega, hx, hy] at ht
  exact Nat.le_trans (Nat.pow_le_pow_right (by decide) hb) (Nat.ge_two_pow_of_testBit ht)
theorem spare_eq {n w S : Nat} (hn : n ≤ 60) (hw : w ≤ 64) (hS : S = (n * w + 7) / 8) : wrap64 (wrap64 (8 * (S : Int)) - wrap64 ((n : Int) * (w : Int))) = ((8 * S - n * w : Nat) : Int) ∧ n * w ≤ 8 * S ∧ 8 * S < n * w + 8 ∧ S ≤ 480 := by
  have hm : n * w ≤ 60 * 64 := Nat.mul_le_mul hn hw
  have e1 : wrap64 ((n : Int) * (w : Int)) = ((n * w : Nat) : Int) := mul64 (by omega)
  have h1 : n * w ≤ 8 * S := by omega
  have h2 : 8 * S < n * w + 8 := by omega
  have h3 : S ≤ 480 := by omega
  refine ⟨?_, h1, h2, h3⟩
  generalize n * w = p at *
  rw [e1, w64 (x := 8 * (S : Int)) (by omega) (by omega), w64 (by omega) (by omega)]
  omega
theorem at_eq {sp v : Nat} (h0 : 0 < sp) (h8 : sp < 8) (hv : v < 256) : IntKind.u64.wrap (wrap64 (wrap64 (8 - (sp : Int)) + Int.tmod (wrap64 (v : Int)) (sp : Int))) = ((8 - sp + v % sp : Nat) : Int) := by
  have hm := Nat.mod_lt v h0
  rw [w64 (x := (v : Int)) (by omega) (by omega), tmod_nat]
  generalize v % sp = r at *
  rw [w64 (x := 8 - (sp : Int)) (by omega) (by omega), w64 (by omega) (by omega), wu64 (by omega) (by omega)]
  omega
theorem BitsCuts : columbariumlaw3_BitsCuts.Pure := by
  intro l more a2 hm hr hwf hmore hw2
  obtain ⟨L, rfl, hL⟩ := ints_of fun x hx => wf_u64 (hwf x hx)
  obtain ⟨v, rfl⟩ := Int.eq_ofNat_of_zero_le (wf_u8 hw2).1
  have hv : v < 256 := by have := (wf_u8 hw2).2; omega
  refine Ev.rounds ?_
  have hM : ∀ x ∈ L.take 60, x < 2 ^ 64 := fun x hx => hL x (List.mem_of_mem_take hx)
  have hlen : (L.take 60).length ≤ 60 := by rw [List.length_take]; omega
  have hfew := few_take L
  generalize L.take 60 = M at hM hlen hfew
  have hwd := width_ev hM (by omega)
  have hwd64 := wd_64 hM
  have hg : ∀ w, wd M ≤ w → ∀ x ∈ M, x < 2 ^ w := fun w h => (wd_le M w).1 h
  generalize wd M = d at hwd hwd64 hg
  obtain ⟨q, hq, hwi⟩ := within_some more (64 - d) (by omega)
  have hwi' : columbariumbook_Within.f more 0 (wrap64 (64 - (d : Int))) = some (q : Int) := by
    rw [w64 (by omega) (by omega), ← hwi]
    congr 1
    omega
  have e1 : wrap64 ((d : Int) + (q : Int)) = ((d + q : Nat) : Int) := by rw [w64 (by omega) (by omega)]; omega
  have hw : d + q ≤ 64 := by omega
  have g1 := hg (d + q) (by omega)
  refine Ev.congr (fun k => by rw [columbariumlaw3_BitsCuts.f, hfew, Option.bind_some]) (Ev.bind hwd (Ev.bind hwd ?_))
  refine Ev.congr (fun k => by rw [hwi', Option.bind_some, e1, ints_length]) ?_
  clear hwi hwi' hwd e1 hg hfew
  generalize d + q = w at hw g1
  refine Ev.bind (pack_ev hw g1 (by omega)) ?_
  have hPl := packed_length M w
  have hP := packed_lt M w
  obtain ⟨es, s1, s2, s3⟩ := spare_eq hlen hw hPl
  generalize packed M w = P at *
  generalize M.length = n at *
  have hB1 : ∀ x ∈ P ++ [v], x < 256 := fun x hx => (List.mem_append.1 hx).elim (hP x) fun h => by rw [List.mem_singleton.1 h]; exact hv
  have u1 := unpack_ev hB1 (by rw [List.length_append, List.length_singleton]; omega) (n : Int) (w : Int)
  rw [unp_more (by omega) hw (by rw [List.length_append, List.length_singleton, hPl])] at u1
  have n1 : ([] : List Int).length + (ints P).length < 140737488355328 := by rw [ints_length]; simp only [List.length_nil]; omega
  have n3 : ([] : List Int).length + P.length < 140737488355328 := by simp only [List.length_nil]; omega
  have n2 : (ints P).length < 140737488355328 := by rw [ints_length]; omega
  refine Ev.congr (fun k => by rw [if_pos rfl, Option.bind_some, if_pos n1, Option.bind_some, List.nil_append, if_pos n2, show [(v : Int)] = ints [v] from rfl, ints_append, ints_length]) (Ev.bind u1 ?_)
  refine Ev.congr (fun k => by rw [if_pos rfl]) ?_
  by_cases hz : P.length = 0
  · exact Ev.congr (fun k => by rw [if_pos (by omega)]) (Ev.bind known_ev (Ev.now _))
  obtain ⟨S, hS⟩ : ∃ S, P.length = S + 1 := ⟨P.length - 1, by omega⟩
  have e2 : wrap64 ((P.length : Int) - 1) = (S : Int) := by rw [hS, w64 (by omega) (by omega)]; omega
  have u2 := unpack_ev (B := P.take S) (fun x hx => hP x (List.mem_of_mem_take hx)) (by rw [List.length_take]; omega) (n : Int) (w : Int)
  rw [unp_less (by omega) hw (by rw [List.length_take]; omega)] at u2
  refine Ev.congr (fun k => by rw [if_neg (by omega), e2, if_pos (by omega), if_pos (by omega), Int.toNat_natCast, ints_take]) (Ev.bind u2 ?_)
  refine Ev.congr (fun k => by rw [if_pos rfl, es]) ?_
  by_cases h0 : 8 * P.length - n * w = 0
  · exact Ev.congr (fun k => by rw [if_pos (by omega)]) (Ev.bind known_ev (Ev.now _))
  have ha := at_eq (sp := 8 * P.length - n * w) (v := v) (by omega) (by omega) hv
  have hmod := Nat.mod_lt v (show 0 < 8 * P.length - n * w by omega)
  obtain ⟨kk, hk1, hk2, hk3⟩ : ∃ kk, kk = 8 - (8 * P.length - n * w) + v % (8 * P.length - n * w) ∧ kk < 8 ∧ n * w ≤ 8 * S + kk := ⟨_, rfl, by omega, by omega⟩
  rw [← hk1] at ha
  obtain ⟨t1, t2⟩ := turned_val hP hS hk2 hk3
  have hor := or_byte (a := P.getD S 0) (b := 1) (getD_lt (by decide) hP S) hk2 (by decide)
  have u3 := unpack_ev t2 (by rw [List.length_set]; omega) (n : Int) (w : Int)
  rw [unp_bad (by omega) hw (by rw [List.length_set, hPl]) t1] at u3
  refine Ev.congr (f := fun k => (bits_Unpack.f k (ints (P.set S (P.getD S 0 ||| 1 <<< kk))) (n : Int) (w : Int)).bind fun bt => if bt.2 = 12 then ((columbariumlaw3_known.f k).bind fun t => some t) else some false) (fun k => ?_) (Ev.bind u3 (Ev.congr (fun k => by rw [if_pos rfl]) (Ev.bind known_ev (Ev.now _))))
  rw [if_neg (by omega), Option.bind_some, if_pos n3, Option.bind_some, List.nil_append, ints_length, e2, if_pos (by omega), if_pos (by omega), ha, if_pos (by omega), rd_ints]
  rw [show (1 : Int) = ((1 : Nat) : Int) from rfl, hor, Int.toNat_natCast, ints_set]

end Go.Proofs.Ytlalckngngppfaa.Pure
