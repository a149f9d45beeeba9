/- A filter is written and read as itself, behind anything; what is read is Right, and its bytes those that are written. No condition. -/
import Derived.Test.YtifcocmmapgebaaTBloomBaseBloomBack
import Derived.Test.YtifcocmmapgebaaTVarCanonBloomBack
namespace Go.Proofs.Ytifcocmmapgebaa.Pure
open Go.RowKit Go.Proofs.Ytifcocmmapgebaa.QBloomBack Go.Proofs.YtifcocmmapgebaaW.PrintWords Go.Proofs.YtifcocmmapgebaaW.PrintLast Go.Proofs.Ytifcocmmapgebaa.Base
set_option linter.unusedVariables false
set_option linter.unusedSimpArgs false

theorem addN {a b : Nat} (h : a + b < 9223372036854775808) : wrap64 ((a : Int) + (b : Int)) = ((a + b : Nat) : Int) := by
  rw [w64 (by omega) (by omega)]
  omega
theorem subN {a b : Nat} (h : b ≤ a) (h2 : a < 9223372036854775808) : wrap64 ((a : Int) - (b : Int)) = ((a - b : Nat) : Int) := by
  rw [w64 (by omega) (by omega)]
  omega
theorem right_of {n : Nat} {X : List Nat} (hs : bloom_size.f (n : Int) = some true) (hn : n < 9223372036854775808) (hl : X.length = n / 8) : bloom_Right.f (n : Int) (ints X) = some true := by
  rw [bloom_Right.f, hs, Option.bind_some, if_pos rfl, ints_length, hl, div8 hn, beq_self_eq_true]
theorem enc_ev {n : Nat} {X : List Nat} (hs : bloom_size.f (n : Int) = some true) (hn : n ≤ 65536) (hl : X.length = n / 8) : Ev (fun k => bloom_Encode.f k (n : Int) (ints X)) (ints (putN n ++ X), 0) := by
  have h64 : n < 2 ^ 64 := Nat.lt_of_le_of_lt hn (by decide)
  have h10 := putN_10 h64
  have e : IntKind.u64.wrap (n : Int) = (n : Int) := wu64 (by omega) (by omega)
  refine Ev.congr (fun k => by rw [bloom_Encode.f, right_of hs (by omega) hl, Option.bind_some, if_pos rfl, e]) (Ev.bind (put_ev h64) ?_)
  exact Ev.congr (f := fun _ => some (ints (putN n ++ X), 0)) (fun k => by rw [if_pos (by rw [ints_length, ints_length]; omega), ints_append]) (Ev.now _)
theorem size_range {u : Int} {b : Bool} (h : bloom_size.f u = some b) (hb : b = true) : 64 ≤ u ∧ u ≤ 65536 := by
  subst hb
  unfold bloom_size.f at h
  by_cases h1 : u ≥ 64
  · rw [if_pos h1] at h
    by_cases h2 : u ≤ 65536
    · exact ⟨h1, h2⟩
    · rw [if_neg h2] at h
      exact absurd (Option.some.inj h) Bool.false_ne_true
  · rw [if_neg h1] at h
    exact absurd (Option.some.inj h) Bool.false_ne_true
theorem size_some (u : Int) : ∃ b, bloom_size.f u = some b := by
  unfold bloom_size.f
  split
  · split
    · exact ⟨_, rfl⟩
    · exact ⟨_, rfl⟩
  · exact ⟨_, rfl⟩
/-- What is behind the number is read. -/
theorem dec_at {B : List Nat} (hB : ∀ x ∈ B, x < 256) (hl : B.length ≤ 140737488355327) (a : Int) {n p : Nat} (hg : getS B a = ((n : Int), (p : Int), 0)) (hs : bloom_size.f (n : Int) = some true) (hn : n ≤ 65536) (hp : p ≤ B.length) :
    Ev (fun k => bloom_Decode.f k (ints B) a) (if B.length - p < n / 8 then ((0 : Int), ([] : List Int), (0 : Int), (10 : Int)) else ((n : Int), ints ((B.take (p + n / 8)).drop p), ((p + n / 8 : Nat) : Int), (0 : Int))) := by
  have h := get_ev hB hl a
  rw [hg] at h
  have hsm : Ev (fun k => varint_Small.f k (ints B) a) ((n : Int), (p : Int), 0) := by
    refine Ev.congr (fun k => rfl) (Ev.bind h (Ev.congr (f := fun _ => some ((n : Int), (p : Int), (0 : Int))) (fun k => ?_) (Ev.now _)))
    have e : mn (n : Int) 1099511627776 = (n : Int) := by rw [mn, if_neg (by omega)]
    have e2 : wrap64 (n : Int) = (n : Int) := w64 (by omega) (by omega)
    rw [e, e2]
  have e1 := subN hp (show B.length < 9223372036854775808 by omega)
  have e2 := div8 (p := n) (by omega)
  have e3 := addN (a := p) (b := n / 8) (by omega)
  have hlen : ((B.take (p + n / 8)).drop p).length ≤ B.length := by rw [List.length_drop, List.length_take]; omega
  refine Ev.congr (fun k => rfl) (Ev.bind hsm (Ev.congr (fun k => by rw [if_pos rfl, hs, Option.bind_some, if_pos rfl, ints_length, e1, e2, e3]) ?_))
  by_cases hc : B.length - p < n / 8
  · rw [if_pos hc]
    exact Ev.congr (f := fun _ => some ((0 : Int), ([] : List Int), (0 : Int), (10 : Int))) (fun k => by rw [if_pos (by omega)]) (Ev.now _)
  · rw [if_neg hc]
    have c0 : ¬ ((B.length - p : Nat) : Int) < ((n / 8 : Nat) : Int) := by omega
    have c1 : (0 : Int) ≤ (p : Int) := by omega
    have c2 : (p : Int) ≤ ((p + n / 8 : Nat) : Int) := by omega
    have c3 : ((p + n / 8 : Nat) : Int) ≤ (B.length : Int) := by omega
    refine Ev.congr (f := fun _ => some ((n : Int), ints ((B.take (p + n / 8)).drop p), ((p + n / 8 : Nat) : Int), (0 : Int))) (fun k => ?_) (Ev.now _)
    rw [if_neg c0, if_pos c1, if_pos c2, if_pos c3, Int.toNat_natCast, Int.toNat_natCast, ints_take, ints_drop, slices_Clone_byte_byte.f, if_pos (by rw [ints_length]; omega), Option.bind_some]
theorem second_ev {B : List Nat} (hB : ∀ x ∈ B, x < 256) (hl : B.length ≤ 140737488351232) : Ev (fun k => columbariumlaw9_BloomBack.j0 k (ints B) false) true := by
  have hg := get_ev hB (by omega) 0
  have h0 : getS B 0 = getR B 0 := by
    rw [getS, if_neg (by omega)]
    rfl
  rw [h0] at hg
  have hgood := getR_good B 0
  have hput := @getR_put B hB
  have hat := @dec_at B hB (by omega) 0
  rw [h0] at hat
  generalize getR B 0 = g at *
  obtain ⟨v, q, e⟩ := g
  refine Ev.step (fun k => by rw [columbariumlaw9_BloomBack.j0, if_neg Bool.false_ne_true]) ?_
  have stop : ∀ r : Int × List Int × Int × Int, r.2.2.2 ≠ 0 → Ev (fun k => bloom_Decode.f k (ints B) 0) r → Ev (fun k => (bloom_Decode.f k (ints B) 0).bind fun bt216 => (if bt216.2.2.2 = 0 then ((bloom_Encode.f k bt216.1 bt216.2.1).bind fun bt223 => (if bt223.2 = 0 then (if bt216.2.2.1 > ((ints B).length : Int) then (some false) else (if 0 ≤ bt216.2.2.1 then (if bt216.2.2.1 ≤ ((ints B).length : Int) then (if (strOfNums bt223.1).toList = (strOfNums ((ints B).take (bt216.2.2.1 : Int).toNat)).toList then ((bloom_Right.f bt216.1 bt216.2.1).bind fun t228 => (if t228 = true then ((columbariumlaw9_known.f k).bind fun t229 => (some t229)) else (some false))) else (some false)) else (none)) else (none))) else (some false))) else ((columbariumlaw9_known.f k).bind fun t230 => (some t230)))) true := by
    intro r hr h
    exact Ev.bind h (Ev.congr (fun k => by rw [if_neg hr]) (Ev.bind known_ev (Ev.now _)))
  have hsm : Ev (fun k => varint_Small.f k (ints B) 0) (wrap64 (mn v 1099511627776), q, e) := Ev.congr (fun k => rfl) (Ev.bind hg (Ev.now _))
  by_cases he : e = 0
  · subst he
    obtain ⟨n, m, rfl, rfl, hm, ht⟩ := hput rfl
    obtain ⟨b, hb⟩ := size_some (wrap64 (mn (n : Int) 1099511627776))
    cases b with
    | false => exact stop (0, [], 0, 12) (by decide) (Ev.congr (fun k => rfl) (Ev.bind hsm (Ev.congr (f := fun _ => some ((0 : Int), ([] : List Int), (0 : Int), (12 : Int))) (fun k => by rw [if_pos rfl, hb, Option.bind_some, if_neg Bool.false_ne_true]) (Ev.now _))))
    | true =>
      have hr := size_range hb rfl
      have e1 : wrap64 (mn (n : Int) 1099511627776) = (n : Int) := by
        have h1 : mn (n : Int) 1099511627776 = (n : Int) ∨ mn (n : Int) 1099511627776 = 1099511627776 := by
          rw [mn]
          split
          · exact .inr rfl
          · exact .inl rfl
        rcases h1 with h1 | h1
        · rw [h1] at hr ⊢
          have h2 : 0 ≤ (n : Int) ∧ (n : Int) ≤ 1099511627776 := by
            rw [mn] at h1
            split at h1 <;> omega
          exact w64 (by omega) (by omega)
        · rw [h1, w64 (by omega) (by omega)] at hr
          omega
      rw [e1] at hb hr
      have hd := hat rfl hb (by omega) hm
      by_cases hc : B.length - m < n / 8
      · rw [if_pos hc] at hd
        exact stop _ (by decide) hd
      · rw [if_neg hc] at hd
        have hX : ((B.take (m + n / 8)).drop m).length = n / 8 := by
          rw [List.length_drop, List.length_take]
          omega
        have hen := enc_ev hb (by omega) hX
        have heq : putN n ++ (B.take (m + n / 8)).drop m = B.take (m + n / 8) := by
          rw [← ht]
          have h1 : B.take m = (B.take (m + n / 8)).take m := by rw [List.take_take, Nat.min_eq_left (by omega)]
          rw [h1, List.take_append_drop]
        refine Ev.bind hd (Ev.congr (fun k => by rw [if_pos rfl]) (Ev.bind hen ?_))
        refine Ev.congr (fun k => ?_) (Ev.bind known_ev (Ev.now _))
        rw [if_pos rfl, if_neg (by rw [ints_length]; simp only; omega), if_pos (by simp only; omega), if_pos (by rw [ints_length]; simp only; omega), Int.toNat_natCast, ints_take, heq, if_pos rfl, right_of hb (by omega) hX, Option.bind_some, if_pos rfl]
  · exact stop (0, [], 0, e) he (Ev.congr (fun k => rfl) (Ev.bind hsm (Ev.congr (f := fun _ => some ((0 : Int), ([] : List Int), (0 : Int), e)) (fun k => by rw [if_neg he]) (Ev.now _))))
theorem BloomBack : columbariumlaw9_BloomBack.Pure := by
  intro l0 l1 l2 _ hs0 _ hr1 hwf1 _ hr2 hwf2
  obtain ⟨A, rfl, hA⟩ := ints_of fun x hx => wf_u8 (hwf1 x hx)
  obtain ⟨B, rfl, hB⟩ := ints_of fun x hx => wf_u8 (hwf2 x hx)
  rw [ints_length] at hr1 hr2
  refine Ev.rounds ?_
  have hL : (l0.take 40).length ≤ 40 := by rw [List.length_take]; omega
  have hsL : ∀ s ∈ l0.take 40, s.size ≤ 9223372036854775807 := fun s h => hs0 s (List.mem_of_mem_take h)
  have hf := few_f l0
  generalize l0.take 40 = L at hL hsL hf
  have hd := set_length L
  have hb := build_ev L (by omega) (by omega) hsL
  have hsz : bloom_size.f ((fbits L : Nat) : Int) = some true := size_five (bitsOf_five _)
  have hrg : 64 ≤ fbits L ∧ fbits L ≤ 1024 ∧ fbits L % 8 = 0 := bitsOf_range _
  have hXl := fbytes_length L
  have hX := fbytes_lt L
  generalize fbits L = n at *
  generalize fbytes L = X at *
  have hen := enc_ev hsz (by omega) hXl
  have h64 : n < 2 ^ 64 := Nat.lt_of_le_of_lt (show n ≤ 1024 by omega) (by decide)
  have h10 := putN_10 h64
  have hC : ∀ x ∈ A ++ (putN n ++ X), x < 256 := fun x hx => (List.mem_append.1 hx).elim (hA x) fun h => (List.mem_append.1 h).elim (putN_lt n x) (hX x)
  have hCl : (A ++ (putN n ++ X)).length = A.length + ((putN n).length + X.length) := by rw [List.length_append, List.length_append]
  have hg := getS_put (B := A ++ (putN n ++ X)) (R := X) (p := A.length) (v := n) (Nat.lt_of_le_of_lt (show n ≤ 1024 by omega) (by decide)) (List.drop_left' rfl) (by omega)
  have hdc := dec_at hC (by omega) (A.length : Int) hg hsz (by omega) (by omega)
  have hdrop : ((A ++ (putN n ++ X)).take (A.length + (putN n).length + n / 8)).drop (A.length + (putN n).length) = X := by
    rw [← List.append_assoc, List.take_of_length_le (by rw [List.length_append, List.length_append]; omega), List.drop_left' (by rw [List.length_append])]
  rw [if_neg (by omega), hdrop] at hdc
  have n1 : ([] : List Int).length + (ints A).length < 140737488355328 := by rw [ints_length]; simp only [List.length_nil]; omega
  have n2 : (ints A).length + (ints (putN n ++ X)).length < 140737488355328 := by rw [ints_length, ints_length, List.length_append]; omega
  refine Ev.congr (fun k => by rw [columbariumlaw9_BloomBack.f, hf, Option.bind_some]) (Ev.bind hb (Ev.bind hen ?_))
  refine Ev.congr (fun k => by rw [Option.bind_some, if_pos n1, Option.bind_some, List.nil_append, if_pos n2, Option.bind_some, ints_append, ints_length, ints_length]) (Ev.bind hdc ?_)
  refine Ev.congr (fun k => ?_) (second_ev hB (by omega))
  rw [if_pos rfl, if_pos rfl, if_pos (by rw [hCl]; simp only; omega), if_pos rfl, bne_self_eq_false]

end Go.Proofs.Ytifcocmmapgebaa.Pure
