/- Unlike numbers have unlike bytes; with as many numbers more or less the bytes are refused, or they are those of what is read. No condition. -/
import Derived.Test.YtpnnfkefddkjcaaTRunsTripRunsLists
import Derived.Test.YtpnnfkefddkjcaaTSame64RunsLists
import Derived.Test.YtpnnfkefddkjcaaTShapedRunsLists
namespace Go.Proofs.Ytpnnfkefddkjcaa.Pure
open Go.RowKit Go.Proofs.Ytpnnfkefddkjcaa.QRunsLists Go.Proofs.YtpnnfkefddkjcaaW.PrintWords Go.Proofs.YtpnnfkefddkjcaaW.PrintLast Go.Proofs.Ytpnnfkefddkjcaa.Base
set_option linter.unusedVariables false
set_option linter.unusedSimpArgs false

theorem known_ev : Ev (fun k => columbariumlaw5_known.f k) true := Ev.of columbariumlaw5_known.mono (k := 60) (by decide +kernel)
def second (k : Nat) (M E : List Int) (w a3 : Int) : Option Bool :=
  (columbariumbook_Within.f a3 0 (wrap64 ((M.length : Int) + 20))).bind fun t215 => (if t215 = (M.length : Int) then ((columbariumlaw5_known.f k).bind fun t216 => (some t216)) else ((runs_Decode.f k E 0 t215 w).bind fun bt217 => (if bt217.2.2 = 0 then ((runs_Encode.f k bt217.1 w).bind fun bt222 => (if bt222.2 = 0 then (if (bt217.1.length : Int) = t215 then (if bt217.2.1 ≥ 0 then (if bt217.2.1 ≤ (E.length : Int) then (if 0 ≤ bt217.2.1 then (if (strOfNums bt222.1).toList = (strOfNums (E.take (bt217.2.1 : Int).toNat)).toList then ((columbariumlaw5_known.f k).bind fun t230 => (some t230)) else (some false)) else (none)) else (some false)) else (some false)) else (some false)) else (some false))) else (if (bt217.1.length : Int) = 0 then ((columbariumlaw5_known.f k).bind fun t231 => (some t231)) else (some false)))))
theorem second_ev {M Z : List Nat} (hM : M.length ≤ 240) (hZ : ∀ x ∈ Z, x < 256) (hl : Z.length ≤ 140737488355327) {w : Nat} (hw : w ≤ 32) (a3 : Int) : Ev (fun k => second k (ints M) (ints Z) (w : Int) a3) true := by
  obtain ⟨n, hn, e⟩ := within_some a3 (M.length + 20) (by omega)
  have e' : columbariumbook_Within.f a3 0 (wrap64 (((ints M).length : Int) + 20)) = some (n : Int) := by rw [ints_length, w64 (by omega) (by omega)]; exact e
  by_cases hnM : n = M.length
  · exact Ev.congr (fun k => by rw [second, e', Option.bind_some, if_pos (by rw [ints_length]; omega)]) (Ev.bind known_ev (Ev.now _))
  obtain ⟨r, hg, hr⟩ := dec_ev hZ hl (n := n) hw (by omega) 0 (by omega)
  have hr : Ev (fun k => runs_Decode.f k (ints Z) 0 (n : Int) (w : Int)) r := hr
  refine Ev.congr (fun k => by rw [second, e', Option.bind_some, if_neg (by rw [ints_length]; omega)]) (Ev.bind hr ?_)
  rcases hg with ⟨h1, h2⟩ | ⟨h1, R, q, h2, h3, h4, h5, h6, h7, h8, h9⟩
  · exact Ev.congr (fun k => by rw [if_neg h1, if_pos (by rw [h2]; rfl)]) (Ev.bind known_ev (Ev.now _))
  · have he := enc_ev h7 (by omega) (w : Int)
    rw [← h2] at he
    refine Ev.congr (fun k => by rw [if_pos h1]) (Ev.bind he ?_)
    rw [List.drop_zero] at h9
    refine Ev.congr (fun k => ?_) (Ev.bind known_ev (Ev.now _))
    rw [if_pos h8, if_pos (by rw [h2, ints_length, h6]), h3, if_pos (by omega), if_pos (by rw [ints_length]; omega), if_pos (by omega), if_pos (by rw [show (q : Int).toNat = q from rfl, ints_take, h9])]
theorem second_j1 {M Z : List Nat} (hM : M.length ≤ 240) (hZ : ∀ x ∈ Z, x < 256) (hl : Z.length ≤ 140737488355327) {w : Nat} (hw : w ≤ 32) (a3 : Int) : Ev (fun k => columbariumlaw5_RunsLists.j1 k (w : Int) a3 (ints M) (ints Z) false) true :=
  Ev.step (f := fun k => second k (ints M) (ints Z) (w : Int) a3) (fun k => by rw [columbariumlaw5_RunsLists.j1, if_neg (by decide)]; rfl) (second_ev hM hZ hl hw a3)
theorem enc_inj {M P : List Nat} {w : Nat} (hw : w ≤ 32) (hM : ∀ x ∈ M, x < 2 ^ w) (hP : ∀ x ∈ P, x < 2 ^ w) (hMl : M.length ≤ 240) (hl : M.length = P.length) (h : (enc M (w : Int)).1 = (enc P (w : Int)).1) : M = P := by
  have hsz := enc_size5 (L := M) (by omega) (w : Int)
  have h1 := trip_ev (enc_bytes M (w : Int)) (by omega) hw (by omega) hM 0 [] (by omega) (by simp)
  have h2 := trip_ev (enc_bytes P (w : Int)) (by rw [← h]; omega) hw (by omega) hP 0 [] (by omega) (by simp)
  rw [← h, ← hl] at h2
  obtain ⟨K1, hk1⟩ := h1
  obtain ⟨K2, hk2⟩ := h2
  have e := (hk1 (K1 + K2) (by omega)).symm.trans (hk2 (K1 + K2) (by omega))
  simp only [Option.some.injEq, Prod.mk.injEq] at e
  exact ints_inj e.1
theorem RunsLists : columbariumlaw5_RunsLists.Pure := by
  intro l0 l1 a2 a3 _ _ _ _ _ _
  refine Ev.rounds ?_
  obtain ⟨w, hw, e1⟩ := within_some a2 32 (by decide)
  have e1' : columbariumbook_Within.f a2 0 32 = some (w : Int) := e1
  obtain ⟨M, hMl, hM, hs⟩ := shaped_some l0 w hw
  obtain ⟨P, hPl, hP, hs2⟩ := shaped_some l1 w hw
  have hM64 : ∀ x ∈ M, x < 2 ^ 64 := fun x hx => Nat.lt_of_lt_of_le (hM x hx) (Nat.pow_le_pow_right (by decide) (by omega))
  have hP64 : ∀ x ∈ P, x < 2 ^ 64 := fun x hx => Nat.lt_of_lt_of_le (hP x hx) (Nat.pow_le_pow_right (by decide) (by omega))
  have hsz := enc_size5 (L := M) (by omega) (w : Int)
  have hby := enc_bytes M (w : Int)
  have hsec := second_j1 hMl hby (by omega) hw a3
  refine Ev.congr (fun k => by rw [columbariumlaw5_RunsLists.f, e1', Option.bind_some]) (Ev.bind hs (Ev.bind hs2 (Ev.bind (enc_ev hM64 (by omega) _) (Ev.bind (enc_ev hP64 (by omega) _) ?_))))
  refine Ev.congr (f := fun k => columbariumlaw5_RunsLists.j0 k (w : Int) a3 (ints M) (ints P) (ints (enc M (w : Int)).1) (ints (enc P (w : Int)).1) false) (fun k => by rw [if_pos (enc_fits hw hM), show ((enc P (w : Int)).2 != 0) = false from by rw [enc_fits hw hP]; rfl]) ?_
  by_cases hlen : M.length = P.length
  · refine Ev.step (f := fun k => (columbariumbook_Same_uint64.f k (ints M) (ints P)).bind fun t214 => columbariumlaw5_RunsLists.j1 k (w : Int) a3 (ints M) (ints (enc M (w : Int)).1) (((strOfNums (ints (enc M (w : Int)).1)).toList == (strOfNums (ints (enc P (w : Int)).1)).toList) != t214)) (fun k => ?_) (Ev.bind (same64_ev M P (by omega)) (Ev.congr (fun k => ?_) hsec))
    · rw [columbariumlaw5_RunsLists.j0, if_neg (by decide), if_pos (by rw [ints_length, ints_length, hlen])]
    · have : ((strOfNums (ints (enc M (w : Int)).1)).toList == (strOfNums (ints (enc P (w : Int)).1)).toList) = decide (M = P) := by
        by_cases h : M = P
        · subst h
          simp
        · rw [decide_eq_false h]
          exact beq_eq_false_iff_ne.mpr fun he => h (enc_inj hw hM hP hMl hlen ((str_inj hby (enc_bytes P (w : Int))).1 he))
      rw [this, bne_self_eq_false]
  · refine Ev.step (f := fun k => columbariumlaw5_RunsLists.j1 k (w : Int) a3 (ints M) (ints (enc M (w : Int)).1) false) (fun k => ?_) hsec
    rw [columbariumlaw5_RunsLists.j0, if_neg (by decide), if_neg (by rw [ints_length, ints_length]; omega)]

end Go.Proofs.Ytpnnfkefddkjcaa.Pure
