/- What is written is read, behind anything; bytes that are read are those that are written for what they are. No condition. -/
import Derived.Test.YtpnnfkefddkjcaaTRunsTripRunsBack
import Derived.Test.YtpnnfkefddkjcaaTSame64RunsBack
import Derived.Test.YtpnnfkefddkjcaaTShapedRunsBack
namespace Go.Proofs.Ytpnnfkefddkjcaa.Pure
open Go.RowKit Go.Proofs.Ytpnnfkefddkjcaa.QRunsBack Go.Proofs.YtpnnfkefddkjcaaW.PrintWords Go.Proofs.YtpnnfkefddkjcaaW.PrintLast Go.Proofs.Ytpnnfkefddkjcaa.Base
set_option linter.unusedVariables false
set_option linter.unusedSimpArgs false

theorem known_ev : Ev (fun k => columbariumlaw5_known.f k) true := Ev.of columbariumlaw5_known.mono (k := 60) (by decide +kernel)
def second (k : Nat) (Z : List Int) (w a3 : Int) : Option Bool :=
  (columbariumbook_Within.f a3 0 100).bind fun t223 => ((runs_Decode.f k Z 0 t223 w).bind fun bt224 => (if bt224.2.2 = 0 then ((runs_Encode.f k bt224.1 w).bind fun bt229 => (if bt229.2 = 0 then (if bt224.2.1 < 0 then (some false) else (if bt224.2.1 > (Z.length : Int) then (some false) else (if 0 ≤ bt224.2.1 then (if bt224.2.1 ≤ (Z.length : Int) then (if (strOfNums bt229.1).toList = (strOfNums (Z.take (bt224.2.1 : Int).toNat)).toList then ((bits_Width.f k bt224.1).bind fun t234 => (if t234 > w then (some false) else ((columbariumlaw5_known.f k).bind fun t235 => (some t235)))) else (some false)) else (none)) else (none)))) else (some false))) else ((columbariumlaw5_known.f k).bind fun t236 => (some t236))))
theorem second_ev {Z : List Nat} (hZ : ∀ x ∈ Z, x < 256) (hl : Z.length ≤ 140737488355327) {w : Nat} (hw : w ≤ 32) (a3 : Int) : Ev (fun k => second k (ints Z) (w : Int) a3) true := by
  obtain ⟨n, hn, e⟩ := within_some a3 100 (by decide)
  have e' : columbariumbook_Within.f a3 0 100 = some (n : Int) := e
  obtain ⟨r, hg, hr⟩ := dec_ev hZ hl (n := n) hw (by omega) 0 (by omega)
  have hr : Ev (fun k => runs_Decode.f k (ints Z) 0 (n : Int) (w : Int)) r := hr
  refine Ev.congr (fun k => by rw [second, e', Option.bind_some]) (Ev.bind hr ?_)
  rcases hg with ⟨h1, _⟩ | ⟨h1, R, q, h2, h3, h4, h5, h6, h7, h8, h9⟩
  · exact Ev.congr (fun k => by rw [if_neg h1]) (Ev.bind known_ev (Ev.now _))
  · have he := enc_ev h7 (by omega) (w : Int)
    have hwd := width_ev h7 (by omega)
    have hok := enc_ok h8
    rw [← h2] at he hwd
    refine Ev.congr (fun k => by rw [if_pos h1]) (Ev.bind he ?_)
    rw [List.drop_zero] at h9
    refine Ev.congr (f := fun k => (bits_Width.f k r.1).bind fun t234 => if t234 > (w : Int) then some false else (columbariumlaw5_known.f k).bind fun t => some t) (fun k => ?_) (Ev.bind hwd (Ev.congr (fun k => by rw [if_neg (by omega)]) (Ev.bind known_ev (Ev.now _))))
    rw [if_pos h8, h3, if_neg (by omega), if_neg (by rw [ints_length]; omega), if_pos (by omega), if_pos (by rw [ints_length]; omega), if_pos (by rw [show (q : Int).toNat = q from rfl, ints_take, h9])]
theorem RunsBack : columbariumlaw5_RunsBack.Pure := by
  intro l0 l1 a2 a3 _ hr hwf _ _ _ _
  obtain ⟨A, rfl, hA⟩ := ints_of fun x hx => wf_u8 (hwf x hx)
  refine Ev.rounds ?_
  rw [ints_length] at hr
  obtain ⟨w, hw, e1⟩ := within_some a2 32 (by decide)
  have e1' : columbariumbook_Within.f a2 0 32 = some (w : Int) := e1
  obtain ⟨M, hMl, hM, hs⟩ := shaped_some l1 w hw
  have hM64 : ∀ x ∈ M, x < 2 ^ 64 := fun x hx => Nat.lt_of_lt_of_le (hM x hx) (Nat.pow_le_pow_right (by decide) (by omega))
  have hsz := enc_size5 (L := M) (by omega) (w : Int)
  have hby := enc_bytes M (w : Int)
  have hB : ∀ x ∈ A ++ (enc M (w : Int)).1, x < 256 := fun x hx => (List.mem_append.1 hx).elim (hA x) (hby x)
  have htrip := trip_ev hB (by rw [List.length_append]; omega) hw (by omega) hM A.length [] (by rw [List.length_append]; omega) (by rw [List.drop_left' rfl, List.append_nil])
  have hsame := same64_ev M M (by omega)
  rw [decide_eq_true rfl] at hsame
  refine Ev.congr (fun k => by rw [columbariumlaw5_RunsBack.f, e1', Option.bind_some]) (Ev.bind hs (Ev.bind (enc_ev hM64 (by omega) _) ?_))
  refine Ev.congr (f := fun k => (runs_Decode.f k (ints (A ++ (enc M (w : Int)).1)) ((A.length : Nat) : Int) ((M.length : Nat) : Int) (w : Int)).bind fun bt216 => (if bt216.2.2 = 0 then (if bt216.2.1 = ((ints (A ++ (enc M (w : Int)).1)).length : Int) then ((columbariumbook_Same_uint64.f k (ints M) bt216.1).bind fun t221 => (if t221 = true then (if ((ints A).length : Int) > 100 then (if 100 ≤ ((ints A).length : Int) then second k ((ints A).take 100) (w : Int) a3 else none) else second k (ints A) (w : Int) a3) else some false)) else some false) else some false)) (fun k => ?_) (Ev.bind htrip ?_)
  · rw [if_pos (enc_fits hw hM), Option.bind_some, if_pos (by rw [ints_length]; simp; omega), Option.bind_some, if_pos (by rw [List.nil_append, ints_length, ints_length]; omega), Option.bind_some, List.nil_append, ints_append, ints_length, ints_length]
    simp only [second, ints_length]
  · refine Ev.congr (fun k => by rw [if_pos rfl, if_pos (by rw [ints_length, List.length_append])]) (Ev.bind hsame (Ev.congr (fun k => by rw [if_pos rfl]) ?_))
    by_cases h : ((ints A).length : Int) > 100
    · exact Ev.congr (fun k => by rw [if_pos h, if_pos (by omega), ints_take]) (second_ev (fun x hx => hA x (List.mem_of_mem_take hx)) (by rw [List.length_take]; omega) hw a3)
    · exact Ev.congr (fun k => by rw [if_neg h]) (second_ev hA (by omega) hw a3)

end Go.Proofs.Ytpnnfkefddkjcaa.Pure
