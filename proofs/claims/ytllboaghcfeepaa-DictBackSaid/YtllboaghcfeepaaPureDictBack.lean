/- A dictionary that fits is written and read as itself, behind anything; one of its bytes turned, it is refused, or another that fits. No condition. -/
import Derived.Test.YtllboaghcfeepaaTDictOpsDictBack
import Derived.Test.YtllboaghcfeepaaTDictEncDictBack
import Derived.Test.YtllboaghcfeepaaTBookDictBack
namespace Go.Proofs.Ytllboaghcfeepaa.Pure
open Go.RowKit Go.Proofs.Ytllboaghcfeepaa.QDictBack Go.Proofs.YtllboaghcfeepaaW.PrintWords Go.Proofs.YtllboaghcfeepaaW.PrintLast Go.Proofs.Ytllboaghcfeepaa.Base
set_option linter.unusedVariables false
set_option linter.unusedSimpArgs false

theorem byte_range (o : BinOp) (x y : Int) : 0 ≤ Go.bits o .u8 x y ∧ Go.bits o .u8 x y < 256 := by
  have h : ∀ z : Int, 0 ≤ IntKind.u8.wrap z ∧ IntKind.u8.wrap z < 256 := fun z => by rw [IntKind.wrap_u8]; omega
  unfold Go.bits
  exact h _
theorem turned_ev {X : List Nat} (hX : ∀ x ∈ X, x < 256) (h0 : 0 < X.length) (hl : X.length ≤ 810) (a2 a3 : Int) : Ev (fun k => columbariumlaw7_DictBack.j1 k a2 a3 (ints X) false) true := by
  obtain ⟨n, hn, e⟩ := within_some a2 (X.length - 1) (by omega)
  have e1 : wrap64 ((X.length : Int) - 1) = ((X.length - 1 : Nat) : Int) := by rw [w64 (by omega) (by omega)]; omega
  obtain ⟨v, hv, hv2⟩ : ∃ v : Nat, Go.bits .xor .u8 (rd (ints X) (n : Int)) a3 = (v : Int) ∧ v < 256 := by
    have := byte_range .xor (rd (ints X) (n : Int)) a3
    exact ⟨(Go.bits .xor .u8 (rd (ints X) (n : Int)) a3).toNat, by omega, by omega⟩
  have hY : ∀ x ∈ X.set n v, x < 256 := fun x hx => (List.mem_or_eq_of_mem_set hx).elim (hX x) fun h => h ▸ hv2
  obtain ⟨r, hr, hd⟩ := decode_fine hY (by rw [List.length_set]; omega) 0
  have c1 : (0 : Int) ≤ (n : Int) := by omega
  have c2 : (n : Int) < (X.length : Int) := by omega
  refine Ev.step (f := fun k => (dict_Decode.f k (ints (X.set n v)) 0).bind fun bt268 => (if bt268.2.2 = 0 then ((dict_Fits.f k bt268.1).bind fun t273 => (if t273 = true then ((columbariumlaw7_known.f k).bind fun t274 => (some t274)) else (some false))) else (if (bt268.1.length : Int) = 0 then ((columbariumlaw7_known.f k).bind fun t275 => (some t275)) else ((dict_Fits.f k bt268.1).bind fun t276 => (if t276 = true then ((columbariumlaw7_known.f k).bind fun t277 => (some t277)) else (some false)))))) (fun k => ?_) (Ev.bind hd ?_)
  · rw [columbariumlaw7_DictBack.j1, if_neg Bool.false_ne_true, ints_length, e1, e, Option.bind_some, if_pos c1, if_pos c2, hv, Int.toNat_natCast, ints_set]
  · rcases hr with ⟨h1, h2⟩ | ⟨h1, h2, h3⟩
    · exact Ev.congr (fun k => by rw [if_neg h1, if_pos (by rw [h2]; rfl)]) (Ev.bind known_ev (Ev.now _))
    · exact Ev.congr (fun k => by rw [if_pos h1]) (Ev.bind (fits_short h2 h3) (Ev.congr (fun k => by rw [if_pos rfl]) (Ev.bind known_ev (Ev.now _))))
theorem back_ev {A : List Nat} (hA : ∀ x ∈ A, x < 256) (hl : A.length ≤ 140737488351232) (L : List ByteArray) (hL : L.length ≤ 40) (a2 a3 : Int) : Ev (fun k => columbariumlaw7_DictBack.j0 k (ints A) L a2 a3) true := by
  have hs := set_length L
  have hd := set_rises L
  have hb := build_ev L (by omega)
  generalize dict_set L = d at hs hd hb
  obtain ⟨e1, e2⟩ := encode_ev hd (by omega)
  have hf := fits_ev hd (by omega)
  by_cases h : Short d
  · have e1 := e1 h
    rw [short_fits.2 h] at hf
    obtain ⟨x1, x2⟩ := encD_length h
    have hB : ∀ x ∈ A ++ encD d, x < 256 := fun x hx => (List.mem_append.1 hx).elim (hA x) (encD_lt d x)
    have hp := decode_put (B := A ++ encD d) hB (by rw [List.length_append]; omega) hd h (R := []) (p := A.length) (by rw [List.length_append]; omega) (by rw [List.drop_left' rfl, List.append_nil])
    have ht := texts_ev d d (by omega)
    rw [decide_eq_true rfl] at ht
    refine Ev.step (fun k => rfl) (Ev.bind hb (Ev.bind e1 (Ev.bind hf ?_)))
    have c1 : ([] : List Int).length + (ints A).length < 140737488355328 := by rw [ints_length]; simp; omega
    have c2 : (ints A).length + (ints (encD d)).length < 140737488355328 := by rw [ints_length, ints_length]; omega
    refine Ev.congr (fun k => by rw [if_pos rfl, Option.bind_some, if_pos c1, Option.bind_some, List.nil_append, if_pos c2, Option.bind_some, ints_append, ints_length]) (Ev.bind hp ?_)
    refine Ev.congr (fun k => by rw [if_pos rfl, if_pos rfl, if_pos (by rw [ints_length, List.length_append])]) (Ev.bind ht ?_)
    refine Ev.congr (fun k => ?_) (turned_ev (encD_lt d) x1 x2 a2 a3)
    rw [if_pos rfl, ints_length, beq_eq_false_iff_ne.mpr (by omega)]
  · have e2 := e2 h
    have hf2 : (decide (d.length ≤ 16) && !d.any dict_long) = false := by
      rw [← Bool.not_eq_true, short_fits]
      exact h
    rw [hf2] at hf
    refine Ev.step (fun k => rfl) (Ev.bind hb (Ev.bind e2 (Ev.bind hf ?_)))
    exact Ev.congr (fun k => by rw [if_neg Bool.false_ne_true, if_pos rfl]) (Ev.bind known_ev (Ev.now _))
theorem DictBack : columbariumlaw7_DictBack.Pure := by
  intro l0 l1 a2 a3 _ hr hwf _ _ _ _
  obtain ⟨A, rfl, hA⟩ := ints_of fun x hx => wf_u8 (hwf x hx)
  rw [ints_length] at hr
  refine Ev.rounds ?_
  have hf := fewL_length l1
  refine Ev.congr (fun k => rfl) (Ev.bind (few_ev l1) ?_)
  by_cases h : ((fewL l1).length : Int) > 12
  · exact Ev.congr (fun k => by rw [if_pos h, if_pos (by omega)]) (back_ev hA (by omega) _ (by rw [List.length_take]; omega) a2 a3)
  · exact Ev.congr (fun k => by rw [if_neg h]) (back_ev hA (by omega) _ hf a2 a3)

end Go.Proofs.Ytllboaghcfeepaa.Pure
