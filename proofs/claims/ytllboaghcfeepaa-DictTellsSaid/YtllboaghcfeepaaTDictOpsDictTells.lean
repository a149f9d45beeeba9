/- What the laws of dictionaries call beside: few, Texts, Same, From, Fits, as printed for DictTells. -/
import Derived.Test.YtllboaghcfeepaaTDictSetDictTells
namespace Go.Proofs.Ytllboaghcfeepaa.QDictTells
open Go.RowKit Go.Proofs.YtllboaghcfeepaaW.PrintWords Go.Proofs.YtllboaghcfeepaaW.PrintLast Go.Proofs.YtllboaghcfeepaaW.PrintMore Go.Proofs.Ytllboaghcfeepaa.Base
set_option linter.unusedVariables false
set_option linter.unusedSimpArgs false

/-! ### few -/
def cut1 (s : ByteArray) : ByteArray := if 41 < s.size then s.extract 0 41 else s
def fewL (l : List ByteArray) : List ByteArray := (l.take 40).map cut1
theorem fewL_length (l : List ByteArray) : (fewL l).length ≤ 40 := by
  rw [fewL, List.length_map, List.length_take]
  omega
theorem cut1_size (s : ByteArray) : (cut1 s).size ≤ 41 := by
  rw [cut1]
  split
  · rw [ByteArray.size_extract]
    omega
  · omega
theorem fewL_size (l : List ByteArray) : ∀ s ∈ fewL l, s.size ≤ 41 := by
  intro s hs
  obtain ⟨x, _, rfl⟩ := List.mem_map.1 hs
  exact cut1_size x
theorem few_l0 (l : List ByteArray) (m : Nat) : ∀ i (acc : List ByteArray), min l.length 40 - i = m → i ≤ min l.length 40 → acc.length = i →
    Ev (fun k => columbariumlaw7_few.l0 k l acc (i : Int)) (acc ++ ((l.take 40).drop i).map cut1) := by
  induction m with
  | zero =>
    intro i acc hm hi ha
    rw [List.drop_eq_nil_of_le (by rw [List.length_take]; omega), List.map_nil, List.append_nil]
    by_cases h : i < l.length
    · refine Ev.step (f := fun k => columbariumlaw7_few.j1 k l acc (i : Int) false) (fun k => by rw [columbariumlaw7_few.l0, if_pos (by omega), decide_eq_false (by omega)]) ?_
      exact Ev.step (f := fun _ => some acc) (fun k => by rw [columbariumlaw7_few.j1, if_neg Bool.false_ne_true]) (Ev.now _)
    · refine Ev.step (f := fun k => columbariumlaw7_few.j1 k l acc (i : Int) false) (fun k => by rw [columbariumlaw7_few.l0, if_neg (by omega)]) ?_
      exact Ev.step (f := fun _ => some acc) (fun k => by rw [columbariumlaw7_few.j1, if_neg Bool.false_ne_true]) (Ev.now _)
  | succ m ih =>
    intro i acc hm hi ha
    have hi' : i < l.length := by omega
    have hi2 : i < (l.take 40).length := by rw [List.length_take]; omega
    have e : (l.take 40)[i] = gt l i := by rw [List.getElem_take, gt_get l i hi']
    refine Ev.step (f := fun k => columbariumlaw7_few.j1 k l acc (i : Int) true) (fun k => by rw [columbariumlaw7_few.l0, if_pos (by omega), decide_eq_true (by omega)]) ?_
    refine Ev.step (f := fun k => columbariumlaw7_few.l0 k l (acc ++ [cut1 (gt l i)]) ((i + 1 : Nat) : Int)) (fun k => ?_) ?_
    · rw [columbariumlaw7_few.j1, if_pos rfl, if_pos (by omega), if_pos (by omega), rd_gt, succ64 (by omega), cut1]
      have ha' : acc.length < 8796093022208 := by omega
      by_cases h : 41 < (gt l i).size
      · rw [if_pos (by omega), if_pos (by omega), if_pos (by omega), if_pos ha', if_pos h]
      · rw [if_neg (by omega), if_pos ha', if_neg h]
    · have := ih (i + 1) (acc ++ [cut1 (gt l i)]) (by omega) (by omega) (by rw [List.length_append, ha]; rfl)
      rw [List.append_assoc] at this
      rw [List.drop_eq_getElem_cons hi2, List.map_cons, e]
      exact this
theorem few_ev (l : List ByteArray) : Ev (fun k => columbariumlaw7_few.f k l) (fewL l) := few_l0 l _ 0 [] rfl (Nat.zero_le _) rfl

/-! ### Texts, Same -/
theorem texts_l0 (L M : List ByteArray) (hlen : L.length = M.length) (hb : L.length < 9223372036854775807) (d : Nat) : ∀ i, L.length - i = d → i ≤ L.length →
    Ev (fun k => columbariumkeep_Texts.l0 k L M (i : Int)) (decide (L.drop i = M.drop i)) := by
  induction d with
  | zero =>
    intro i hd hi
    have hi' : i = L.length := by omega
    refine Ev.step (f := fun _ => some true) (fun k => by rw [columbariumkeep_Texts.l0, if_neg (by omega)]) ?_
    have e : decide (L.drop i = M.drop i) = true := by
      rw [hi', List.drop_length, hlen, List.drop_length]
      exact decide_eq_true rfl
    rw [e]
    exact Ev.now _
  | succ d ih =>
    intro i hd hi
    have h1 : i < L.length := by omega
    have h2 : i < M.length := by omega
    have eL : L.drop i = gt L i :: L.drop (i + 1) := by rw [List.drop_eq_getElem_cons h1, gt_get L i h1]
    have eM : M.drop i = gt M i :: M.drop (i + 1) := by rw [List.drop_eq_getElem_cons h2, gt_get M i h2]
    by_cases h : gt L i = gt M i
    · have e : decide (L.drop i = M.drop i) = decide (L.drop (i + 1) = M.drop (i + 1)) := by
        rw [eL, eM, h]
        simp
      rw [e]
      refine Ev.step (f := fun k => columbariumkeep_Texts.l0 k L M ((i + 1 : Nat) : Int)) (fun k => ?_) (ih (i + 1) (by omega) (by omega))
      rw [columbariumkeep_Texts.l0, if_pos (by omega), if_pos (by omega), if_pos (by omega), rd_gt, rd_gt, if_pos (by rw [h]), succ64 (by omega)]
    · have e : decide (L.drop i = M.drop i) = false := by
        rw [eL, eM]
        exact decide_eq_false fun e => h (List.cons.inj e).1
      rw [e]
      refine Ev.step (f := fun _ => some false) (fun k => ?_) (Ev.now _)
      rw [columbariumkeep_Texts.l0, if_pos (by omega), if_pos (by omega), if_pos (by omega), rd_gt, rd_gt, if_neg fun e => h (ba_ext e)]
theorem texts_ev (L M : List ByteArray) (hb : L.length < 9223372036854775807) : Ev (fun k => columbariumkeep_Texts.f k L M) (decide (L = M)) := by
  by_cases h : L.length = M.length
  · refine Ev.congr (f := fun k => columbariumkeep_Texts.l0 k L M ((0 : Nat) : Int)) (fun k => by rw [columbariumkeep_Texts.f, if_pos (by omega)]; rfl) ?_
    have := texts_l0 L M h hb L.length 0 (by omega) (by omega)
    exact this
  · have e : decide (L = M) = false := decide_eq_false fun e => h (by rw [e])
    rw [e]
    exact Ev.congr (f := fun _ => some false) (fun k => by rw [columbariumkeep_Texts.f, if_neg (by omega)]) (Ev.now _)
theorem known_ev : Ev (fun k => columbariumlaw7_known.f k) true := Ev.of columbariumlaw7_known.mono (k := 60) (by decide +kernel)

end Go.Proofs.Ytllboaghcfeepaa.QDictTells
