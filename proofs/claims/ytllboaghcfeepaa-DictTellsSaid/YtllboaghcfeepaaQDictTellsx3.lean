-- Written by a program of this session (wip/myprint.py): the machine's side of a law
import Derived.Test.YtllboaghcfeepaaQDictTellsx0
import Derived.Test.YtllboaghcfeepaaQDictTellsx1
import Derived.Test.YtllboaghcfeepaaQDictTellsx2
namespace Go.Proofs.Ytllboaghcfeepaa.QDictTells
open Go.RowKit Go.Proofs.YtllboaghcfeepaaW.PrintWords Go.Proofs.YtllboaghcfeepaaW.PrintLast Go.Proofs.YtllboaghcfeepaaW.PrintMore
attribute [local go_sem] max2_int min2_int max_two min_two max_three min_three max_four min_four   -- for this text's walks alone
set_option linter.unusedVariables false
set_option linter.unusedSimpArgs false

/-! ### columbariumlaw7_known: function 12 -/
def columbariumlaw7_known.f (k : Nat)  : Option (Bool) := (dict_Build.f k (([(⟨#[98]⟩ : ByteArray), (⟨#[97]⟩ : ByteArray), (⟨#[98]⟩ : ByteArray)] : List ByteArray))).bind fun bt147 => ((dict_Merge.f k (([(([(⟨#[97]⟩ : ByteArray), (⟨#[99]⟩ : ByteArray)] : List ByteArray)), (([(⟨#[98]⟩ : ByteArray), (⟨#[99]⟩ : ByteArray)] : List ByteArray))] : List (List ByteArray)))).bind fun bt162 => ((columbariumkeep_Texts.f k bt147.1 (([(⟨#[97]⟩ : ByteArray), (⟨#[98]⟩ : ByteArray)] : List ByteArray))).bind fun t171 => (if t171 = true then ((columbariumbook_Same_int.f k bt147.2 (([1, 0, 1] : List Int))).bind fun t175 => (if t175 = true then ((columbariumkeep_Texts.f k bt162.1 (([(⟨#[97]⟩ : ByteArray), (⟨#[98]⟩ : ByteArray), (⟨#[99]⟩ : ByteArray)] : List ByteArray))).bind fun t179 => (if t179 = true then (if (bt162.2.length : Int) = 2 then (if 1 < (bt162.2.length : Int) then ((columbariumbook_Same_int.f k (rd_L3 bt162.2 1) (([1, 2] : List Int))).bind fun t184 => (some t184)) else (none)) else (some false)) else (some false))) else (some false))) else (some false))))
theorem columbariumlaw7_known.mono : ∀ k, LeO (columbariumlaw7_known.f k ) (columbariumlaw7_known.f (k + 1) ) := by
 intro  k
 unfold columbariumlaw7_known.f
 repeat' first
   | (with_reducible exact columbariumbook_Same_int.mono _ _ _)
   | (with_reducible exact columbariumkeep_Texts.mono _ _ _)
   | (with_reducible exact dict_Build.mono _ _)
   | (with_reducible exact dict_Merge.mono _ _)
   | (with_reducible exact LeO.refl _)
   | (with_reducible exact LeO.none _)
   | (with_reducible refine LeO.ite ?_ ?_)
   | (with_reducible refine LeO.bind ?_ (fun _ => ?_))
   | exact columbariumbook_Same_int.mono _ _ _
   | exact columbariumkeep_Texts.mono _ _ _
   | exact dict_Build.mono _ _
   | exact dict_Merge.mono _ _
   | exact LeO.none _
   | refine LeO.ite ?_ ?_
   | refine LeO.bind ?_ (fun _ => ?_)
set_option maxHeartbeats 8000000 in
set_option maxRecDepth 100000 in
theorem columbariumlaw7_known.calls (k : Nat)  (r : Bool) (w : World) (h : columbariumlaw7_known.f k  = some r) :
  Calls Try.prog 12 #[] w fun e w' => e = .returned (.bool r) ∧ Below w.heap.size w w' := by
 have HB := Aside0.mk (Below.refl w.heap.size w)
 have H : ((dict_Build.f k (([(⟨#[98]⟩ : ByteArray), (⟨#[97]⟩ : ByteArray), (⟨#[98]⟩ : ByteArray)] : List ByteArray))).bind fun bt147 => ((dict_Merge.f k (([(([(⟨#[97]⟩ : ByteArray), (⟨#[99]⟩ : ByteArray)] : List ByteArray)), (([(⟨#[98]⟩ : ByteArray), (⟨#[99]⟩ : ByteArray)] : List ByteArray))] : List (List ByteArray)))).bind fun bt162 => ((columbariumkeep_Texts.f k bt147.1 (([(⟨#[97]⟩ : ByteArray), (⟨#[98]⟩ : ByteArray)] : List ByteArray))).bind fun t171 => (if t171 = true then ((columbariumbook_Same_int.f k bt147.2 (([1, 0, 1] : List Int))).bind fun t175 => (if t175 = true then ((columbariumkeep_Texts.f k bt162.1 (([(⟨#[97]⟩ : ByteArray), (⟨#[98]⟩ : ByteArray), (⟨#[99]⟩ : ByteArray)] : List ByteArray))).bind fun t179 => (if t179 = true then (if (bt162.2.length : Int) = 2 then (if 1 < (bt162.2.length : Int) then ((columbariumbook_Same_int.f k (rd_L3 bt162.2 1) (([1, 2] : List Int))).bind fun t184 => (some t184)) else (none)) else (some false)) else (some false))) else (some false))) else (some false))))) = some r := h
 clear h
 obtain ⟨y144, hy144⟩ : ∃ y_ : List ByteArray, y_ = (([(⟨#[98]⟩ : ByteArray), (⟨#[97]⟩ : ByteArray), (⟨#[98]⟩ : ByteArray)] : List ByteArray)) := ⟨_, rfl⟩
 replace H : ((dict_Build.f k y144).bind fun bt147 => ((dict_Merge.f k (([(([(⟨#[97]⟩ : ByteArray), (⟨#[99]⟩ : ByteArray)] : List ByteArray)), (([(⟨#[98]⟩ : ByteArray), (⟨#[99]⟩ : ByteArray)] : List ByteArray))] : List (List ByteArray)))).bind fun bt162 => ((columbariumkeep_Texts.f k bt147.1 (([(⟨#[97]⟩ : ByteArray), (⟨#[98]⟩ : ByteArray)] : List ByteArray))).bind fun t171 => (if t171 = true then ((columbariumbook_Same_int.f k bt147.2 (([1, 0, 1] : List Int))).bind fun t175 => (if t175 = true then ((columbariumkeep_Texts.f k bt162.1 (([(⟨#[97]⟩ : ByteArray), (⟨#[98]⟩ : ByteArray), (⟨#[99]⟩ : ByteArray)] : List ByteArray))).bind fun t179 => (if t179 = true then (if (bt162.2.length : Int) = 2 then (if 1 < (bt162.2.length : Int) then ((columbariumbook_Same_int.f k (rd_L3 bt162.2 1) (([1, 2] : List Int))).bind fun t184 => (some t184)) else (none)) else (some false)) else (some false))) else (some false))) else (some false))))) = some r := by first | (rw [hy144]; with_reducible exact H) | (have H2_ := (Option.bind_some _ _).symm.trans H; rw [hy144]; with_reducible exact H2_) | (have H2_ := (Option.bind_some _ _).symm.trans H; with_reducible exact H2_) | with_reducible exact H | (rw [hy144]; exact H) | exact H
 have Ny144 := Aside0.mk hy144
 clear hy144
 replace H := Option.bind_eq_some_iff.mp H
 obtain ⟨⟨t147, t150⟩, A10, H⟩ := H
 replace H : ((dict_Merge.f k (([(([(⟨#[97]⟩ : ByteArray), (⟨#[99]⟩ : ByteArray)] : List ByteArray)), (([(⟨#[98]⟩ : ByteArray), (⟨#[99]⟩ : ByteArray)] : List ByteArray))] : List (List ByteArray)))).bind fun bt162 => ((columbariumkeep_Texts.f k t147 (([(⟨#[97]⟩ : ByteArray), (⟨#[98]⟩ : ByteArray)] : List ByteArray))).bind fun t171 => (if t171 = true then ((columbariumbook_Same_int.f k t150 (([1, 0, 1] : List Int))).bind fun t175 => (if t175 = true then ((columbariumkeep_Texts.f k bt162.1 (([(⟨#[97]⟩ : ByteArray), (⟨#[98]⟩ : ByteArray), (⟨#[99]⟩ : ByteArray)] : List ByteArray))).bind fun t179 => (if t179 = true then (if (bt162.2.length : Int) = 2 then (if 1 < (bt162.2.length : Int) then ((columbariumbook_Same_int.f k (rd_L3 bt162.2 1) (([1, 2] : List Int))).bind fun t184 => (some t184)) else (none)) else (some false)) else (some false))) else (some false))) else (some false)))) = some r := H
 have A1 := Aside0.mk A10
 clear A10
 obtain ⟨y153, hy153⟩ : ∃ y_ : List ByteArray, y_ = (([(⟨#[97]⟩ : ByteArray), (⟨#[99]⟩ : ByteArray)] : List ByteArray)) := ⟨_, rfl⟩
 replace H : ((dict_Merge.f k (([y153, (([(⟨#[98]⟩ : ByteArray), (⟨#[99]⟩ : ByteArray)] : List ByteArray))] : List (List ByteArray)))).bind fun bt162 => ((columbariumkeep_Texts.f k t147 (([(⟨#[97]⟩ : ByteArray), (⟨#[98]⟩ : ByteArray)] : List ByteArray))).bind fun t171 => (if t171 = true then ((columbariumbook_Same_int.f k t150 (([1, 0, 1] : List Int))).bind fun t175 => (if t175 = true then ((columbariumkeep_Texts.f k bt162.1 (([(⟨#[97]⟩ : ByteArray), (⟨#[98]⟩ : ByteArray), (⟨#[99]⟩ : ByteArray)] : List ByteArray))).bind fun t179 => (if t179 = true then (if (bt162.2.length : Int) = 2 then (if 1 < (bt162.2.length : Int) then ((columbariumbook_Same_int.f k (rd_L3 bt162.2 1) (([1, 2] : List Int))).bind fun t184 => (some t184)) else (none)) else (some false)) else (some false))) else (some false))) else (some false)))) = some r := by first | (rw [hy153]; with_reducible exact H) | (have H2_ := (Option.bind_some _ _).symm.trans H; rw [hy153]; with_reducible exact H2_) | (have H2_ := (Option.bind_some _ _).symm.trans H; with_reducible exact H2_) | with_reducible exact H | (rw [hy153]; exact H) | exact H
 have Ny153 := Aside0.mk hy153
 clear hy153
 obtain ⟨y156, hy156⟩ : ∃ y_ : List ByteArray, y_ = (([(⟨#[98]⟩ : ByteArray), (⟨#[99]⟩ : ByteArray)] : List ByteArray)) := ⟨_, rfl⟩
 replace H : ((dict_Merge.f k (([y153, y156] : List (List ByteArray)))).bind fun bt162 => ((columbariumkeep_Texts.f k t147 (([(⟨#[97]⟩ : ByteArray), (⟨#[98]⟩ : ByteArray)] : List ByteArray))).bind fun t171 => (if t171 = true then ((columbariumbook_Same_int.f k t150 (([1, 0, 1] : List Int))).bind fun t175 => (if t175 = true then ((columbariumkeep_Texts.f k bt162.1 (([(⟨#[97]⟩ : ByteArray), (⟨#[98]⟩ : ByteArray), (⟨#[99]⟩ : ByteArray)] : List ByteArray))).bind fun t179 => (if t179 = true then (if (bt162.2.length : Int) = 2 then (if 1 < (bt162.2.length : Int) then ((columbariumbook_Same_int.f k (rd_L3 bt162.2 1) (([1, 2] : List Int))).bind fun t184 => (some t184)) else (none)) else (some false)) else (some false))) else (some false))) else (some false)))) = some r := by first | (rw [hy156]; with_reducible exact H) | (have H2_ := (Option.bind_some _ _).symm.trans H; rw [hy156]; with_reducible exact H2_) | (have H2_ := (Option.bind_some _ _).symm.trans H; with_reducible exact H2_) | with_reducible exact H | (rw [hy156]; exact H) | exact H
 have Ny156 := Aside0.mk hy156
 clear hy156
 obtain ⟨y159, hy159⟩ : ∃ y_ : List (List ByteArray), y_ = (([y153, y156] : List (List ByteArray))) := ⟨_, rfl⟩
 replace H : ((dict_Merge.f k y159).bind fun bt162 => ((columbariumkeep_Texts.f k t147 (([(⟨#[97]⟩ : ByteArray), (⟨#[98]⟩ : ByteArray)] : List ByteArray))).bind fun t171 => (if t171 = true then ((columbariumbook_Same_int.f k t150 (([1, 0, 1] : List Int))).bind fun t175 => (if t175 = true then ((columbariumkeep_Texts.f k bt162.1 (([(⟨#[97]⟩ : ByteArray), (⟨#[98]⟩ : ByteArray), (⟨#[99]⟩ : ByteArray)] : List ByteArray))).bind fun t179 => (if t179 = true then (if (bt162.2.length : Int) = 2 then (if 1 < (bt162.2.length : Int) then ((columbariumbook_Same_int.f k (rd_L3 bt162.2 1) (([1, 2] : List Int))).bind fun t184 => (some t184)) else (none)) else (some false)) else (some false))) else (some false))) else (some false)))) = some r := by first | (rw [hy159]; with_reducible exact H) | (have H2_ := (Option.bind_some _ _).symm.trans H; rw [hy159]; with_reducible exact H2_) | (have H2_ := (Option.bind_some _ _).symm.trans H; with_reducible exact H2_) | with_reducible exact H | (rw [hy159]; exact H) | exact H
 have Ny159 := Aside0.mk hy159
 clear hy159
 replace H := Option.bind_eq_some_iff.mp H
 obtain ⟨⟨t162, t165⟩, A20, H⟩ := H
 replace H : ((columbariumkeep_Texts.f k t147 (([(⟨#[97]⟩ : ByteArray), (⟨#[98]⟩ : ByteArray)] : List ByteArray))).bind fun t171 => (if t171 = true then ((columbariumbook_Same_int.f k t150 (([1, 0, 1] : List Int))).bind fun t175 => (if t175 = true then ((columbariumkeep_Texts.f k t162 (([(⟨#[97]⟩ : ByteArray), (⟨#[98]⟩ : ByteArray), (⟨#[99]⟩ : ByteArray)] : List ByteArray))).bind fun t179 => (if t179 = true then (if (t165.length : Int) = 2 then (if 1 < (t165.length : Int) then ((columbariumbook_Same_int.f k (rd_L3 t165 1) (([1, 2] : List Int))).bind fun t184 => (some t184)) else (none)) else (some false)) else (some false))) else (some false))) else (some false))) = some r := H
 have A2 := Aside0.mk A20
 clear A20
 obtain ⟨y168, hy168⟩ : ∃ y_ : List ByteArray, y_ = (([(⟨#[97]⟩ : ByteArray), (⟨#[98]⟩ : ByteArray)] : List ByteArray)) := ⟨_, rfl⟩
 replace H : ((columbariumkeep_Texts.f k t147 y168).bind fun t171 => (if t171 = true then ((columbariumbook_Same_int.f k t150 (([1, 0, 1] : List Int))).bind fun t175 => (if t175 = true then ((columbariumkeep_Texts.f k t162 (([(⟨#[97]⟩ : ByteArray), (⟨#[98]⟩ : ByteArray), (⟨#[99]⟩ : ByteArray)] : List ByteArray))).bind fun t179 => (if t179 = true then (if (t165.length : Int) = 2 then (if 1 < (t165.length : Int) then ((columbariumbook_Same_int.f k (rd_L3 t165 1) (([1, 2] : List Int))).bind fun t184 => (some t184)) else (none)) else (some false)) else (some false))) else (some false))) else (some false))) = some r := by first | (rw [hy168]; with_reducible exact H) | (have H2_ := (Option.bind_some _ _).symm.trans H; rw [hy168]; with_reducible exact H2_) | (have H2_ := (Option.bind_some _ _).symm.trans H; with_reducible exact H2_) | with_reducible exact H | (rw [hy168]; exact H) | exact H
 have Ny168 := Aside0.mk hy168
 clear hy168
 replace H := Option.bind_eq_some_iff.mp H
 obtain ⟨t171, A30, H⟩ := H
 replace H : (if t171 = true then ((columbariumbook_Same_int.f k t150 (([1, 0, 1] : List Int))).bind fun t175 => (if t175 = true then ((columbariumkeep_Texts.f k t162 (([(⟨#[97]⟩ : ByteArray), (⟨#[98]⟩ : ByteArray), (⟨#[99]⟩ : ByteArray)] : List ByteArray))).bind fun t179 => (if t179 = true then (if (t165.length : Int) = 2 then (if 1 < (t165.length : Int) then ((columbariumbook_Same_int.f k (rd_L3 t165 1) (([1, 2] : List Int))).bind fun t184 => (some t184)) else (none)) else (some false)) else (some false))) else (some false))) else (some false)) = some r := H
 have A3 := Aside0.mk A30
 clear A30
 by_cases c4 : t171 = true
 ·subst c4
  have H1 : ((columbariumbook_Same_int.f k t150 (([1, 0, 1] : List Int))).bind fun t175 => (if t175 = true then ((columbariumkeep_Texts.f k t162 (([(⟨#[97]⟩ : ByteArray), (⟨#[98]⟩ : ByteArray), (⟨#[99]⟩ : ByteArray)] : List ByteArray))).bind fun t179 => (if t179 = true then (if (t165.length : Int) = 2 then (if 1 < (t165.length : Int) then ((columbariumbook_Same_int.f k (rd_L3 t165 1) (([1, 2] : List Int))).bind fun t184 => (some t184)) else (none)) else (some false)) else (some false))) else (some false))) = some r := by rw [if_pos rfl] at H; exact H
  clear H
  have H := H1
  clear H1
  obtain ⟨y172, hy172⟩ : ∃ y_ : List Int, y_ = (([1, 0, 1] : List Int)) := ⟨_, rfl⟩
  replace H : ((columbariumbook_Same_int.f k t150 y172).bind fun t175 => (if t175 = true then ((columbariumkeep_Texts.f k t162 (([(⟨#[97]⟩ : ByteArray), (⟨#[98]⟩ : ByteArray), (⟨#[99]⟩ : ByteArray)] : List ByteArray))).bind fun t179 => (if t179 = true then (if (t165.length : Int) = 2 then (if 1 < (t165.length : Int) then ((columbariumbook_Same_int.f k (rd_L3 t165 1) (([1, 2] : List Int))).bind fun t184 => (some t184)) else (none)) else (some false)) else (some false))) else (some false))) = some r := by first | (rw [hy172]; with_reducible exact H) | (have H2_ := (Option.bind_some _ _).symm.trans H; rw [hy172]; with_reducible exact H2_) | (have H2_ := (Option.bind_some _ _).symm.trans H; with_reducible exact H2_) | with_reducible exact H | (rw [hy172]; exact H) | exact H
  have Ny172 := Aside0.mk hy172
  clear hy172
  replace H := Option.bind_eq_some_iff.mp H
  obtain ⟨t175, A50, H⟩ := H
  replace H : (if t175 = true then ((columbariumkeep_Texts.f k t162 (([(⟨#[97]⟩ : ByteArray), (⟨#[98]⟩ : ByteArray), (⟨#[99]⟩ : ByteArray)] : List ByteArray))).bind fun t179 => (if t179 = true then (if (t165.length : Int) = 2 then (if 1 < (t165.length : Int) then ((columbariumbook_Same_int.f k (rd_L3 t165 1) (([1, 2] : List Int))).bind fun t184 => (some t184)) else (none)) else (some false)) else (some false))) else (some false)) = some r := H
  have A5 := Aside0.mk A50
  clear A50
  by_cases c6 : t175 = true
  ·subst c6
   have H1 : ((columbariumkeep_Texts.f k t162 (([(⟨#[97]⟩ : ByteArray), (⟨#[98]⟩ : ByteArray), (⟨#[99]⟩ : ByteArray)] : List ByteArray))).bind fun t179 => (if t179 = true then (if (t165.length : Int) = 2 then (if 1 < (t165.length : Int) then ((columbariumbook_Same_int.f k (rd_L3 t165 1) (([1, 2] : List Int))).bind fun t184 => (some t184)) else (none)) else (some false)) else (some false))) = some r := by rw [if_pos rfl] at H; exact H
   clear H
   have H := H1
   clear H1
   obtain ⟨y176, hy176⟩ : ∃ y_ : List ByteArray, y_ = (([(⟨#[97]⟩ : ByteArray), (⟨#[98]⟩ : ByteArray), (⟨#[99]⟩ : ByteArray)] : List ByteArray)) := ⟨_, rfl⟩
   replace H : ((columbariumkeep_Texts.f k t162 y176).bind fun t179 => (if t179 = true then (if (t165.length : Int) = 2 then (if 1 < (t165.length : Int) then ((columbariumbook_Same_int.f k (rd_L3 t165 1) (([1, 2] : List Int))).bind fun t184 => (some t184)) else (none)) else (some false)) else (some false))) = some r := by first | (rw [hy176]; with_reducible exact H) | (have H2_ := (Option.bind_some _ _).symm.trans H; rw [hy176]; with_reducible exact H2_) | (have H2_ := (Option.bind_some _ _).symm.trans H; with_reducible exact H2_) | with_reducible exact H | (rw [hy176]; exact H) | exact H
   have Ny176 := Aside0.mk hy176
   clear hy176
   replace H := Option.bind_eq_some_iff.mp H
   obtain ⟨t179, A70, H⟩ := H
   replace H : (if t179 = true then (if (t165.length : Int) = 2 then (if 1 < (t165.length : Int) then ((columbariumbook_Same_int.f k (rd_L3 t165 1) (([1, 2] : List Int))).bind fun t184 => (some t184)) else (none)) else (some false)) else (some false)) = some r := H
   have A7 := Aside0.mk A70
   clear A70
   by_cases c8 : t179 = true
   ·subst c8
    have H1 : (if (t165.length : Int) = 2 then (if 1 < (t165.length : Int) then ((columbariumbook_Same_int.f k (rd_L3 t165 1) (([1, 2] : List Int))).bind fun t184 => (some t184)) else (none)) else (some false)) = some r := by rw [if_pos rfl] at H; exact H
    clear H
    have H := H1
    clear H1
    by_cases c9 : (t165.length : Int) = 2
    ·rw [if_pos c9] at H
     have c9b0 : ((t165.length : Int) == 2) = true := beq_iff_eq.mpr c9
     have c9b1 : ((t165.length : Int) != 2) = false := bne_eq_false_iff_eq.mpr c9
     clear c9
     by_cases c10 : 1 < (t165.length : Int)
     ·rw [if_pos c10] at H
      have c10b0 : decide (1 < (t165.length : Int)) = true := decide_eq_true c10
      have c10b1 : decide (1 < t165.length) = true := decide_eq_true (by omega)
      clear c10
      obtain ⟨y181, hy181⟩ : ∃ y_ : List Int, y_ = (([1, 2] : List Int)) := ⟨_, rfl⟩
      replace H : ((columbariumbook_Same_int.f k (rd_L3 t165 1) y181).bind fun t184 => (some t184)) = some r := by first | (rw [hy181]; with_reducible exact H) | (have H2_ := (Option.bind_some _ _).symm.trans H; rw [hy181]; with_reducible exact H2_) | (have H2_ := (Option.bind_some _ _).symm.trans H; with_reducible exact H2_) | with_reducible exact H | (rw [hy181]; exact H) | exact H
      have Ny181 := Aside0.mk hy181
      clear hy181
      replace H := Option.bind_eq_some_iff.mp H
      obtain ⟨t184, A110, H⟩ := H
      replace H : (some t184) = some r := H
      have A11 := Aside0.mk A110
      clear A110
      obtain rfl := Option.some.inj H
      go_enter Try.func12, Try.ntmps12
      go_wp2_with (first | ((with_reducible refine gate_dst (N := 6) rfl ?_); (try (refine gate_guard (by rfl) ?_; dsimp only)); refine Kd.R_lit Kd.string _ 9 ?hg (N := 6) ?hd (xs := ([(⟨#[98]⟩ : ByteArray), (⟨#[97]⟩ : ByteArray), (⟨#[98]⟩ : ByteArray)] : List ByteArray)) (inner := [.string (⟨#[98]⟩ : ByteArray), .string (⟨#[97]⟩ : ByteArray), .string (⟨#[98]⟩ : ByteArray)]) (ok := fun _ => True) (okp := fun _ => True) ?hr ?hp (fun _ hk => hk) trivial (Below.refl _ _) (Nat.le_refl _) (by simp) ?_; (case hd => rfl); (case hg => rfl); (case hr => first | (go_simp; done) | (go_simp; rfl)); (case hp => exact (Reps.one (show Kd.M Kd.string _ _ _ (⟨#[98]⟩ : ByteArray) [.string (⟨#[98]⟩ : ByteArray)] from rfl) (Reps.one (show Kd.M Kd.string _ _ _ (⟨#[97]⟩ : ByteArray) [.string (⟨#[97]⟩ : ByteArray)] from rfl) (Reps.one (show Kd.M Kd.string _ _ _ (⟨#[98]⟩ : ByteArray) [.string (⟨#[98]⟩ : ByteArray)] from rfl) (Reps.none _ _))))); intro v145 w12 ho13 hb hg_ hnew_; clear hg_ hnew_; (first | rw [← Ny144.out] at ho13 | (simp only [Int.reduceToNat] at ho13; rw [← Ny144.out] at ho13)); have n0_ := Aside0.mk (Kd.R_lower ho13 (below_size (mB HB.out))); have n1_ := Aside0.mk (below_step (mB HB.out) hb); clear HB; have HO146 := n0_; have HB := n1_; clear n0_ n1_; clear hb ho13; obtain ⟨Ao14, co14, eo14⟩ := Kd.R_slice HO146.out; subst eo14) | ((with_reducible refine gate_callee (f := 8) rfl ?_); refine goesL_ (some 7) rfl rfl Try.func8 (by kernel_rfl) rfl #[.slice Ao14 y144.length co14] rfl (by (try simp only [List.map_toArray, List.map_cons, List.map_nil]); first | done | rfl | (simp only [List.length_drop, List.length_take]; rfl)) ?_; (with_reducible refine (dict_Build.calls k _ _ y144 t147 t150 _ ?side1 ?side2 A1.out).mono ?_); (case side1 => repeat (first | exact (Kd.R_reads' HO146.out).2.2 | (with_reducible refine Kd.C_alloc ?_ _) | (with_reducible refine Kd.C_drewN ?_ _) | (with_reducible refine Kd.C_drew ?_))); (case side2 => exact (Kd.R_reads' HO146.out).2.1); rintro e w15 ⟨v148, v151, rfl, ho0, ho1, hb⟩; refine ⟨_, rfl, ?_⟩; have n0_ := Aside0.mk (Kd.R_below (mR HO146.out) hb); have n1_ := Aside0.mk (Kd.V_lower (Kd.V_mono (ok' := fun k_ => some k_ ≠ (v151 : Value).ownBlock ∧ some k_ ≠ (.slice Ao14 y144.length co14 : Value).ownBlock) ho0 (fun k_ hk_ => ⟨hk_.2, (Kd.fresh' (Kd.R_lt (mR HO146.out)) k_ hk_.1)⟩)) (below_size (mB HB.out))); have n2_ := Aside0.mk (Kd.R_lower (Kd.R_mono (ok' := fun k_ => True) ho1 (fun _ hk_ => trivial)) (below_size (mB HB.out))); have n3_ := Aside0.mk (below_step (mB HB.out) hb); clear HO146; clear HB; have HO146 := n0_; have HO149 := n1_; have HO152 := n2_; have HB := n3_; clear n0_ n1_ n2_ n3_; (try clear hb); (try clear hb2); (try clear hk); (try clear hi); (try clear ho0); (try clear ho1)) | ((with_reducible refine gate_dst (N := 11) rfl ?_); (try (refine gate_guard (by rfl) ?_; dsimp only)); refine Kd.R_lit Kd.string _ 9 ?hg (N := 11) ?hd (xs := ([(⟨#[97]⟩ : ByteArray), (⟨#[99]⟩ : ByteArray)] : List ByteArray)) (inner := [.string (⟨#[97]⟩ : ByteArray), .string (⟨#[99]⟩ : ByteArray)]) (ok := fun _ => True) (okp := fun _ => True) ?hr ?hp (fun _ hk => hk) trivial (Below.refl _ _) (Nat.le_refl _) (by simp) ?_; (case hd => rfl); (case hg => rfl); (case hr => first | (go_simp; done) | (go_simp; rfl)); (case hp => exact (Reps.one (show Kd.M Kd.string _ _ _ (⟨#[97]⟩ : ByteArray) [.string (⟨#[97]⟩ : ByteArray)] from rfl) (Reps.one (show Kd.M Kd.string _ _ _ (⟨#[99]⟩ : ByteArray) [.string (⟨#[99]⟩ : ByteArray)] from rfl) (Reps.none _ _)))); intro v154 w16 ho17 hb hg_ hnew_; clear hg_ hnew_; (first | rw [← Ny153.out] at ho17 | (simp only [Int.reduceToNat] at ho17; rw [← Ny153.out] at ho17)); have n0_ := Aside0.mk (Kd.R_elder' (mR HO146.out) (Kd.R_base ho17) hb); have n1_ := Aside0.mk (Kd.V_elder' (mV HO149.out) (Kd.R_base ho17) hb); have n2_ := Aside0.mk (Kd.R_below (mR HO152.out) hb); have n3_ := Aside0.mk (Kd.R_lower (Kd.R_new' ho17 (Kd.R_lt (mR HO146.out))) (below_size (mB HB.out))); have n4_ := Aside0.mk (below_step (mB HB.out) hb); clear HO146; clear HO149; clear HO152; clear HB; have HO146 := n0_; have HO149 := n1_; have HO152 := n2_; have HO155 := n3_; have HB := n4_; clear n0_ n1_ n2_ n3_ n4_; clear hb ho17) | ((with_reducible refine gate_dst (N := 12) rfl ?_); (try (refine gate_guard (by rfl) ?_; dsimp only)); refine Kd.R_lit Kd.string _ 9 ?hg (N := 12) ?hd (xs := ([(⟨#[98]⟩ : ByteArray), (⟨#[99]⟩ : ByteArray)] : List ByteArray)) (inner := [.string (⟨#[98]⟩ : ByteArray), .string (⟨#[99]⟩ : ByteArray)]) (ok := fun _ => True) (okp := fun _ => True) ?hr ?hp (fun _ hk => hk) trivial (Below.refl _ _) (Nat.le_refl _) (by simp) ?_; (case hd => rfl); (case hg => rfl); (case hr => first | (go_simp; done) | (go_simp; rfl)); (case hp => exact (Reps.one (show Kd.M Kd.string _ _ _ (⟨#[98]⟩ : ByteArray) [.string (⟨#[98]⟩ : ByteArray)] from rfl) (Reps.one (show Kd.M Kd.string _ _ _ (⟨#[99]⟩ : ByteArray) [.string (⟨#[99]⟩ : ByteArray)] from rfl) (Reps.none _ _)))); intro v157 w18 ho19 hb hg_ hnew_; clear hg_ hnew_; (first | rw [← Ny156.out] at ho19 | (simp only [Int.reduceToNat] at ho19; rw [← Ny156.out] at ho19)); have n0_ := Aside0.mk (Kd.R_elder' (mR HO146.out) (Kd.R_base ho19) hb); have n1_ := Aside0.mk (Kd.V_elder' (mV HO149.out) (Kd.R_base ho19) hb); have n2_ := Aside0.mk (Kd.R_below (mR HO152.out) hb); have n3_ := Aside0.mk (Kd.R_elder' (mR HO155.out) (Kd.R_base ho19) hb); have n4_ := Aside0.mk (Kd.R_lower (Kd.R_new' (Kd.R_new' ho19 (Kd.R_lt (mR HO146.out))) (Kd.R_lt (mR HO155.out))) (below_size (mB HB.out))); have n5_ := Aside0.mk (below_step (mB HB.out) hb); clear HO146; clear HO149; clear HO152; clear HO155; clear HB; have HO146 := n0_; have HO149 := n1_; have HO152 := n2_; have HO155 := n3_; have HO158 := n4_; have HB := n5_; clear n0_ n1_ n2_ n3_ n4_ n5_; clear hb ho19; obtain ⟨Ao20, co20, eo20⟩ := Kd.R_slice HO155.out; subst eo20; obtain ⟨Ao21, co21, eo21⟩ := Kd.R_slice HO158.out; subst eo21) | ((with_reducible refine gate_dst (N := 13) rfl ?_); (try (refine gate_guard (by rfl) ?_; dsimp only)); refine Kd.N_lit (Kd.slice 9 Kd.string) _ 22 ?hg (N' := 13) ?hd (xs := ([y153, y156] : List (List ByteArray))) (inner := [.slice Ao20 y153.length co20, .slice Ao21 y156.length co21]) (ok := (fun k_ => some k_ ≠ (.slice Ao14 y144.length co14 : Value).ownBlock ∧ some k_ ≠ (v151 : Value).ownBlock)) (okp := (fun k_ => some k_ ≠ (.slice Ao14 y144.length co14 : Value).ownBlock ∧ some k_ ≠ (v151 : Value).ownBlock)) ?hr ?hp (fun _ hk => hk) ((show ∀ k_, w18.heap.size ≤ k_ → (fun k_ => some k_ ≠ (.slice Ao14 y144.length co14 : Value).ownBlock ∧ some k_ ≠ (v151 : Value).ownBlock) k_ from fun k_ hk => ⟨Kd.fresh' (Kd.R_lt (mR HO146.out)) k_ hk, Kd.fresh' (Kd.R_lt (mR HO152.out)) k_ hk⟩) _ (Nat.le_refl _)) (Below.refl _ _) (Nat.le_refl _) (by simp) ?_; (case hd => rfl); (case hg => rfl); (case hr => first | (go_simp; done) | (go_simp; rfl)); (case hp => exact (Reps.one (show Kd.FK (Kd.slice 9 Kd.string) _ _ y153 [.slice Ao20 y153.length co20] from (Kd.FK_slice_mk (Kd.R_reads' (Kd.R_mono (ok' := (fun k_ => some k_ ≠ (.slice Ao14 y144.length co14 : Value).ownBlock ∧ some k_ ≠ (v151 : Value).ownBlock)) (Kd.R_apart' (HO155.out) (Kd.R_typed HO152.out) (by decide)) (fun k_ hk => ⟨hk.1.1.2, hk.2⟩))).2.1 (Kd.R_F (by (with_reducible repeat (first | apply Kd.R_alloc | apply Kd.R_drewN | apply Kd.R_drew)); exact (Kd.R_mono (ok' := (fun k_ => some k_ ≠ (.slice Ao14 y144.length co14 : Value).ownBlock ∧ some k_ ≠ (v151 : Value).ownBlock)) (Kd.R_apart' (HO155.out) (Kd.R_typed HO152.out) (by decide)) (fun k_ hk => ⟨hk.1.1.2, hk.2⟩)))))) (Reps.one (show Kd.FK (Kd.slice 9 Kd.string) _ _ y156 [.slice Ao21 y156.length co21] from (Kd.FK_slice_mk (Kd.R_reads' (Kd.R_mono (ok' := (fun k_ => some k_ ≠ (.slice Ao14 y144.length co14 : Value).ownBlock ∧ some k_ ≠ (v151 : Value).ownBlock)) (Kd.R_apart' (HO158.out) (Kd.R_typed HO152.out) (by decide)) (fun k_ hk => ⟨hk.1.1.2, hk.2⟩))).2.1 (Kd.R_F (by (with_reducible repeat (first | apply Kd.R_alloc | apply Kd.R_drewN | apply Kd.R_drew)); exact (Kd.R_mono (ok' := (fun k_ => some k_ ≠ (.slice Ao14 y144.length co14 : Value).ownBlock ∧ some k_ ≠ (v151 : Value).ownBlock)) (Kd.R_apart' (HO158.out) (Kd.R_typed HO152.out) (by decide)) (fun k_ hk => ⟨hk.1.1.2, hk.2⟩)))))) (Reps.none _ _)))); intro v160 w22 ho23 hb hg_ hnew_; clear hg_ hnew_; (first | rw [← Ny159.out] at ho23 | (simp only [Int.reduceToNat] at ho23; rw [← Ny159.out] at ho23)); have n0_ := Aside0.mk (Kd.R_below (mR HO146.out) hb); have n1_ := Aside0.mk (Kd.V_elder' (mV HO149.out) (Kd.N_base ho23) hb); have n2_ := Aside0.mk (Kd.R_below (mR HO152.out) hb); have n3_ := Aside0.mk (Kd.N_lower ho23 (below_size (mB HB.out))); have n4_ := Aside0.mk (below_step (mB HB.out) hb); clear HO146; clear HO149; clear HO152; clear HB; clear HO155; clear HO158; have HO146 := n0_; have HO149 := n1_; have HO152 := n2_; have HO161 := n3_; have HB := n4_; clear n0_ n1_ n2_ n3_ n4_; clear hb ho23; obtain ⟨Ao24, co24, eo24⟩ := Kd.N_slice HO161.out; subst eo24) | ((with_reducible refine gate_callee (f := 10) rfl ?_); refine goesL_ (some 14) rfl rfl Try.func10 (by kernel_rfl) rfl #[.slice Ao24 y159.length co24] rfl (by (try simp only [List.map_toArray, List.map_cons, List.map_nil]); first | done | rfl | (simp only [List.length_drop, List.length_take]; rfl)) ?_; (with_reducible refine (dict_Merge.calls k _ _ y159 t162 t165 _ ?side1 ?side2 A2.out).mono ?_); (case side1 => repeat (first | exact (Kd.N_reads' HO161.out).2.2 | (with_reducible refine Kd.C_alloc ?_ _) | (with_reducible refine Kd.C_drewN ?_ _) | (with_reducible refine Kd.C_drew ?_))); (case side2 => exact (Kd.N_reads' HO161.out).2.1); rintro e w25 ⟨v163, v166, rfl, ho0, ho1, hb⟩; refine ⟨_, rfl, ?_⟩; (try replace ho1 := Kd.S_N ho1); have n0_ := Aside0.mk (Kd.R_below (mR HO146.out) hb); have n1_ := Aside0.mk (Kd.V_elder' (mV HO149.out) (Kd.N_base ho1) hb); have n2_ := Aside0.mk (Kd.R_below (mR HO152.out) hb); have n4_ := Aside0.mk (Kd.V_lower (Kd.V_mono (ok' := fun k_ => some k_ ≠ (v166 : Value).ownBlock ∧ some k_ ≠ (.slice Ao14 y144.length co14 : Value).ownBlock ∧ some k_ ≠ (v151 : Value).ownBlock ∧ some k_ ≠ (.slice Ao24 y159.length co24 : Value).ownBlock) ho0 (fun k_ hk_ => ⟨hk_.2, (Kd.fresh' (Kd.R_lt (mR HO146.out)) k_ hk_.1), (Kd.fresh' (Kd.R_lt (mR HO152.out)) k_ hk_.1), (Kd.fresh' (Kd.N_lt (mN HO161.out)) k_ hk_.1)⟩)) (below_size (mB HB.out))); have n5_ := Aside0.mk (Kd.N_lower (Kd.N_mono (ok' := fun k_ => some k_ ≠ (.slice Ao14 y144.length co14 : Value).ownBlock ∧ some k_ ≠ (v151 : Value).ownBlock ∧ some k_ ≠ (.slice Ao24 y159.length co24 : Value).ownBlock) ho1 (fun k_ hk_ => ⟨(Kd.fresh' (Kd.R_lt (mR HO146.out)) k_ hk_), (Kd.fresh' (Kd.R_lt (mR HO152.out)) k_ hk_), (Kd.fresh' (Kd.N_lt (mN HO161.out)) k_ hk_)⟩)) (below_size (mB HB.out))); have n6_ := Aside0.mk (below_step (mB HB.out) hb); clear HO146; clear HO149; clear HO152; clear HO161; clear HB; have HO146 := n0_; have HO149 := n1_; have HO152 := n2_; have HO164 := n4_; have HO167 := n5_; have HB := n6_; clear n0_ n1_ n2_ n4_ n5_ n6_; (try clear hb); (try clear hb2); (try clear hk); (try clear hi); (try clear ho0); (try clear ho1)) | ((with_reducible refine gate_dst (N := 18) rfl ?_); (try (refine gate_guard (by rfl) ?_; dsimp only)); refine Kd.R_lit Kd.string _ 9 ?hg (N := 18) ?hd (xs := ([(⟨#[97]⟩ : ByteArray), (⟨#[98]⟩ : ByteArray)] : List ByteArray)) (inner := [.string (⟨#[97]⟩ : ByteArray), .string (⟨#[98]⟩ : ByteArray)]) (ok := fun _ => True) (okp := fun _ => True) ?hr ?hp (fun _ hk => hk) trivial (Below.refl _ _) (Nat.le_refl _) (by simp) ?_; (case hd => rfl); (case hg => rfl); (case hr => first | (go_simp; done) | (go_simp; rfl)); (case hp => exact (Reps.one (show Kd.M Kd.string _ _ _ (⟨#[97]⟩ : ByteArray) [.string (⟨#[97]⟩ : ByteArray)] from rfl) (Reps.one (show Kd.M Kd.string _ _ _ (⟨#[98]⟩ : ByteArray) [.string (⟨#[98]⟩ : ByteArray)] from rfl) (Reps.none _ _)))); intro v169 w26 ho27 hb hg_ hnew_; clear hg_ hnew_; (first | rw [← Ny168.out] at ho27 | (simp only [Int.reduceToNat] at ho27; rw [← Ny168.out] at ho27)); have n0_ := Aside0.mk (Kd.R_elder' (mR HO146.out) (Kd.R_base ho27) hb); have n1_ := Aside0.mk (Kd.V_elder' (mV HO149.out) (Kd.R_base ho27) hb); have n2_ := Aside0.mk (Kd.R_below (mR HO152.out) hb); have n4_ := Aside0.mk (Kd.V_elder' (mV HO164.out) (Kd.R_base ho27) hb); have n5_ := Aside0.mk (Kd.N_elder' (mN HO167.out) (Kd.R_base ho27) hb); have n6_ := Aside0.mk (Kd.R_lower (Kd.R_new' ho27 (Kd.R_lt (mR HO146.out))) (below_size (mB HB.out))); have n7_ := Aside0.mk (below_step (mB HB.out) hb); clear HO146; clear HO149; clear HO152; clear HO164; clear HO167; clear HB; have HO146 := n0_; have HO149 := n1_; have HO152 := n2_; have HO164 := n4_; have HO167 := n5_; have HO170 := n6_; have HB := n7_; clear n0_ n1_ n2_ n4_ n5_ n6_ n7_; clear hb ho27; obtain ⟨Ao28, co28, eo28⟩ := Kd.V_slice HO149.out; subst eo28; obtain ⟨Ao29, co29, eo29⟩ := Kd.R_slice HO170.out; subst eo29) | ((with_reducible refine gate_callee (f := 11) rfl ?_); refine goesL_ (some 19) rfl rfl Try.func11 (by kernel_rfl) rfl #[.slice Ao28 t147.length co28, .slice Ao29 y168.length co29] rfl (by (try simp only [List.map_toArray, List.map_cons, List.map_nil]); first | done | rfl | (simp only [List.length_drop, List.length_take]; rfl)) ?_; (with_reducible refine (columbariumkeep_Texts.calls k _ _ t147 _ _ y168 true _ ?side1 ?side2 ?side3 ?side4 A3.out).mono ?_); (case side1 => repeat (first | exact (Kd.V_reads' HO149.out).2.2 | (with_reducible refine Kd.C_alloc ?_ _) | (with_reducible refine Kd.C_drewN ?_ _) | (with_reducible refine Kd.C_drew ?_))); (case side2 => exact (Kd.V_reads' HO149.out).2.1); (case side3 => repeat (first | exact (Kd.R_reads' HO170.out).2.2 | (with_reducible refine Kd.C_alloc ?_ _) | (with_reducible refine Kd.C_drewN ?_ _) | (with_reducible refine Kd.C_drew ?_))); (case side4 => exact (Kd.R_reads' HO170.out).2.1); rintro e w' ⟨rfl, ⟨nd, rfl⟩⟩; refine ⟨_, rfl, ?_⟩) | ((with_reducible refine gate_dst (N := 22) rfl ?_); (try (refine gate_guard (by rfl) ?_; dsimp only)); refine Kd.R_lit (Kd.int .i64) _ 3 ?hg (N := 22) ?hd (xs := ([1, 0, 1] : List Int)) (inner := [.int .i64 1, .int .i64 0, .int .i64 1]) (ok := fun _ => True) (okp := fun _ => True) ?hr ?hp (fun _ hk => hk) trivial (Below.refl _ _) (Nat.le_refl _) (by simp) ?_; (case hd => rfl); (case hg => rfl); (case hr => first | (go_simp; done) | (go_simp; rfl)); (case hp => exact (Reps.one (show Kd.M (Kd.int .i64) _ _ _ 1 [.int .i64 1] from rfl) (Reps.one (show Kd.M (Kd.int .i64) _ _ _ 0 [.int .i64 0] from rfl) (Reps.one (show Kd.M (Kd.int .i64) _ _ _ 1 [.int .i64 1] from rfl) (Reps.none _ _))))); intro v173 w30 ho31 hb hg_ hnew_; clear hg_ hnew_; (first | rw [← Ny172.out] at ho31 | (simp only [Int.reduceToNat] at ho31; rw [← Ny172.out] at ho31)); have n0_ := Aside0.mk (Kd.R_below (mR HO146.out) hb); have n2_ := Aside0.mk (Kd.R_elder' (mR HO152.out) (Kd.R_base ho31) hb); have n4_ := Aside0.mk (Kd.V_elder' (mV HO164.out) (Kd.R_base ho31) hb); have n5_ := Aside0.mk (Kd.N_elder' (mN HO167.out) (Kd.R_base ho31) hb); have n6_ := Aside0.mk (Kd.R_below (mR HO170.out) hb); have n7_ := Aside0.mk (Kd.R_lower (Kd.R_new' ho31 (Kd.R_lt (mR HO152.out))) (below_size (mB HB.out))); have n8_ := Aside0.mk (below_step (mB HB.out) hb); clear HO146; clear HO152; clear HO164; clear HO167; clear HO170; clear HB; have HO146 := n0_; have HO152 := n2_; have HO164 := n4_; have HO167 := n5_; have HO170 := n6_; have HO174 := n7_; have HB := n8_; clear n0_ n2_ n4_ n5_ n6_ n7_ n8_; clear hb ho31; obtain ⟨Ao32, co32, eo32⟩ := Kd.R_slice HO152.out; subst eo32; obtain ⟨Ao33, co33, eo33⟩ := Kd.R_slice HO174.out; subst eo33) | (go_at_call 24; (with_reducible refine (columbariumbook_Same_int.calls k _ _ t150 _ _ y172 true _ ?side1 ?side2 ?side3 ?side4 A5.out).mono ?_); (case side1 => repeat (first | exact (Kd.R_reads' HO152.out).2.2 | (with_reducible refine Kd.C_alloc ?_ _) | (with_reducible refine Kd.C_drewN ?_ _) | (with_reducible refine Kd.C_drew ?_))); (case side2 => exact (Kd.R_reads' HO152.out).2.1); (case side3 => repeat (first | exact (Kd.R_reads' HO174.out).2.2 | (with_reducible refine Kd.C_alloc ?_ _) | (with_reducible refine Kd.C_drewN ?_ _) | (with_reducible refine Kd.C_drew ?_))); (case side4 => exact (Kd.R_reads' HO174.out).2.1); rintro e w' ⟨rfl, ⟨nd, rfl⟩⟩) | ((with_reducible refine gate_dst (N := 27) rfl ?_); (try (refine gate_guard (by rfl) ?_; dsimp only)); refine Kd.R_lit Kd.string _ 9 ?hg (N := 27) ?hd (xs := ([(⟨#[97]⟩ : ByteArray), (⟨#[98]⟩ : ByteArray), (⟨#[99]⟩ : ByteArray)] : List ByteArray)) (inner := [.string (⟨#[97]⟩ : ByteArray), .string (⟨#[98]⟩ : ByteArray), .string (⟨#[99]⟩ : ByteArray)]) (ok := fun _ => True) (okp := fun _ => True) ?hr ?hp (fun _ hk => hk) trivial (Below.refl _ _) (Nat.le_refl _) (by simp) ?_; (case hd => rfl); (case hg => rfl); (case hr => first | (go_simp; done) | (go_simp; rfl)); (case hp => exact (Reps.one (show Kd.M Kd.string _ _ _ (⟨#[97]⟩ : ByteArray) [.string (⟨#[97]⟩ : ByteArray)] from rfl) (Reps.one (show Kd.M Kd.string _ _ _ (⟨#[98]⟩ : ByteArray) [.string (⟨#[98]⟩ : ByteArray)] from rfl) (Reps.one (show Kd.M Kd.string _ _ _ (⟨#[99]⟩ : ByteArray) [.string (⟨#[99]⟩ : ByteArray)] from rfl) (Reps.none _ _))))); intro v177 w34 ho35 hb hg_ hnew_; clear hg_ hnew_; (first | rw [← Ny176.out] at ho35 | (simp only [Int.reduceToNat] at ho35; rw [← Ny176.out] at ho35)); have n2_ := Aside0.mk (Kd.R_below (mR HO152.out) hb); have n4_ := Aside0.mk (Kd.V_elder' (mV HO164.out) (Kd.R_base ho35) hb); have n5_ := Aside0.mk (Kd.N_elder' (mN HO167.out) (Kd.R_base ho35) hb); have n7_ := Aside0.mk (Kd.R_below (mR HO174.out) hb); have n8_ := Aside0.mk (Kd.R_lower (Kd.R_new' (Kd.R_new' ho35 (Kd.R_lt (mR HO146.out))) (Kd.R_lt (mR HO170.out))) (below_size (mB HB.out))); have n9_ := Aside0.mk (below_step (mB HB.out) hb); clear HO146; clear HO152; clear HO164; clear HO167; clear HO170; clear HO174; clear HB; have HO152 := n2_; have HO164 := n4_; have HO167 := n5_; have HO174 := n7_; have HO178 := n8_; have HB := n9_; clear n2_ n4_ n5_ n7_ n8_ n9_; clear hb ho35; obtain ⟨Ao36, co36, eo36⟩ := Kd.V_slice HO164.out; subst eo36; obtain ⟨Ao37, co37, eo37⟩ := Kd.R_slice HO178.out; subst eo37) | (go_at_call 11; (with_reducible refine (columbariumkeep_Texts.calls k _ _ t162 _ _ y176 true _ ?side1 ?side2 ?side3 ?side4 A7.out).mono ?_); (case side1 => repeat (first | exact (Kd.V_reads' HO164.out).2.2 | (with_reducible refine Kd.C_alloc ?_ _) | (with_reducible refine Kd.C_drewN ?_ _) | (with_reducible refine Kd.C_drew ?_))); (case side2 => exact (Kd.V_reads' HO164.out).2.1); (case side3 => repeat (first | exact (Kd.R_reads' HO178.out).2.2 | (with_reducible refine Kd.C_alloc ?_ _) | (with_reducible refine Kd.C_drewN ?_ _) | (with_reducible refine Kd.C_drew ?_))); (case side4 => exact (Kd.R_reads' HO178.out).2.1); rintro e w' ⟨rfl, ⟨nd, rfl⟩⟩; obtain ⟨Ao38, co38, eo38⟩ := Kd.N_slice HO167.out; subst eo38; have p180 : 0 ≤ (1 : Int) := (by omega); have q180 : 1 < (t165.length : Int) := of_decide_eq_true (by first | (with_reducible assumption) | assumption); obtain ⟨ad180, A180_0, c180_0, e180, hx180_0, hl180_0, hi180_0⟩ := at_L3 (Kd.N_reads' HO167.out).2.2 1 p180 q180; cases e180; obtain ⟨ce180, hce180, hMe180, hcc180⟩ := Kd.N_get HO167.out [] 1 p180 (by first | exact q180 | exact of_decide_eq_true (by first | (with_reducible assumption) | assumption) | (have e_ := (Kd.N_reads' HO167.out).1; omega)); obtain ⟨ua180_0, uc180_0, rfl, ul180_0, ge180_0⟩ := Kd.FK_slice_open hMe180; have hv180_0 := hcc180 0 _ rfl; rw [Nat.add_zero, show ((Kd.slice 3 (Kd.int .i64))).sz = 1 from rfl, Nat.mul_one] at hv180_0; replace hv180_0 := Option.some.inj (hv180_0.symm.trans hx180_0); injection hv180_0 with hva_ hvn_ hvc_; rw [hva_] at ge180_0; rw [hvc_] at ul180_0; have HL180_0 := Aside0.mk (show Kd.V (Kd.int .i64) 3 _ w.heap.size _ _ (rd_L3 t165 1) from Kd.V_mk ul180_0 ge180_0); clear hva_ hvn_ hvc_ ge180_0 ul180_0; clear hcc180 hce180; (try simp only [show (1 : Int).toNat = 1 from rfl, Nat.reduceMul, Nat.reduceEqDiff, Go.Addr.add, ↓reduceIte] at hx180_0); have qi180 : (1 < t165.length) = True := eq_true (by omega); (try rw [show ((1 : Int)).toNat = 1 from rfl] at hx180_0); have HR180_0 := Aside0.mk hi180_0; have HC180_0 := Aside0.mk hl180_0; clear hi180_0 hl180_0; replace p180 := eq_true p180; replace q180 := eq_true q180) | ((with_reducible refine gate_dst (N := 39) rfl ?_); (try (refine gate_guard (by rfl) ?_; dsimp only)); refine Kd.R_lit (Kd.int .i64) _ 3 ?hg (N := 39) ?hd (xs := ([1, 2] : List Int)) (inner := [.int .i64 1, .int .i64 2]) (ok := fun _ => True) (okp := fun _ => True) ?hr ?hp (fun _ hk => hk) trivial (Below.refl _ _) (Nat.le_refl _) (by simp) ?_; (case hd => rfl); (case hg => rfl); (case hr => first | (go_simp; done) | (go_simp; rfl)); (case hp => exact (Reps.one (show Kd.M (Kd.int .i64) _ _ _ 1 [.int .i64 1] from rfl) (Reps.one (show Kd.M (Kd.int .i64) _ _ _ 2 [.int .i64 2] from rfl) (Reps.none _ _)))); intro v182 w39 ho40 hb hg_ hnew_; clear hg_ hnew_; (first | rw [← Ny181.out] at ho40 | (simp only [Int.reduceToNat] at ho40; rw [← Ny181.out] at ho40)); have n9_ := Aside0.mk (Kd.V_elder' (mV HL180_0.out) (Kd.R_base ho40) hb); have n10_ := Aside0.mk (Kd.R_lower (Kd.R_new' (Kd.R_new' ho40 (Kd.R_lt (mR HO152.out))) (Kd.R_lt (mR HO174.out))) (below_size (mB HB.out))); have n11_ := Aside0.mk (Kd.C_below (by repeat (first | (with_reducible exact HR180_0.out) | (with_reducible refine Kd.C_alloc ?_ _) | (with_reducible refine Kd.C_drewN ?_ _) | (with_reducible refine Kd.C_drew ?_) | exact HR180_0.out)) hb); have n12_ := Aside0.mk (below_step (mB HB.out) hb); clear HO152; clear HO174; clear HL180_0; clear HR180_0; clear HB; have HL180_0 := n9_; have HO183 := n10_; have HR180_0 := n11_; have HB := n12_; clear n9_ n10_ n11_ n12_; clear hb ho40; obtain ⟨Ao41, co41, eo41⟩ := Kd.R_slice HO183.out; subst eo41) | (go_at_call 24; (with_reducible refine (columbariumbook_Same_int.calls k _ _ (rd_L3 t165 1) _ _ y181 t184 _ ?side1 ?side2 ?side3 ?side4 A11.out).mono ?_); (case side1 => repeat (first | exact (by repeat (first | (with_reducible exact HR180_0.out) | (with_reducible refine Kd.C_alloc ?_ _) | (with_reducible refine Kd.C_drewN ?_ _) | (with_reducible refine Kd.C_drew ?_) | exact HR180_0.out)) | (with_reducible refine Kd.C_alloc ?_ _) | (with_reducible refine Kd.C_drewN ?_ _) | (with_reducible refine Kd.C_drew ?_))); (case side2 => exact HC180_0.out); (case side3 => repeat (first | exact (Kd.R_reads' HO183.out).2.2 | (with_reducible refine Kd.C_alloc ?_ _) | (with_reducible refine Kd.C_drewN ?_ _) | (with_reducible refine Kd.C_drew ?_))); (case side4 => exact (Kd.R_reads' HO183.out).2.1); rintro e w' ⟨rfl, ⟨nd, rfl⟩⟩))
      go_ret
      exact ⟨by first | rfl | (simp [errW_none, errW_some] <;> rfl) | (simp [*, errW_none, errW_some] <;> rfl), mB HB.out⟩
     ·rw [if_neg c10] at H
      exact absurd H (by simp)
    ·rw [if_neg c9] at H
     have c9b0 : ((t165.length : Int) == 2) = false := beq_eq_false_iff_ne.mpr c9
     have c9b1 : ((t165.length : Int) != 2) = true := bne_iff_ne.mpr c9
     obtain rfl := Option.some.inj H
     go_enter Try.func12, Try.ntmps12
     go_wp2_with (first | ((with_reducible refine gate_dst (N := 6) rfl ?_); (try (refine gate_guard (by rfl) ?_; dsimp only)); refine Kd.R_lit Kd.string _ 9 ?hg (N := 6) ?hd (xs := ([(⟨#[98]⟩ : ByteArray), (⟨#[97]⟩ : ByteArray), (⟨#[98]⟩ : ByteArray)] : List ByteArray)) (inner := [.string (⟨#[98]⟩ : ByteArray), .string (⟨#[97]⟩ : ByteArray), .string (⟨#[98]⟩ : ByteArray)]) (ok := fun _ => True) (okp := fun _ => True) ?hr ?hp (fun _ hk => hk) trivial (Below.refl _ _) (Nat.le_refl _) (by simp) ?_; (case hd => rfl); (case hg => rfl); (case hr => first | (go_simp; done) | (go_simp; rfl)); (case hp => exact (Reps.one (show Kd.M Kd.string _ _ _ (⟨#[98]⟩ : ByteArray) [.string (⟨#[98]⟩ : ByteArray)] from rfl) (Reps.one (show Kd.M Kd.string _ _ _ (⟨#[97]⟩ : ByteArray) [.string (⟨#[97]⟩ : ByteArray)] from rfl) (Reps.one (show Kd.M Kd.string _ _ _ (⟨#[98]⟩ : ByteArray) [.string (⟨#[98]⟩ : ByteArray)] from rfl) (Reps.none _ _))))); intro v145 w42 ho43 hb hg_ hnew_; clear hg_ hnew_; (first | rw [← Ny144.out] at ho43 | (simp only [Int.reduceToNat] at ho43; rw [← Ny144.out] at ho43)); have n0_ := Aside0.mk (Kd.R_lower ho43 (below_size (mB HB.out))); have n1_ := Aside0.mk (below_step (mB HB.out) hb); clear HB; have HO146 := n0_; have HB := n1_; clear n0_ n1_; clear hb ho43; obtain ⟨Ao44, co44, eo44⟩ := Kd.R_slice HO146.out; subst eo44) | ((with_reducible refine gate_callee (f := 8) rfl ?_); refine goesL_ (some 7) rfl rfl Try.func8 (by kernel_rfl) rfl #[.slice Ao44 y144.length co44] rfl (by (try simp only [List.map_toArray, List.map_cons, List.map_nil]); first | done | rfl | (simp only [List.length_drop, List.length_take]; rfl)) ?_; (with_reducible refine (dict_Build.calls k _ _ y144 t147 t150 _ ?side1 ?side2 A1.out).mono ?_); (case side1 => repeat (first | exact (Kd.R_reads' HO146.out).2.2 | (with_reducible refine Kd.C_alloc ?_ _) | (with_reducible refine Kd.C_drewN ?_ _) | (with_reducible refine Kd.C_drew ?_))); (case side2 => exact (Kd.R_reads' HO146.out).2.1); rintro e w45 ⟨v148, v151, rfl, ho0, ho1, hb⟩; refine ⟨_, rfl, ?_⟩; have n0_ := Aside0.mk (Kd.R_below (mR HO146.out) hb); have n1_ := Aside0.mk (Kd.V_lower (Kd.V_mono (ok' := fun k_ => some k_ ≠ (v151 : Value).ownBlock ∧ some k_ ≠ (.slice Ao44 y144.length co44 : Value).ownBlock) ho0 (fun k_ hk_ => ⟨hk_.2, (Kd.fresh' (Kd.R_lt (mR HO146.out)) k_ hk_.1)⟩)) (below_size (mB HB.out))); have n2_ := Aside0.mk (Kd.R_lower (Kd.R_mono (ok' := fun k_ => True) ho1 (fun _ hk_ => trivial)) (below_size (mB HB.out))); have n3_ := Aside0.mk (below_step (mB HB.out) hb); clear HO146; clear HB; have HO146 := n0_; have HO149 := n1_; have HO152 := n2_; have HB := n3_; clear n0_ n1_ n2_ n3_; (try clear hb); (try clear hb2); (try clear hk); (try clear hi); (try clear ho0); (try clear ho1)) | ((with_reducible refine gate_dst (N := 11) rfl ?_); (try (refine gate_guard (by rfl) ?_; dsimp only)); refine Kd.R_lit Kd.string _ 9 ?hg (N := 11) ?hd (xs := ([(⟨#[97]⟩ : ByteArray), (⟨#[99]⟩ : ByteArray)] : List ByteArray)) (inner := [.string (⟨#[97]⟩ : ByteArray), .string (⟨#[99]⟩ : ByteArray)]) (ok := fun _ => True) (okp := fun _ => True) ?hr ?hp (fun _ hk => hk) trivial (Below.refl _ _) (Nat.le_refl _) (by simp) ?_; (case hd => rfl); (case hg => rfl); (case hr => first | (go_simp; done) | (go_simp; rfl)); (case hp => exact (Reps.one (show Kd.M Kd.string _ _ _ (⟨#[97]⟩ : ByteArray) [.string (⟨#[97]⟩ : ByteArray)] from rfl) (Reps.one (show Kd.M Kd.string _ _ _ (⟨#[99]⟩ : ByteArray) [.string (⟨#[99]⟩ : ByteArray)] from rfl) (Reps.none _ _)))); intro v154 w46 ho47 hb hg_ hnew_; clear hg_ hnew_; (first | rw [← Ny153.out] at ho47 | (simp only [Int.reduceToNat] at ho47; rw [← Ny153.out] at ho47)); have n0_ := Aside0.mk (Kd.R_elder' (mR HO146.out) (Kd.R_base ho47) hb); have n1_ := Aside0.mk (Kd.V_elder' (mV HO149.out) (Kd.R_base ho47) hb); have n2_ := Aside0.mk (Kd.R_below (mR HO152.out) hb); have n3_ := Aside0.mk (Kd.R_lower (Kd.R_new' ho47 (Kd.R_lt (mR HO146.out))) (below_size (mB HB.out))); have n4_ := Aside0.mk (below_step (mB HB.out) hb); clear HO146; clear HO149; clear HO152; clear HB; have HO146 := n0_; have HO149 := n1_; have HO152 := n2_; have HO155 := n3_; have HB := n4_; clear n0_ n1_ n2_ n3_ n4_; clear hb ho47) | ((with_reducible refine gate_dst (N := 12) rfl ?_); (try (refine gate_guard (by rfl) ?_; dsimp only)); refine Kd.R_lit Kd.string _ 9 ?hg (N := 12) ?hd (xs := ([(⟨#[98]⟩ : ByteArray), (⟨#[99]⟩ : ByteArray)] : List ByteArray)) (inner := [.string (⟨#[98]⟩ : ByteArray), .string (⟨#[99]⟩ : ByteArray)]) (ok := fun _ => True) (okp := fun _ => True) ?hr ?hp (fun _ hk => hk) trivial (Below.refl _ _) (Nat.le_refl _) (by simp) ?_; (case hd => rfl); (case hg => rfl); (case hr => first | (go_simp; done) | (go_simp; rfl)); (case hp => exact (Reps.one (show Kd.M Kd.string _ _ _ (⟨#[98]⟩ : ByteArray) [.string (⟨#[98]⟩ : ByteArray)] from rfl) (Reps.one (show Kd.M Kd.string _ _ _ (⟨#[99]⟩ : ByteArray) [.string (⟨#[99]⟩ : ByteArray)] from rfl) (Reps.none _ _)))); intro v157 w48 ho49 hb hg_ hnew_; clear hg_ hnew_; (first | rw [← Ny156.out] at ho49 | (simp only [Int.reduceToNat] at ho49; rw [← Ny156.out] at ho49)); have n0_ := Aside0.mk (Kd.R_elder' (mR HO146.out) (Kd.R_base ho49) hb); have n1_ := Aside0.mk (Kd.V_elder' (mV HO149.out) (Kd.R_base ho49) hb); have n2_ := Aside0.mk (Kd.R_below (mR HO152.out) hb); have n3_ := Aside0.mk (Kd.R_elder' (mR HO155.out) (Kd.R_base ho49) hb); have n4_ := Aside0.mk (Kd.R_lower (Kd.R_new' (Kd.R_new' ho49 (Kd.R_lt (mR HO146.out))) (Kd.R_lt (mR HO155.out))) (below_size (mB HB.out))); have n5_ := Aside0.mk (below_step (mB HB.out) hb); clear HO146; clear HO149; clear HO152; clear HO155; clear HB; have HO146 := n0_; have HO149 := n1_; have HO152 := n2_; have HO155 := n3_; have HO158 := n4_; have HB := n5_; clear n0_ n1_ n2_ n3_ n4_ n5_; clear hb ho49; obtain ⟨Ao50, co50, eo50⟩ := Kd.R_slice HO155.out; subst eo50; obtain ⟨Ao51, co51, eo51⟩ := Kd.R_slice HO158.out; subst eo51) | ((with_reducible refine gate_dst (N := 13) rfl ?_); (try (refine gate_guard (by rfl) ?_; dsimp only)); refine Kd.N_lit (Kd.slice 9 Kd.string) _ 22 ?hg (N' := 13) ?hd (xs := ([y153, y156] : List (List ByteArray))) (inner := [.slice Ao50 y153.length co50, .slice Ao51 y156.length co51]) (ok := (fun k_ => some k_ ≠ (.slice Ao44 y144.length co44 : Value).ownBlock ∧ some k_ ≠ (v151 : Value).ownBlock)) (okp := (fun k_ => some k_ ≠ (.slice Ao44 y144.length co44 : Value).ownBlock ∧ some k_ ≠ (v151 : Value).ownBlock)) ?hr ?hp (fun _ hk => hk) ((show ∀ k_, w48.heap.size ≤ k_ → (fun k_ => some k_ ≠ (.slice Ao44 y144.length co44 : Value).ownBlock ∧ some k_ ≠ (v151 : Value).ownBlock) k_ from fun k_ hk => ⟨Kd.fresh' (Kd.R_lt (mR HO146.out)) k_ hk, Kd.fresh' (Kd.R_lt (mR HO152.out)) k_ hk⟩) _ (Nat.le_refl _)) (Below.refl _ _) (Nat.le_refl _) (by simp) ?_; (case hd => rfl); (case hg => rfl); (case hr => first | (go_simp; done) | (go_simp; rfl)); (case hp => exact (Reps.one (show Kd.FK (Kd.slice 9 Kd.string) _ _ y153 [.slice Ao50 y153.length co50] from (Kd.FK_slice_mk (Kd.R_reads' (Kd.R_mono (ok' := (fun k_ => some k_ ≠ (.slice Ao44 y144.length co44 : Value).ownBlock ∧ some k_ ≠ (v151 : Value).ownBlock)) (Kd.R_apart' (HO155.out) (Kd.R_typed HO152.out) (by decide)) (fun k_ hk => ⟨hk.1.1.2, hk.2⟩))).2.1 (Kd.R_F (by (with_reducible repeat (first | apply Kd.R_alloc | apply Kd.R_drewN | apply Kd.R_drew)); exact (Kd.R_mono (ok' := (fun k_ => some k_ ≠ (.slice Ao44 y144.length co44 : Value).ownBlock ∧ some k_ ≠ (v151 : Value).ownBlock)) (Kd.R_apart' (HO155.out) (Kd.R_typed HO152.out) (by decide)) (fun k_ hk => ⟨hk.1.1.2, hk.2⟩)))))) (Reps.one (show Kd.FK (Kd.slice 9 Kd.string) _ _ y156 [.slice Ao51 y156.length co51] from (Kd.FK_slice_mk (Kd.R_reads' (Kd.R_mono (ok' := (fun k_ => some k_ ≠ (.slice Ao44 y144.length co44 : Value).ownBlock ∧ some k_ ≠ (v151 : Value).ownBlock)) (Kd.R_apart' (HO158.out) (Kd.R_typed HO152.out) (by decide)) (fun k_ hk => ⟨hk.1.1.2, hk.2⟩))).2.1 (Kd.R_F (by (with_reducible repeat (first | apply Kd.R_alloc | apply Kd.R_drewN | apply Kd.R_drew)); exact (Kd.R_mono (ok' := (fun k_ => some k_ ≠ (.slice Ao44 y144.length co44 : Value).ownBlock ∧ some k_ ≠ (v151 : Value).ownBlock)) (Kd.R_apart' (HO158.out) (Kd.R_typed HO152.out) (by decide)) (fun k_ hk => ⟨hk.1.1.2, hk.2⟩)))))) (Reps.none _ _)))); intro v160 w52 ho53 hb hg_ hnew_; clear hg_ hnew_; (first | rw [← Ny159.out] at ho53 | (simp only [Int.reduceToNat] at ho53; rw [← Ny159.out] at ho53)); have n0_ := Aside0.mk (Kd.R_below (mR HO146.out) hb); have n1_ := Aside0.mk (Kd.V_elder' (mV HO149.out) (Kd.N_base ho53) hb); have n2_ := Aside0.mk (Kd.R_below (mR HO152.out) hb); have n3_ := Aside0.mk (Kd.N_lower ho53 (below_size (mB HB.out))); have n4_ := Aside0.mk (below_step (mB HB.out) hb); clear HO146; clear HO149; clear HO152; clear HB; clear HO155; clear HO158; have HO146 := n0_; have HO149 := n1_; have HO152 := n2_; have HO161 := n3_; have HB := n4_; clear n0_ n1_ n2_ n3_ n4_; clear hb ho53; obtain ⟨Ao54, co54, eo54⟩ := Kd.N_slice HO161.out; subst eo54) | ((with_reducible refine gate_callee (f := 10) rfl ?_); refine goesL_ (some 14) rfl rfl Try.func10 (by kernel_rfl) rfl #[.slice Ao54 y159.length co54] rfl (by (try simp only [List.map_toArray, List.map_cons, List.map_nil]); first | done | rfl | (simp only [List.length_drop, List.length_take]; rfl)) ?_; (with_reducible refine (dict_Merge.calls k _ _ y159 t162 t165 _ ?side1 ?side2 A2.out).mono ?_); (case side1 => repeat (first | exact (Kd.N_reads' HO161.out).2.2 | (with_reducible refine Kd.C_alloc ?_ _) | (with_reducible refine Kd.C_drewN ?_ _) | (with_reducible refine Kd.C_drew ?_))); (case side2 => exact (Kd.N_reads' HO161.out).2.1); rintro e w55 ⟨v163, v166, rfl, ho0, ho1, hb⟩; refine ⟨_, rfl, ?_⟩; (try replace ho1 := Kd.S_N ho1); have n0_ := Aside0.mk (Kd.R_below (mR HO146.out) hb); have n1_ := Aside0.mk (Kd.V_elder' (mV HO149.out) (Kd.N_base ho1) hb); have n2_ := Aside0.mk (Kd.R_below (mR HO152.out) hb); have n4_ := Aside0.mk (Kd.V_lower (Kd.V_mono (ok' := fun k_ => some k_ ≠ (v166 : Value).ownBlock ∧ some k_ ≠ (.slice Ao44 y144.length co44 : Value).ownBlock ∧ some k_ ≠ (v151 : Value).ownBlock ∧ some k_ ≠ (.slice Ao54 y159.length co54 : Value).ownBlock) ho0 (fun k_ hk_ => ⟨hk_.2, (Kd.fresh' (Kd.R_lt (mR HO146.out)) k_ hk_.1), (Kd.fresh' (Kd.R_lt (mR HO152.out)) k_ hk_.1), (Kd.fresh' (Kd.N_lt (mN HO161.out)) k_ hk_.1)⟩)) (below_size (mB HB.out))); have n5_ := Aside0.mk (Kd.N_lower (Kd.N_mono (ok' := fun k_ => some k_ ≠ (.slice Ao44 y144.length co44 : Value).ownBlock ∧ some k_ ≠ (v151 : Value).ownBlock ∧ some k_ ≠ (.slice Ao54 y159.length co54 : Value).ownBlock) ho1 (fun k_ hk_ => ⟨(Kd.fresh' (Kd.R_lt (mR HO146.out)) k_ hk_), (Kd.fresh' (Kd.R_lt (mR HO152.out)) k_ hk_), (Kd.fresh' (Kd.N_lt (mN HO161.out)) k_ hk_)⟩)) (below_size (mB HB.out))); have n6_ := Aside0.mk (below_step (mB HB.out) hb); clear HO146; clear HO149; clear HO152; clear HO161; clear HB; have HO146 := n0_; have HO149 := n1_; have HO152 := n2_; have HO164 := n4_; have HO167 := n5_; have HB := n6_; clear n0_ n1_ n2_ n4_ n5_ n6_; (try clear hb); (try clear hb2); (try clear hk); (try clear hi); (try clear ho0); (try clear ho1)) | ((with_reducible refine gate_dst (N := 18) rfl ?_); (try (refine gate_guard (by rfl) ?_; dsimp only)); refine Kd.R_lit Kd.string _ 9 ?hg (N := 18) ?hd (xs := ([(⟨#[97]⟩ : ByteArray), (⟨#[98]⟩ : ByteArray)] : List ByteArray)) (inner := [.string (⟨#[97]⟩ : ByteArray), .string (⟨#[98]⟩ : ByteArray)]) (ok := fun _ => True) (okp := fun _ => True) ?hr ?hp (fun _ hk => hk) trivial (Below.refl _ _) (Nat.le_refl _) (by simp) ?_; (case hd => rfl); (case hg => rfl); (case hr => first | (go_simp; done) | (go_simp; rfl)); (case hp => exact (Reps.one (show Kd.M Kd.string _ _ _ (⟨#[97]⟩ : ByteArray) [.string (⟨#[97]⟩ : ByteArray)] from rfl) (Reps.one (show Kd.M Kd.string _ _ _ (⟨#[98]⟩ : ByteArray) [.string (⟨#[98]⟩ : ByteArray)] from rfl) (Reps.none _ _)))); intro v169 w56 ho57 hb hg_ hnew_; clear hg_ hnew_; (first | rw [← Ny168.out] at ho57 | (simp only [Int.reduceToNat] at ho57; rw [← Ny168.out] at ho57)); have n0_ := Aside0.mk (Kd.R_elder' (mR HO146.out) (Kd.R_base ho57) hb); have n1_ := Aside0.mk (Kd.V_elder' (mV HO149.out) (Kd.R_base ho57) hb); have n2_ := Aside0.mk (Kd.R_below (mR HO152.out) hb); have n4_ := Aside0.mk (Kd.V_elder' (mV HO164.out) (Kd.R_base ho57) hb); have n5_ := Aside0.mk (Kd.N_elder' (mN HO167.out) (Kd.R_base ho57) hb); have n6_ := Aside0.mk (Kd.R_lower (Kd.R_new' ho57 (Kd.R_lt (mR HO146.out))) (below_size (mB HB.out))); have n7_ := Aside0.mk (below_step (mB HB.out) hb); clear HO146; clear HO149; clear HO152; clear HO164; clear HO167; clear HB; have HO146 := n0_; have HO149 := n1_; have HO152 := n2_; have HO164 := n4_; have HO167 := n5_; have HO170 := n6_; have HB := n7_; clear n0_ n1_ n2_ n4_ n5_ n6_ n7_; clear hb ho57; obtain ⟨Ao58, co58, eo58⟩ := Kd.V_slice HO149.out; subst eo58; obtain ⟨Ao59, co59, eo59⟩ := Kd.R_slice HO170.out; subst eo59) | ((with_reducible refine gate_callee (f := 11) rfl ?_); refine goesL_ (some 19) rfl rfl Try.func11 (by kernel_rfl) rfl #[.slice Ao58 t147.length co58, .slice Ao59 y168.length co59] rfl (by (try simp only [List.map_toArray, List.map_cons, List.map_nil]); first | done | rfl | (simp only [List.length_drop, List.length_take]; rfl)) ?_; (with_reducible refine (columbariumkeep_Texts.calls k _ _ t147 _ _ y168 true _ ?side1 ?side2 ?side3 ?side4 A3.out).mono ?_); (case side1 => repeat (first | exact (Kd.V_reads' HO149.out).2.2 | (with_reducible refine Kd.C_alloc ?_ _) | (with_reducible refine Kd.C_drewN ?_ _) | (with_reducible refine Kd.C_drew ?_))); (case side2 => exact (Kd.V_reads' HO149.out).2.1); (case side3 => repeat (first | exact (Kd.R_reads' HO170.out).2.2 | (with_reducible refine Kd.C_alloc ?_ _) | (with_reducible refine Kd.C_drewN ?_ _) | (with_reducible refine Kd.C_drew ?_))); (case side4 => exact (Kd.R_reads' HO170.out).2.1); rintro e w' ⟨rfl, ⟨nd, rfl⟩⟩; refine ⟨_, rfl, ?_⟩) | ((with_reducible refine gate_dst (N := 22) rfl ?_); (try (refine gate_guard (by rfl) ?_; dsimp only)); refine Kd.R_lit (Kd.int .i64) _ 3 ?hg (N := 22) ?hd (xs := ([1, 0, 1] : List Int)) (inner := [.int .i64 1, .int .i64 0, .int .i64 1]) (ok := fun _ => True) (okp := fun _ => True) ?hr ?hp (fun _ hk => hk) trivial (Below.refl _ _) (Nat.le_refl _) (by simp) ?_; (case hd => rfl); (case hg => rfl); (case hr => first | (go_simp; done) | (go_simp; rfl)); (case hp => exact (Reps.one (show Kd.M (Kd.int .i64) _ _ _ 1 [.int .i64 1] from rfl) (Reps.one (show Kd.M (Kd.int .i64) _ _ _ 0 [.int .i64 0] from rfl) (Reps.one (show Kd.M (Kd.int .i64) _ _ _ 1 [.int .i64 1] from rfl) (Reps.none _ _))))); intro v173 w60 ho61 hb hg_ hnew_; clear hg_ hnew_; (first | rw [← Ny172.out] at ho61 | (simp only [Int.reduceToNat] at ho61; rw [← Ny172.out] at ho61)); have n0_ := Aside0.mk (Kd.R_below (mR HO146.out) hb); have n2_ := Aside0.mk (Kd.R_elder' (mR HO152.out) (Kd.R_base ho61) hb); have n4_ := Aside0.mk (Kd.V_elder' (mV HO164.out) (Kd.R_base ho61) hb); have n5_ := Aside0.mk (Kd.N_elder' (mN HO167.out) (Kd.R_base ho61) hb); have n6_ := Aside0.mk (Kd.R_below (mR HO170.out) hb); have n7_ := Aside0.mk (Kd.R_lower (Kd.R_new' ho61 (Kd.R_lt (mR HO152.out))) (below_size (mB HB.out))); have n8_ := Aside0.mk (below_step (mB HB.out) hb); clear HO146; clear HO152; clear HO164; clear HO167; clear HO170; clear HB; have HO146 := n0_; have HO152 := n2_; have HO164 := n4_; have HO167 := n5_; have HO170 := n6_; have HO174 := n7_; have HB := n8_; clear n0_ n2_ n4_ n5_ n6_ n7_ n8_; clear hb ho61; obtain ⟨Ao62, co62, eo62⟩ := Kd.R_slice HO152.out; subst eo62; obtain ⟨Ao63, co63, eo63⟩ := Kd.R_slice HO174.out; subst eo63) | (go_at_call 24; (with_reducible refine (columbariumbook_Same_int.calls k _ _ t150 _ _ y172 true _ ?side1 ?side2 ?side3 ?side4 A5.out).mono ?_); (case side1 => repeat (first | exact (Kd.R_reads' HO152.out).2.2 | (with_reducible refine Kd.C_alloc ?_ _) | (with_reducible refine Kd.C_drewN ?_ _) | (with_reducible refine Kd.C_drew ?_))); (case side2 => exact (Kd.R_reads' HO152.out).2.1); (case side3 => repeat (first | exact (Kd.R_reads' HO174.out).2.2 | (with_reducible refine Kd.C_alloc ?_ _) | (with_reducible refine Kd.C_drewN ?_ _) | (with_reducible refine Kd.C_drew ?_))); (case side4 => exact (Kd.R_reads' HO174.out).2.1); rintro e w' ⟨rfl, ⟨nd, rfl⟩⟩) | ((with_reducible refine gate_dst (N := 27) rfl ?_); (try (refine gate_guard (by rfl) ?_; dsimp only)); refine Kd.R_lit Kd.string _ 9 ?hg (N := 27) ?hd (xs := ([(⟨#[97]⟩ : ByteArray), (⟨#[98]⟩ : ByteArray), (⟨#[99]⟩ : ByteArray)] : List ByteArray)) (inner := [.string (⟨#[97]⟩ : ByteArray), .string (⟨#[98]⟩ : ByteArray), .string (⟨#[99]⟩ : ByteArray)]) (ok := fun _ => True) (okp := fun _ => True) ?hr ?hp (fun _ hk => hk) trivial (Below.refl _ _) (Nat.le_refl _) (by simp) ?_; (case hd => rfl); (case hg => rfl); (case hr => first | (go_simp; done) | (go_simp; rfl)); (case hp => exact (Reps.one (show Kd.M Kd.string _ _ _ (⟨#[97]⟩ : ByteArray) [.string (⟨#[97]⟩ : ByteArray)] from rfl) (Reps.one (show Kd.M Kd.string _ _ _ (⟨#[98]⟩ : ByteArray) [.string (⟨#[98]⟩ : ByteArray)] from rfl) (Reps.one (show Kd.M Kd.string _ _ _ (⟨#[99]⟩ : ByteArray) [.string (⟨#[99]⟩ : ByteArray)] from rfl) (Reps.none _ _))))); intro v177 w64 ho65 hb hg_ hnew_; clear hg_ hnew_; (first | rw [← Ny176.out] at ho65 | (simp only [Int.reduceToNat] at ho65; rw [← Ny176.out] at ho65)); have n4_ := Aside0.mk (Kd.V_elder' (mV HO164.out) (Kd.R_base ho65) hb); have n5_ := Aside0.mk (Kd.N_elder' (mN HO167.out) (Kd.R_base ho65) hb); have n8_ := Aside0.mk (Kd.R_lower (Kd.R_new' (Kd.R_new' ho65 (Kd.R_lt (mR HO146.out))) (Kd.R_lt (mR HO170.out))) (below_size (mB HB.out))); have n9_ := Aside0.mk (below_step (mB HB.out) hb); clear HO146; clear HO164; clear HO167; clear HO170; clear HB; have HO164 := n4_; have HO167 := n5_; have HO178 := n8_; have HB := n9_; clear n4_ n5_ n8_ n9_; clear hb ho65; obtain ⟨Ao66, co66, eo66⟩ := Kd.V_slice HO164.out; subst eo66; obtain ⟨Ao67, co67, eo67⟩ := Kd.R_slice HO178.out; subst eo67) | (go_at_call 11; (with_reducible refine (columbariumkeep_Texts.calls k _ _ t162 _ _ y176 true _ ?side1 ?side2 ?side3 ?side4 A7.out).mono ?_); (case side1 => repeat (first | exact (Kd.V_reads' HO164.out).2.2 | (with_reducible refine Kd.C_alloc ?_ _) | (with_reducible refine Kd.C_drewN ?_ _) | (with_reducible refine Kd.C_drew ?_))); (case side2 => exact (Kd.V_reads' HO164.out).2.1); (case side3 => repeat (first | exact (Kd.R_reads' HO178.out).2.2 | (with_reducible refine Kd.C_alloc ?_ _) | (with_reducible refine Kd.C_drewN ?_ _) | (with_reducible refine Kd.C_drew ?_))); (case side4 => exact (Kd.R_reads' HO178.out).2.1); rintro e w' ⟨rfl, ⟨nd, rfl⟩⟩; obtain ⟨Ao68, co68, eo68⟩ := Kd.N_slice HO167.out; subst eo68))
     go_ret
     exact ⟨by first | rfl | (simp [errW_none, errW_some] <;> rfl) | (simp [*, errW_none, errW_some] <;> rfl), mB HB.out⟩
   ·replace c8 := Bool.eq_false_iff.mpr c8
    subst c8
    have H1 : (some false) = some r := by rw [if_neg (show ¬ (false = true) by decide)] at H; exact H
    clear H
    have H := H1
    clear H1
    obtain rfl := Option.some.inj H
    go_enter Try.func12, Try.ntmps12
    go_wp2_with (first | ((with_reducible refine gate_dst (N := 6) rfl ?_); (try (refine gate_guard (by rfl) ?_; dsimp only)); refine Kd.R_lit Kd.string _ 9 ?hg (N := 6) ?hd (xs := ([(⟨#[98]⟩ : ByteArray), (⟨#[97]⟩ : ByteArray), (⟨#[98]⟩ : ByteArray)] : List ByteArray)) (inner := [.string (⟨#[98]⟩ : ByteArray), .string (⟨#[97]⟩ : ByteArray), .string (⟨#[98]⟩ : ByteArray)]) (ok := fun _ => True) (okp := fun _ => True) ?hr ?hp (fun _ hk => hk) trivial (Below.refl _ _) (Nat.le_refl _) (by simp) ?_; (case hd => rfl); (case hg => rfl); (case hr => first | (go_simp; done) | (go_simp; rfl)); (case hp => exact (Reps.one (show Kd.M Kd.string _ _ _ (⟨#[98]⟩ : ByteArray) [.string (⟨#[98]⟩ : ByteArray)] from rfl) (Reps.one (show Kd.M Kd.string _ _ _ (⟨#[97]⟩ : ByteArray) [.string (⟨#[97]⟩ : ByteArray)] from rfl) (Reps.one (show Kd.M Kd.string _ _ _ (⟨#[98]⟩ : ByteArray) [.string (⟨#[98]⟩ : ByteArray)] from rfl) (Reps.none _ _))))); intro v145 w69 ho70 hb hg_ hnew_; clear hg_ hnew_; (first | rw [← Ny144.out] at ho70 | (simp only [Int.reduceToNat] at ho70; rw [← Ny144.out] at ho70)); have n0_ := Aside0.mk (Kd.R_lower ho70 (below_size (mB HB.out))); have n1_ := Aside0.mk (below_step (mB HB.out) hb); clear HB; have HO146 := n0_; have HB := n1_; clear n0_ n1_; clear hb ho70; obtain ⟨Ao71, co71, eo71⟩ := Kd.R_slice HO146.out; subst eo71) | ((with_reducible refine gate_callee (f := 8) rfl ?_); refine goesL_ (some 7) rfl rfl Try.func8 (by kernel_rfl) rfl #[.slice Ao71 y144.length co71] rfl (by (try simp only [List.map_toArray, List.map_cons, List.map_nil]); first | done | rfl | (simp only [List.length_drop, List.length_take]; rfl)) ?_; (with_reducible refine (dict_Build.calls k _ _ y144 t147 t150 _ ?side1 ?side2 A1.out).mono ?_); (case side1 => repeat (first | exact (Kd.R_reads' HO146.out).2.2 | (with_reducible refine Kd.C_alloc ?_ _) | (with_reducible refine Kd.C_drewN ?_ _) | (with_reducible refine Kd.C_drew ?_))); (case side2 => exact (Kd.R_reads' HO146.out).2.1); rintro e w72 ⟨v148, v151, rfl, ho0, ho1, hb⟩; refine ⟨_, rfl, ?_⟩; have n0_ := Aside0.mk (Kd.R_below (mR HO146.out) hb); have n1_ := Aside0.mk (Kd.V_lower (Kd.V_mono (ok' := fun k_ => some k_ ≠ (v151 : Value).ownBlock ∧ some k_ ≠ (.slice Ao71 y144.length co71 : Value).ownBlock) ho0 (fun k_ hk_ => ⟨hk_.2, (Kd.fresh' (Kd.R_lt (mR HO146.out)) k_ hk_.1)⟩)) (below_size (mB HB.out))); have n2_ := Aside0.mk (Kd.R_lower (Kd.R_mono (ok' := fun k_ => True) ho1 (fun _ hk_ => trivial)) (below_size (mB HB.out))); have n3_ := Aside0.mk (below_step (mB HB.out) hb); clear HO146; clear HB; have HO146 := n0_; have HO149 := n1_; have HO152 := n2_; have HB := n3_; clear n0_ n1_ n2_ n3_; (try clear hb); (try clear hb2); (try clear hk); (try clear hi); (try clear ho0); (try clear ho1)) | ((with_reducible refine gate_dst (N := 11) rfl ?_); (try (refine gate_guard (by rfl) ?_; dsimp only)); refine Kd.R_lit Kd.string _ 9 ?hg (N := 11) ?hd (xs := ([(⟨#[97]⟩ : ByteArray), (⟨#[99]⟩ : ByteArray)] : List ByteArray)) (inner := [.string (⟨#[97]⟩ : ByteArray), .string (⟨#[99]⟩ : ByteArray)]) (ok := fun _ => True) (okp := fun _ => True) ?hr ?hp (fun _ hk => hk) trivial (Below.refl _ _) (Nat.le_refl _) (by simp) ?_; (case hd => rfl); (case hg => rfl); (case hr => first | (go_simp; done) | (go_simp; rfl)); (case hp => exact (Reps.one (show Kd.M Kd.string _ _ _ (⟨#[97]⟩ : ByteArray) [.string (⟨#[97]⟩ : ByteArray)] from rfl) (Reps.one (show Kd.M Kd.string _ _ _ (⟨#[99]⟩ : ByteArray) [.string (⟨#[99]⟩ : ByteArray)] from rfl) (Reps.none _ _)))); intro v154 w73 ho74 hb hg_ hnew_; clear hg_ hnew_; (first | rw [← Ny153.out] at ho74 | (simp only [Int.reduceToNat] at ho74; rw [← Ny153.out] at ho74)); have n0_ := Aside0.mk (Kd.R_elder' (mR HO146.out) (Kd.R_base ho74) hb); have n1_ := Aside0.mk (Kd.V_elder' (mV HO149.out) (Kd.R_base ho74) hb); have n2_ := Aside0.mk (Kd.R_below (mR HO152.out) hb); have n3_ := Aside0.mk (Kd.R_lower (Kd.R_new' ho74 (Kd.R_lt (mR HO146.out))) (below_size (mB HB.out))); have n4_ := Aside0.mk (below_step (mB HB.out) hb); clear HO146; clear HO149; clear HO152; clear HB; have HO146 := n0_; have HO149 := n1_; have HO152 := n2_; have HO155 := n3_; have HB := n4_; clear n0_ n1_ n2_ n3_ n4_; clear hb ho74) | ((with_reducible refine gate_dst (N := 12) rfl ?_); (try (refine gate_guard (by rfl) ?_; dsimp only)); refine Kd.R_lit Kd.string _ 9 ?hg (N := 12) ?hd (xs := ([(⟨#[98]⟩ : ByteArray), (⟨#[99]⟩ : ByteArray)] : List ByteArray)) (inner := [.string (⟨#[98]⟩ : ByteArray), .string (⟨#[99]⟩ : ByteArray)]) (ok := fun _ => True) (okp := fun _ => True) ?hr ?hp (fun _ hk => hk) trivial (Below.refl _ _) (Nat.le_refl _) (by simp) ?_; (case hd => rfl); (case hg => rfl); (case hr => first | (go_simp; done) | (go_simp; rfl)); (case hp => exact (Reps.one (show Kd.M Kd.string _ _ _ (⟨#[98]⟩ : ByteArray) [.string (⟨#[98]⟩ : ByteArray)] from rfl) (Reps.one (show Kd.M Kd.string _ _ _ (⟨#[99]⟩ : ByteArray) [.string (⟨#[99]⟩ : ByteArray)] from rfl) (Reps.none _ _)))); intro v157 w75 ho76 hb hg_ hnew_; clear hg_ hnew_; (first | rw [← Ny156.out] at ho76 | (simp only [Int.reduceToNat] at ho76; rw [← Ny156.out] at ho76)); have n0_ := Aside0.mk (Kd.R_elder' (mR HO146.out) (Kd.R_base ho76) hb); have n1_ := Aside0.mk (Kd.V_elder' (mV HO149.out) (Kd.R_base ho76) hb); have n2_ := Aside0.mk (Kd.R_below (mR HO152.out) hb); have n3_ := Aside0.mk (Kd.R_elder' (mR HO155.out) (Kd.R_base ho76) hb); have n4_ := Aside0.mk (Kd.R_lower (Kd.R_new' (Kd.R_new' ho76 (Kd.R_lt (mR HO146.out))) (Kd.R_lt (mR HO155.out))) (below_size (mB HB.out))); have n5_ := Aside0.mk (below_step (mB HB.out) hb); clear HO146; clear HO149; clear HO152; clear HO155; clear HB; have HO146 := n0_; have HO149 := n1_; have HO152 := n2_; have HO155 := n3_; have HO158 := n4_; have HB := n5_; clear n0_ n1_ n2_ n3_ n4_ n5_; clear hb ho76; obtain ⟨Ao77, co77, eo77⟩ := Kd.R_slice HO155.out; subst eo77; obtain ⟨Ao78, co78, eo78⟩ := Kd.R_slice HO158.out; subst eo78) | ((with_reducible refine gate_dst (N := 13) rfl ?_); (try (refine gate_guard (by rfl) ?_; dsimp only)); refine Kd.N_lit (Kd.slice 9 Kd.string) _ 22 ?hg (N' := 13) ?hd (xs := ([y153, y156] : List (List ByteArray))) (inner := [.slice Ao77 y153.length co77, .slice Ao78 y156.length co78]) (ok := (fun k_ => some k_ ≠ (.slice Ao71 y144.length co71 : Value).ownBlock ∧ some k_ ≠ (v151 : Value).ownBlock)) (okp := (fun k_ => some k_ ≠ (.slice Ao71 y144.length co71 : Value).ownBlock ∧ some k_ ≠ (v151 : Value).ownBlock)) ?hr ?hp (fun _ hk => hk) ((show ∀ k_, w75.heap.size ≤ k_ → (fun k_ => some k_ ≠ (.slice Ao71 y144.length co71 : Value).ownBlock ∧ some k_ ≠ (v151 : Value).ownBlock) k_ from fun k_ hk => ⟨Kd.fresh' (Kd.R_lt (mR HO146.out)) k_ hk, Kd.fresh' (Kd.R_lt (mR HO152.out)) k_ hk⟩) _ (Nat.le_refl _)) (Below.refl _ _) (Nat.le_refl _) (by simp) ?_; (case hd => rfl); (case hg => rfl); (case hr => first | (go_simp; done) | (go_simp; rfl)); (case hp => exact (Reps.one (show Kd.FK (Kd.slice 9 Kd.string) _ _ y153 [.slice Ao77 y153.length co77] from (Kd.FK_slice_mk (Kd.R_reads' (Kd.R_mono (ok' := (fun k_ => some k_ ≠ (.slice Ao71 y144.length co71 : Value).ownBlock ∧ some k_ ≠ (v151 : Value).ownBlock)) (Kd.R_apart' (HO155.out) (Kd.R_typed HO152.out) (by decide)) (fun k_ hk => ⟨hk.1.1.2, hk.2⟩))).2.1 (Kd.R_F (by (with_reducible repeat (first | apply Kd.R_alloc | apply Kd.R_drewN | apply Kd.R_drew)); exact (Kd.R_mono (ok' := (fun k_ => some k_ ≠ (.slice Ao71 y144.length co71 : Value).ownBlock ∧ some k_ ≠ (v151 : Value).ownBlock)) (Kd.R_apart' (HO155.out) (Kd.R_typed HO152.out) (by decide)) (fun k_ hk => ⟨hk.1.1.2, hk.2⟩)))))) (Reps.one (show Kd.FK (Kd.slice 9 Kd.string) _ _ y156 [.slice Ao78 y156.length co78] from (Kd.FK_slice_mk (Kd.R_reads' (Kd.R_mono (ok' := (fun k_ => some k_ ≠ (.slice Ao71 y144.length co71 : Value).ownBlock ∧ some k_ ≠ (v151 : Value).ownBlock)) (Kd.R_apart' (HO158.out) (Kd.R_typed HO152.out) (by decide)) (fun k_ hk => ⟨hk.1.1.2, hk.2⟩))).2.1 (Kd.R_F (by (with_reducible repeat (first | apply Kd.R_alloc | apply Kd.R_drewN | apply Kd.R_drew)); exact (Kd.R_mono (ok' := (fun k_ => some k_ ≠ (.slice Ao71 y144.length co71 : Value).ownBlock ∧ some k_ ≠ (v151 : Value).ownBlock)) (Kd.R_apart' (HO158.out) (Kd.R_typed HO152.out) (by decide)) (fun k_ hk => ⟨hk.1.1.2, hk.2⟩)))))) (Reps.none _ _)))); intro v160 w79 ho80 hb hg_ hnew_; clear hg_ hnew_; (first | rw [← Ny159.out] at ho80 | (simp only [Int.reduceToNat] at ho80; rw [← Ny159.out] at ho80)); have n0_ := Aside0.mk (Kd.R_below (mR HO146.out) hb); have n1_ := Aside0.mk (Kd.V_elder' (mV HO149.out) (Kd.N_base ho80) hb); have n2_ := Aside0.mk (Kd.R_below (mR HO152.out) hb); have n3_ := Aside0.mk (Kd.N_lower ho80 (below_size (mB HB.out))); have n4_ := Aside0.mk (below_step (mB HB.out) hb); clear HO146; clear HO149; clear HO152; clear HB; clear HO155; clear HO158; have HO146 := n0_; have HO149 := n1_; have HO152 := n2_; have HO161 := n3_; have HB := n4_; clear n0_ n1_ n2_ n3_ n4_; clear hb ho80; obtain ⟨Ao81, co81, eo81⟩ := Kd.N_slice HO161.out; subst eo81) | ((with_reducible refine gate_callee (f := 10) rfl ?_); refine goesL_ (some 14) rfl rfl Try.func10 (by kernel_rfl) rfl #[.slice Ao81 y159.length co81] rfl (by (try simp only [List.map_toArray, List.map_cons, List.map_nil]); first | done | rfl | (simp only [List.length_drop, List.length_take]; rfl)) ?_; (with_reducible refine (dict_Merge.calls k _ _ y159 t162 t165 _ ?side1 ?side2 A2.out).mono ?_); (case side1 => repeat (first | exact (Kd.N_reads' HO161.out).2.2 | (with_reducible refine Kd.C_alloc ?_ _) | (with_reducible refine Kd.C_drewN ?_ _) | (with_reducible refine Kd.C_drew ?_))); (case side2 => exact (Kd.N_reads' HO161.out).2.1); rintro e w82 ⟨v163, v166, rfl, ho0, ho1, hb⟩; refine ⟨_, rfl, ?_⟩; (try replace ho1 := Kd.S_N ho1); have n0_ := Aside0.mk (Kd.R_below (mR HO146.out) hb); have n1_ := Aside0.mk (Kd.V_elder' (mV HO149.out) (Kd.N_base ho1) hb); have n2_ := Aside0.mk (Kd.R_below (mR HO152.out) hb); have n4_ := Aside0.mk (Kd.V_lower (Kd.V_mono (ok' := fun k_ => some k_ ≠ (v166 : Value).ownBlock ∧ some k_ ≠ (.slice Ao71 y144.length co71 : Value).ownBlock ∧ some k_ ≠ (v151 : Value).ownBlock ∧ some k_ ≠ (.slice Ao81 y159.length co81 : Value).ownBlock) ho0 (fun k_ hk_ => ⟨hk_.2, (Kd.fresh' (Kd.R_lt (mR HO146.out)) k_ hk_.1), (Kd.fresh' (Kd.R_lt (mR HO152.out)) k_ hk_.1), (Kd.fresh' (Kd.N_lt (mN HO161.out)) k_ hk_.1)⟩)) (below_size (mB HB.out))); have n6_ := Aside0.mk (below_step (mB HB.out) hb); clear HO146; clear HO149; clear HO152; clear HO161; clear HB; have HO146 := n0_; have HO149 := n1_; have HO152 := n2_; have HO164 := n4_; have HB := n6_; clear n0_ n1_ n2_ n4_ n6_; (try clear hb); (try clear hb2); (try clear hk); (try clear hi); (try clear ho0); (try clear ho1)) | ((with_reducible refine gate_dst (N := 18) rfl ?_); (try (refine gate_guard (by rfl) ?_; dsimp only)); refine Kd.R_lit Kd.string _ 9 ?hg (N := 18) ?hd (xs := ([(⟨#[97]⟩ : ByteArray), (⟨#[98]⟩ : ByteArray)] : List ByteArray)) (inner := [.string (⟨#[97]⟩ : ByteArray), .string (⟨#[98]⟩ : ByteArray)]) (ok := fun _ => True) (okp := fun _ => True) ?hr ?hp (fun _ hk => hk) trivial (Below.refl _ _) (Nat.le_refl _) (by simp) ?_; (case hd => rfl); (case hg => rfl); (case hr => first | (go_simp; done) | (go_simp; rfl)); (case hp => exact (Reps.one (show Kd.M Kd.string _ _ _ (⟨#[97]⟩ : ByteArray) [.string (⟨#[97]⟩ : ByteArray)] from rfl) (Reps.one (show Kd.M Kd.string _ _ _ (⟨#[98]⟩ : ByteArray) [.string (⟨#[98]⟩ : ByteArray)] from rfl) (Reps.none _ _)))); intro v169 w83 ho84 hb hg_ hnew_; clear hg_ hnew_; (first | rw [← Ny168.out] at ho84 | (simp only [Int.reduceToNat] at ho84; rw [← Ny168.out] at ho84)); have n0_ := Aside0.mk (Kd.R_elder' (mR HO146.out) (Kd.R_base ho84) hb); have n1_ := Aside0.mk (Kd.V_elder' (mV HO149.out) (Kd.R_base ho84) hb); have n2_ := Aside0.mk (Kd.R_below (mR HO152.out) hb); have n4_ := Aside0.mk (Kd.V_elder' (mV HO164.out) (Kd.R_base ho84) hb); have n6_ := Aside0.mk (Kd.R_lower (Kd.R_new' ho84 (Kd.R_lt (mR HO146.out))) (below_size (mB HB.out))); have n7_ := Aside0.mk (below_step (mB HB.out) hb); clear HO146; clear HO149; clear HO152; clear HO164; clear HB; have HO146 := n0_; have HO149 := n1_; have HO152 := n2_; have HO164 := n4_; have HO170 := n6_; have HB := n7_; clear n0_ n1_ n2_ n4_ n6_ n7_; clear hb ho84; obtain ⟨Ao85, co85, eo85⟩ := Kd.V_slice HO149.out; subst eo85; obtain ⟨Ao86, co86, eo86⟩ := Kd.R_slice HO170.out; subst eo86) | ((with_reducible refine gate_callee (f := 11) rfl ?_); refine goesL_ (some 19) rfl rfl Try.func11 (by kernel_rfl) rfl #[.slice Ao85 t147.length co85, .slice Ao86 y168.length co86] rfl (by (try simp only [List.map_toArray, List.map_cons, List.map_nil]); first | done | rfl | (simp only [List.length_drop, List.length_take]; rfl)) ?_; (with_reducible refine (columbariumkeep_Texts.calls k _ _ t147 _ _ y168 true _ ?side1 ?side2 ?side3 ?side4 A3.out).mono ?_); (case side1 => repeat (first | exact (Kd.V_reads' HO149.out).2.2 | (with_reducible refine Kd.C_alloc ?_ _) | (with_reducible refine Kd.C_drewN ?_ _) | (with_reducible refine Kd.C_drew ?_))); (case side2 => exact (Kd.V_reads' HO149.out).2.1); (case side3 => repeat (first | exact (Kd.R_reads' HO170.out).2.2 | (with_reducible refine Kd.C_alloc ?_ _) | (with_reducible refine Kd.C_drewN ?_ _) | (with_reducible refine Kd.C_drew ?_))); (case side4 => exact (Kd.R_reads' HO170.out).2.1); rintro e w' ⟨rfl, ⟨nd, rfl⟩⟩; refine ⟨_, rfl, ?_⟩) | ((with_reducible refine gate_dst (N := 22) rfl ?_); (try (refine gate_guard (by rfl) ?_; dsimp only)); refine Kd.R_lit (Kd.int .i64) _ 3 ?hg (N := 22) ?hd (xs := ([1, 0, 1] : List Int)) (inner := [.int .i64 1, .int .i64 0, .int .i64 1]) (ok := fun _ => True) (okp := fun _ => True) ?hr ?hp (fun _ hk => hk) trivial (Below.refl _ _) (Nat.le_refl _) (by simp) ?_; (case hd => rfl); (case hg => rfl); (case hr => first | (go_simp; done) | (go_simp; rfl)); (case hp => exact (Reps.one (show Kd.M (Kd.int .i64) _ _ _ 1 [.int .i64 1] from rfl) (Reps.one (show Kd.M (Kd.int .i64) _ _ _ 0 [.int .i64 0] from rfl) (Reps.one (show Kd.M (Kd.int .i64) _ _ _ 1 [.int .i64 1] from rfl) (Reps.none _ _))))); intro v173 w87 ho88 hb hg_ hnew_; clear hg_ hnew_; (first | rw [← Ny172.out] at ho88 | (simp only [Int.reduceToNat] at ho88; rw [← Ny172.out] at ho88)); have n0_ := Aside0.mk (Kd.R_below (mR HO146.out) hb); have n2_ := Aside0.mk (Kd.R_elder' (mR HO152.out) (Kd.R_base ho88) hb); have n4_ := Aside0.mk (Kd.V_elder' (mV HO164.out) (Kd.R_base ho88) hb); have n6_ := Aside0.mk (Kd.R_below (mR HO170.out) hb); have n7_ := Aside0.mk (Kd.R_lower (Kd.R_new' ho88 (Kd.R_lt (mR HO152.out))) (below_size (mB HB.out))); have n8_ := Aside0.mk (below_step (mB HB.out) hb); clear HO146; clear HO152; clear HO164; clear HO170; clear HB; have HO146 := n0_; have HO152 := n2_; have HO164 := n4_; have HO170 := n6_; have HO174 := n7_; have HB := n8_; clear n0_ n2_ n4_ n6_ n7_ n8_; clear hb ho88; obtain ⟨Ao89, co89, eo89⟩ := Kd.R_slice HO152.out; subst eo89; obtain ⟨Ao90, co90, eo90⟩ := Kd.R_slice HO174.out; subst eo90) | (go_at_call 24; (with_reducible refine (columbariumbook_Same_int.calls k _ _ t150 _ _ y172 true _ ?side1 ?side2 ?side3 ?side4 A5.out).mono ?_); (case side1 => repeat (first | exact (Kd.R_reads' HO152.out).2.2 | (with_reducible refine Kd.C_alloc ?_ _) | (with_reducible refine Kd.C_drewN ?_ _) | (with_reducible refine Kd.C_drew ?_))); (case side2 => exact (Kd.R_reads' HO152.out).2.1); (case side3 => repeat (first | exact (Kd.R_reads' HO174.out).2.2 | (with_reducible refine Kd.C_alloc ?_ _) | (with_reducible refine Kd.C_drewN ?_ _) | (with_reducible refine Kd.C_drew ?_))); (case side4 => exact (Kd.R_reads' HO174.out).2.1); rintro e w' ⟨rfl, ⟨nd, rfl⟩⟩) | ((with_reducible refine gate_dst (N := 27) rfl ?_); (try (refine gate_guard (by rfl) ?_; dsimp only)); refine Kd.R_lit Kd.string _ 9 ?hg (N := 27) ?hd (xs := ([(⟨#[97]⟩ : ByteArray), (⟨#[98]⟩ : ByteArray), (⟨#[99]⟩ : ByteArray)] : List ByteArray)) (inner := [.string (⟨#[97]⟩ : ByteArray), .string (⟨#[98]⟩ : ByteArray), .string (⟨#[99]⟩ : ByteArray)]) (ok := fun _ => True) (okp := fun _ => True) ?hr ?hp (fun _ hk => hk) trivial (Below.refl _ _) (Nat.le_refl _) (by simp) ?_; (case hd => rfl); (case hg => rfl); (case hr => first | (go_simp; done) | (go_simp; rfl)); (case hp => exact (Reps.one (show Kd.M Kd.string _ _ _ (⟨#[97]⟩ : ByteArray) [.string (⟨#[97]⟩ : ByteArray)] from rfl) (Reps.one (show Kd.M Kd.string _ _ _ (⟨#[98]⟩ : ByteArray) [.string (⟨#[98]⟩ : ByteArray)] from rfl) (Reps.one (show Kd.M Kd.string _ _ _ (⟨#[99]⟩ : ByteArray) [.string (⟨#[99]⟩ : ByteArray)] from rfl) (Reps.none _ _))))); intro v177 w91 ho92 hb hg_ hnew_; clear hg_ hnew_; (first | rw [← Ny176.out] at ho92 | (simp only [Int.reduceToNat] at ho92; rw [← Ny176.out] at ho92)); have n4_ := Aside0.mk (Kd.V_elder' (mV HO164.out) (Kd.R_base ho92) hb); have n8_ := Aside0.mk (Kd.R_lower (Kd.R_new' (Kd.R_new' ho92 (Kd.R_lt (mR HO146.out))) (Kd.R_lt (mR HO170.out))) (below_size (mB HB.out))); have n9_ := Aside0.mk (below_step (mB HB.out) hb); clear HO146; clear HO164; clear HO170; clear HB; have HO164 := n4_; have HO178 := n8_; have HB := n9_; clear n4_ n8_ n9_; clear hb ho92; obtain ⟨Ao93, co93, eo93⟩ := Kd.V_slice HO164.out; subst eo93; obtain ⟨Ao94, co94, eo94⟩ := Kd.R_slice HO178.out; subst eo94) | (go_at_call 11; (with_reducible refine (columbariumkeep_Texts.calls k _ _ t162 _ _ y176 false _ ?side1 ?side2 ?side3 ?side4 A7.out).mono ?_); (case side1 => repeat (first | exact (Kd.V_reads' HO164.out).2.2 | (with_reducible refine Kd.C_alloc ?_ _) | (with_reducible refine Kd.C_drewN ?_ _) | (with_reducible refine Kd.C_drew ?_))); (case side2 => exact (Kd.V_reads' HO164.out).2.1); (case side3 => repeat (first | exact (Kd.R_reads' HO178.out).2.2 | (with_reducible refine Kd.C_alloc ?_ _) | (with_reducible refine Kd.C_drewN ?_ _) | (with_reducible refine Kd.C_drew ?_))); (case side4 => exact (Kd.R_reads' HO178.out).2.1); rintro e w' ⟨rfl, ⟨nd, rfl⟩⟩))
    go_ret
    exact ⟨by first | rfl | (simp [errW_none, errW_some] <;> rfl) | (simp [*, errW_none, errW_some] <;> rfl), mB HB.out⟩
  ·replace c6 := Bool.eq_false_iff.mpr c6
   subst c6
   have H1 : (some false) = some r := by rw [if_neg (show ¬ (false = true) by decide)] at H; exact H
   clear H
   have H := H1
   clear H1
   obtain rfl := Option.some.inj H
   go_enter Try.func12, Try.ntmps12
   go_wp2_with (first | ((with_reducible refine gate_dst (N := 6) rfl ?_); (try (refine gate_guard (by rfl) ?_; dsimp only)); refine Kd.R_lit Kd.string _ 9 ?hg (N := 6) ?hd (xs := ([(⟨#[98]⟩ : ByteArray), (⟨#[97]⟩ : ByteArray), (⟨#[98]⟩ : ByteArray)] : List ByteArray)) (inner := [.string (⟨#[98]⟩ : ByteArray), .string (⟨#[97]⟩ : ByteArray), .string (⟨#[98]⟩ : ByteArray)]) (ok := fun _ => True) (okp := fun _ => True) ?hr ?hp (fun _ hk => hk) trivial (Below.refl _ _) (Nat.le_refl _) (by simp) ?_; (case hd => rfl); (case hg => rfl); (case hr => first | (go_simp; done) | (go_simp; rfl)); (case hp => exact (Reps.one (show Kd.M Kd.string _ _ _ (⟨#[98]⟩ : ByteArray) [.string (⟨#[98]⟩ : ByteArray)] from rfl) (Reps.one (show Kd.M Kd.string _ _ _ (⟨#[97]⟩ : ByteArray) [.string (⟨#[97]⟩ : ByteArray)] from rfl) (Reps.one (show Kd.M Kd.string _ _ _ (⟨#[98]⟩ : ByteArray) [.string (⟨#[98]⟩ : ByteArray)] from rfl) (Reps.none _ _))))); intro v145 w95 ho96 hb hg_ hnew_; clear hg_ hnew_; (first | rw [← Ny144.out] at ho96 | (simp only [Int.reduceToNat] at ho96; rw [← Ny144.out] at ho96)); have n0_ := Aside0.mk (Kd.R_lower ho96 (below_size (mB HB.out))); have n1_ := Aside0.mk (below_step (mB HB.out) hb); clear HB; have HO146 := n0_; have HB := n1_; clear n0_ n1_; clear hb ho96; obtain ⟨Ao97, co97, eo97⟩ := Kd.R_slice HO146.out; subst eo97) | ((with_reducible refine gate_callee (f := 8) rfl ?_); refine goesL_ (some 7) rfl rfl Try.func8 (by kernel_rfl) rfl #[.slice Ao97 y144.length co97] rfl (by (try simp only [List.map_toArray, List.map_cons, List.map_nil]); first | done | rfl | (simp only [List.length_drop, List.length_take]; rfl)) ?_; (with_reducible refine (dict_Build.calls k _ _ y144 t147 t150 _ ?side1 ?side2 A1.out).mono ?_); (case side1 => repeat (first | exact (Kd.R_reads' HO146.out).2.2 | (with_reducible refine Kd.C_alloc ?_ _) | (with_reducible refine Kd.C_drewN ?_ _) | (with_reducible refine Kd.C_drew ?_))); (case side2 => exact (Kd.R_reads' HO146.out).2.1); rintro e w98 ⟨v148, v151, rfl, ho0, ho1, hb⟩; refine ⟨_, rfl, ?_⟩; have n0_ := Aside0.mk (Kd.R_below (mR HO146.out) hb); have n1_ := Aside0.mk (Kd.V_lower (Kd.V_mono (ok' := fun k_ => some k_ ≠ (v151 : Value).ownBlock ∧ some k_ ≠ (.slice Ao97 y144.length co97 : Value).ownBlock) ho0 (fun k_ hk_ => ⟨hk_.2, (Kd.fresh' (Kd.R_lt (mR HO146.out)) k_ hk_.1)⟩)) (below_size (mB HB.out))); have n2_ := Aside0.mk (Kd.R_lower (Kd.R_mono (ok' := fun k_ => True) ho1 (fun _ hk_ => trivial)) (below_size (mB HB.out))); have n3_ := Aside0.mk (below_step (mB HB.out) hb); clear HO146; clear HB; have HO146 := n0_; have HO149 := n1_; have HO152 := n2_; have HB := n3_; clear n0_ n1_ n2_ n3_; (try clear hb); (try clear hb2); (try clear hk); (try clear hi); (try clear ho0); (try clear ho1)) | ((with_reducible refine gate_dst (N := 11) rfl ?_); (try (refine gate_guard (by rfl) ?_; dsimp only)); refine Kd.R_lit Kd.string _ 9 ?hg (N := 11) ?hd (xs := ([(⟨#[97]⟩ : ByteArray), (⟨#[99]⟩ : ByteArray)] : List ByteArray)) (inner := [.string (⟨#[97]⟩ : ByteArray), .string (⟨#[99]⟩ : ByteArray)]) (ok := fun _ => True) (okp := fun _ => True) ?hr ?hp (fun _ hk => hk) trivial (Below.refl _ _) (Nat.le_refl _) (by simp) ?_; (case hd => rfl); (case hg => rfl); (case hr => first | (go_simp; done) | (go_simp; rfl)); (case hp => exact (Reps.one (show Kd.M Kd.string _ _ _ (⟨#[97]⟩ : ByteArray) [.string (⟨#[97]⟩ : ByteArray)] from rfl) (Reps.one (show Kd.M Kd.string _ _ _ (⟨#[99]⟩ : ByteArray) [.string (⟨#[99]⟩ : ByteArray)] from rfl) (Reps.none _ _)))); intro v154 w99 ho100 hb hg_ hnew_; clear hg_ hnew_; (first | rw [← Ny153.out] at ho100 | (simp only [Int.reduceToNat] at ho100; rw [← Ny153.out] at ho100)); have n0_ := Aside0.mk (Kd.R_elder' (mR HO146.out) (Kd.R_base ho100) hb); have n1_ := Aside0.mk (Kd.V_elder' (mV HO149.out) (Kd.R_base ho100) hb); have n2_ := Aside0.mk (Kd.R_below (mR HO152.out) hb); have n3_ := Aside0.mk (Kd.R_lower (Kd.R_new' ho100 (Kd.R_lt (mR HO146.out))) (below_size (mB HB.out))); have n4_ := Aside0.mk (below_step (mB HB.out) hb); clear HO146; clear HO149; clear HO152; clear HB; have HO146 := n0_; have HO149 := n1_; have HO152 := n2_; have HO155 := n3_; have HB := n4_; clear n0_ n1_ n2_ n3_ n4_; clear hb ho100) | ((with_reducible refine gate_dst (N := 12) rfl ?_); (try (refine gate_guard (by rfl) ?_; dsimp only)); refine Kd.R_lit Kd.string _ 9 ?hg (N := 12) ?hd (xs := ([(⟨#[98]⟩ : ByteArray), (⟨#[99]⟩ : ByteArray)] : List ByteArray)) (inner := [.string (⟨#[98]⟩ : ByteArray), .string (⟨#[99]⟩ : ByteArray)]) (ok := fun _ => True) (okp := fun _ => True) ?hr ?hp (fun _ hk => hk) trivial (Below.refl _ _) (Nat.le_refl _) (by simp) ?_; (case hd => rfl); (case hg => rfl); (case hr => first | (go_simp; done) | (go_simp; rfl)); (case hp => exact (Reps.one (show Kd.M Kd.string _ _ _ (⟨#[98]⟩ : ByteArray) [.string (⟨#[98]⟩ : ByteArray)] from rfl) (Reps.one (show Kd.M Kd.string _ _ _ (⟨#[99]⟩ : ByteArray) [.string (⟨#[99]⟩ : ByteArray)] from rfl) (Reps.none _ _)))); intro v157 w101 ho102 hb hg_ hnew_; clear hg_ hnew_; (first | rw [← Ny156.out] at ho102 | (simp only [Int.reduceToNat] at ho102; rw [← Ny156.out] at ho102)); have n0_ := Aside0.mk (Kd.R_elder' (mR HO146.out) (Kd.R_base ho102) hb); have n1_ := Aside0.mk (Kd.V_elder' (mV HO149.out) (Kd.R_base ho102) hb); have n2_ := Aside0.mk (Kd.R_below (mR HO152.out) hb); have n3_ := Aside0.mk (Kd.R_elder' (mR HO155.out) (Kd.R_base ho102) hb); have n4_ := Aside0.mk (Kd.R_lower (Kd.R_new' (Kd.R_new' ho102 (Kd.R_lt (mR HO146.out))) (Kd.R_lt (mR HO155.out))) (below_size (mB HB.out))); have n5_ := Aside0.mk (below_step (mB HB.out) hb); clear HO146; clear HO149; clear HO152; clear HO155; clear HB; have HO146 := n0_; have HO149 := n1_; have HO152 := n2_; have HO155 := n3_; have HO158 := n4_; have HB := n5_; clear n0_ n1_ n2_ n3_ n4_ n5_; clear hb ho102; obtain ⟨Ao103, co103, eo103⟩ := Kd.R_slice HO155.out; subst eo103; obtain ⟨Ao104, co104, eo104⟩ := Kd.R_slice HO158.out; subst eo104) | ((with_reducible refine gate_dst (N := 13) rfl ?_); (try (refine gate_guard (by rfl) ?_; dsimp only)); refine Kd.N_lit (Kd.slice 9 Kd.string) _ 22 ?hg (N' := 13) ?hd (xs := ([y153, y156] : List (List ByteArray))) (inner := [.slice Ao103 y153.length co103, .slice Ao104 y156.length co104]) (ok := (fun k_ => some k_ ≠ (.slice Ao97 y144.length co97 : Value).ownBlock ∧ some k_ ≠ (v151 : Value).ownBlock)) (okp := (fun k_ => some k_ ≠ (.slice Ao97 y144.length co97 : Value).ownBlock ∧ some k_ ≠ (v151 : Value).ownBlock)) ?hr ?hp (fun _ hk => hk) ((show ∀ k_, w101.heap.size ≤ k_ → (fun k_ => some k_ ≠ (.slice Ao97 y144.length co97 : Value).ownBlock ∧ some k_ ≠ (v151 : Value).ownBlock) k_ from fun k_ hk => ⟨Kd.fresh' (Kd.R_lt (mR HO146.out)) k_ hk, Kd.fresh' (Kd.R_lt (mR HO152.out)) k_ hk⟩) _ (Nat.le_refl _)) (Below.refl _ _) (Nat.le_refl _) (by simp) ?_; (case hd => rfl); (case hg => rfl); (case hr => first | (go_simp; done) | (go_simp; rfl)); (case hp => exact (Reps.one (show Kd.FK (Kd.slice 9 Kd.string) _ _ y153 [.slice Ao103 y153.length co103] from (Kd.FK_slice_mk (Kd.R_reads' (Kd.R_mono (ok' := (fun k_ => some k_ ≠ (.slice Ao97 y144.length co97 : Value).ownBlock ∧ some k_ ≠ (v151 : Value).ownBlock)) (Kd.R_apart' (HO155.out) (Kd.R_typed HO152.out) (by decide)) (fun k_ hk => ⟨hk.1.1.2, hk.2⟩))).2.1 (Kd.R_F (by (with_reducible repeat (first | apply Kd.R_alloc | apply Kd.R_drewN | apply Kd.R_drew)); exact (Kd.R_mono (ok' := (fun k_ => some k_ ≠ (.slice Ao97 y144.length co97 : Value).ownBlock ∧ some k_ ≠ (v151 : Value).ownBlock)) (Kd.R_apart' (HO155.out) (Kd.R_typed HO152.out) (by decide)) (fun k_ hk => ⟨hk.1.1.2, hk.2⟩)))))) (Reps.one (show Kd.FK (Kd.slice 9 Kd.string) _ _ y156 [.slice Ao104 y156.length co104] from (Kd.FK_slice_mk (Kd.R_reads' (Kd.R_mono (ok' := (fun k_ => some k_ ≠ (.slice Ao97 y144.length co97 : Value).ownBlock ∧ some k_ ≠ (v151 : Value).ownBlock)) (Kd.R_apart' (HO158.out) (Kd.R_typed HO152.out) (by decide)) (fun k_ hk => ⟨hk.1.1.2, hk.2⟩))).2.1 (Kd.R_F (by (with_reducible repeat (first | apply Kd.R_alloc | apply Kd.R_drewN | apply Kd.R_drew)); exact (Kd.R_mono (ok' := (fun k_ => some k_ ≠ (.slice Ao97 y144.length co97 : Value).ownBlock ∧ some k_ ≠ (v151 : Value).ownBlock)) (Kd.R_apart' (HO158.out) (Kd.R_typed HO152.out) (by decide)) (fun k_ hk => ⟨hk.1.1.2, hk.2⟩)))))) (Reps.none _ _)))); intro v160 w105 ho106 hb hg_ hnew_; clear hg_ hnew_; (first | rw [← Ny159.out] at ho106 | (simp only [Int.reduceToNat] at ho106; rw [← Ny159.out] at ho106)); have n0_ := Aside0.mk (Kd.R_below (mR HO146.out) hb); have n1_ := Aside0.mk (Kd.V_elder' (mV HO149.out) (Kd.N_base ho106) hb); have n2_ := Aside0.mk (Kd.R_below (mR HO152.out) hb); have n3_ := Aside0.mk (Kd.N_lower ho106 (below_size (mB HB.out))); have n4_ := Aside0.mk (below_step (mB HB.out) hb); clear HO146; clear HO149; clear HO152; clear HB; clear HO155; clear HO158; have HO146 := n0_; have HO149 := n1_; have HO152 := n2_; have HO161 := n3_; have HB := n4_; clear n0_ n1_ n2_ n3_ n4_; clear hb ho106; obtain ⟨Ao107, co107, eo107⟩ := Kd.N_slice HO161.out; subst eo107) | ((with_reducible refine gate_callee (f := 10) rfl ?_); refine goesL_ (some 14) rfl rfl Try.func10 (by kernel_rfl) rfl #[.slice Ao107 y159.length co107] rfl (by (try simp only [List.map_toArray, List.map_cons, List.map_nil]); first | done | rfl | (simp only [List.length_drop, List.length_take]; rfl)) ?_; (with_reducible refine (dict_Merge.calls k _ _ y159 t162 t165 _ ?side1 ?side2 A2.out).mono ?_); (case side1 => repeat (first | exact (Kd.N_reads' HO161.out).2.2 | (with_reducible refine Kd.C_alloc ?_ _) | (with_reducible refine Kd.C_drewN ?_ _) | (with_reducible refine Kd.C_drew ?_))); (case side2 => exact (Kd.N_reads' HO161.out).2.1); rintro e w108 ⟨v163, v166, rfl, ho0, ho1, hb⟩; refine ⟨_, rfl, ?_⟩; (try replace ho1 := Kd.S_N ho1); have n0_ := Aside0.mk (Kd.R_below (mR HO146.out) hb); have n1_ := Aside0.mk (Kd.V_elder' (mV HO149.out) (Kd.N_base ho1) hb); have n2_ := Aside0.mk (Kd.R_below (mR HO152.out) hb); have n6_ := Aside0.mk (below_step (mB HB.out) hb); clear HO146; clear HO149; clear HO152; clear HO161; clear HB; have HO146 := n0_; have HO149 := n1_; have HO152 := n2_; have HB := n6_; clear n0_ n1_ n2_ n6_; (try clear hb); (try clear hb2); (try clear hk); (try clear hi); (try clear ho0); (try clear ho1)) | ((with_reducible refine gate_dst (N := 18) rfl ?_); (try (refine gate_guard (by rfl) ?_; dsimp only)); refine Kd.R_lit Kd.string _ 9 ?hg (N := 18) ?hd (xs := ([(⟨#[97]⟩ : ByteArray), (⟨#[98]⟩ : ByteArray)] : List ByteArray)) (inner := [.string (⟨#[97]⟩ : ByteArray), .string (⟨#[98]⟩ : ByteArray)]) (ok := fun _ => True) (okp := fun _ => True) ?hr ?hp (fun _ hk => hk) trivial (Below.refl _ _) (Nat.le_refl _) (by simp) ?_; (case hd => rfl); (case hg => rfl); (case hr => first | (go_simp; done) | (go_simp; rfl)); (case hp => exact (Reps.one (show Kd.M Kd.string _ _ _ (⟨#[97]⟩ : ByteArray) [.string (⟨#[97]⟩ : ByteArray)] from rfl) (Reps.one (show Kd.M Kd.string _ _ _ (⟨#[98]⟩ : ByteArray) [.string (⟨#[98]⟩ : ByteArray)] from rfl) (Reps.none _ _)))); intro v169 w109 ho110 hb hg_ hnew_; clear hg_ hnew_; (first | rw [← Ny168.out] at ho110 | (simp only [Int.reduceToNat] at ho110; rw [← Ny168.out] at ho110)); have n1_ := Aside0.mk (Kd.V_elder' (mV HO149.out) (Kd.R_base ho110) hb); have n2_ := Aside0.mk (Kd.R_below (mR HO152.out) hb); have n6_ := Aside0.mk (Kd.R_lower (Kd.R_new' ho110 (Kd.R_lt (mR HO146.out))) (below_size (mB HB.out))); have n7_ := Aside0.mk (below_step (mB HB.out) hb); clear HO146; clear HO149; clear HO152; clear HB; have HO149 := n1_; have HO152 := n2_; have HO170 := n6_; have HB := n7_; clear n1_ n2_ n6_ n7_; clear hb ho110; obtain ⟨Ao111, co111, eo111⟩ := Kd.V_slice HO149.out; subst eo111; obtain ⟨Ao112, co112, eo112⟩ := Kd.R_slice HO170.out; subst eo112) | ((with_reducible refine gate_callee (f := 11) rfl ?_); refine goesL_ (some 19) rfl rfl Try.func11 (by kernel_rfl) rfl #[.slice Ao111 t147.length co111, .slice Ao112 y168.length co112] rfl (by (try simp only [List.map_toArray, List.map_cons, List.map_nil]); first | done | rfl | (simp only [List.length_drop, List.length_take]; rfl)) ?_; (with_reducible refine (columbariumkeep_Texts.calls k _ _ t147 _ _ y168 true _ ?side1 ?side2 ?side3 ?side4 A3.out).mono ?_); (case side1 => repeat (first | exact (Kd.V_reads' HO149.out).2.2 | (with_reducible refine Kd.C_alloc ?_ _) | (with_reducible refine Kd.C_drewN ?_ _) | (with_reducible refine Kd.C_drew ?_))); (case side2 => exact (Kd.V_reads' HO149.out).2.1); (case side3 => repeat (first | exact (Kd.R_reads' HO170.out).2.2 | (with_reducible refine Kd.C_alloc ?_ _) | (with_reducible refine Kd.C_drewN ?_ _) | (with_reducible refine Kd.C_drew ?_))); (case side4 => exact (Kd.R_reads' HO170.out).2.1); rintro e w' ⟨rfl, ⟨nd, rfl⟩⟩; refine ⟨_, rfl, ?_⟩) | ((with_reducible refine gate_dst (N := 22) rfl ?_); (try (refine gate_guard (by rfl) ?_; dsimp only)); refine Kd.R_lit (Kd.int .i64) _ 3 ?hg (N := 22) ?hd (xs := ([1, 0, 1] : List Int)) (inner := [.int .i64 1, .int .i64 0, .int .i64 1]) (ok := fun _ => True) (okp := fun _ => True) ?hr ?hp (fun _ hk => hk) trivial (Below.refl _ _) (Nat.le_refl _) (by simp) ?_; (case hd => rfl); (case hg => rfl); (case hr => first | (go_simp; done) | (go_simp; rfl)); (case hp => exact (Reps.one (show Kd.M (Kd.int .i64) _ _ _ 1 [.int .i64 1] from rfl) (Reps.one (show Kd.M (Kd.int .i64) _ _ _ 0 [.int .i64 0] from rfl) (Reps.one (show Kd.M (Kd.int .i64) _ _ _ 1 [.int .i64 1] from rfl) (Reps.none _ _))))); intro v173 w113 ho114 hb hg_ hnew_; clear hg_ hnew_; (first | rw [← Ny172.out] at ho114 | (simp only [Int.reduceToNat] at ho114; rw [← Ny172.out] at ho114)); have n2_ := Aside0.mk (Kd.R_elder' (mR HO152.out) (Kd.R_base ho114) hb); have n7_ := Aside0.mk (Kd.R_lower (Kd.R_new' ho114 (Kd.R_lt (mR HO152.out))) (below_size (mB HB.out))); have n8_ := Aside0.mk (below_step (mB HB.out) hb); clear HO152; clear HB; have HO152 := n2_; have HO174 := n7_; have HB := n8_; clear n2_ n7_ n8_; clear hb ho114; obtain ⟨Ao115, co115, eo115⟩ := Kd.R_slice HO152.out; subst eo115; obtain ⟨Ao116, co116, eo116⟩ := Kd.R_slice HO174.out; subst eo116) | (go_at_call 24; (with_reducible refine (columbariumbook_Same_int.calls k _ _ t150 _ _ y172 false _ ?side1 ?side2 ?side3 ?side4 A5.out).mono ?_); (case side1 => repeat (first | exact (Kd.R_reads' HO152.out).2.2 | (with_reducible refine Kd.C_alloc ?_ _) | (with_reducible refine Kd.C_drewN ?_ _) | (with_reducible refine Kd.C_drew ?_))); (case side2 => exact (Kd.R_reads' HO152.out).2.1); (case side3 => repeat (first | exact (Kd.R_reads' HO174.out).2.2 | (with_reducible refine Kd.C_alloc ?_ _) | (with_reducible refine Kd.C_drewN ?_ _) | (with_reducible refine Kd.C_drew ?_))); (case side4 => exact (Kd.R_reads' HO174.out).2.1); rintro e w' ⟨rfl, ⟨nd, rfl⟩⟩))
   go_ret
   exact ⟨by first | rfl | (simp [errW_none, errW_some] <;> rfl) | (simp [*, errW_none, errW_some] <;> rfl), mB HB.out⟩
 ·replace c4 := Bool.eq_false_iff.mpr c4
  subst c4
  have H1 : (some false) = some r := by rw [if_neg (show ¬ (false = true) by decide)] at H; exact H
  clear H
  have H := H1
  clear H1
  obtain rfl := Option.some.inj H
  go_enter Try.func12, Try.ntmps12
  go_wp2_with (first | ((with_reducible refine gate_dst (N := 6) rfl ?_); (try (refine gate_guard (by rfl) ?_; dsimp only)); refine Kd.R_lit Kd.string _ 9 ?hg (N := 6) ?hd (xs := ([(⟨#[98]⟩ : ByteArray), (⟨#[97]⟩ : ByteArray), (⟨#[98]⟩ : ByteArray)] : List ByteArray)) (inner := [.string (⟨#[98]⟩ : ByteArray), .string (⟨#[97]⟩ : ByteArray), .string (⟨#[98]⟩ : ByteArray)]) (ok := fun _ => True) (okp := fun _ => True) ?hr ?hp (fun _ hk => hk) trivial (Below.refl _ _) (Nat.le_refl _) (by simp) ?_; (case hd => rfl); (case hg => rfl); (case hr => first | (go_simp; done) | (go_simp; rfl)); (case hp => exact (Reps.one (show Kd.M Kd.string _ _ _ (⟨#[98]⟩ : ByteArray) [.string (⟨#[98]⟩ : ByteArray)] from rfl) (Reps.one (show Kd.M Kd.string _ _ _ (⟨#[97]⟩ : ByteArray) [.string (⟨#[97]⟩ : ByteArray)] from rfl) (Reps.one (show Kd.M Kd.string _ _ _ (⟨#[98]⟩ : ByteArray) [.string (⟨#[98]⟩ : ByteArray)] from rfl) (Reps.none _ _))))); intro v145 w117 ho118 hb hg_ hnew_; clear hg_ hnew_; (first | rw [← Ny144.out] at ho118 | (simp only [Int.reduceToNat] at ho118; rw [← Ny144.out] at ho118)); have n0_ := Aside0.mk (Kd.R_lower ho118 (below_size (mB HB.out))); have n1_ := Aside0.mk (below_step (mB HB.out) hb); clear HB; have HO146 := n0_; have HB := n1_; clear n0_ n1_; clear hb ho118; obtain ⟨Ao119, co119, eo119⟩ := Kd.R_slice HO146.out; subst eo119) | ((with_reducible refine gate_callee (f := 8) rfl ?_); refine goesL_ (some 7) rfl rfl Try.func8 (by kernel_rfl) rfl #[.slice Ao119 y144.length co119] rfl (by (try simp only [List.map_toArray, List.map_cons, List.map_nil]); first | done | rfl | (simp only [List.length_drop, List.length_take]; rfl)) ?_; (with_reducible refine (dict_Build.calls k _ _ y144 t147 t150 _ ?side1 ?side2 A1.out).mono ?_); (case side1 => repeat (first | exact (Kd.R_reads' HO146.out).2.2 | (with_reducible refine Kd.C_alloc ?_ _) | (with_reducible refine Kd.C_drewN ?_ _) | (with_reducible refine Kd.C_drew ?_))); (case side2 => exact (Kd.R_reads' HO146.out).2.1); rintro e w120 ⟨v148, v151, rfl, ho0, ho1, hb⟩; refine ⟨_, rfl, ?_⟩; have n0_ := Aside0.mk (Kd.R_below (mR HO146.out) hb); have n1_ := Aside0.mk (Kd.V_lower (Kd.V_mono (ok' := fun k_ => some k_ ≠ (v151 : Value).ownBlock ∧ some k_ ≠ (.slice Ao119 y144.length co119 : Value).ownBlock) ho0 (fun k_ hk_ => ⟨hk_.2, (Kd.fresh' (Kd.R_lt (mR HO146.out)) k_ hk_.1)⟩)) (below_size (mB HB.out))); have n2_ := Aside0.mk (Kd.R_lower (Kd.R_mono (ok' := fun k_ => True) ho1 (fun _ hk_ => trivial)) (below_size (mB HB.out))); have n3_ := Aside0.mk (below_step (mB HB.out) hb); clear HO146; clear HB; have HO146 := n0_; have HO149 := n1_; have HO152 := n2_; have HB := n3_; clear n0_ n1_ n2_ n3_; (try clear hb); (try clear hb2); (try clear hk); (try clear hi); (try clear ho0); (try clear ho1)) | ((with_reducible refine gate_dst (N := 11) rfl ?_); (try (refine gate_guard (by rfl) ?_; dsimp only)); refine Kd.R_lit Kd.string _ 9 ?hg (N := 11) ?hd (xs := ([(⟨#[97]⟩ : ByteArray), (⟨#[99]⟩ : ByteArray)] : List ByteArray)) (inner := [.string (⟨#[97]⟩ : ByteArray), .string (⟨#[99]⟩ : ByteArray)]) (ok := fun _ => True) (okp := fun _ => True) ?hr ?hp (fun _ hk => hk) trivial (Below.refl _ _) (Nat.le_refl _) (by simp) ?_; (case hd => rfl); (case hg => rfl); (case hr => first | (go_simp; done) | (go_simp; rfl)); (case hp => exact (Reps.one (show Kd.M Kd.string _ _ _ (⟨#[97]⟩ : ByteArray) [.string (⟨#[97]⟩ : ByteArray)] from rfl) (Reps.one (show Kd.M Kd.string _ _ _ (⟨#[99]⟩ : ByteArray) [.string (⟨#[99]⟩ : ByteArray)] from rfl) (Reps.none _ _)))); intro v154 w121 ho122 hb hg_ hnew_; clear hg_ hnew_; (first | rw [← Ny153.out] at ho122 | (simp only [Int.reduceToNat] at ho122; rw [← Ny153.out] at ho122)); have n0_ := Aside0.mk (Kd.R_elder' (mR HO146.out) (Kd.R_base ho122) hb); have n1_ := Aside0.mk (Kd.V_elder' (mV HO149.out) (Kd.R_base ho122) hb); have n2_ := Aside0.mk (Kd.R_below (mR HO152.out) hb); have n3_ := Aside0.mk (Kd.R_lower (Kd.R_new' ho122 (Kd.R_lt (mR HO146.out))) (below_size (mB HB.out))); have n4_ := Aside0.mk (below_step (mB HB.out) hb); clear HO146; clear HO149; clear HO152; clear HB; have HO146 := n0_; have HO149 := n1_; have HO152 := n2_; have HO155 := n3_; have HB := n4_; clear n0_ n1_ n2_ n3_ n4_; clear hb ho122) | ((with_reducible refine gate_dst (N := 12) rfl ?_); (try (refine gate_guard (by rfl) ?_; dsimp only)); refine Kd.R_lit Kd.string _ 9 ?hg (N := 12) ?hd (xs := ([(⟨#[98]⟩ : ByteArray), (⟨#[99]⟩ : ByteArray)] : List ByteArray)) (inner := [.string (⟨#[98]⟩ : ByteArray), .string (⟨#[99]⟩ : ByteArray)]) (ok := fun _ => True) (okp := fun _ => True) ?hr ?hp (fun _ hk => hk) trivial (Below.refl _ _) (Nat.le_refl _) (by simp) ?_; (case hd => rfl); (case hg => rfl); (case hr => first | (go_simp; done) | (go_simp; rfl)); (case hp => exact (Reps.one (show Kd.M Kd.string _ _ _ (⟨#[98]⟩ : ByteArray) [.string (⟨#[98]⟩ : ByteArray)] from rfl) (Reps.one (show Kd.M Kd.string _ _ _ (⟨#[99]⟩ : ByteArray) [.string (⟨#[99]⟩ : ByteArray)] from rfl) (Reps.none _ _)))); intro v157 w123 ho124 hb hg_ hnew_; clear hg_ hnew_; (first | rw [← Ny156.out] at ho124 | (simp only [Int.reduceToNat] at ho124; rw [← Ny156.out] at ho124)); have n0_ := Aside0.mk (Kd.R_elder' (mR HO146.out) (Kd.R_base ho124) hb); have n1_ := Aside0.mk (Kd.V_elder' (mV HO149.out) (Kd.R_base ho124) hb); have n2_ := Aside0.mk (Kd.R_below (mR HO152.out) hb); have n3_ := Aside0.mk (Kd.R_elder' (mR HO155.out) (Kd.R_base ho124) hb); have n4_ := Aside0.mk (Kd.R_lower (Kd.R_new' (Kd.R_new' ho124 (Kd.R_lt (mR HO146.out))) (Kd.R_lt (mR HO155.out))) (below_size (mB HB.out))); have n5_ := Aside0.mk (below_step (mB HB.out) hb); clear HO146; clear HO149; clear HO152; clear HO155; clear HB; have HO146 := n0_; have HO149 := n1_; have HO152 := n2_; have HO155 := n3_; have HO158 := n4_; have HB := n5_; clear n0_ n1_ n2_ n3_ n4_ n5_; clear hb ho124; obtain ⟨Ao125, co125, eo125⟩ := Kd.R_slice HO155.out; subst eo125; obtain ⟨Ao126, co126, eo126⟩ := Kd.R_slice HO158.out; subst eo126) | ((with_reducible refine gate_dst (N := 13) rfl ?_); (try (refine gate_guard (by rfl) ?_; dsimp only)); refine Kd.N_lit (Kd.slice 9 Kd.string) _ 22 ?hg (N' := 13) ?hd (xs := ([y153, y156] : List (List ByteArray))) (inner := [.slice Ao125 y153.length co125, .slice Ao126 y156.length co126]) (ok := (fun k_ => some k_ ≠ (.slice Ao119 y144.length co119 : Value).ownBlock ∧ some k_ ≠ (v151 : Value).ownBlock)) (okp := (fun k_ => some k_ ≠ (.slice Ao119 y144.length co119 : Value).ownBlock ∧ some k_ ≠ (v151 : Value).ownBlock)) ?hr ?hp (fun _ hk => hk) ((show ∀ k_, w123.heap.size ≤ k_ → (fun k_ => some k_ ≠ (.slice Ao119 y144.length co119 : Value).ownBlock ∧ some k_ ≠ (v151 : Value).ownBlock) k_ from fun k_ hk => ⟨Kd.fresh' (Kd.R_lt (mR HO146.out)) k_ hk, Kd.fresh' (Kd.R_lt (mR HO152.out)) k_ hk⟩) _ (Nat.le_refl _)) (Below.refl _ _) (Nat.le_refl _) (by simp) ?_; (case hd => rfl); (case hg => rfl); (case hr => first | (go_simp; done) | (go_simp; rfl)); (case hp => exact (Reps.one (show Kd.FK (Kd.slice 9 Kd.string) _ _ y153 [.slice Ao125 y153.length co125] from (Kd.FK_slice_mk (Kd.R_reads' (Kd.R_mono (ok' := (fun k_ => some k_ ≠ (.slice Ao119 y144.length co119 : Value).ownBlock ∧ some k_ ≠ (v151 : Value).ownBlock)) (Kd.R_apart' (HO155.out) (Kd.R_typed HO152.out) (by decide)) (fun k_ hk => ⟨hk.1.1.2, hk.2⟩))).2.1 (Kd.R_F (by (with_reducible repeat (first | apply Kd.R_alloc | apply Kd.R_drewN | apply Kd.R_drew)); exact (Kd.R_mono (ok' := (fun k_ => some k_ ≠ (.slice Ao119 y144.length co119 : Value).ownBlock ∧ some k_ ≠ (v151 : Value).ownBlock)) (Kd.R_apart' (HO155.out) (Kd.R_typed HO152.out) (by decide)) (fun k_ hk => ⟨hk.1.1.2, hk.2⟩)))))) (Reps.one (show Kd.FK (Kd.slice 9 Kd.string) _ _ y156 [.slice Ao126 y156.length co126] from (Kd.FK_slice_mk (Kd.R_reads' (Kd.R_mono (ok' := (fun k_ => some k_ ≠ (.slice Ao119 y144.length co119 : Value).ownBlock ∧ some k_ ≠ (v151 : Value).ownBlock)) (Kd.R_apart' (HO158.out) (Kd.R_typed HO152.out) (by decide)) (fun k_ hk => ⟨hk.1.1.2, hk.2⟩))).2.1 (Kd.R_F (by (with_reducible repeat (first | apply Kd.R_alloc | apply Kd.R_drewN | apply Kd.R_drew)); exact (Kd.R_mono (ok' := (fun k_ => some k_ ≠ (.slice Ao119 y144.length co119 : Value).ownBlock ∧ some k_ ≠ (v151 : Value).ownBlock)) (Kd.R_apart' (HO158.out) (Kd.R_typed HO152.out) (by decide)) (fun k_ hk => ⟨hk.1.1.2, hk.2⟩)))))) (Reps.none _ _)))); intro v160 w127 ho128 hb hg_ hnew_; clear hg_ hnew_; (first | rw [← Ny159.out] at ho128 | (simp only [Int.reduceToNat] at ho128; rw [← Ny159.out] at ho128)); have n0_ := Aside0.mk (Kd.R_below (mR HO146.out) hb); have n1_ := Aside0.mk (Kd.V_elder' (mV HO149.out) (Kd.N_base ho128) hb); have n2_ := Aside0.mk (Kd.R_below (mR HO152.out) hb); have n3_ := Aside0.mk (Kd.N_lower ho128 (below_size (mB HB.out))); have n4_ := Aside0.mk (below_step (mB HB.out) hb); clear HO146; clear HO149; clear HO152; clear HB; clear HO155; clear HO158; have HO146 := n0_; have HO149 := n1_; have HO152 := n2_; have HO161 := n3_; have HB := n4_; clear n0_ n1_ n2_ n3_ n4_; clear hb ho128; obtain ⟨Ao129, co129, eo129⟩ := Kd.N_slice HO161.out; subst eo129) | ((with_reducible refine gate_callee (f := 10) rfl ?_); refine goesL_ (some 14) rfl rfl Try.func10 (by kernel_rfl) rfl #[.slice Ao129 y159.length co129] rfl (by (try simp only [List.map_toArray, List.map_cons, List.map_nil]); first | done | rfl | (simp only [List.length_drop, List.length_take]; rfl)) ?_; (with_reducible refine (dict_Merge.calls k _ _ y159 t162 t165 _ ?side1 ?side2 A2.out).mono ?_); (case side1 => repeat (first | exact (Kd.N_reads' HO161.out).2.2 | (with_reducible refine Kd.C_alloc ?_ _) | (with_reducible refine Kd.C_drewN ?_ _) | (with_reducible refine Kd.C_drew ?_))); (case side2 => exact (Kd.N_reads' HO161.out).2.1); rintro e w130 ⟨v163, v166, rfl, ho0, ho1, hb⟩; refine ⟨_, rfl, ?_⟩; (try replace ho1 := Kd.S_N ho1); have n0_ := Aside0.mk (Kd.R_below (mR HO146.out) hb); have n1_ := Aside0.mk (Kd.V_elder' (mV HO149.out) (Kd.N_base ho1) hb); have n2_ := Aside0.mk (Kd.R_below (mR HO152.out) hb); have n3_ := Aside0.mk (Kd.N_elder' (mN HO161.out) (Kd.N_base ho1) hb); have n4_ := Aside0.mk (Kd.V_lower (Kd.V_mono (ok' := fun k_ => some k_ ≠ (v166 : Value).ownBlock ∧ some k_ ≠ (.slice Ao119 y144.length co119 : Value).ownBlock ∧ some k_ ≠ (v151 : Value).ownBlock ∧ some k_ ≠ (.slice Ao129 y159.length co129 : Value).ownBlock) ho0 (fun k_ hk_ => ⟨hk_.2, (Kd.fresh' (Kd.R_lt (mR HO146.out)) k_ hk_.1), (Kd.fresh' (Kd.R_lt (mR HO152.out)) k_ hk_.1), (Kd.fresh' (Kd.N_lt (mN HO161.out)) k_ hk_.1)⟩)) (below_size (mB HB.out))); have n5_ := Aside0.mk (Kd.N_lower (Kd.N_mono (ok' := fun k_ => some k_ ≠ (.slice Ao119 y144.length co119 : Value).ownBlock ∧ some k_ ≠ (v151 : Value).ownBlock ∧ some k_ ≠ (.slice Ao129 y159.length co129 : Value).ownBlock) ho1 (fun k_ hk_ => ⟨(Kd.fresh' (Kd.R_lt (mR HO146.out)) k_ hk_), (Kd.fresh' (Kd.R_lt (mR HO152.out)) k_ hk_), (Kd.fresh' (Kd.N_lt (mN HO161.out)) k_ hk_)⟩)) (below_size (mB HB.out))); have n6_ := Aside0.mk (below_step (mB HB.out) hb); clear HO146; clear HO149; clear HO152; clear HO161; clear HB; have HO146 := n0_; have HO149 := n1_; have HO152 := n2_; have HO161 := n3_; have HO164 := n4_; have HO167 := n5_; have HB := n6_; clear n0_ n1_ n2_ n3_ n4_ n5_ n6_; (try clear hb); (try clear hb2); (try clear hk); (try clear hi); (try clear ho0); (try clear ho1)) | ((with_reducible refine gate_dst (N := 18) rfl ?_); (try (refine gate_guard (by rfl) ?_; dsimp only)); refine Kd.R_lit Kd.string _ 9 ?hg (N := 18) ?hd (xs := ([(⟨#[97]⟩ : ByteArray), (⟨#[98]⟩ : ByteArray)] : List ByteArray)) (inner := [.string (⟨#[97]⟩ : ByteArray), .string (⟨#[98]⟩ : ByteArray)]) (ok := fun _ => True) (okp := fun _ => True) ?hr ?hp (fun _ hk => hk) trivial (Below.refl _ _) (Nat.le_refl _) (by simp) ?_; (case hd => rfl); (case hg => rfl); (case hr => first | (go_simp; done) | (go_simp; rfl)); (case hp => exact (Reps.one (show Kd.M Kd.string _ _ _ (⟨#[97]⟩ : ByteArray) [.string (⟨#[97]⟩ : ByteArray)] from rfl) (Reps.one (show Kd.M Kd.string _ _ _ (⟨#[98]⟩ : ByteArray) [.string (⟨#[98]⟩ : ByteArray)] from rfl) (Reps.none _ _)))); intro v169 w131 ho132 hb hg_ hnew_; clear hg_ hnew_; (first | rw [← Ny168.out] at ho132 | (simp only [Int.reduceToNat] at ho132; rw [← Ny168.out] at ho132)); have n0_ := Aside0.mk (Kd.R_elder' (mR HO146.out) (Kd.R_base ho132) hb); have n1_ := Aside0.mk (Kd.V_elder' (mV HO149.out) (Kd.R_base ho132) hb); have n2_ := Aside0.mk (Kd.R_below (mR HO152.out) hb); have n3_ := Aside0.mk (Kd.N_elder' (mN HO161.out) (Kd.R_base ho132) hb); have n4_ := Aside0.mk (Kd.V_elder' (mV HO164.out) (Kd.R_base ho132) hb); have n5_ := Aside0.mk (Kd.N_elder' (mN HO167.out) (Kd.R_base ho132) hb); have n6_ := Aside0.mk (Kd.R_lower (Kd.R_new' ho132 (Kd.R_lt (mR HO146.out))) (below_size (mB HB.out))); have n7_ := Aside0.mk (below_step (mB HB.out) hb); clear HO146; clear HO149; clear HO152; clear HO161; clear HO164; clear HO167; clear HB; have HO146 := n0_; have HO149 := n1_; have HO152 := n2_; have HO161 := n3_; have HO164 := n4_; have HO167 := n5_; have HO170 := n6_; have HB := n7_; clear n0_ n1_ n2_ n3_ n4_ n5_ n6_ n7_; clear hb ho132; obtain ⟨Ao133, co133, eo133⟩ := Kd.V_slice HO149.out; subst eo133; obtain ⟨Ao134, co134, eo134⟩ := Kd.R_slice HO170.out; subst eo134) | ((with_reducible refine gate_callee (f := 11) rfl ?_); refine goesL_ (some 19) rfl rfl Try.func11 (by kernel_rfl) rfl #[.slice Ao133 t147.length co133, .slice Ao134 y168.length co134] rfl (by (try simp only [List.map_toArray, List.map_cons, List.map_nil]); first | done | rfl | (simp only [List.length_drop, List.length_take]; rfl)) ?_; (with_reducible refine (columbariumkeep_Texts.calls k _ _ t147 _ _ y168 false _ ?side1 ?side2 ?side3 ?side4 A3.out).mono ?_); (case side1 => repeat (first | exact (Kd.V_reads' HO149.out).2.2 | (with_reducible refine Kd.C_alloc ?_ _) | (with_reducible refine Kd.C_drewN ?_ _) | (with_reducible refine Kd.C_drew ?_))); (case side2 => exact (Kd.V_reads' HO149.out).2.1); (case side3 => repeat (first | exact (Kd.R_reads' HO170.out).2.2 | (with_reducible refine Kd.C_alloc ?_ _) | (with_reducible refine Kd.C_drewN ?_ _) | (with_reducible refine Kd.C_drew ?_))); (case side4 => exact (Kd.R_reads' HO170.out).2.1); rintro e w' ⟨rfl, ⟨nd, rfl⟩⟩; refine ⟨_, rfl, ?_⟩))
  go_ret
  exact ⟨by first | rfl | (simp [errW_none, errW_some] <;> rfl) | (simp [*, errW_none, errW_some] <;> rfl), mB HB.out⟩

/-! ### stringslite_HasPrefix: function 55 -/
def stringslite_HasPrefix.f (a0 : ByteArray) (a1 : ByteArray) : Option (Bool) := if (a0.size : Int) ≥ (a1.size : Int) then (if 0 ≤ (a1.size : Int) then (if (a1.size : Int) ≤ (a0.size : Int) then (some ((a0.extract 0 ((a1.size : Int) : Int).toNat).toList == a1.toList)) else (none)) else (none)) else (some false)
set_option maxHeartbeats 8000000 in
set_option maxRecDepth 100000 in
theorem stringslite_HasPrefix.calls (a0 : ByteArray) (a1 : ByteArray) (r : Bool) (w : World) (h : stringslite_HasPrefix.f a0 a1 = some r) :
  Calls Try.prog 55 #[.string a0, .string a1] w fun e w' => e = .returned (.bool r) ∧ Drawn0 w w' := by
 have H : (if (a0.size : Int) ≥ (a1.size : Int) then (if 0 ≤ (a1.size : Int) then (if (a1.size : Int) ≤ (a0.size : Int) then (some ((a0.extract 0 ((a1.size : Int) : Int).toNat).toList == a1.toList)) else (none)) else (none)) else (some false)) = some r := h
 clear h
 by_cases c3 : (a0.size : Int) ≥ (a1.size : Int)
 ·rw [if_pos c3] at H
  have c3b0 : decide ((a1.size : Int) ≤ (a0.size : Int)) = true := decide_eq_true c3
  have c3b1 : decide (a1.size ≤ a0.size) = true := decide_eq_true (Int.ofNat_le.mp c3)
  clear c3
  by_cases c4 : 0 ≤ (a1.size : Int)
  ·rw [if_pos c4] at H
   have c4b0 := eq_true c4
   have c4b1 : decide (0 ≤ (a1.size : Int)) = true := decide_eq_true c4
   clear c4
   by_cases c5 : (a1.size : Int) ≤ (a0.size : Int)
   ·rw [if_pos c5] at H
    have c5b0 := eq_true c5
    have c5b1 : decide ((a1.size : Int) ≤ (a0.size : Int)) = true := decide_eq_true c5
    clear c5
    obtain rfl := Option.some.inj H
    go_enter Try.func55, Try.ntmps55
    go_wp2
    go_ret
    exact ⟨by first | rfl | (simp; done) | (simp [*]; done), by repeat (first | exact Drawn0.refl _ | apply Drawn0.step)⟩
   ·rw [if_neg c5] at H
    exact absurd H (by simp)
  ·rw [if_neg c4] at H
   exact absurd H (by simp)
 ·rw [if_neg c3] at H
  have c3b0 : decide ((a1.size : Int) ≤ (a0.size : Int)) = false := decide_eq_false c3
  have c3b1 : decide (a1.size ≤ a0.size) = false := decide_eq_false (fun h => c3 (Int.ofNat_le.mpr h))
  clear c3
  obtain rfl := Option.some.inj H
  go_enter Try.func55, Try.ntmps55
  go_wp2
  go_ret
  exact ⟨by first | rfl | (simp; done) | (simp [*]; done), by repeat (first | exact Drawn0.refl _ | apply Drawn0.step)⟩

/-! ### strings_HasPrefix: function 35 -/
def strings_HasPrefix.f (a0 : ByteArray) (a1 : ByteArray) : Option (Bool) := (stringslite_HasPrefix.f a0 a1).bind fun t185 => (some t185)
set_option maxHeartbeats 8000000 in
set_option maxRecDepth 100000 in
theorem strings_HasPrefix.calls (a0 : ByteArray) (a1 : ByteArray) (r : Bool) (w : World) (h : strings_HasPrefix.f a0 a1 = some r) :
  Calls Try.prog 35 #[.string a0, .string a1] w fun e w' => e = .returned (.bool r) ∧ Drawn0 w w' := by
 have H : ((stringslite_HasPrefix.f a0 a1).bind fun t185 => (some t185)) = some r := h
 clear h
 replace H := Option.bind_eq_some_iff.mp H
 obtain ⟨t185, A30, H⟩ := H
 replace H : (some t185) = some r := H
 have A3 := Aside0.mk A30
 clear A30
 obtain rfl := Option.some.inj H
 go_enter Try.func35, Try.ntmps35
 go_wp2_with (first | ((with_reducible refine gate_callee (f := 55) rfl ?_); refine goesL_ (some 7) rfl rfl Try.func55 (by kernel_rfl) rfl #[.string a0, .string a1] rfl (by (try simp only [List.map_toArray, List.map_cons, List.map_nil]); first | done | rfl | (simp only [List.length_drop, List.length_take]; rfl)) ?_; (with_reducible refine (stringslite_HasPrefix.calls a0 a1 t185 _ A3.out).mono ?_); rintro e w' ⟨rfl, ⟨nd, rfl⟩⟩; refine ⟨_, rfl, ?_⟩))
 go_ret
 exact ⟨by first | rfl | (simp; done) | (simp [*]; done), by repeat (first | exact Drawn0.refl _ | apply Drawn0.step)⟩

/-! ### dict_From: function 13 -/
def dict_From.l0 : Nat → List ByteArray → ByteArray → Int → Int → Option (Int × Int)
 | 0, _, _, _, _ => none
 | k + 1, x0, x1, x6, x8 => if x8 < (x0.length : Int) then (if 0 ≤ x8 then ((strings_HasPrefix.f (rdOf ByteArray.empty x0 x8) x1).bind fun t189 => (if t189 = true then (dict_From.l0 k x0 x1 x6 (wrap64 (x8 + 1))) else (some (x6, x8)))) else (none)) else (some (x6, x8))
def dict_From.f (k : Nat) (l0 : List ByteArray) (a1 : ByteArray) : Option (Int × Int) := (slices_BinarySearch_string_string.f k l0 a1).bind fun bt186 => (dict_From.l0 k l0 a1 bt186.1 bt186.1)
theorem dict_From.mono_l : ∀ k, (∀ y0 y1 y2 y3, LeO (dict_From.l0 k y0 y1 y2 y3) (dict_From.l0 (k + 1) y0 y1 y2 y3))
 | 0 => fun _ _ _ _ r h => by simp [dict_From.l0] at h
 | k + 1 => by
  have ih0 := dict_From.mono_l k
  ·intro y0 y1 y2 y3
   unfold dict_From.l0
   repeat' first
   | (with_reducible exact ih0 _ _ _ _)
   | (with_reducible exact slices_BinarySearch_string_string.mono _ _ _)
   | (with_reducible exact LeO.refl _)
   | (with_reducible exact LeO.none _)
   | (with_reducible refine LeO.ite ?_ ?_)
   | (with_reducible refine LeO.bind ?_ (fun _ => ?_))
   | exact ih0 _ _ _ _
   | exact slices_BinarySearch_string_string.mono _ _ _
   | exact LeO.none _
   | refine LeO.ite ?_ ?_
   | refine LeO.bind ?_ (fun _ => ?_)
theorem dict_From.mono : ∀ a0 a1 k, LeO (dict_From.f k a0 a1) (dict_From.f (k + 1) a0 a1) := by
 intro a0 a1 k
 have ih0 := dict_From.mono_l k
 unfold dict_From.f
 repeat' first
   | (with_reducible exact ih0 _ _ _ _)
   | (with_reducible exact slices_BinarySearch_string_string.mono _ _ _)
   | (with_reducible exact LeO.refl _)
   | (with_reducible exact LeO.none _)
   | (with_reducible refine LeO.ite ?_ ?_)
   | (with_reducible refine LeO.bind ?_ (fun _ => ?_))
   | exact ih0 _ _ _ _
   | exact slices_BinarySearch_string_string.mono _ _ _
   | exact LeO.none _
   | refine LeO.ite ?_ ?_
   | refine LeO.bind ?_ (fun _ => ?_)
set_option maxHeartbeats 8000000 in
set_option maxRecDepth 100000 in
theorem dict_From.calls (k : Nat) (A0 : Option Addr) (c0 : Nat) (l0 : List ByteArray) (a1 : ByteArray) (r1 : Int) (r2 : Int) (w : World) (hr0 : Kd.C Kd.string w A0 l0.length l0) (hc0 : l0.length ≤ c0) (h : dict_From.f k l0 a1 = some (r1, r2)) :
  Calls Try.prog 13 #[.slice A0 l0.length c0, .string a1] w fun e w' => e = .returned (.tuple #[.int .i64 r1, .int .i64 r2]) ∧ Drawn0 w w' := by
 have HR0 := Aside0.mk hr0
 have HC0 := Aside0.mk hc0
 clear hr0 hc0
 have H : ((slices_BinarySearch_string_string.f k l0 a1).bind fun bt186 => (dict_From.l0 k l0 a1 bt186.1 bt186.1)) = some (r1, r2) := h
 clear h
 replace H := Option.bind_eq_some_iff.mp H
 obtain ⟨⟨t186, t187⟩, A30, H⟩ := H
 replace H : (dict_From.l0 k l0 a1 t186 t186) = some (r1, r2) := H
 have A3 := Aside0.mk A30
 clear A30
 have H' := Aside0.mk H
 clear H
 go_enter Try.func13, Try.ntmps13
 go_wp2_with (first | ((with_reducible refine gate_callee (f := 34) rfl ?_); refine goesL_ (some 12) rfl rfl Try.func34 (by kernel_rfl) rfl #[.slice A0 l0.length c0, .string a1] rfl (by (try simp only [List.map_toArray, List.map_cons, List.map_nil]); first | done | rfl | (simp only [List.length_drop, List.length_take]; rfl)) ?_; (with_reducible refine (slices_BinarySearch_string_string.calls k _ _ l0 a1 t186 t187 _ ?side1 ?side2 A3.out).mono ?_); (case side1 => repeat (first | exact HR0.out | (with_reducible refine Kd.C_alloc ?_ _) | (with_reducible refine Kd.C_drewN ?_ _) | (with_reducible refine Kd.C_drew ?_))); (case side2 => exact HC0.out); rintro e w' ⟨rfl, ⟨nd, rfl⟩⟩; refine ⟨_, rfl, ?_⟩))
 go_loopg [8] k (fun kq v8 w' => ∃ (x8_1 : Int), v8 = .int .i64 x8_1 ∧ Aside0 (dict_From.l0 kq l0 a1 t186 x8_1 = some (r1, r2)) ∧ Aside0 (kq ≤ k) ∧ Drawn0 w w')
 case atStart => exact ⟨(t186), (by first | rfl | (simp; done) | (simp [*]; done)), H', ⟨Nat.le_refl _⟩, by repeat (first | exact Drawn0.refl _ | apply Drawn0.step)⟩
 case round =>
  clear H'
  try clear c1
  try clear p2
  try clear c3
  obtain ⟨x8_1, rfl, HA, HK1, ⟨m1, rfl⟩⟩ := hrel
  cases gk with
  | zero => exact absurd HA.out (by simp [dict_From.l0])
  | succ k1 =>
   have H := HA.out
   clear HA
   simp only [dict_From.l0] at H
   by_cases c4 : x8_1 < (l0.length : Int)
   ·rw [if_pos c4] at H
    have c4b0 : decide (x8_1 < (l0.length : Int)) = true := decide_eq_true c4
    clear c4
    by_cases c5 : 0 ≤ x8_1
    ·rw [if_pos c5] at H
     have c5b0 : decide (0 ≤ x8_1) = true := decide_eq_true c5
     clear c5
     replace H := Option.bind_eq_some_iff.mp H
     obtain ⟨t189, A60, H⟩ := H
     replace H : (if t189 = true then (dict_From.l0 k1 l0 a1 t186 (wrap64 (x8_1 + 1))) else (some (t186, x8_1))) = some (r1, r2) := H
     have A6 := Aside0.mk A60
     clear A60
     by_cases c7 : t189 = true
     ·subst c7
      have H1 : (dict_From.l0 k1 l0 a1 t186 (wrap64 (x8_1 + 1))) = some (r1, r2) := by rw [if_pos rfl] at H; exact H
      clear H
      have H := H1
      clear H1
      have H' := Aside0.mk H
      clear H
      have p188 : 0 ≤ (x8_1 : Int) := of_decide_eq_true (by first | (with_reducible assumption) | assumption)
      have q188 : x8_1 < (l0.length : Int) := of_decide_eq_true (by first | (with_reducible assumption) | assumption)
      obtain ⟨ad188, e188, hx188_0⟩ := Kd.at_string HR0.out x8_1 p188 q188
      cases e188
      replace p188 := eq_true p188
      replace q188 := eq_true q188
      go_wp2_with (first | (go_at_call 35; (with_reducible refine (strings_HasPrefix.calls (rdOf ByteArray.empty l0 x8_1) a1 true _ A6.out).mono ?_); rintro e w' ⟨rfl, ⟨nd, rfl⟩⟩))
      go_roundg k1
      case measure => have := HK1.out; omega
      case rel => exact ⟨(wrap64 (x8_1 + 1)), (by first | rfl | (simp; done) | (simp [*]; done)), H', ⟨by have := HK1.out; omega⟩, by repeat (first | exact Drawn0.refl _ | apply Drawn0.step)⟩
     ·replace c7 := Bool.eq_false_iff.mpr c7
      subst c7
      have H1 : (some (t186, x8_1)) = some (r1, r2) := by rw [if_neg (show ¬ (false = true) by decide)] at H; exact H
      clear H
      have H := H1
      clear H1
      simp only [Option.some.injEq, Prod.mk.injEq] at H
      obtain ⟨rfl, rfl⟩ := H
      have p188 : 0 ≤ (x8_1 : Int) := of_decide_eq_true (by first | (with_reducible assumption) | assumption)
      have q188 : x8_1 < (l0.length : Int) := of_decide_eq_true (by first | (with_reducible assumption) | assumption)
      obtain ⟨ad188, e188, hx188_0⟩ := Kd.at_string HR0.out x8_1 p188 q188
      cases e188
      replace p188 := eq_true p188
      replace q188 := eq_true q188
      go_wp2_with (first | (go_at_call 35; (with_reducible refine (strings_HasPrefix.calls (rdOf ByteArray.empty l0 x8_1) a1 false _ A6.out).mono ?_); rintro e w' ⟨rfl, ⟨nd, rfl⟩⟩))
      go_ret2
      exact ⟨by first | rfl | (simp; done) | (simp [*]; done), by repeat (first | exact Drawn0.refl _ | apply Drawn0.step)⟩
    ·rw [if_neg c5] at H
     exact absurd H (by simp)
   ·rw [if_neg c4] at H
    have c4b0 : decide (x8_1 < (l0.length : Int)) = false := decide_eq_false c4
    clear c4
    simp only [Option.some.injEq, Prod.mk.injEq] at H
    obtain ⟨rfl, rfl⟩ := H
    go_wp2
    go_ret2
    exact ⟨by first | rfl | (simp; done) | (simp [*]; done), by repeat (first | exact Drawn0.refl _ | apply Drawn0.step)⟩

/-! ### dict_rising: function 36 -/
def dict_rising.l0 : Nat → List ByteArray → Int → Option (Bool)
 | 0, _, _ => none
 | k + 1, x0, x3 => if x3 < (x0.length : Int) then (if 0 ≤ (wrap64 (x3 - 1)) then (if (wrap64 (x3 - 1)) < (x0.length : Int) then (if 0 ≤ x3 then (if (Op.bytesLess ((rdOf ByteArray.empty x0 (wrap64 (x3 - 1))).toList) ((rdOf ByteArray.empty x0 x3).toList)) = true then (dict_rising.l0 k x0 (wrap64 (x3 + 1))) else (some false)) else (none)) else (none)) else (none)) else (some true)
def dict_rising.f (k : Nat) (l0 : List ByteArray) : Option (Bool) := dict_rising.l0 k l0 1
theorem dict_rising.mono_l : ∀ k, (∀ y0 y1, LeO (dict_rising.l0 k y0 y1) (dict_rising.l0 (k + 1) y0 y1))
 | 0 => fun _ _ r h => by simp [dict_rising.l0] at h
 | k + 1 => by
  have ih0 := dict_rising.mono_l k
  ·intro y0 y1
   unfold dict_rising.l0
   repeat' first
   | (with_reducible exact ih0 _ _)
   | (with_reducible exact LeO.refl _)
   | (with_reducible exact LeO.none _)
   | (with_reducible refine LeO.ite ?_ ?_)
   | (with_reducible refine LeO.bind ?_ (fun _ => ?_))
   | exact ih0 _ _
   | exact LeO.none _
   | refine LeO.ite ?_ ?_
   | refine LeO.bind ?_ (fun _ => ?_)
theorem dict_rising.mono : ∀ a0 k, LeO (dict_rising.f k a0) (dict_rising.f (k + 1) a0) := by
 intro a0 k
 have ih0 := dict_rising.mono_l k
 unfold dict_rising.f
 repeat' first
   | (with_reducible exact ih0 _ _)
   | (with_reducible exact LeO.refl _)
   | (with_reducible exact LeO.none _)
   | (with_reducible refine LeO.ite ?_ ?_)
   | (with_reducible refine LeO.bind ?_ (fun _ => ?_))
   | exact ih0 _ _
   | exact LeO.none _
   | refine LeO.ite ?_ ?_
   | refine LeO.bind ?_ (fun _ => ?_)
set_option maxHeartbeats 8000000 in
set_option maxRecDepth 100000 in
theorem dict_rising.calls (k : Nat) (A0 : Option Addr) (c0 : Nat) (l0 : List ByteArray) (r : Bool) (w : World) (hr0 : Kd.C Kd.string w A0 l0.length l0) (hc0 : l0.length ≤ c0) (h : dict_rising.f k l0 = some r) :
  Calls Try.prog 36 #[.slice A0 l0.length c0] w fun e w' => e = .returned (.bool r) ∧ Drawn0 w w' := by
 have HR0 := Aside0.mk hr0
 have HC0 := Aside0.mk hc0
 clear hr0 hc0
 have H : (dict_rising.l0 k l0 1) = some r := h
 clear h
 have H' := Aside0.mk H
 clear H
 go_enter Try.func36, Try.ntmps36
 go_wp2
 repeat (go_quiet (fail); try go_wp2)
 go_loopg [3] k (fun kq v3 w' => ∃ (x3_1 : Int), v3 = .int .i64 x3_1 ∧ Aside0 (dict_rising.l0 kq l0 x3_1 = some r) ∧ Aside0 (kq ≤ k) ∧ Drawn0 w w')
 case atStart => exact ⟨(1), (by first | rfl | (simp; done) | (simp [*]; done)), H', ⟨Nat.le_refl _⟩, by repeat (first | exact Drawn0.refl _ | apply Drawn0.step)⟩
 case round =>
  clear H'
  obtain ⟨x3_1, rfl, HA, HK1, ⟨m1, rfl⟩⟩ := hrel
  cases gk with
  | zero => exact absurd HA.out (by simp [dict_rising.l0])
  | succ k1 =>
   have H := HA.out
   clear HA
   simp only [dict_rising.l0] at H
   by_cases c2 : x3_1 < (l0.length : Int)
   ·rw [if_pos c2] at H
    have c2b0 : decide (x3_1 < (l0.length : Int)) = true := decide_eq_true c2
    clear c2
    obtain ⟨ji3, hji3⟩ : ∃ j_ : Int, (wrap64 (x3_1 - 1)) = j_ := ⟨_, rfl⟩
    replace H : (if 0 ≤ (ji3) then (if (ji3) < (l0.length : Int) then (if 0 ≤ x3_1 then (if (Op.bytesLess ((rdOf ByteArray.empty l0 (ji3)).toList) ((rdOf ByteArray.empty l0 x3_1).toList)) = true then (dict_rising.l0 k1 l0 (wrap64 (x3_1 + 1))) else (some false)) else (none)) else (none)) else (none)) = some r := by first | (rw [hji3] at H; exact H) | (simp only [hji3] at H ⊢; exact H)
    have hji3w : (IntKind.i64.wrap (x3_1 - 1)) = ji3 := (i64_w _).trans hji3
    by_cases c4 : 0 ≤ (ji3)
    ·rw [if_pos c4] at H
     have c4b0 : decide (0 ≤ (ji3)) = true := decide_eq_true c4
     clear c4
     by_cases c5 : (ji3) < (l0.length : Int)
     ·rw [if_pos c5] at H
      have c5b0 : decide ((ji3) < (l0.length : Int)) = true := decide_eq_true c5
      clear c5
      by_cases c6 : 0 ≤ x3_1
      ·rw [if_pos c6] at H
       have c6b0 : decide (0 ≤ x3_1) = true := decide_eq_true c6
       clear c6
       by_cases c7 : (Op.bytesLess ((rdOf ByteArray.empty l0 (ji3)).toList) ((rdOf ByteArray.empty l0 x3_1).toList)) = true
       ·rw [if_pos c7] at H
        have c7b0 : (Op.bytesLess ((rdOf ByteArray.empty l0 (ji3)).toList) ((rdOf ByteArray.empty l0 x3_1).toList)) = true := c7
        clear c7
        have H' := Aside0.mk H
        clear H
        have p190 : 0 ≤ ((ji3) : Int) := of_decide_eq_true (by first | (with_reducible assumption) | assumption)
        have q190 : (ji3) < (l0.length : Int) := of_decide_eq_true (by first | (with_reducible assumption) | assumption)
        obtain ⟨ad190, e190, hx190_0⟩ := Kd.at_string HR0.out (ji3) p190 q190
        cases e190
        replace p190 := eq_true p190
        replace q190 := eq_true q190
        have p191 : 0 ≤ (x3_1 : Int) := of_decide_eq_true (by first | (with_reducible assumption) | assumption)
        have q191 : x3_1 < (l0.length : Int) := of_decide_eq_true (by first | (with_reducible assumption) | assumption)
        obtain ⟨ad191, e191, hx191_0⟩ := Kd.at_string HR0.out x3_1 p191 q191
        obtain rfl : ad190 = ad191 := (by injection e191)
        replace p191 := eq_true p191
        replace q191 := eq_true q191
        go_wp2
        repeat (go_quiet (fail); try go_wp2)
        go_roundg k1
        case measure => have := HK1.out; omega
        case rel => exact ⟨(wrap64 (x3_1 + 1)), (by first | rfl | (simp; done) | (simp [*]; done)), H', ⟨by have := HK1.out; omega⟩, by repeat (first | exact Drawn0.refl _ | apply Drawn0.step)⟩
       ·rw [if_neg c7] at H
        have c7b0 : (Op.bytesLess ((rdOf ByteArray.empty l0 (ji3)).toList) ((rdOf ByteArray.empty l0 x3_1).toList)) = false := by simpa using c7
        clear c7
        obtain rfl := Option.some.inj H
        have p190 : 0 ≤ ((ji3) : Int) := of_decide_eq_true (by first | (with_reducible assumption) | assumption)
        have q190 : (ji3) < (l0.length : Int) := of_decide_eq_true (by first | (with_reducible assumption) | assumption)
        obtain ⟨ad190, e190, hx190_0⟩ := Kd.at_string HR0.out (ji3) p190 q190
        cases e190
        replace p190 := eq_true p190
        replace q190 := eq_true q190
        have p191 : 0 ≤ (x3_1 : Int) := of_decide_eq_true (by first | (with_reducible assumption) | assumption)
        have q191 : x3_1 < (l0.length : Int) := of_decide_eq_true (by first | (with_reducible assumption) | assumption)
        obtain ⟨ad191, e191, hx191_0⟩ := Kd.at_string HR0.out x3_1 p191 q191
        obtain rfl : ad190 = ad191 := (by injection e191)
        replace p191 := eq_true p191
        replace q191 := eq_true q191
        go_wp2
        repeat (go_quiet (fail); try go_wp2)
        go_ret
        exact ⟨by first | rfl | (simp; done) | (simp only [← hji3] <;> (first | rfl | simp)) | (simp [*]; done), by repeat (first | exact Drawn0.refl _ | apply Drawn0.step)⟩
      ·rw [if_neg c6] at H
       exact absurd H (by simp)
     ·rw [if_neg c5] at H
      exact absurd H (by simp)
    ·rw [if_neg c4] at H
     exact absurd H (by simp)
   ·rw [if_neg c2] at H
    have c2b0 : decide (x3_1 < (l0.length : Int)) = false := decide_eq_false c2
    clear c2
    obtain rfl := Option.some.inj H
    go_wp2
    repeat (go_quiet (fail); try go_wp2)
    go_ret
    exact ⟨by first | rfl | (simp; done) | (simp [*]; done), by repeat (first | exact Drawn0.refl _ | apply Drawn0.step)⟩

/-! ### dict_Fits: function 15 -/
/-! dict.Fits, whose test is handed to slices.ContainsFunc: by hand -/
/-- Is a text longer than may be? -/
def dict_long (s : ByteArray) : Bool := decide (40 < s.size)
set_option maxHeartbeats 8000000 in
set_option maxRecDepth 100000 in
theorem slices_IndexFunc_long (A : Option Addr) (c : Nat) (l : List ByteArray) (w : World) (hr : Kd.C Kd.string w A l.length l) (hl : l.length ≤ 9223372036854775807) :
  Calls Try.prog 56 #[.slice A l.length c, .func (.func 38) #[] #[]] w fun e w' => ∃ r : Int, e = .returned (.int .i64 r) ∧ decide (0 ≤ r) = l.any dict_long ∧ Drawn0 w w' := by
 have HR := Aside0.mk hr
 have HL := Aside0.mk hl
 clear hr hl
 go_enter Try.func56, Try.ntmps56
 go_wp2
 go_loopg [8] l.length (fun kq v8 w' => ∃ x : Nat, v8 = .int .i64 (x : Int) ∧ Aside0 (x ≤ l.length ∧ l.length - x ≤ kq) ∧ Aside0 (∀ s ∈ l.take x, dict_long s = false) ∧ Drawn0 w w')
 case atStart => exact ⟨0, rfl, ⟨by omega, by omega⟩, ⟨by simp⟩, Drawn0.refl _⟩
 case round =>
  obtain ⟨x, rfl, HX, HA, ⟨m1, rfl⟩⟩ := hrel
  by_cases h : x < l.length
  ·have hlt : decide ((x : Int) < (l.length : Int)) = true := decide_eq_true (by omega)
   have p1 : 0 ≤ (x : Int) := by omega
   have q1 : (x : Int) < (l.length : Int) := by omega
   obtain ⟨ad, e1, hx⟩ := Kd.at_string HR.out (x : Int) p1 q1
   cases e1
   have hg : rdOf ByteArray.empty l (x : Int) = l[x] := by simp [rdOf, List.getD_eq_getElem?_getD, List.getElem?_eq_getElem h]
   rw [hg, Int.toNat_natCast] at hx
   have hL := HL.out
   by_cases hs : 40 < l[x].size
   ·have hb : decide (40 < (l[x].size : Int)) = true := decide_eq_true (by omega)
    have hmem : l.any dict_long = true := List.any_eq_true.2 ⟨l[x], List.getElem_mem _, decide_eq_true hs⟩
    have HM := Aside0.mk hmem
    generalize l[x] = s at *
    clear hg hmem hL
    go_wp2
    go_ret
    refine ⟨_, rfl, ?_, by repeat (first | exact Drawn0.refl _ | apply Drawn0.step)⟩
    rw [HM.out]
    exact decide_eq_true p1
   ·have hb : decide (40 < (l[x].size : Int)) = false := decide_eq_false (by omega)
    have hn : ∀ s ∈ l.take (x + 1), dict_long s = false := by
     intro s hs'
     rw [List.take_add_one, List.getElem?_eq_getElem h] at hs'
     rcases List.mem_append.1 hs' with h1 | h1
     ·exact HA.out s h1
     ·rw [List.mem_singleton.1 h1]
      exact decide_eq_false hs
    have HN := Aside0.mk hn
    generalize l[x] = s at *
    clear hg hn hs
    go_wp2
    go_roundg (l.length - (x + 1))
    case measure => have := HX.out; omega
    case rel => exact ⟨x + 1, by first | rfl | (simp; done) | (simp [*]; done) | (congr 1; omega), ⟨by omega, by omega⟩, HN, by repeat (first | exact Drawn0.refl _ | apply Drawn0.step)⟩
  ·have hlt : decide ((x : Int) < (l.length : Int)) = false := decide_eq_false (by omega)
   go_wp2
   go_ret
   refine ⟨_, rfl, ?_, by repeat (first | exact Drawn0.refl _ | apply Drawn0.step)⟩
   have h1 := HA.out
   rw [List.take_of_length_le (by omega)] at h1
   rw [show l.any dict_long = false from by rw [List.any_eq_false]; intro s hs; rw [h1 s hs]; decide]
   decide
set_option maxHeartbeats 8000000 in
set_option maxRecDepth 100000 in
theorem slices_ContainsFunc_long (A : Option Addr) (c : Nat) (l : List ByteArray) (w : World) (hr : Kd.C Kd.string w A l.length l) (hl : l.length ≤ 9223372036854775807) :
  Calls Try.prog 37 #[.slice A l.length c, .func (.func 38) #[] #[]] w fun e w' => e = .returned (.bool (l.any dict_long)) ∧ Drawn0 w w' := by
 have HR := Aside0.mk hr
 have HL := Aside0.mk hl
 clear hr hl
 go_enter Try.func37, Try.ntmps37
 go_wp2_with (go_at_call 56; refine (slices_IndexFunc_long _ _ l _ HR.out HL.out).mono ?_; rintro e w1 ⟨r, rfl, hb, ⟨m1, rfl⟩⟩)
 go_ret
 exact ⟨rfl, by repeat (first | exact Drawn0.refl _ | apply Drawn0.step)⟩
/-- dict.Fits: few texts, rising, none too long. -/
def dict_Fits.f (k : Nat) (l0 : List ByteArray) : Option Bool := if (l0.length : Int) ≤ 16 then (dict_rising.f k l0).bind fun b => if b = true then some (!l0.any dict_long) else some false else some false
theorem dict_Fits.mono : ∀ a0 k, LeO (dict_Fits.f k a0) (dict_Fits.f (k + 1) a0) := by
 intro a0 k
 unfold dict_Fits.f
 exact LeO.ite (LeO.bind (dict_rising.mono _ _) (fun _ => LeO.refl _)) (LeO.refl _)
set_option maxHeartbeats 8000000 in
set_option maxRecDepth 100000 in
theorem dict_Fits.calls (k : Nat) (A0 : Option Addr) (c0 : Nat) (l0 : List ByteArray) (r : Bool) (w : World) (hr0 : Kd.C Kd.string w A0 l0.length l0) (hc0 : l0.length ≤ c0) (h : dict_Fits.f k l0 = some r) :
  Calls Try.prog 15 #[.slice A0 l0.length c0] w fun e w' => e = .returned (.bool r) ∧ Drawn0 w w' := by
 have HR0 := Aside0.mk hr0
 have HC0 := Aside0.mk hc0
 clear hr0 hc0
 unfold dict_Fits.f at h
 by_cases c1 : (l0.length : Int) ≤ 16
 ·rw [if_pos c1] at h
  obtain ⟨b, hb, h⟩ := Option.bind_eq_some_iff.mp h
  have HB := Aside0.mk hb
  have HL : Aside0 (l0.length ≤ 9223372036854775807) := ⟨by omega⟩
  have c1b : decide ((l0.length : Int) ≤ 16) = true := decide_eq_true c1
  have c1n : decide (l0.length ≤ 16) = true := decide_eq_true (by omega)
  clear hb c1
  cases b with
  | true =>
   rw [if_pos rfl] at h
   obtain rfl := Option.some.inj h
   clear h
   go_enter Try.func15, Try.ntmps15
   go_wp2_with (first
    | (go_at_call 36; refine (dict_rising.calls k _ _ l0 true _ HR0.out HC0.out HB.out).mono ?_; rintro e w1 ⟨rfl, ⟨m1, rfl⟩⟩)
    | (go_at_call 37; refine (slices_ContainsFunc_long _ _ l0 _ (Kd.C_drewN HR0.out _) HL.out).mono ?_; rintro e w2 ⟨rfl, ⟨m2, rfl⟩⟩))
   go_ret
   exact ⟨rfl, by repeat (first | exact Drawn0.refl _ | apply Drawn0.step)⟩
  | false =>
   rw [if_neg (by decide)] at h
   obtain rfl := Option.some.inj h
   clear h
   go_enter Try.func15, Try.ntmps15
   go_wp2_with (first
    | (go_at_call 36; refine (dict_rising.calls k _ _ l0 false _ HR0.out HC0.out HB.out).mono ?_; rintro e w1 ⟨rfl, ⟨m1, rfl⟩⟩))
   go_ret
   exact ⟨rfl, by repeat (first | exact Drawn0.refl _ | apply Drawn0.step)⟩
 ·rw [if_neg c1] at h
  obtain rfl := Option.some.inj h
  have c1b : decide ((l0.length : Int) ≤ 16) = false := decide_eq_false c1
  have c1n : decide (l0.length ≤ 16) = false := decide_eq_false (by omega)
  clear h c1
  go_enter Try.func15, Try.ntmps15
  go_wp2
  go_ret
  exact ⟨rfl, Drawn0.refl _⟩

/-! ### varint_Put: function 39 -/
def varint_Put.l0 : Nat → Int → List Int → Option (List Int)
 | 0, _, _ => none
 | k + 1, x1, x5 => if x1 > 127 then (if x5.length < 140737488355328 then (varint_Put.l0 k (x1 / 128) (x5 ++ [Go.bits .or .u8 ((x1) % 256) 128])) else (none)) else (if x5.length < 140737488355328 then (some (x5 ++ [(x1) % 256])) else (none))
def varint_Put.f (k : Nat) (l0 : List Int) (a1 : Int) : Option (List Int) := (some (([] : List Int) : List Int)).bind fun y192 => (if y192.length + l0.length < 140737488355328 then (varint_Put.l0 k a1 (y192 ++ l0)) else (none))
theorem varint_Put.mono_l : ∀ k, (∀ y0 y1, LeO (varint_Put.l0 k y0 y1) (varint_Put.l0 (k + 1) y0 y1))
 | 0 => fun _ _ r h => by simp [varint_Put.l0] at h
 | k + 1 => by
  have ih0 := varint_Put.mono_l k
  ·intro y0 y1
   unfold varint_Put.l0
   repeat' first
   | (with_reducible exact ih0 _ _)
   | (with_reducible exact LeO.refl _)
   | (with_reducible exact LeO.none _)
   | (with_reducible refine LeO.ite ?_ ?_)
   | (with_reducible refine LeO.bind ?_ (fun _ => ?_))
   | exact ih0 _ _
   | exact LeO.none _
   | refine LeO.ite ?_ ?_
   | refine LeO.bind ?_ (fun _ => ?_)
theorem varint_Put.mono : ∀ a0 a1 k, LeO (varint_Put.f k a0 a1) (varint_Put.f (k + 1) a0 a1) := by
 intro a0 a1 k
 have ih0 := varint_Put.mono_l k
 unfold varint_Put.f
 repeat' first
   | (with_reducible exact ih0 _ _)
   | (with_reducible exact LeO.refl _)
   | (with_reducible exact LeO.none _)
   | (with_reducible refine LeO.ite ?_ ?_)
   | (with_reducible refine LeO.bind ?_ (fun _ => ?_))
   | exact ih0 _ _
   | exact LeO.none _
   | refine LeO.ite ?_ ?_
   | refine LeO.bind ?_ (fun _ => ?_)
set_option maxHeartbeats 8000000 in
set_option maxRecDepth 100000 in
theorem varint_Put.calls (k : Nat) (A0 : Option Addr) (c0 : Nat) (l0 : List Int) (a1 : Int) (r : List Int) (w : World) (hr0 : Kd.C (Kd.int .u8) w A0 l0.length l0) (hc0 : l0.length ≤ c0) (h : varint_Put.f k l0 a1 = some r) :
  Calls Try.prog 39 #[.slice A0 l0.length c0, .int .u64 a1] w fun e w' => ∃ v0_ : Value, e = .returned (v0_) ∧ Kd.R (Kd.int .u8) 5 w' w.heap.size (fun _ => True) v0_ r ∧ Below w.heap.size w w' := by
 have HR0 := Aside0.mk hr0
 have HC0 := Aside0.mk hc0
 clear hr0 hc0
 have HB := Aside0.mk (Below.refl w.heap.size w)
 have H : ((some (([] : List Int) : List Int)).bind fun y192 => (if y192.length + l0.length < 140737488355328 then (varint_Put.l0 k a1 (y192 ++ l0)) else (none))) = some r := h
 clear h
 obtain ⟨y192, hy192⟩ : ∃ y_ : List Int, y_ = (([] : List Int)) := ⟨_, rfl⟩
 replace H : (if y192.length + l0.length < 140737488355328 then (varint_Put.l0 k a1 (y192 ++ l0)) else (none)) = some r := by first | (rw [hy192]; with_reducible exact H) | (have H2_ := (Option.bind_some _ _).symm.trans H; rw [hy192]; with_reducible exact H2_) | (have H2_ := (Option.bind_some _ _).symm.trans H; with_reducible exact H2_) | with_reducible exact H | (rw [hy192]; exact H) | exact H
 have Ny192 := Aside0.mk hy192
 clear hy192
 by_cases c3 : y192.length + l0.length < 140737488355328
 ·rw [if_pos c3] at H
  have LMc3 := Aside0.mk c3
  clear c3
  obtain ⟨y195, hy195⟩ : ∃ y_ : List Int, y_ = (y192 ++ l0) := ⟨_, rfl⟩
  replace H : (varint_Put.l0 k a1 y195) = some r := by first | (rw [hy195]; with_reducible exact H) | (have H2_ := (Option.bind_some _ _).symm.trans H; rw [hy195]; with_reducible exact H2_) | (have H2_ := (Option.bind_some _ _).symm.trans H; with_reducible exact H2_) | with_reducible exact H | (rw [hy195]; exact H) | exact H
  have Ny195 := Aside0.mk hy195
  clear hy195
  have H' := Aside0.mk H
  clear H
  go_enter Try.func39, Try.ntmps39
  go_wp2_with (first | ((with_reducible refine gate_dst (N := 6) rfl ?_); refine Kd.R_lit (Kd.int .u8) _ 5 ?hg (N := 6) ?hd (xs := ([] : List Int)) (inner := []) (ok := fun _ => True) (okp := fun _ => True) ?hr ?hp (fun _ hk => hk) trivial (Below.refl _ _) (Nat.le_refl _) (by simp) ?_; (case hd => rfl); (case hg => rfl); (case hr => first | (go_simp; done) | (go_simp; rfl)); (case hp => exact (Reps.none _ _)); intro v193 w4 ho5 hb hg_ hnew_; clear hg_ hnew_; (first | rw [← Ny192.out] at ho5 | (simp only [Int.reduceToNat] at ho5; rw [← Ny192.out] at ho5)); have n0_ := Aside0.mk (Kd.R_lower ho5 (below_size (mB HB.out))); have n1_ := Aside0.mk (below_step (mB HB.out) hb); clear HB; have HO194 := n0_; have HB := n1_; clear n0_ n1_; clear hb ho5) | ((with_reducible refine gate_builtin (b := .append) (xs := #[.tmp 6, .tmp 7]) rfl ?_); at_builtin; refine Kd.R_append_rows (Kd.int .u8) (w0 := w) w.heap.size rfl (.tmp 6) (.tmp 7) 41 5 (.int .u8 0) 1 rfl Try.underlying41 info5 rfl (by decide) (by omega) v193 y192 l0 _ _ _ (fun _ => True) (fun _ => False) rfl rfl ?aO ?aR (fun _ _ h => h) (fun _ h => h.elim) ?aF ?aB ?aS ?aL ?_; (case aR => repeat (first | exact (Kd.C_below HR0.out HB.out) | (with_reducible refine Kd.C_alloc ?_ _) | (with_reducible refine Kd.C_drewN ?_ _) | (with_reducible refine Kd.C_drew ?_))); (case aB => exact (mB HB.out)); (case aF => exact (fun _ _ => trivial)); (case aO => exact (mR HO194.out)); (case aS => exact (below_size (mB HB.out))); (case aL => have := LMc3.out; omega); intro v196 w6 ho hb hg hat; rw [← Ny195.out] at ho; have n0_ := Aside0.mk (hb); have n1_ := Aside0.mk (ho); clear HB; clear HO194; have HB := n0_; have HO197 := n1_; clear n0_ n1_; clear ho hb hg hat))
  go_loopg [1, 5] k (fun kq v1 v5 w' => ∃ (x1_1 : Int) (x5_1 : List Int), v1 = .int .u64 x1_1 ∧ Aside0 (varint_Put.l0 kq x1_1 x5_1 = some r) ∧ Aside0 (kq ≤ k) ∧ Aside0 (Kd.R (Kd.int .u8) 5 w' w.heap.size (fun _ => True) v5 x5_1) ∧ Aside0 (Below w.heap.size w w'))
  case atStart => exact ⟨(a1), (y195), (by first | rfl | (simp; done) | (simp [*]; done)), H', ⟨Nat.le_refl _⟩, ⟨mR HO197.out⟩, ⟨mB HB.out⟩⟩
  case round =>
   clear H'
   try clear p2
   try clear c3
   obtain ⟨x1_1, x5_1, rfl, HA, HK1, HO_5, HB⟩ := hrel
   cases gk with
   | zero => exact absurd HA.out (by simp [varint_Put.l0])
   | succ k1 =>
    have H := HA.out
    clear HA
    simp only [varint_Put.l0] at H
    by_cases c7 : x1_1 > 127
    ·rw [if_pos c7] at H
     have c7b0 : decide (127 < x1_1) = true := decide_eq_true c7
     clear c7
     by_cases c8 : x5_1.length < 140737488355328
     ·rw [if_pos c8] at H
      have LMc8 := Aside0.mk c8
      clear c8
      obtain ⟨y198, hy198⟩ : ∃ y_ : List Int, y_ = (x5_1 ++ [Go.bits .or .u8 ((x1_1) % 256) 128]) := ⟨_, rfl⟩
      replace H : (varint_Put.l0 k1 (x1_1 / 128) y198) = some r := by first | (rw [hy198]; with_reducible exact H) | (have H2_ := (Option.bind_some _ _).symm.trans H; rw [hy198]; with_reducible exact H2_) | (have H2_ := (Option.bind_some _ _).symm.trans H; with_reducible exact H2_) | with_reducible exact H | (rw [hy198]; exact H) | exact H
      have Ny198 := Aside0.mk hy198
      clear hy198
      have H' := Aside0.mk H
      clear H
      go_wp2_with (first | ((with_reducible refine gate_builtin (b := .append) (xs := #[.tmp 11, .tmp 15]) rfl ?_); at_builtin; refine Kd.R_append (Kd.int .u8) (w0 := w) w.heap.size rfl (.tmp 11) (.tmp 15) 41 5 (.int .u8 0) 1 rfl Try.underlying41 info5 rfl (by decide) (by omega) u5 x5_1 (Go.bits .or .u8 ((x1_1) % 256) 128) [.int .u8 (Go.bits .or .u8 ((x1_1) % 256) 128)] (fun _ => True) (fun _ => False) rfl rfl ?aP (fun _ hk => hk.elim) ?aF ?aO ?aB ?aS ?aL ?_; (case aP => exact rfl); (case aB => exact (mB HB.out)); (case aF => exact (fun _ _ => trivial)); (case aO => exact (mR HO_5.out)); (case aS => exact (below_size (mB HB.out))); (case aL => have := LMc8.out; omega); intro v199 w9 ho hb hg hat; rw [← Ny198.out] at ho; have n0_ := Aside0.mk (hb); have n1_ := Aside0.mk (ho); clear HB; clear HO_5; have HB := n0_; have HO200 := n1_; clear n0_ n1_; clear ho hb hg hat))
      go_roundg k1
      case measure => have := HK1.out; omega
      case rel => exact ⟨(x1_1 / 128), (y198), (by first | rfl | (simp; done) | (simp [*]; done)), H', ⟨by have := HK1.out; omega⟩, ⟨mR HO200.out⟩, ⟨mB HB.out⟩⟩
     ·rw [if_neg c8] at H
      exact absurd H (by simp)
    ·rw [if_neg c7] at H
     have c7b0 : decide (127 < x1_1) = false := decide_eq_false c7
     clear c7
     by_cases c10 : x5_1.length < 140737488355328
     ·rw [if_pos c10] at H
      have LMc10 := Aside0.mk c10
      clear c10
      obtain ⟨y201, hy201⟩ : ∃ y_ : List Int, y_ = (x5_1 ++ [(x1_1) % 256]) := ⟨_, rfl⟩
      replace H : (some y201) = some r := by first | (rw [hy201]; with_reducible exact H) | (have H2_ := (Option.bind_some _ _).symm.trans H; rw [hy201]; with_reducible exact H2_) | (have H2_ := (Option.bind_some _ _).symm.trans H; with_reducible exact H2_) | with_reducible exact H | (rw [hy201]; exact H) | exact H
      have Ny201 := Aside0.mk hy201
      clear hy201
      obtain rfl := Option.some.inj H
      go_wp2_with (first | ((with_reducible refine gate_builtin (b := .append) (xs := #[.tmp 19, .tmp 22]) rfl ?_); at_builtin; refine Kd.R_append (Kd.int .u8) (w0 := w) w.heap.size rfl (.tmp 19) (.tmp 22) 41 5 (.int .u8 0) 1 rfl Try.underlying41 info5 rfl (by decide) (by omega) u5 x5_1 ((x1_1) % 256) [.int .u8 ((x1_1) % 256)] (fun _ => True) (fun _ => False) rfl rfl ?aP (fun _ hk => hk.elim) ?aF ?aO ?aB ?aS ?aL ?_; (case aP => exact rfl); (case aB => exact (mB HB.out)); (case aF => exact (fun _ _ => trivial)); (case aO => exact (mR HO_5.out)); (case aS => exact (below_size (mB HB.out))); (case aL => have := LMc10.out; omega); intro v202 w11 ho hb hg hat; rw [← Ny201.out] at ho; have n0_ := Aside0.mk (hb); have n1_ := Aside0.mk (ho); clear HB; clear HO_5; have HB := n0_; have HO203 := n1_; clear n0_ n1_; clear ho hb hg hat))
      go_ret
      exact ⟨_, by first | rfl | (simp [errW_none, errW_some] <;> rfl) | (simp [*, errW_none, errW_some] <;> rfl), mR HO203.out, mB HB.out⟩
     ·rw [if_neg c10] at H
      exact absurd H (by simp)
 ·rw [if_neg c3] at H
  exact absurd H (by simp)

/-! ### varint_PutText: function 40 -/
def varint_PutText.f (k : Nat) (l0 : List Int) (a1 : ByteArray) : Option (List Int) := (varint_Put.f k l0 (IntKind.u64.wrap ((a1.size : Int)))).bind fun t204 => (if t204.length + a1.size < 140737488355328 then (some (t204 ++ bytesOf a1)) else (none))
theorem varint_PutText.mono : ∀ a0 a1 k, LeO (varint_PutText.f k a0 a1) (varint_PutText.f (k + 1) a0 a1) := by
 intro a0 a1 k
 unfold varint_PutText.f
 repeat' first
   | (with_reducible exact varint_Put.mono _ _ _)
   | (with_reducible exact LeO.refl _)
   | (with_reducible exact LeO.none _)
   | (with_reducible refine LeO.ite ?_ ?_)
   | (with_reducible refine LeO.bind ?_ (fun _ => ?_))
   | exact varint_Put.mono _ _ _
   | exact LeO.none _
   | refine LeO.ite ?_ ?_
   | refine LeO.bind ?_ (fun _ => ?_)
set_option maxHeartbeats 8000000 in
set_option maxRecDepth 100000 in
theorem varint_PutText.calls (k : Nat) (A0 : Option Addr) (c0 : Nat) (l0 : List Int) (a1 : ByteArray) (r : List Int) (w : World) (hr0 : Kd.C (Kd.int .u8) w A0 l0.length l0) (hc0 : l0.length ≤ c0) (h : varint_PutText.f k l0 a1 = some r) :
  Calls Try.prog 40 #[.slice A0 l0.length c0, .string a1] w fun e w' => ∃ v0_ : Value, e = .returned (v0_) ∧ Kd.R (Kd.int .u8) 5 w' w.heap.size (fun _ => True) v0_ r ∧ Below w.heap.size w w' := by
 have HR0 := Aside0.mk hr0
 have HC0 := Aside0.mk hc0
 clear hr0 hc0
 have HB := Aside0.mk (Below.refl w.heap.size w)
 have H : ((varint_Put.f k l0 (IntKind.u64.wrap ((a1.size : Int)))).bind fun t204 => (if t204.length + a1.size < 140737488355328 then (some (t204 ++ bytesOf a1)) else (none))) = some r := h
 clear h
 replace H := Option.bind_eq_some_iff.mp H
 obtain ⟨t204, A30, H⟩ := H
 replace H : (if t204.length + a1.size < 140737488355328 then (some (t204 ++ bytesOf a1)) else (none)) = some r := H
 have A3 := Aside0.mk A30
 clear A30
 by_cases c4 : t204.length + a1.size < 140737488355328
 ·rw [if_pos c4] at H
  have LMc4 := Aside0.mk c4
  clear c4
  obtain ⟨y207, hy207⟩ : ∃ y_ : List Int, y_ = (t204 ++ bytesOf a1) := ⟨_, rfl⟩
  replace H : (some y207) = some r := by first | (rw [hy207]; with_reducible exact H) | (have H2_ := (Option.bind_some _ _).symm.trans H; rw [hy207]; with_reducible exact H2_) | (have H2_ := (Option.bind_some _ _).symm.trans H; with_reducible exact H2_) | with_reducible exact H | (rw [hy207]; exact H) | exact H
  have Ny207 := Aside0.mk hy207
  clear hy207
  obtain rfl := Option.some.inj H
  go_enter Try.func40, Try.ntmps40
  go_wp2_with (first | ((with_reducible refine gate_callee (f := 39) rfl ?_); refine goesL_ (some 9) rfl rfl Try.func39 (by kernel_rfl) rfl #[.slice A0 l0.length c0, .int .u64 (IntKind.u64.wrap ((a1.size : Int)))] rfl (by (try simp only [List.map_toArray, List.map_cons, List.map_nil]); first | done | rfl | (simp only [List.length_drop, List.length_take]; rfl)) ?_; (with_reducible refine (varint_Put.calls k _ _ l0 (IntKind.u64.wrap ((a1.size : Int))) t204 _ ?side1 ?side2 A3.out).mono ?_); (case side1 => repeat (first | exact HR0.out | (with_reducible refine Kd.C_alloc ?_ _) | (with_reducible refine Kd.C_drewN ?_ _) | (with_reducible refine Kd.C_drew ?_))); (case side2 => exact HC0.out); rintro e w5 ⟨v205, rfl, ho0, hb⟩; refine ⟨_, rfl, ?_⟩; have n0_ := Aside0.mk (Kd.R_lower ho0 (below_size (mB HB.out))); have n1_ := Aside0.mk (below_step (mB HB.out) hb); clear HB; have HO206 := n0_; have HB := n1_; clear n0_ n1_; (try clear hb); (try clear hb2); (try clear hk); (try clear hi); (try clear ho0)) | (at_builtin; refine print_append_str (w0 := w) w.heap.size rfl (.tmp 9) _ 41 9 5 rfl Try.underlying41 Try.underlying9 info5 v205 t204 a1 rfl rfl ?aO ?aB ?aS ?aL ?_; (case aB => exact (mB HB.out)); (case aO => exact (Kd.own_of_R (mR HO206.out))); (case aS => exact (below_size (mB HB.out))); (case aL => have := LMc4.out; omega); intro v208 w6 ho0 hb hg; have ho := Kd.R_of_own (h1 := fun _ => rfl) (ok := fun _ => True) ho0 (fun _ _ => trivial); clear ho0; have hat := True.intro; rw [← Ny207.out] at ho; change Kd.R (Kd.int .u8) 5 w6 w.heap.size (fun _ => True) v208 y207 at ho; have n0_ := Aside0.mk (hb); have n1_ := Aside0.mk (ho); clear HB; clear HO206; have HB := n0_; have HO209 := n1_; clear n0_ n1_; clear ho hb hg hat))
  go_ret
  exact ⟨_, by first | rfl | (simp [errW_none, errW_some] <;> rfl) | (simp [*, errW_none, errW_some] <;> rfl), mR HO209.out, mB HB.out⟩
 ·rw [if_neg c4] at H
  exact absurd H (by simp)

end Go.Proofs.Ytllboaghcfeepaa.QDictTells
