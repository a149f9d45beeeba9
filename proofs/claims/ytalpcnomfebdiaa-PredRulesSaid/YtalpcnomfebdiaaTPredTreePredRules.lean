/- Predicates as trees: what is cut from them, what they are true of, rows that are tamed, as printed for PredRules. -/
import Derived.Test.YtalpcnomfebdiaaQPredRulesx
import Derived.Test.YtalpcnomfebdiaaB0
namespace Go.Proofs.Ytalpcnomfebdiaa.QPredRules
open Go.RowKit Go.Proofs.YtalpcnomfebdiaaW.PrintWords Go.Proofs.YtalpcnomfebdiaaW.PrintLast Go.Proofs.YtalpcnomfebdiaaW.PrintMore Go.Proofs.Ytalpcnomfebdiaa.Base
set_option linter.unusedVariables false
set_option linter.unusedSimpArgs false

theorem Ev_one {α : Type} {g : Nat → Option α} {a b : α} (h : Ev g a) (h' : Ev g b) : a = b := by
  obtain ⟨K, h⟩ := h
  obtain ⟨K', h'⟩ := h'
  have h1 := h (max K K') (by omega)
  rw [h' (max K K') (by omega)] at h1
  exact (Option.some.inj h1).symm
/-- A tree as its fields. -/
def tp (x : S25) : Int × ByteArray × Int × Int × ByteArray × List ByteArray × List S25 := (x.f0, x.f1, x.f2, x.f3, x.f4, x.f5, x.f6)
theorem tp_mk (y : S25) : (⟨(tp y).1, (tp y).2.1, (tp y).2.2.1, (tp y).2.2.2.1, (tp y).2.2.2.2.1, (tp y).2.2.2.2.2.1, (tp y).2.2.2.2.2.2⟩ : S25) = y := by cases y; rfl
theorem rd25 (l : List S25) (i : Nat) (h : i < l.length) : rd_T25 l (i : Int) = l[i] := by
  simp [rd_T25, List.getD_eq_getElem?_getD, List.getElem?_eq_getElem h]
theorem rd25_0 (x : S25) (l : List S25) : rd_T25 (x :: l) 0 = x := rfl
theorem tree_ind {P : S25 → Prop} (h : ∀ x : S25, (∀ y ∈ x.f6, P y) → P x) (x : S25) : P x :=
  S25.rec (motive_1 := P) (motive_2 := fun l => ∀ y ∈ l, P y) (fun a b c d e f l ih => h ⟨a, b, c, d, e, f, l⟩ ih) (fun y hy => absurd hy List.not_mem_nil)
    (fun y l hy hl z hz => (List.mem_cons.1 hz).elim (fun e => e ▸ hy) (hl z)) x
mutual
/-- How many parts there are. -/
def cnt : S25 → Nat
  | ⟨_, _, _, _, _, _, l⟩ => 1 + cntL l
def cntL : List S25 → Nat
  | [] => 0
  | x :: r => cnt x + cntL r
end
theorem cnt_eq (x : S25) : cnt x = 1 + cntL x.f6 := by cases x; rw [cnt]
theorem cnt_pos (x : S25) : 0 < cnt x := by rw [cnt_eq]; omega
theorem cntL_append (a b : List S25) : cntL (a ++ b) = cntL a + cntL b := by
  induction a with
  | nil => simp [cntL]
  | cons x a ih => rw [List.cons_append, cntL, cntL, ih]; omega
theorem cntL_len (l : List S25) : l.length ≤ cntL l := by
  induction l with
  | nil => exact Nat.zero_le _
  | cons x l ih => rw [cntL, List.length_cons]; have := cnt_pos x; omega
theorem cntL_mem {l : List S25} {x : S25} (h : x ∈ l) : cnt x ≤ cntL l := by
  induction l with
  | nil => exact absurd h List.not_mem_nil
  | cons y l ih =>
    rw [cntL]
    rcases List.mem_cons.1 h with e | h
    · rw [e]; omega
    · have := ih h; omega
/-- No set is long. -/
inductive Slim : S25 → Prop where
  | mk {x : S25} (hs : x.f5.length ≤ 9) (hk : ∀ y ∈ x.f6, Slim y) : Slim x
theorem Slim.set {x : S25} (h : Slim x) : x.f5.length ≤ 9 := by cases h; assumption
theorem Slim.kids {x : S25} (h : Slim x) : ∀ y ∈ x.f6, Slim y := by cases h; assumption

/-! ### Cut -/
def cutB : Nat → Nat
  | 0 => 1
  | d + 1 => 1 + 4 * cutB d
theorem cut_set (x1 a0 a2 a3 : Int) (a1 a4 : ByteArray) (s : List ByteArray) (l : List S25) (m : Nat) : ∀ (i : Nat) (acc : List ByteArray), 9 - i = m → i ≤ 9 → acc.length = i →
    ∃ S : List ByteArray, S.length ≤ 9 ∧ ∀ r, Ev (fun k => columbariumkeep_Cut.l1 k x1 [] 0 a0 a1 a2 a3 a4 S l) r → Ev (fun k => columbariumkeep_Cut.l0 k x1 acc (i : Int) a0 a1 a2 a3 a4 s l) r := by
  induction m with
  | zero =>
    intro i acc hm hi ha
    refine ⟨acc, by omega, fun r h => ?_⟩
    have e : (if (i : Int) < (s.length : Int) then decide ((i : Int) < 9) else false) = false := by split <;> simp <;> omega
    refine Ev.step (f := fun k => columbariumkeep_Cut.j3 k x1 acc (i : Int) false a0 a1 a2 a3 a4 s l) (fun k => ?_) (Ev.step (fun k => by rw [columbariumkeep_Cut.j3, if_neg Bool.false_ne_true]) h)
    rw [columbariumkeep_Cut.l0]
    split
    · rw [decide_eq_false (by omega)]
    · rfl
  | succ m ih =>
    intro i acc hm hi ha
    by_cases hl : i < s.length
    · obtain ⟨S, hS, hr⟩ := ih (i + 1) (acc ++ [if (rdOf ByteArray.empty s (i : Int)).size > 41 then (rdOf ByteArray.empty s (i : Int)).extract 0 41 else rdOf ByteArray.empty s (i : Int)]) (by omega) (by omega) (by simp [ha])
      refine ⟨S, hS, fun r h => Ev.step (f := fun k => columbariumkeep_Cut.j3 k x1 acc (i : Int) true a0 a1 a2 a3 a4 s l) (fun k => by rw [columbariumkeep_Cut.l0, if_pos (by omega), decide_eq_true (by omega)]) (Ev.step (fun k => ?_) (hr r h))⟩
      rw [columbariumkeep_Cut.j3, if_pos rfl, if_pos (by omega), if_pos (by omega), succ64 (by omega)]
      by_cases hz : (rdOf ByteArray.empty s (i : Int)).size > 41
      · rw [if_pos (by omega), if_pos (by omega), if_pos (by omega), if_pos (by omega), if_pos hz]
      · rw [if_neg (by omega), if_pos (by omega), if_neg hz]
    · refine ⟨acc, by omega, fun r h => Ev.step (f := fun k => columbariumkeep_Cut.j3 k x1 acc (i : Int) false a0 a1 a2 a3 a4 s l) (fun k => by rw [columbariumkeep_Cut.l0, if_neg (by omega)]) (Ev.step (fun k => by rw [columbariumkeep_Cut.j3, if_neg Bool.false_ne_true]) h)⟩
theorem cut_kids0 (a0 a2 a3 : Int) (a1 a4 : ByteArray) (s : List ByteArray) (l : List S25) : Ev (fun k => columbariumkeep_Cut.l1 k 0 [] 0 a0 a1 a2 a3 a4 s l) (a0, a1, a2, a3, a4, s, []) := by
  refine Ev.step (f := fun _ => some (a0, a1, a2, a3, a4, s, [])) (fun k => ?_) (Ev.now _)
  rw [columbariumkeep_Cut.l1]
  split
  · rw [if_pos (by decide), if_neg (by decide)]
  · rfl
theorem cut_kids {d : Nat} (hd : d < 1000) (ihd : ∀ x : S25, ∃ y : S25, Ev (fun k => columbariumkeep_Cut.f k x.f0 x.f1 x.f2 x.f3 x.f4 x.f5 x.f6 (d : Int)) (tp y) ∧ Slim y ∧ cnt y ≤ cutB d) (a0 a2 a3 : Int) (a1 a4 : ByteArray) (s : List ByteArray) (l : List S25) (m : Nat) :
    ∀ (i : Nat) (acc : List S25), 4 - i = m → i ≤ 4 → acc.length = i → (∀ y ∈ acc, Slim y) → cntL acc ≤ i * cutB d →
    ∃ K : List S25, (∀ y ∈ K, Slim y) ∧ cntL K ≤ 4 * cutB d ∧ Ev (fun k => columbariumkeep_Cut.l1 k ((d + 1 : Nat) : Int) acc (i : Int) a0 a1 a2 a3 a4 s l) (a0, a1, a2, a3, a4, s, K) := by
  induction m with
  | zero =>
    intro i acc hm hi ha hg hc
    have e : i = 4 := by omega
    subst e
    refine ⟨acc, hg, hc, Ev.step (f := fun _ => some (a0, a1, a2, a3, a4, s, acc)) (fun k => ?_) (Ev.now _)⟩
    rw [columbariumkeep_Cut.l1]
    split
    · rw [if_neg (by omega)]
    · rfl
  | succ m ih =>
    intro i acc hm hi ha hg hc
    by_cases hl : i < l.length
    · obtain ⟨y, hy, hgy, hcy⟩ := ihd (l[i])
      have hmul : (i + 1) * cutB d = i * cutB d + cutB d := Nat.succ_mul _ _
      obtain ⟨K, hK, hKc, he⟩ := ih (i + 1) (acc ++ [y]) (by omega) (by omega) (by simp [ha]) (fun z hz => (List.mem_append.1 hz).elim (hg z) (fun h => by rw [List.mem_singleton.1 h]; exact hgy)) (by rw [cntL_append, cntL, cntL]; omega)
      refine ⟨K, hK, hKc, ?_⟩
      refine Ev.step (fun k => by rw [columbariumkeep_Cut.l1, if_pos (by omega), if_pos (by omega), if_pos (by omega), if_pos (by omega), rd25 l i hl, show wrap64 (((d + 1 : Nat) : Int) - 1) = (d : Int) by rw [w64 (by omega) (by omega)]; omega]) (Ev.bind hy ?_)
      refine Ev.congr (fun k => ?_) he
      rw [if_pos (by omega), succ64 (by omega), tp_mk]
    · refine ⟨acc, hg, ?_, Ev.step (f := fun _ => some (a0, a1, a2, a3, a4, s, acc)) (fun k => by rw [columbariumkeep_Cut.l1, if_neg (by omega)]) (Ev.now _)⟩
      exact Nat.le_trans hc (Nat.mul_le_mul_right _ hi)
theorem cut_head (x : S25) (d : Int) {r : S25 → Prop} (h : ∀ a1 a4 : ByteArray, ∃ y : S25, Ev (fun k => columbariumkeep_Cut.j1 k d x.f0 a1 x.f2 x.f3 a4 x.f5 x.f6) (tp y) ∧ r y) : ∃ y : S25, Ev (fun k => columbariumkeep_Cut.f k x.f0 x.f1 x.f2 x.f3 x.f4 x.f5 x.f6 d) (tp y) ∧ r y := by
  have h0 : ∀ a1 : ByteArray, ∃ y : S25, Ev (fun k => columbariumkeep_Cut.j0 k d x.f0 a1 x.f2 x.f3 x.f4 x.f5 x.f6) (tp y) ∧ r y := by
    intro a1
    by_cases hs : x.f4.size > 41
    · obtain ⟨y, hy, hr⟩ := h a1 (x.f4.extract 0 41)
      exact ⟨y, Ev.step (fun k => by rw [columbariumkeep_Cut.j0, if_pos (by omega), if_pos (by omega), if_pos (by omega)]) hy, hr⟩
    · obtain ⟨y, hy, hr⟩ := h a1 x.f4
      exact ⟨y, Ev.step (fun k => by rw [columbariumkeep_Cut.j0, if_neg (by omega)]) hy, hr⟩
  by_cases hs : x.f1.size > 20
  · obtain ⟨y, hy, hr⟩ := h0 (x.f1.extract 0 20)
    exact ⟨y, Ev.step (fun k => by rw [columbariumkeep_Cut.f, if_pos (by omega), if_pos (by omega), if_pos (by omega)]) hy, hr⟩
  · obtain ⟨y, hy, hr⟩ := h0 x.f1
    exact ⟨y, Ev.step (fun k => by rw [columbariumkeep_Cut.f, if_neg (by omega)]) hy, hr⟩
theorem cut_ev (d : Nat) (hd : d < 1000) : ∀ x : S25, ∃ y : S25, Ev (fun k => columbariumkeep_Cut.f k x.f0 x.f1 x.f2 x.f3 x.f4 x.f5 x.f6 (d : Int)) (tp y) ∧ Slim y ∧ cnt y ≤ cutB d := by
  induction d with
  | zero =>
    intro x
    refine cut_head x ((0 : Nat) : Int) fun a1 a4 => ?_
    obtain ⟨S, hS, hr⟩ := cut_set ((0 : Nat) : Int) x.f0 x.f2 x.f3 a1 a4 x.f5 x.f6 _ 0 [] rfl (by omega) rfl
    exact ⟨⟨x.f0, a1, x.f2, x.f3, a4, S, []⟩, Ev.step (fun k => by rw [columbariumkeep_Cut.j1]; rfl) (hr _ (cut_kids0 _ _ _ _ _ _ _)), ⟨hS, fun y hy => absurd hy List.not_mem_nil⟩, by rw [cnt_eq]; simp [cntL, cutB]⟩
  | succ d ih =>
    intro x
    refine cut_head x ((d + 1 : Nat) : Int) fun a1 a4 => ?_
    obtain ⟨S, hS, hr⟩ := cut_set ((d + 1 : Nat) : Int) x.f0 x.f2 x.f3 a1 a4 x.f5 x.f6 _ 0 [] rfl (by omega) rfl
    obtain ⟨K, hK, hKc, he⟩ := cut_kids (by omega) (ih (by omega)) x.f0 x.f2 x.f3 a1 a4 S x.f6 _ 0 [] rfl (by omega) rfl (fun y hy => absurd hy List.not_mem_nil) (by simp [cntL])
    refine ⟨⟨x.f0, a1, x.f2, x.f3, a4, S, K⟩, Ev.step (fun k => by rw [columbariumkeep_Cut.j1]; rfl) (hr _ he), ⟨hS, hK⟩, ?_⟩
    rw [cnt_eq, cutB]
    simp only
    omega

/-! ### Tame -/
theorem tame_l (Y : List ByteArray) (hY : Y.length = 4) (a b t s : Int) (l : List S52) (m : Nat) : ∀ (i : Nat) (acc : List S52), 4 - i = m → i ≤ 4 → acc.length ≤ i →
    ∃ L : List S52, L.length ≤ 4 ∧ Ev (fun k => columbariumkeep_Tame.l0 k Y (Y.length : Int) (i : Int) a b l t s acc) (t, s, L) := by
  induction m with
  | zero =>
    intro i acc hm hi ha
    exact ⟨acc, by omega, Ev.step (f := fun _ => some (t, s, acc)) (fun k => by rw [columbariumkeep_Tame.l0, if_neg (by omega)]) (Ev.now _)⟩
  | succ m ih =>
    intro i acc hm hi ha
    by_cases hl : i < l.length
    · have go : ∀ c : S52, ∃ L : List S52, L.length ≤ 4 ∧ Ev (fun k => columbariumkeep_Tame.l0 k Y (Y.length : Int) ((i + 1 : Nat) : Int) a b l t s (acc ++ [c])) (t, s, L) := fun c => ih (i + 1) (acc ++ [c]) (by omega) (by omega) (by simp; omega)
      by_cases h0 : (rd_T52 l (i : Int)).f1 = 0
      · obtain ⟨L, hL, he⟩ := ih (i + 1) acc (by omega) (by omega) (by omega)
        exact ⟨L, hL, Ev.step (fun k => by rw [columbariumkeep_Tame.l0, if_pos (by omega), if_pos (by omega), if_pos (by omega), if_neg (by omega), if_pos (by omega), if_pos h0, succ64 (by omega)]) he⟩
      · by_cases h2 : i < 2
        · obtain ⟨L, hL, he⟩ := go ⟨rdOf ByteArray.empty Y (i : Int), 1, Int.tmod ((rd_T52 l (i : Int)).f2) 10, ⟨#[]⟩⟩
          exact ⟨L, hL, Ev.step (fun k => by rw [columbariumkeep_Tame.l0, if_pos (by omega), if_pos (by omega), if_pos (by omega), if_neg (by omega), if_pos (by omega), if_neg h0, if_pos (by omega), columbariumkeep_Num.f, Option.bind_some, if_pos (by omega), succ64 (by omega)]) he⟩
        · by_cases h3 : ((rd_T52 l (i : Int)).f3).size > 3
          · obtain ⟨L, hL, he⟩ := go ⟨rdOf ByteArray.empty Y (i : Int), 2, 0, ((rd_T52 l (i : Int)).f3).extract 0 3⟩
            exact ⟨L, hL, Ev.step (fun k => by rw [columbariumkeep_Tame.l0, if_pos (by omega), if_pos (by omega), if_pos (by omega), if_neg (by omega), if_pos (by omega), if_neg h0, if_neg (by omega), if_pos (by omega), if_pos (by omega), if_pos (by omega), columbariumkeep_Str.f, Option.bind_some, if_pos (by omega), succ64 (by omega)]) he⟩
          · obtain ⟨L, hL, he⟩ := go ⟨rdOf ByteArray.empty Y (i : Int), 2, 0, (rd_T52 l (i : Int)).f3⟩
            exact ⟨L, hL, Ev.step (fun k => by rw [columbariumkeep_Tame.l0, if_pos (by omega), if_pos (by omega), if_pos (by omega), if_neg (by omega), if_pos (by omega), if_neg h0, if_neg (by omega), if_neg (by omega), columbariumkeep_Str.f, Option.bind_some, if_pos (by omega), succ64 (by omega)]) he⟩
    · exact ⟨acc, by omega, Ev.step (f := fun _ => some (t, s, acc)) (fun k => by rw [columbariumkeep_Tame.l0, if_pos (by omega), if_pos (by omega), if_pos (by omega), if_pos (by omega)]) (Ev.now _)⟩
/-- A tamed row: some row with few cells. -/
theorem tame_at (a b s : Int) (l : List S52) : ∃ L : List S52, L.length ≤ 4 ∧ Ev (fun k => columbariumkeep_Tame.f k a b l s) (Int.tmod a 100, s, L) := by
  obtain ⟨L, hL, he⟩ := tame_l [⟨#[97]⟩, ⟨#[98]⟩, ⟨#[115]⟩, ⟨#[116]⟩] rfl a b (Int.tmod a 100) s l _ 0 [] rfl (by omega) (by simp)
  exact ⟨L, hL, Ev.congr (fun k => by rw [columbariumkeep_Tame.f, Option.bind_some]; rfl) he⟩
theorem tame_ev (a b s : Int) (l : List S52) : ∃ (t : Int) (L : List S52), L.length ≤ 4 ∧ Ev (fun k => columbariumkeep_Tame.f k a b l s) (t, s, L) := by
  obtain ⟨L, hL, he⟩ := tame_at a b s l
  exact ⟨_, L, hL, he⟩

/-! ### Eval -/
theorem rowCell_l (s : ByteArray) (l : List S52) (hl : l.length < 1000000) (m : Nat) : ∀ i : Nat, l.length - i = m → i ≤ l.length → ∃ c, Ev (fun k => row_Cell.l0 k s l (l.length : Int) (i : Int)) c := by
  induction m with
  | zero => exact fun i hm hi => ⟨_, Ev.step (f := fun _ => some _) (fun k => by rw [row_Cell.l0, if_neg (by omega)]) (Ev.now _)⟩
  | succ m ih =>
    intro i hm hi
    by_cases h : ((rd_T52 l (i : Int)).f0).toList = s.toList
    · exact ⟨_, Ev.step (f := fun _ => some _) (fun k => by rw [row_Cell.l0, if_pos (by omega), if_pos (by omega), if_pos (by omega), if_pos h]) (Ev.now _)⟩
    · obtain ⟨c, hc⟩ := ih (i + 1) (by omega) (by omega)
      exact ⟨c, Ev.step (fun k => by rw [row_Cell.l0, if_pos (by omega), if_pos (by omega), if_pos (by omega), if_neg h, succ64 (by omega)]) hc⟩
theorem rowCell_ev (a b : Int) (l : List S52) (s : ByteArray) (hl : l.length < 1000000) : ∃ c, Ev (fun k => row_Cell.f k a b l s) c := by
  obtain ⟨c, hc⟩ := rowCell_l s l hl _ 0 rfl (Nat.zero_le _)
  exact ⟨c, Ev.congr (fun k => by rw [row_Cell.f]; rfl) hc⟩
theorem index_l (d : List ByteArray) (s : ByteArray) (hl : d.length < 1000) (m : Nat) : ∀ i : Nat, d.length - i = m → i ≤ d.length → ∃ c, Ev (fun k => slices_Index_string_string.l0 k d s (d.length : Int) (i : Int)) c := by
  induction m with
  | zero => exact fun i hm hi => ⟨_, Ev.step (f := fun _ => some _) (fun k => by rw [slices_Index_string_string.l0, if_neg (by omega)]) (Ev.now _)⟩
  | succ m ih =>
    intro i hm hi
    by_cases h : s.toList = (rdOf ByteArray.empty d (i : Int)).toList
    · exact ⟨_, Ev.step (f := fun _ => some _) (fun k => by rw [slices_Index_string_string.l0, if_pos (by omega), if_pos (by omega), if_pos (by omega), if_pos h]) (Ev.now _)⟩
    · obtain ⟨c, hc⟩ := ih (i + 1) (by omega) (by omega)
      exact ⟨c, Ev.step (fun k => by rw [slices_Index_string_string.l0, if_pos (by omega), if_pos (by omega), if_pos (by omega), if_neg h, succ64 (by omega)]) hc⟩
theorem contains_ev (d : List ByteArray) (s : ByteArray) (hl : d.length < 1000) : ∃ b, Ev (fun k => slices_Contains_string_string.f k d s) b := by
  obtain ⟨c, hc⟩ := index_l d s hl _ 0 rfl (Nat.zero_le _)
  exact ⟨_, Ev.congr (fun k => by rw [slices_Contains_string_string.f, slices_Index_string_string.f]; rfl) (Ev.bind hc (Ev.now _))⟩
theorem prefix_ev (a b : ByteArray) : ∃ r, Ev (fun _ => strings_HasPrefix.f a b) r := by
  by_cases h : (a.size : Int) ≥ (b.size : Int)
  · exact ⟨_, Ev.congr (f := fun _ => some _) (fun k => by rw [strings_HasPrefix.f, stringslite_HasPrefix.f, if_pos h, if_pos (by omega), if_pos (by omega), Option.bind_some]) (Ev.now _)⟩
  · exact ⟨_, Ev.congr (f := fun _ => some _) (fun k => by rw [strings_HasPrefix.f, stringslite_HasPrefix.f, if_neg h, Option.bind_some]) (Ev.now _)⟩
theorem cell_ev (x : S25) (hg : Slim x) (c0 : ByteArray) (c1 c2 : Int) (c3 : ByteArray) : ∃ b, Ev (fun k => pred_Cell.f k x.f0 x.f1 x.f2 x.f3 x.f4 x.f5 x.f6 c0 c1 c2 c3) b := by
  have hs := hg.set
  simp only [pred_Cell.f]
  by_cases h4 : x.f0 = 4
  · simp only [if_pos h4]
    split <;> exact ⟨_, Ev.now _⟩
  simp only [if_neg h4]
  by_cases h5 : x.f0 = 5
  · simp only [if_pos h5]
    split <;> exact ⟨_, Ev.now _⟩
  simp only [if_neg h5]
  by_cases h6 : x.f0 = 6
  · simp only [if_pos h6]
    split <;> exact ⟨_, Ev.now _⟩
  simp only [if_neg h6]
  by_cases h7 : x.f0 = 7
  · simp only [if_pos h7]
    split
    · obtain ⟨b, hb⟩ := contains_ev x.f5 c3 (by omega)
      exact ⟨b, Ev.bind hb (Ev.now _)⟩
    · exact ⟨_, Ev.now _⟩
  simp only [if_neg h7]
  by_cases h8 : x.f0 = 8
  · simp only [if_pos h8]
    split
    · obtain ⟨b, hb⟩ := prefix_ev c3 x.f4
      exact ⟨b, Ev.bind hb (Ev.now _)⟩
    · exact ⟨_, Ev.now _⟩
  simp only [if_neg h8]
  split <;> exact ⟨_, Ev.now _⟩
/-- Eval, at a tree. -/
def evF (k : Nat) (x : S25) (t : Int × Int × List S52) : Option Bool := pred_Eval.f k x.f0 x.f1 x.f2 x.f3 x.f4 x.f5 x.f6 t.1 t.2.1 t.2.2
theorem evF_mono (x : S25) (t : Int × Int × List S52) : ∀ k, LeO (evF k x t) (evF (k + 1) x t) := pred_Eval.mono _ _ _ _ _ _ _ _ _ _
/-- What a part without kids is true of. -/
noncomputable def lf (t : Int × Int × List S52) (x : S25) : Bool := @decide (∃ k, evF k x t = some true) (Classical.propDecidable _)
theorem lf_of {t : Int × Int × List S52} {x : S25} {b : Bool} (h : Ev (fun k => evF k x t) b) : lf t x = b := by
  unfold lf
  cases b with
  | true => exact @decide_eq_true _ (Classical.propDecidable _) h.rounds
  | false =>
    refine @decide_eq_false _ (Classical.propDecidable _) fun ⟨k, hk⟩ => ?_
    exact absurd (Ev_one h (Ev.of (evF_mono x t) hk)) (by decide)
theorem any_ev {g : Nat → S25 → Option Bool} {p : S25 → Bool} : ∀ (l : List S25), (∀ y ∈ l, Ev (fun k => g k y) (p y)) → Ev (fun k => pred_any (g k) l) (l.any p)
  | [], _ => Ev.congr (f := fun _ => some false) (fun k => by rw [pred_any]) (Ev.now false)
  | x :: r, h => by
    refine Ev.congr (fun k => by rw [pred_any]) (Ev.bind (h x List.mem_cons_self) ?_)
    rw [List.any_cons]
    cases p x with
    | true => exact Ev.now _
    | false => exact any_ev r (fun y hy => h y (List.mem_cons_of_mem _ hy))
theorem map_ev {g : Nat → Option Bool} {b : Bool} (h : Ev g b) : Ev (fun k => (g k).map (!·)) (!b) := by
  obtain ⟨K, h⟩ := h
  exact ⟨K, fun k hk => by simp only [h k hk, Option.map_some]⟩
mutual
/-- What a predicate is true of. -/
noncomputable def ev (t : Int × Int × List S52) : S25 → Bool
  | ⟨a0, a1, a2, a3, a4, s, l⟩ => if a0 = 1 then evA t l else if a0 = 2 then evO t l else if a0 = 3 then evN t l else lf t ⟨a0, a1, a2, a3, a4, s, l⟩
noncomputable def evA (t : Int × Int × List S52) : List S25 → Bool
  | [] => true
  | x :: r => ev t x && evA t r
noncomputable def evO (t : Int × Int × List S52) : List S25 → Bool
  | [] => false
  | x :: r => ev t x || evO t r
noncomputable def evN (t : Int × Int × List S52) : List S25 → Bool
  | [] => false
  | x :: _ => !ev t x
end
theorem ev_eq (t : Int × Int × List S52) (x : S25) : ev t x = if x.f0 = 1 then evA t x.f6 else if x.f0 = 2 then evO t x.f6 else if x.f0 = 3 then evN t x.f6 else lf t x := by cases x; rw [ev]
theorem evA_all (t : Int × Int × List S52) (l : List S25) : evA t l = !l.any (fun y => !ev t y) := by
  induction l with
  | nil => simp [evA]
  | cons x l ih => rw [evA, ih, List.any_cons]; cases ev t x <;> simp
theorem evO_any (t : Int × Int × List S52) (l : List S25) : evO t l = l.any (ev t) := by
  induction l with
  | nil => simp [evO]
  | cons x l ih => rw [evO, ih, List.any_cons]
theorem eval_big (t : Int × Int × List S52) (ht : t.2.2.length < 1000000) : ∀ x : S25, Slim x → cnt x < 1000000 → Ev (fun k => evF k x t) (ev t x) := by
  refine tree_ind fun x ih hg hc => ?_
  have hl : x.f6.length < 1000000 := by have := cntL_len x.f6; rw [cnt_eq] at hc; omega
  have ih' : ∀ y ∈ x.f6, Ev (fun k => evF k y t) (ev t y) := fun y hy => ih y hy (hg.kids y hy) (by have := cntL_mem hy; rw [cnt_eq] at hc; omega)
  rw [ev_eq]
  by_cases h1 : x.f0 = 1
  · rw [if_pos h1, evA_all]
    exact Ev.step (fun k => by rw [evF, pred_Eval.f, if_pos h1, if_pos (by omega)]; rfl) (map_ev (any_ev (g := fun k y => (evF k y t).map (!·)) x.f6 (fun y hy => map_ev (ih' y hy))))
  rw [if_neg h1]
  by_cases h2 : x.f0 = 2
  · rw [if_pos h2, evO_any]
    exact Ev.step (fun k => by rw [evF, pred_Eval.f, if_neg h1, if_pos h2, if_pos (by omega)]; rfl) (any_ev (g := fun k y => evF k y t) x.f6 ih')
  rw [if_neg h2]
  by_cases h3 : x.f0 = 3
  · rw [if_pos h3]
    cases hk : x.f6 with
    | nil => exact Ev.step (f := fun _ => some false) (fun k => by rw [evF, pred_Eval.f, if_neg h1, if_neg h2, if_pos h3, if_neg (by rw [hk]; simp)]) (by rw [evN]; exact Ev.now _)
    | cons y r =>
      rw [evN]
      exact Ev.step (fun k => by rw [evF, pred_Eval.f, if_neg h1, if_neg h2, if_pos h3, if_pos (by rw [hk]; simp), hk, rd25_0]; rfl) (map_ev (ih' y (by rw [hk]; exact List.mem_cons_self)))
  rw [if_neg h3]
  have hb : ∃ b, Ev (fun k => evF k x t) b := by
    by_cases h10 : x.f0 = 10
    · by_cases hm : x.f2 ≤ t.1
      · exact ⟨_, Ev.step (f := fun _ => some _) (fun k => by rw [evF, pred_Eval.f, if_neg h1, if_neg h2, if_neg h3, if_pos h10, if_pos hm]) (Ev.now _)⟩
      · exact ⟨_, Ev.step (f := fun _ => some _) (fun k => by rw [evF, pred_Eval.f, if_neg h1, if_neg h2, if_neg h3, if_pos h10, if_neg hm]) (Ev.now _)⟩
    · obtain ⟨c, hc⟩ := rowCell_ev t.1 t.2.1 t.2.2 x.f1 (by omega)
      obtain ⟨b, hb⟩ := cell_ev x hg c.1 c.2.1 c.2.2.1 c.2.2.2
      exact ⟨b, Ev.step (fun k => by rw [evF, pred_Eval.f, if_neg h1, if_neg h2, if_neg h3, if_neg h10]) (Ev.bind hc hb)⟩
  obtain ⟨b, hb⟩ := hb
  rw [lf_of hb]
  exact hb
end Go.Proofs.Ytalpcnomfebdiaa.QPredRules
