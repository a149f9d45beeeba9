/- Predicates as trees: how many parts, which may be, copies, sameness, as printed for PredRules. -/
import Derived.Test.YtalpcnomfebdiaaTPredTreePredRules
namespace Go.Proofs.Ytalpcnomfebdiaa.QPredRules
open Go.RowKit Go.Proofs.YtalpcnomfebdiaaW.PrintWords Go.Proofs.YtalpcnomfebdiaaW.PrintLast Go.Proofs.YtalpcnomfebdiaaW.PrintMore Go.Proofs.Ytalpcnomfebdiaa.Base
set_option linter.unusedVariables false
set_option linter.unusedSimpArgs false

theorem cnt_kid {x y : S25} (h : y ∈ x.f6) {n : Nat} (hc : cnt x < n) : cnt y < n := by
  have := cntL_mem h; rw [cnt_eq] at hc; omega
theorem cnt_len {x : S25} {n : Nat} (hc : cnt x < n) : x.f6.length < n := by
  have := cntL_len x.f6; rw [cnt_eq] at hc; omega
theorem drop_at {l : List S25} {i : Nat} (h : i < l.length) : l.drop i = l[i] :: l.drop (i + 1) := List.drop_eq_getElem_cons h

/-! ### Size -/
theorem size_l {l : List S25} (hl : cntL l < 1000000) (ih : ∀ y ∈ l, Ev (fun k => pred_Size.f k y.f0 y.f1 y.f2 y.f3 y.f4 y.f5 y.f6) (cnt y : Int)) (m : Nat) :
    ∀ (i s : Nat), l.length - i = m → i ≤ l.length → s + cntL (l.drop i) < 2000000 → Ev (fun k => pred_Size.l0 k (s : Int) l (l.length : Int) (i : Int)) ((s + cntL (l.drop i) : Nat) : Int) := by
  have hlen := cntL_len l
  induction m with
  | zero =>
    intro i s hm hi hs
    rw [List.drop_eq_nil_of_le (by omega), cntL, Nat.add_zero]
    exact Ev.step (f := fun _ => some (s : Int)) (fun k => by rw [pred_Size.l0, if_neg (by omega)]) (Ev.now _)
  | succ m ihm =>
    intro i s hm hi hs
    have h : i < l.length := by omega
    rw [drop_at h, cntL] at hs ⊢
    refine Ev.step (fun k => by rw [pred_Size.l0, if_pos (by omega), if_pos (by omega), if_pos (by omega), rd25 l i h]) (Ev.bind (ih _ (List.getElem_mem h)) ?_)
    have e : wrap64 ((s : Int) + ((cnt l[i] : Nat) : Int)) = ((s + cnt l[i] : Nat) : Int) := by
      rw [w64 (by omega) (by omega)]; omega
    refine Ev.congr (fun k => by rw [e, succ64 (by omega)]) ?_
    have := ihm (i + 1) (s + cnt l[i]) (by omega) (by omega) (by omega)
    rw [Nat.add_assoc] at this
    exact this
theorem size_ev : ∀ x : S25, cnt x < 1000000 → Ev (fun k => pred_Size.f k x.f0 x.f1 x.f2 x.f3 x.f4 x.f5 x.f6) (cnt x : Int) := by
  refine tree_ind fun x ih hc => ?_
  have hL : cntL x.f6 < 1000000 := by rw [cnt_eq] at hc; omega
  have := size_l hL (fun y hy => ih y hy (cnt_kid hy hc)) _ 0 1 rfl (Nat.zero_le _) (by rw [List.drop_zero]; omega)
  rw [List.drop_zero, ← cnt_eq] at this
  exact Ev.step (fun k => by rw [pred_Size.f]; rfl) this

/-! ### part, parts, Right -/
theorem bare_ev (x : S25) : ∃ t : Int × ByteArray × Int × Int × ByteArray × List ByteArray × List S25, Ev (fun k => pred_bare.f k x.f0 x.f1 x.f2 x.f3 x.f4 x.f5 x.f6) t ∧ (t.1 ≠ 0 → 0 < x.f0) := by
  have hj2 : ∀ b : Bool, (b = true → 0 < x.f0) → ∃ t : Int × ByteArray × Int × Int × ByteArray × List ByteArray × List S25, Ev (fun k => pred_bare.j2 k x.f0 b x.f0 x.f1 x.f2 x.f3 x.f4 x.f5 x.f6) t ∧ (t.1 ≠ 0 → 0 < x.f0) := by
    intro b hb
    cases b with
    | true => exact ⟨_, Ev.step (f := fun _ => some _) (fun k => by rw [pred_bare.j2, if_pos rfl]) (Ev.now _), fun _ => hb rfl⟩
    | false =>
      by_cases h7 : x.f0 = 7
      · exact ⟨_, Ev.step (f := fun _ => some _) (fun k => by rw [pred_bare.j2, if_neg Bool.false_ne_true, if_pos h7]) (Ev.now _), fun _ => by omega⟩
      by_cases h9 : x.f0 = 9
      · exact ⟨_, Ev.step (f := fun _ => some _) (fun k => by rw [pred_bare.j2, if_neg Bool.false_ne_true, if_neg h7, if_pos h9]) (Ev.now _), fun _ => by omega⟩
      by_cases h10 : x.f0 = 10
      · exact ⟨_, Ev.step (f := fun _ => some _) (fun k => by rw [pred_bare.j2, if_neg Bool.false_ne_true, if_neg h7, if_neg h9, if_pos h10]) (Ev.now _), fun _ => by omega⟩
      · exact ⟨_, Ev.step (f := fun _ => some (0, (⟨#[]⟩ : ByteArray), 0, 0, (⟨#[]⟩ : ByteArray), ([] : List ByteArray), ([] : List S25))) (fun k => by rw [pred_bare.j2, if_neg Bool.false_ne_true, if_neg h7, if_neg h9, if_neg h10]) (Ev.now _), fun h => absurd rfl h⟩
  have hj1 : ∀ b : Bool, (b = true → 0 < x.f0) → ∃ t : Int × ByteArray × Int × Int × ByteArray × List ByteArray × List S25, Ev (fun k => pred_bare.j1 k x.f0 b x.f0 x.f1 x.f2 x.f3 x.f4 x.f5 x.f6) t ∧ (t.1 ≠ 0 → 0 < x.f0) := by
    intro b hb
    cases b with
    | true => exact ⟨_, Ev.step (f := fun _ => some _) (fun k => by rw [pred_bare.j1, if_pos rfl]) (Ev.now _), fun _ => hb rfl⟩
    | false =>
      by_cases h6 : x.f0 = 6
      · obtain ⟨t, ht, hz⟩ := hj2 (x.f0 == 6) (fun _ => by omega)
        exact ⟨t, Ev.step (fun k => by rw [pred_bare.j1, if_neg Bool.false_ne_true, if_pos h6]) ht, hz⟩
      · obtain ⟨t, ht, hz⟩ := hj2 (x.f0 == 8) (fun h => by have := beq_iff_eq.1 h; omega)
        exact ⟨t, Ev.step (fun k => by rw [pred_bare.j1, if_neg Bool.false_ne_true, if_neg h6]) ht, hz⟩
  have hj0 : ∀ b : Bool, (b = true → 0 < x.f0) → ∃ t : Int × ByteArray × Int × Int × ByteArray × List ByteArray × List S25, Ev (fun k => pred_bare.j0 k x.f0 b x.f0 x.f1 x.f2 x.f3 x.f4 x.f5 x.f6) t ∧ (t.1 ≠ 0 → 0 < x.f0) := by
    intro b hb
    cases b with
    | true => exact ⟨_, Ev.step (f := fun _ => some _) (fun k => by rw [pred_bare.j0, if_pos rfl]) (Ev.now _), fun _ => hb rfl⟩
    | false =>
      by_cases h6 : x.f0 = 4
      · obtain ⟨t, ht, hz⟩ := hj1 (x.f0 == 4) (fun _ => by omega)
        exact ⟨t, Ev.step (fun k => by rw [pred_bare.j0, if_neg Bool.false_ne_true, if_pos h6]) ht, hz⟩
      · obtain ⟨t, ht, hz⟩ := hj1 (x.f0 == 5) (fun h => by have := beq_iff_eq.1 h; omega)
        exact ⟨t, Ev.step (fun k => by rw [pred_bare.j0, if_neg Bool.false_ne_true, if_neg h6]) ht, hz⟩
  by_cases h1 : x.f0 = 1
  · obtain ⟨t, ht, hz⟩ := hj0 (x.f0 == 1) (fun _ => by omega)
    exact ⟨t, Ev.congr (fun k => by rw [pred_bare.f, if_pos h1]) ht, hz⟩
  by_cases h2 : x.f0 = 2
  · obtain ⟨t, ht, hz⟩ := hj0 (x.f0 == 2) (fun _ => by omega)
    exact ⟨t, Ev.congr (fun k => by rw [pred_bare.f, if_neg h1, if_pos h2]) ht, hz⟩
  · obtain ⟨t, ht, hz⟩ := hj0 (x.f0 == 3) (fun h => by have := beq_iff_eq.1 h; omega)
    exact ⟨t, Ev.congr (fun k => by rw [pred_bare.f, if_neg h1, if_neg h2]) ht, hz⟩
theorem name_l (s : ByteArray) (hs : s.size ≤ 12) (m : Nat) : ∀ i : Nat, s.size - i = m → i ≤ s.size → ∃ b, Ev (fun k => row_Name.l0 k s (s.size : Int) (i : Int)) b := by
  induction m with
  | zero => exact fun i hm hi => ⟨true, Ev.step (f := fun _ => some true) (fun k => by rw [row_Name.l0, if_neg (by omega)]) (Ev.now _)⟩
  | succ m ih =>
    intro i hm hi
    by_cases h1 : (bt s (i : Int)) < 97
    · exact ⟨false, Ev.step (f := fun _ => some false) (fun k => by rw [row_Name.l0, if_pos (by omega), if_pos (by omega), if_pos (by omega), if_pos h1]) (Ev.now _)⟩
    by_cases h2 : (bt s (i : Int)) > 122
    · exact ⟨false, Ev.step (f := fun _ => some false) (fun k => by rw [row_Name.l0, if_pos (by omega), if_pos (by omega), if_pos (by omega), if_neg h1, if_pos h2]) (Ev.now _)⟩
    · obtain ⟨b, hb⟩ := ih (i + 1) (by omega) (by omega)
      exact ⟨b, Ev.step (fun k => by rw [row_Name.l0, if_pos (by omega), if_pos (by omega), if_pos (by omega), if_neg h1, if_neg h2, succ64 (by omega)]) hb⟩
theorem name_ev (s : ByteArray) : ∃ b, Ev (fun k => row_Name.f k s) b ∧ (b = true → s.toList ≠ []) := by
  have hj : ∀ b : Bool, (b = false → s.size ≤ 12) → ∃ r, Ev (fun k => row_Name.j0 k s b) r ∧ (b = true → r = false) := by
    intro b hb
    cases b with
    | true => exact ⟨false, Ev.step (f := fun _ => some false) (fun k => by rw [row_Name.j0, if_pos rfl]) (Ev.now _), fun _ => rfl⟩
    | false =>
      obtain ⟨r, hr⟩ := name_l s (hb rfl) _ 0 rfl (Nat.zero_le _)
      exact ⟨r, Ev.step (fun k => by rw [row_Name.j0, if_neg Bool.false_ne_true]; rfl) hr, fun h => absurd h (by decide)⟩
  by_cases h : s.toList = ([] : List UInt8)
  · obtain ⟨r, hr, hf⟩ := hj true (fun h => absurd h (by decide))
    exact ⟨r, Ev.congr (fun k => by rw [row_Name.f, if_pos h]) hr, fun e => by rw [hf rfl] at e; exact absurd e (by decide)⟩
  · obtain ⟨r, hr, _⟩ := hj (decide ((s.size : Int) > 12)) (fun h => by have := of_decide_eq_false h; omega)
    exact ⟨r, Ev.congr (fun k => by rw [row_Name.f, if_neg h]) hr, fun _ => h⟩
theorem rising_l (d : List ByteArray) (hd : d.length < 1000) (m : Nat) : ∀ i : Nat, d.length - i = m → 0 < i → ∃ b, Ev (fun k => pred_rising.l0 k d (i : Int)) b := by
  induction m with
  | zero => exact fun i hm hi => ⟨true, Ev.step (f := fun _ => some true) (fun k => by rw [pred_rising.l0, if_neg (by omega)]) (Ev.now _)⟩
  | succ m ih =>
    intro i hm hi
    have e : wrap64 ((i : Int) - 1) = ((i - 1 : Nat) : Int) := by rw [w64 (by omega) (by omega)]; omega
    by_cases h : (Op.bytesLess ((rdOf ByteArray.empty d ((i - 1 : Nat) : Int)).toList) ((rdOf ByteArray.empty d (i : Int)).toList)) = true
    · obtain ⟨b, hb⟩ := ih (i + 1) (by omega) (by omega)
      exact ⟨b, Ev.step (fun k => by rw [pred_rising.l0, if_pos (by omega), e, if_pos (by omega), if_pos (by omega), if_pos (by omega), if_pos h, succ64 (by omega)]) hb⟩
    · exact ⟨false, Ev.step (f := fun _ => some false) (fun k => by rw [pred_rising.l0, if_pos (by omega), e, if_pos (by omega), if_pos (by omega), if_pos (by omega), if_neg h]) (Ev.now _)⟩
theorem texts_ev (l : List ByteArray) (hl : l.length < 1000) : ∃ b, Ev (fun _ => pred_texts.f l) b :=
  ⟨_, Ev.congr (f := fun _ => some _) (fun k => by rw [pred_texts.f, if_pos (by omega)]) (Ev.now _)⟩
/-- A part without kids names a column, or asks the time. -/
def Leaf (x : S25) : Prop := x.f0 ≠ 1 → x.f0 ≠ 2 → x.f0 ≠ 3 → x.f0 ≠ 10 → x.f1.toList ≠ []
theorem part_ev (x : S25) (hg : Slim x) : ∃ b, Ev (fun k => pred_part.f k x.f0 x.f1 x.f2 x.f3 x.f4 x.f5 x.f6) b ∧ (b = true → 0 < x.f0 ∧ (x.f0 = 3 → x.f6.length = 1) ∧ Leaf x) := by
  have hs := hg.set
  obtain ⟨t, ht, hz⟩ := bare_ev x
  have hj1 : ∀ b : Bool, (b = true → x.f0 = 1 ∨ x.f0 = 2 ∨ x.f0 = 10) → ∃ r, Ev (fun k => pred_part.j1 k x.f0 b x.f0 x.f1 x.f2 x.f3 x.f4 x.f5 x.f6) r ∧ (r = true → (x.f0 = 3 → x.f6.length = 1) ∧ Leaf x) := by
    intro b hb
    cases b with
    | true => exact ⟨true, Ev.step (f := fun _ => some true) (fun k => by rw [pred_part.j1, if_pos rfl]) (Ev.now _), fun _ => ⟨fun h => by have := hb rfl; omega, fun h1 h2 _ h4 => by have := hb rfl; omega⟩⟩
    | false =>
      by_cases h3 : x.f0 = 3
      · exact ⟨_, Ev.step (f := fun _ => some _) (fun k => by rw [pred_part.j1, if_neg Bool.false_ne_true, if_pos h3]) (Ev.now _), fun h => ⟨fun _ => by have := beq_iff_eq.1 h; omega, fun _ _ h' => absurd h3 h'⟩⟩
      · obtain ⟨b1, h1, hne⟩ := name_ev x.f1
        obtain ⟨b2, h2⟩ := texts_ev [x.f4] (by simp)
        obtain ⟨b3, hr⟩ := rising_l x.f5 (by omega) _ 1 rfl (by decide)
        have hr : Ev (fun k => pred_rising.l0 k x.f5 1) b3 := hr
        obtain ⟨b4, h4⟩ := texts_ev x.f5 (by omega)
        have : ∃ r, Ev (fun k => pred_part.j1 k x.f0 false x.f0 x.f1 x.f2 x.f3 x.f4 x.f5 x.f6) r ∧ (r = true → b1 = true) := by
          by_cases c1 : b1 = true
          · by_cases c2 : b2 = true
            · by_cases c3 : (x.f5.length : Int) ≤ 8
              · by_cases c4 : b3 = true
                · exact ⟨b4, Ev.step (fun k => by rw [pred_part.j1, if_neg Bool.false_ne_true, if_neg h3]) (Ev.bind h1 (Ev.congr (fun k => by rw [if_pos c1]) (Ev.bind h2 (Ev.congr (fun k => by rw [if_pos c2, if_pos c3, pred_rising.f]) (Ev.bind hr (Ev.congr (fun k => by rw [if_pos c4]) (Ev.bind h4 (Ev.now _)))))))), fun _ => c1⟩
                · exact ⟨false, Ev.step (fun k => by rw [pred_part.j1, if_neg Bool.false_ne_true, if_neg h3]) (Ev.bind h1 (Ev.congr (fun k => by rw [if_pos c1]) (Ev.bind h2 (Ev.congr (fun k => by rw [if_pos c2, if_pos c3, pred_rising.f]) (Ev.bind hr (Ev.congr (f := fun _ => some false) (fun k => by rw [if_neg c4]) (Ev.now _))))))), fun _ => c1⟩
              · exact ⟨false, Ev.step (fun k => by rw [pred_part.j1, if_neg Bool.false_ne_true, if_neg h3]) (Ev.bind h1 (Ev.congr (fun k => by rw [if_pos c1]) (Ev.bind h2 (Ev.congr (f := fun _ => some false) (fun k => by rw [if_pos c2, if_neg c3]) (Ev.now _))))), fun _ => c1⟩
            · exact ⟨false, Ev.step (fun k => by rw [pred_part.j1, if_neg Bool.false_ne_true, if_neg h3]) (Ev.bind h1 (Ev.congr (fun k => by rw [if_pos c1]) (Ev.bind h2 (Ev.congr (f := fun _ => some false) (fun k => by rw [if_neg c2]) (Ev.now _))))), fun _ => c1⟩
          · exact ⟨false, Ev.step (fun k => by rw [pred_part.j1, if_neg Bool.false_ne_true, if_neg h3]) (Ev.bind h1 (Ev.congr (f := fun _ => some false) (fun k => by rw [if_neg c1]) (Ev.now _))), fun h => absurd h (by decide)⟩
        obtain ⟨r, hr, hb1⟩ := this
        exact ⟨r, hr, fun e => ⟨fun h => absurd h h3, fun _ _ _ _ => hne (hb1 e)⟩⟩
  have hF : ∃ r, Ev (fun k => pred_part.j0 k true x.f0 x.f1 x.f2 x.f3 x.f4 x.f5 x.f6) r ∧ (r = true → False) := ⟨false, Ev.step (f := fun _ => some false) (fun k => by rw [pred_part.j0, if_pos rfl]) (Ev.now _), fun h => absurd h (by decide)⟩
  have hj0 : ∀ b : Bool, ∃ r, Ev (fun k => pred_part.j0 k b x.f0 x.f1 x.f2 x.f3 x.f4 x.f5 x.f6) r ∧ (r = true → (x.f0 = 3 → x.f6.length = 1) ∧ Leaf x) := by
    intro b
    cases b with
    | true => obtain ⟨r, hr, h⟩ := hF; exact ⟨r, hr, fun e => (h e).elim⟩
    | false =>
      by_cases h1 : x.f0 = 1
      · obtain ⟨r, hr, h⟩ := hj1 (x.f0 == 1) (fun _ => Or.inl h1)
        exact ⟨r, Ev.step (fun k => by rw [pred_part.j0, if_neg Bool.false_ne_true, if_pos h1]) hr, h⟩
      by_cases h2 : x.f0 = 2
      · obtain ⟨r, hr, h⟩ := hj1 (x.f0 == 2) (fun _ => Or.inr (Or.inl h2))
        exact ⟨r, Ev.step (fun k => by rw [pred_part.j0, if_neg Bool.false_ne_true, if_neg h1, if_pos h2]) hr, h⟩
      · obtain ⟨r, hr, h⟩ := hj1 (x.f0 == 10) (fun h => Or.inr (Or.inr (beq_iff_eq.1 h)))
        exact ⟨r, Ev.step (fun k => by rw [pred_part.j0, if_neg Bool.false_ne_true, if_neg h1, if_neg h2]) hr, h⟩
  obtain ⟨rF, hrF, hf⟩ := hF
  have toF : (∀ k, (fun bt134 : Int × ByteArray × Int × Int × ByteArray × List ByteArray × List S25 => (if bt134.1 = 0 then (pred_part.j0 k true x.f0 x.f1 x.f2 x.f3 x.f4 x.f5 x.f6) else (if bt134.2.1.toList = x.f1.toList then (if bt134.2.2.1 = x.f2 then (if bt134.2.2.2.1 = x.f3 then (if bt134.2.2.2.2.1.toList = x.f4.toList then (if (bt134.2.2.2.2.2.1.length : Int) = (x.f5.length : Int) then (pred_part.j0 k ((bt134.2.2.2.2.2.2.length : Int) != (x.f6.length : Int)) x.f0 x.f1 x.f2 x.f3 x.f4 x.f5 x.f6) else (pred_part.j0 k true x.f0 x.f1 x.f2 x.f3 x.f4 x.f5 x.f6)) else (pred_part.j0 k true x.f0 x.f1 x.f2 x.f3 x.f4 x.f5 x.f6)) else (pred_part.j0 k true x.f0 x.f1 x.f2 x.f3 x.f4 x.f5 x.f6)) else (pred_part.j0 k true x.f0 x.f1 x.f2 x.f3 x.f4 x.f5 x.f6)) else (pred_part.j0 k true x.f0 x.f1 x.f2 x.f3 x.f4 x.f5 x.f6)))) t = pred_part.j0 k true x.f0 x.f1 x.f2 x.f3 x.f4 x.f5 x.f6) → ∃ b, Ev (fun k => pred_part.f k x.f0 x.f1 x.f2 x.f3 x.f4 x.f5 x.f6) b ∧ (b = true → 0 < x.f0 ∧ (x.f0 = 3 → x.f6.length = 1) ∧ Leaf x) :=
    fun h => ⟨rF, Ev.bind ht (Ev.congr h hrF), fun e => (hf e).elim⟩
  by_cases c0 : t.1 = 0
  · exact toF (fun k => by simp only [if_pos c0])
  by_cases c1 : t.2.1.toList = x.f1.toList
  · by_cases c2 : t.2.2.1 = x.f2
    · by_cases c3 : t.2.2.2.1 = x.f3
      · by_cases c4 : t.2.2.2.2.1.toList = x.f4.toList
        · by_cases c5 : (t.2.2.2.2.2.1.length : Int) = (x.f5.length : Int)
          · obtain ⟨r, hr, h⟩ := hj0 ((t.2.2.2.2.2.2.length : Int) != (x.f6.length : Int))
            exact ⟨r, Ev.bind ht (Ev.congr (fun k => by rw [if_neg c0, if_pos c1, if_pos c2, if_pos c3, if_pos c4, if_pos c5]) hr), fun e => ⟨hz c0, h e⟩⟩
          · exact toF (fun k => by simp only [if_neg c0, if_pos c1, if_pos c2, if_pos c3, if_pos c4, if_neg c5])
        · exact toF (fun k => by simp only [if_neg c0, if_pos c1, if_pos c2, if_pos c3, if_neg c4])
      · exact toF (fun k => by simp only [if_neg c0, if_pos c1, if_pos c2, if_neg c3])
    · exact toF (fun k => by simp only [if_neg c0, if_pos c1, if_neg c2])
  · exact toF (fun k => by simp only [if_neg c0, if_neg c1])
/-- What 'parts' tells of a tree. -/
inductive RS : S25 → Prop where
  | mk {x : S25} (h0 : 0 < x.f0) (h3 : x.f0 = 3 → x.f6.length = 1) (hk : ∀ y ∈ x.f6, RS y) (hl : Leaf x) : RS x
theorem parts_l {d : Nat} (hd : d < 1000) {l : List S25} (hl : l.length < 1000000) (ih : ∀ y ∈ l, ∃ b, Ev (fun k => pred_parts.f k y.f0 y.f1 y.f2 y.f3 y.f4 y.f5 y.f6 (d : Int)) b ∧ (b = true → RS y)) (m : Nat) :
    ∀ i : Nat, l.length - i = m → i ≤ l.length → ∃ b, Ev (fun k => pred_parts.l0 k ((d + 1 : Nat) : Int) l (l.length : Int) (i : Int)) b ∧ (b = true → ∀ y ∈ l.drop i, RS y) := by
  induction m with
  | zero => exact fun i hm hi => ⟨true, Ev.step (f := fun _ => some true) (fun k => by rw [pred_parts.l0, if_neg (by omega)]) (Ev.now _), fun _ y hy => by rw [List.drop_eq_nil_of_le (by omega)] at hy; exact absurd hy List.not_mem_nil⟩
  | succ m ihm =>
    intro i hm hi
    have h : i < l.length := by omega
    obtain ⟨b, hb, hr⟩ := ih _ (List.getElem_mem h)
    have e : wrap64 (((d + 1 : Nat) : Int) - 1) = (d : Int) := by rw [w64 (by omega) (by omega)]; omega
    by_cases c : b = true
    · obtain ⟨b2, hb2, hr2⟩ := ihm (i + 1) (by omega) (by omega)
      refine ⟨b2, Ev.step (fun k => by rw [pred_parts.l0, if_pos (by omega), if_pos (by omega), if_pos (by omega), rd25 l i h, e]) (Ev.bind hb (Ev.congr (fun k => by rw [if_pos c, succ64 (by omega)]) hb2)), fun e y hy => ?_⟩
      rw [drop_at h] at hy
      rcases List.mem_cons.1 hy with rfl | hy
      · exact hr c
      · exact hr2 e y hy
    · exact ⟨false, Ev.step (fun k => by rw [pred_parts.l0, if_pos (by omega), if_pos (by omega), if_pos (by omega), rd25 l i h, e]) (Ev.bind hb (Ev.congr (f := fun _ => some false) (fun k => by rw [if_neg c]) (Ev.now _))), fun h => absurd h (by decide)⟩
theorem parts_ev (d : Nat) (hd : d < 1000) : ∀ x : S25, Slim x → cnt x < 1000000 → ∃ b, Ev (fun k => pred_parts.f k x.f0 x.f1 x.f2 x.f3 x.f4 x.f5 x.f6 (d : Int)) b ∧ (b = true → RS x) := by
  induction d with
  | zero =>
    intro x hg hc
    exact ⟨false, Ev.step (f := fun k => pred_parts.j0 k 0 true x.f0 x.f1 x.f2 x.f3 x.f4 x.f5 x.f6) (fun k => by rw [pred_parts.f, if_pos (by rfl)]; rfl) (Ev.step (f := fun _ => some false) (fun k => by rw [pred_parts.j0, if_pos rfl]) (Ev.now _)), fun h => absurd h (by decide)⟩
  | succ d ih =>
    intro x hg hc
    obtain ⟨b, hb, hp⟩ := part_ev x hg
    by_cases c : b = true
    · obtain ⟨r, hr, hk⟩ := parts_l (by omega) (cnt_len hc) (fun y hy => ih (by omega) y (hg.kids y hy) (cnt_kid hy hc)) _ 0 rfl (Nat.zero_le _)
      refine ⟨r, Ev.step (fun k => by rw [pred_parts.f, if_neg (by omega)]) (Ev.bind hb (Ev.step (fun k => by rw [c, pred_parts.j0, if_neg (by decide)]; rfl) hr)), fun e => ⟨(hp c).1, (hp c).2.1, hk e, (hp c).2.2⟩⟩
    · have c' : b = false := by cases b <;> simp_all
      exact ⟨false, Ev.step (fun k => by rw [pred_parts.f, if_neg (by omega)]) (Ev.bind hb (Ev.step (f := fun _ => some false) (fun k => by rw [c', pred_parts.j0, if_pos (by decide)]) (Ev.now _))), fun h => absurd h (by decide)⟩
theorem right_ev (x : S25) (hg : Slim x) (hc : cnt x < 1000000) : ∃ b, Ev (fun k => pred_Right.f k x.f0 x.f1 x.f2 x.f3 x.f4 x.f5 x.f6) b ∧ (b = true → RS x) := by
  obtain ⟨b, hb, hr⟩ := parts_ev 6 (by decide) x hg hc
  by_cases c : ((cnt x : Nat) : Int) ≤ 40
  · exact ⟨b, Ev.congr (fun k => by rw [pred_Right.f]) (Ev.bind (size_ev x hc) (Ev.congr (fun k => by rw [if_pos c]; rfl) (Ev.bind hb (Ev.now _)))), hr⟩
  · exact ⟨false, Ev.congr (fun k => by rw [pred_Right.f]) (Ev.bind (size_ev x hc) (Ev.congr (f := fun _ => some false) (fun k => by rw [if_neg c]) (Ev.now _))), fun h => absurd h (by decide)⟩

/-! ### Copy -/
/-! ### Same -/
end Go.Proofs.Ytalpcnomfebdiaa.QPredRules
