/- A closed sentence: chapter 9's runs, and one for each refusal. -/
import Derived.Test.YtifcocmmapgebaaTRefBloomBloomNumbers
namespace Go.Proofs.Ytifcocmmapgebaa.QBloomNumbers
open Go.RowKit Go.Proofs.YtifcocmmapgebaaW.PrintWords Go.Proofs.YtifcocmmapgebaaW.PrintLast Go.Proofs.YtifcocmmapgebaaW.PrintMore Go.Proofs.Ytifcocmmapgebaa.Base
set_option linter.unusedVariables false
set_option linter.unusedSimpArgs false

/-- One of the filters is held against the document's. -/
def oneF (k : Nat) (f : S26) : Option Bool := (bloom_Encode.f k f.f0 f.f1).bind fun a => (columbariumref9_Encode.f k f.f0 f.f1).bind fun b => (bloom_Right.f f.f0 f.f1).bind fun c => (columbariumref9_Right.f k f.f0 f.f1).bind fun d => (bloom_May.f k f.f0 f.f1 (⟨#[120]⟩ : ByteArray)).bind fun e => (columbariumref9_May.f k f.f0 f.f1 (⟨#[120]⟩ : ByteArray)).bind fun g =>
  some (c == d && decide ((strOfNums a.1).toList = (strOfNums b.1).toList) && decide (a.2 = b.2) && (e == g))
theorem oneF_mono (f : S26) (k : Nat) : LeO (oneF k f) (oneF (k + 1) f) := by
  unfold oneF
  exact LeO.bind (bloom_Encode.mono _ _ _) fun _ => LeO.bind (columbariumref9_Encode.mono _ _ _) fun _ => LeO.bind (LeO.refl _) fun _ => LeO.bind (columbariumref9_Right.mono _ _ _) fun _ => LeO.bind (bloom_May.mono _ _ _ _) fun _ => LeO.bind (columbariumref9_May.mono _ _ _ _) fun _ => LeO.refl _
theorem one_step {x : List S26} {i : Nat} (hi : i < x.length) (hl : x.length < 100) (h : Ev (fun k => oneF k (rd_T26 x (i : Int))) true) (r : Ev (fun k => columbariumlaw9_BloomNumbers.l1 k x (x.length : Int) ((i + 1 : Nat) : Int)) true) :
    Ev (fun k => columbariumlaw9_BloomNumbers.l1 k x (x.length : Int) (i : Int)) true := by
  obtain ⟨K1, h⟩ := h
  obtain ⟨K2, r⟩ := r
  refine ⟨max K1 K2 + 1, fun k hk => ?_⟩
  obtain ⟨k, rfl⟩ : ∃ m, k = m + 1 := ⟨k - 1, by omega⟩
  have h1 := h k (by omega)
  have h2 := r k (by omega)
  simp only [oneF] at h1
  obtain ⟨a, ea, h1⟩ := Option.bind_eq_some_iff.mp h1
  obtain ⟨b, eb, h1⟩ := Option.bind_eq_some_iff.mp h1
  obtain ⟨c, ec, h1⟩ := Option.bind_eq_some_iff.mp h1
  obtain ⟨d, ed, h1⟩ := Option.bind_eq_some_iff.mp h1
  obtain ⟨e, ee, h1⟩ := Option.bind_eq_some_iff.mp h1
  obtain ⟨g, eg, h1⟩ := Option.bind_eq_some_iff.mp h1
  have h3 := Option.some.inj h1
  rw [Bool.and_eq_true, Bool.and_eq_true, Bool.and_eq_true, beq_iff_eq, decide_eq_true_eq, decide_eq_true_eq, beq_iff_eq] at h3
  obtain ⟨⟨⟨p1, p2⟩, p3⟩, p4⟩ := h3
  show columbariumlaw9_BloomNumbers.l1 (k + 1) x (x.length : Int) (i : Int) = some true
  rw [columbariumlaw9_BloomNumbers.l1, if_pos (by omega), if_pos (by omega), if_pos (by omega), ea, Option.bind_some]
  simp only [columbariumlaw9_in.f, Option.bind_some]
  rw [eb, Option.bind_some, ec, Option.bind_some, ed, Option.bind_some, p1, if_neg (by cases d <;> decide), if_pos p2, if_pos p3, ee, Option.bind_some, eg, Option.bind_some, p4, if_neg (by cases g <;> decide), succ64 (by omega)]
  exact h2
/-- One of the bytes is read. -/
def oneB (k : Nat) (b : List Int) : Option Bool := (bloom_Decode.f k b 0).bind fun a => (columbariumref9_Decode.f k b 0).bind fun c => some (decide (a.1 = c.1) && decide ((strOfNums a.2.1).toList = (strOfNums c.2.1).toList) && decide (a.2.2.1 = c.2.2.1) && decide (a.2.2.2 = c.2.2.2))
theorem oneB_mono (b : List Int) (k : Nat) : LeO (oneB k b) (oneB (k + 1) b) := by
  unfold oneB
  exact LeO.bind (bloom_Decode.mono _ _ _) fun _ => LeO.bind (columbariumref9_Decode.mono _ _ _) fun _ => LeO.refl _
theorem byte_step {x : List (List Int)} {i : Nat} (hi : i < x.length) (hl : x.length < 100) (h : Ev (fun k => oneB k (rd_L4 x (i : Int))) true) (r : Ev (fun k => columbariumlaw9_BloomNumbers.l2 k x (x.length : Int) ((i + 1 : Nat) : Int)) true) :
    Ev (fun k => columbariumlaw9_BloomNumbers.l2 k x (x.length : Int) (i : Int)) true := by
  obtain ⟨K1, h⟩ := h
  obtain ⟨K2, r⟩ := r
  refine ⟨max K1 K2 + 1, fun k hk => ?_⟩
  obtain ⟨k, rfl⟩ : ∃ m, k = m + 1 := ⟨k - 1, by omega⟩
  have h1 := h k (by omega)
  have h2 := r k (by omega)
  simp only [oneB] at h1
  obtain ⟨a, ea, h1⟩ := Option.bind_eq_some_iff.mp h1
  obtain ⟨b, eb, h1⟩ := Option.bind_eq_some_iff.mp h1
  have h3 := Option.some.inj h1
  rw [Bool.and_eq_true, Bool.and_eq_true, Bool.and_eq_true, decide_eq_true_eq, decide_eq_true_eq, decide_eq_true_eq, decide_eq_true_eq] at h3
  obtain ⟨⟨⟨p1, p2⟩, p3⟩, p4⟩ := h3
  show columbariumlaw9_BloomNumbers.l2 (k + 1) x (x.length : Int) (i : Int) = some true
  rw [columbariumlaw9_BloomNumbers.l2, if_pos (by omega), if_pos (by omega), if_pos (by omega), ea, Option.bind_some, eb, Option.bind_some, if_pos p1, if_pos p2, if_pos p3, if_pos p4, succ64 (by omega)]
  exact h2
theorem of_one (f : S26) {k : Nat} (h : oneF k f = some true) : Ev (fun k => oneF k f) true := Ev.of (fun k => oneF_mono f k) h
theorem of_byte (b : List Int) {k : Nat} (h : oneB k b = some true) : Ev (fun k => oneB k b) true := Ev.of (fun k => oneB_mono b k) h
theorem right_len {L M : List Int} (h : L.length = M.length) (a : Int) : ∀ (k : Nat) (x : Int), columbariumref9_Right.l0 k x a L = columbariumref9_Right.l0 k x a M
  | 0, _ => rfl
  | k + 1, x => by rw [columbariumref9_Right.l0, columbariumref9_Right.l0, h, right_len h a k]
def zeros8192 : List Int := List.replicate 8192 0
theorem zeros8192_length : zeros8192.length = 8192 := List.length_replicate
set_option maxHeartbeats 4000000 in
theorem big_parts : bloom_Right.f 65536 zeros8192 = some true ∧ columbariumref9_Right.f 60 65536 zeros8192 = some true ∧ bloom_May.f 60 65536 zeros8192 (⟨#[120]⟩ : ByteArray) = some false ∧ columbariumref9_May.f 60 65536 zeros8192 (⟨#[120]⟩ : ByteArray) = some false := by
  refine ⟨?_, ?_, ?_, ?_⟩ <;> decide +kernel
theorem big_one : Ev (fun k => oneF k (⟨65536, List.replicate 8192 0⟩ : S26)) true := by
  refine Ev.of (fun k => oneF_mono _ k) (k := 60) ?_
  obtain ⟨h1, h2, h3, h4⟩ := big_parts
  have p1 : varint_Put.f 60 ([] : List Int) (IntKind.u64.wrap 65536) = some [128, 128, 4] := by decide +kernel
  have p2 : columbariumref1_Put.f 60 ([] : List Int) (IntKind.u64.wrap 65536) = some [128, 128, 4] := by decide +kernel
  have hl : ([128, 128, 4] : List Int).length + zeros8192.length < 140737488355328 := by rw [zeros8192_length]; decide
  have e1 : bloom_Encode.f 60 65536 zeros8192 = some ([128, 128, 4] ++ zeros8192, 0) := by
    rw [bloom_Encode.f, h1, Option.bind_some, if_pos rfl, p1, Option.bind_some, if_pos hl]
  have e2 : columbariumref9_Encode.f 60 65536 zeros8192 = some ([128, 128, 4] ++ zeros8192, 0) := by
    rw [columbariumref9_Encode.f, h2, Option.bind_some, if_pos rfl, p2, Option.bind_some, if_pos hl]
  show oneF 60 (⟨65536, zeros8192⟩ : S26) = some true
  generalize zeros8192 = L at *
  simp only [oneF]
  rw [e1, Option.bind_some, e2, Option.bind_some, h1, Option.bind_some, h2, Option.bind_some, h3, Option.bind_some, h4, Option.bind_some, decide_eq_true rfl, decide_eq_true rfl]
  rfl
theorem decode_none : Ev (fun k => bloom_Decode.f k ([] : List Int) (-1)) (0, [], 0, 1) := Ev.of (fun k => bloom_Decode.mono _ _ k) (k := 20) (by decide +kernel)
theorem bytes_end (x : List (List Int)) : Ev (fun k => columbariumlaw9_BloomNumbers.l2 k x (x.length : Int) (x.length : Int)) true := by
  refine Ev.step (fun k => by rw [columbariumlaw9_BloomNumbers.l2, if_neg (by omega)]) (Ev.bind decode_none ?_)
  exact Ev.congr (fun k => by rw [if_pos rfl]) (Ev.bind known_ev (Ev.now _))
theorem bytes_ev : Ev (fun k => columbariumlaw9_BloomNumbers.l2 k (([[], (([64] : List Int)), (([64, 1, 2, 3, 4, 5, 6, 7] : List Int)), (([64, 1, 2, 3, 4, 5, 6, 7, 8] : List Int)), (([96, 1, 2, 3] : List Int)), (([128, 1, 1, 2, 3] : List Int)), (([128, 128, 8] : List Int))] : List (List Int))) 7 0) true := by
  generalize hx : (([[], (([64] : List Int)), (([64, 1, 2, 3, 4, 5, 6, 7] : List Int)), (([64, 1, 2, 3, 4, 5, 6, 7, 8] : List Int)), (([96, 1, 2, 3] : List Int)), (([128, 1, 1, 2, 3] : List Int)), (([128, 128, 8] : List Int))] : List (List Int))) = x
  have hl : x.length = 7 := by rw [← hx]; rfl
  have h : ∀ i : Nat, i < 7 → Ev (fun k => oneB k (rd_L4 x (i : Int))) true := by
    intro i hi
    rw [← hx]
    match i, hi with
    | 0, _ => exact of_byte _ (k := 40) (by decide +kernel)
    | 1, _ => exact of_byte _ (k := 40) (by decide +kernel)
    | 2, _ => exact of_byte _ (k := 40) (by decide +kernel)
    | 3, _ => exact of_byte _ (k := 40) (by decide +kernel)
    | 4, _ => exact of_byte _ (k := 40) (by decide +kernel)
    | 5, _ => exact of_byte _ (k := 40) (by decide +kernel)
    | 6, _ => exact of_byte _ (k := 40) (by decide +kernel)
  have go : ∀ m i : Nat, x.length - i = m → i ≤ x.length → Ev (fun k => columbariumlaw9_BloomNumbers.l2 k x (x.length : Int) (i : Int)) true := by
    intro m
    induction m with
    | zero =>
      intro i hm hi
      obtain rfl : i = x.length := by omega
      exact bytes_end x
    | succ m ih =>
      intro i hm hi
      exact byte_step (by omega) (by omega) (h i (by omega)) (ih (i + 1) (by omega) (by omega))
  have e := go 7 0 (by omega) (by omega)
  rw [hl] at e
  exact e
theorem filters_end (x : List S26) : Ev (fun k => columbariumlaw9_BloomNumbers.l1 k x (x.length : Int) (x.length : Int)) true := by
  refine Ev.step (fun k => by rw [columbariumlaw9_BloomNumbers.l1, if_neg (by omega), Option.bind_some]; rfl) bytes_ev
set_option maxHeartbeats 4000000 in
theorem filters_ev : Ev (fun k => columbariumlaw9_BloomNumbers.l1 k (([(⟨0, ([] : List Int)⟩ : S26), (⟨64, ([] : List Int)⟩ : S26), (⟨64, (List.replicate 8 0)⟩ : S26), (⟨96, (List.replicate 12 0)⟩ : S26), (⟨32, (List.replicate 4 0)⟩ : S26), (⟨65536, (List.replicate 8192 0)⟩ : S26), (⟨131072, (List.replicate 16384 0)⟩ : S26), (⟨(-64), ([] : List Int)⟩ : S26)] : List (S26))) 8 0) true := by
  generalize hx : (([(⟨0, ([] : List Int)⟩ : S26), (⟨64, ([] : List Int)⟩ : S26), (⟨64, (List.replicate 8 0)⟩ : S26), (⟨96, (List.replicate 12 0)⟩ : S26), (⟨32, (List.replicate 4 0)⟩ : S26), (⟨65536, (List.replicate 8192 0)⟩ : S26), (⟨131072, (List.replicate 16384 0)⟩ : S26), (⟨(-64), ([] : List Int)⟩ : S26)] : List (S26))) = x
  have hl : x.length = 8 := by rw [← hx]; rfl
  have h : ∀ i : Nat, i < 8 → Ev (fun k => oneF k (rd_T26 x (i : Int))) true := by
    intro i hi
    rw [← hx]
    match i, hi with
    | 0, _ => exact of_one _ (k := 60) (by decide +kernel)
    | 1, _ => exact of_one _ (k := 60) (by decide +kernel)
    | 2, _ => exact of_one _ (k := 60) (by decide +kernel)
    | 3, _ => exact of_one _ (k := 60) (by decide +kernel)
    | 4, _ => exact of_one _ (k := 60) (by decide +kernel)
    | 5, _ => exact big_one
    | 6, _ => exact of_one _ (k := 60) (by decide +kernel)
    | 7, _ => exact of_one _ (k := 60) (by decide +kernel)
  have go : ∀ m i : Nat, x.length - i = m → i ≤ x.length → Ev (fun k => columbariumlaw9_BloomNumbers.l1 k x (x.length : Int) (i : Int)) true := by
    intro m
    induction m with
    | zero =>
      intro i hm hi
      obtain rfl : i = x.length := by omega
      exact filters_end x
    | succ m ih =>
      intro i hm hi
      exact one_step (by omega) (by omega) (h i (by omega)) (ih (i + 1) (by omega) (by omega))
  have e := go 8 0 (by omega) (by omega)
  rw [hl] at e
  exact e
theorem encode_le (i : Int) : (Utf8.encode i).size ≤ 4 := by
  unfold Utf8.encode
  simp only
  repeat' split
  all_goals simp [ByteArray.size]
theorem texts_ev (m : Nat) : ∀ (i : Nat) (l : List ByteArray), 100 - i = m → i ≤ 100 → l.length = i → (∀ s ∈ l, s.size ≤ 20) → Ev (fun k => columbariumlaw9_BloomNumbers.l0 k l (i : Int)) true := by
  induction m with
  | zero =>
    intro i l hm hi hl hs
    refine Ev.step (fun k => ?_) filters_ev
    rw [columbariumlaw9_BloomNumbers.l0, if_neg (by omega), if_pos (by decide), if_pos (by decide), if_pos (by decide), if_pos (by decide), if_pos (by decide), Option.bind_some]
    rfl
  | succ m ih =>
    intro i l hm hi hl hs
    obtain ⟨p, hp⟩ : ∃ p, p = Utf8.encode (wrap32 (wrap64 (97 + (Int.tmod (i : Int) 26)))) := ⟨_, rfl⟩
    obtain ⟨q, hq⟩ : ∃ q, q = Utf8.encode (wrap32 (wrap64 (97 + (wrap64 (Int.tdiv (i : Int) 26))))) := ⟨_, rfl⟩
    have h1 : p.size ≤ 4 := by rw [hp]; exact encode_le _
    have h2 : q.size ≤ 4 := by rw [hq]; exact encode_le _
    obtain ⟨L, hL⟩ : ∃ L, L = l ++ [((⟨#[116, 101, 120, 116, 32]⟩ : ByteArray) ++ p) ++ q] := ⟨_, rfl⟩
    have hp5 : ((⟨#[116, 101, 120, 116, 32]⟩ : ByteArray) ++ p).size = 5 + p.size := by rw [ByteArray.size_append]; rfl
    have hLs : ∀ s ∈ L, s.size ≤ 20 := by
      intro s h
      rw [hL] at h
      rcases List.mem_append.1 h with h | h
      · exact hs s h
      · rw [List.mem_singleton.1 h, ByteArray.size_append, hp5]
        omega
    have hLl : L.length = i + 1 := by rw [hL, List.length_append, hl]; rfl
    have hset : (dict_set L).length ≤ 128 := Nat.le_trans (set_length L) (by omega)
    have b1 := build_ev L (by omega) hset (fun s h => Nat.le_trans (hLs s h) (by decide))
    have b2 := rbuild9_ev L (by omega) hset (fun s h => Nat.le_trans (hLs s h) (by decide))
    refine Ev.step (f := fun k => (bloom_Build.f k L).bind fun a => (columbariumref9_Build.f k L).bind fun b => if a.1 = b.1 then (if (strOfNums a.2).toList = (strOfNums b.2).toList then (columbariumlaw9_BloomNumbers.l0 k L (wrap64 ((i : Int) + 1))) else (some false)) else (some false)) (fun k => ?_) (Ev.bind b1 (Ev.bind b2 (Ev.congr (fun k => by rw [if_pos rfl, if_pos rfl, succ64 (by omega)]) (ih (i + 1) L (by omega) (by omega) hLl hLs))))
    rw [columbariumlaw9_BloomNumbers.l0, if_pos (by omega), ← hp, ← hq, if_pos (by omega), if_pos (by rw [hp5]; omega), if_pos (by omega), Option.bind_some, ← hL]

end Go.Proofs.Ytifcocmmapgebaa.QBloomNumbers
namespace Go.Proofs.Ytifcocmmapgebaa.Pure
open Go.RowKit Go.Proofs.Ytifcocmmapgebaa.QBloomNumbers Go.Proofs.YtifcocmmapgebaaW.PrintWords Go.Proofs.YtifcocmmapgebaaW.PrintLast

theorem BloomNumbers : columbariumlaw9_BloomNumbers.Pure := Ev.rounds (texts_ev 100 0 [] rfl (by decide) rfl (by simp))

end Go.Proofs.Ytifcocmmapgebaa.Pure
