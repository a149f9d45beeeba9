/- A dictionary in bytes: Encode and Decode, as printed for DictTells. -/
import Derived.Test.YtllboaghcfeepaaTDictTextDictTells
import Derived.Test.YtllboaghcfeepaaTDictFitsDictTells
namespace Go.Proofs.Ytllboaghcfeepaa.QDictTells
open Go.RowKit Go.Proofs.YtllboaghcfeepaaW.PrintWords Go.Proofs.YtllboaghcfeepaaW.PrintLast Go.Proofs.YtllboaghcfeepaaW.PrintMore Go.Proofs.Ytllboaghcfeepaa.Base
set_option linter.unusedVariables false
set_option linter.unusedSimpArgs false

def Short (d : List ByteArray) : Prop := d.length ≤ 16 ∧ ∀ s ∈ d, s.size ≤ 40
theorem short_fits {d : List ByteArray} : (decide (d.length ≤ 16) && !d.any dict_long) = true ↔ Short d := by
  rw [Bool.and_eq_true, decide_eq_true_eq, Bool.not_eq_true', List.any_eq_false, Short]
  constructor
  · rintro ⟨h1, h2⟩
    refine ⟨h1, fun s hs => ?_⟩
    have := h2 s hs
    simp only [dict_long, decide_eq_true_eq] at this
    omega
  · rintro ⟨h1, h2⟩
    refine ⟨h1, fun s hs => ?_⟩
    have := h2 s hs
    simp only [dict_long, decide_eq_true_eq]
    omega
/-- Texts in bytes, one behind the other. -/
def encL (d : List ByteArray) : List Nat := (d.map encT).flatten
theorem encL_cons (s : ByteArray) (d : List ByteArray) : encL (s :: d) = encT s ++ encL d := by
  rw [encL, List.map_cons, List.flatten_cons]
  rfl
theorem encL_length {d : List ByteArray} (h : ∀ s ∈ d, s.size ≤ 40) : (encL d).length ≤ 50 * d.length := by
  induction d with
  | nil => simp [encL]
  | cons s r ih =>
    have h1 := h s List.mem_cons_self
    have h2 := encT_length s (Nat.lt_of_le_of_lt h1 (by decide))
    have h3 := ih fun x hx => h x (List.mem_cons_of_mem _ hx)
    rw [encL_cons, List.length_append, List.length_cons]
    omega
theorem encL_lt (d : List ByteArray) : ∀ x ∈ encL d, x < 256 := by
  intro x hx
  obtain ⟨l, hl, hx⟩ := List.mem_flatten.1 hx
  obtain ⟨s, _, rfl⟩ := List.mem_map.1 hl
  exact encT_lt s x hx
def encD (d : List ByteArray) : List Nat := putN d.length ++ encL d
theorem encD_lt (d : List ByteArray) : ∀ x ∈ encD d, x < 256 := fun x hx => (List.mem_append.1 hx).elim (putN_lt _ x) (encL_lt d x)
theorem encD_length {d : List ByteArray} (h : Short d) : 0 < (encD d).length ∧ (encD d).length ≤ 810 := by
  have h1 := encL_length h.2
  have h2 := putN_pos d.length
  have h3 := putN_10 (Nat.lt_of_le_of_lt h.1 (by decide) : d.length < 2 ^ 64)
  have h4 := h.1
  rw [encD, List.length_append]
  omega
theorem encode_l0 {d : List ByteArray} (hs : Short d) (m : Nat) : ∀ i (A : List Nat), d.length - i = m → i ≤ d.length → A.length + 50 * (d.length - i) ≤ 2000 →
    Ev (fun k => dict_Encode.l0 k (ints A) d (d.length : Int) (i : Int)) (ints (A ++ encL (d.drop i)), 0) := by
  have h16 := hs.1
  induction m with
  | zero =>
    intro i A hm hi hA
    rw [List.drop_eq_nil_of_le (by omega), show encL [] = [] from rfl, List.append_nil]
    exact Ev.step (f := fun _ => some (ints A, 0)) (fun k => by rw [dict_Encode.l0, if_neg (by omega)]) (Ev.now _)
  | succ m ih =>
    intro i A hm hi hA
    have h1 : i < d.length := by omega
    have h2 := hs.2 _ (gt_mem d i h1)
    have h3 := encT_length (gt d i) (Nat.lt_of_le_of_lt h2 (by decide))
    refine Ev.step (fun k => by rw [dict_Encode.l0, if_pos (by omega), if_pos (by omega), if_pos (by omega), rd_gt, succ64 (by omega)]) (Ev.bind (putText_ev A (gt d i) (by omega)) ?_)
    have := ih (i + 1) (A ++ encT (gt d i)) (by omega) (by omega) (by rw [List.length_append]; omega)
    rw [List.append_assoc] at this
    rw [List.drop_eq_getElem_cons h1, encL_cons, ← gt_get d i h1]
    exact this
theorem encode_ev {d : List ByteArray} (hd : Rising d) (hl : d.length < 4611686018427387904) : (Short d → Ev (fun k => dict_Encode.f k d) (ints (encD d), 0)) ∧ (¬ Short d → Ev (fun k => dict_Encode.f k d) (([] : List Int), 12)) := by
  have hf := fits_ev hd hl
  constructor
  · intro hs
    have h3 := putN_10 (Nat.lt_of_le_of_lt hs.1 (by decide) : d.length < 2 ^ 64)
    have h16 := hs.1
    rw [short_fits.2 hs] at hf
    have e : IntKind.u64.wrap (d.length : Int) = (d.length : Int) := wu64 (by omega) (by omega)
    have hp := putA_ev [] (Nat.lt_of_le_of_lt hs.1 (by decide) : d.length < 2 ^ 64) (by simp)
    have hp : Ev (fun k => varint_Put.f k ([] : List Int) (d.length : Int)) (ints (putN d.length)) := hp
    refine Ev.congr (fun k => rfl) (Ev.bind hf (Ev.congr (fun k => by rw [if_pos rfl, e]) (Ev.bind hp ?_)))
    have := encode_l0 hs _ 0 (putN d.length) rfl (Nat.zero_le _) (by omega)
    exact this
  · intro hs
    have e : (decide (d.length ≤ 16) && !d.any dict_long) = false := by
      rw [← Bool.not_eq_true, short_fits]
      exact hs
    rw [e] at hf
    exact Ev.congr (fun k => rfl) (Ev.bind hf (Ev.congr (f := fun _ => some (([] : List Int), 12)) (fun k => by rw [if_neg Bool.false_ne_true]) (Ev.now _)))
section
variable {B : List Nat} (hB : ∀ x ∈ B, x < 256) (hl : B.length ≤ 140737488355327)
include hB hl
theorem decode_l0 {d : List ByteArray} (hd : Rising d) (hs : Short d) (R : List Nat) (m : Nat) : ∀ i p, d.length - i = m → i ≤ d.length → p ≤ B.length → B.drop p = encL (d.drop i) ++ R →
    Ev (fun k => dict_Decode.l0 k (ints B) (p : Int) (d.take i) (d.length : Int) (i : Int)) (d, ((p + (encL (d.drop i)).length : Nat) : Int), 0) := by
  have h16 := hs.1
  induction m with
  | zero =>
    intro i p hm hi hp hdr
    obtain ⟨b, h1, h2⟩ := rising_ev d (by omega)
    rw [h1 hd] at h2
    rw [List.take_of_length_le (by omega), List.drop_eq_nil_of_le (by omega)]
    refine Ev.step (fun k => by rw [dict_Decode.l0, if_neg (by omega)]) (Ev.bind h2 ?_)
    exact Ev.congr (f := fun _ => some (d, ((p + (encL []).length : Nat) : Int), 0)) (fun k => by rw [if_pos rfl]; rfl) (Ev.now _)
  | succ m ih =>
    intro i p hm hi hp hdr
    have h1 : i < d.length := by omega
    have ed : d.drop i = gt d i :: d.drop (i + 1) := by rw [List.drop_eq_getElem_cons h1, gt_get d i h1]
    have et : d.take (i + 1) = d.take i ++ [gt d i] := by rw [List.take_succ_eq_append_getElem h1, gt_get d i h1]
    rw [ed, encL_cons, List.append_assoc] at hdr
    have hlen := congrArg List.length hdr
    rw [List.length_drop, List.length_append] at hlen
    have hg := getText_put hB hl (hs.2 _ (gt_mem d i h1)) hdr hp
    have hn := ih (i + 1) (p + (encT (gt d i)).length) (by omega) (by omega) (by omega) (by rw [← List.drop_drop, hdr, List.drop_left' rfl])
    rw [ed, encL_cons, List.length_append, ← Nat.add_assoc]
    refine Ev.step (fun k => by rw [dict_Decode.l0, if_pos (by omega), succ64 (by omega)]) (Ev.bind hg (Ev.congr (fun k => ?_) hn))
    rw [if_pos rfl, if_pos (by rw [List.length_take]; omega), et]
theorem decode_put {d : List ByteArray} (hd : Rising d) (hs : Short d) {R : List Nat} {p : Nat} (hp : p ≤ B.length) (hdr : B.drop p = encD d ++ R) : Ev (fun k => dict_Decode.f k (ints B) (p : Int)) (d, ((p + (encD d).length : Nat) : Int), 0) := by
  have h16 := hs.1
  have hg := get_ev hB hl (p : Int)
  have hd1 : B.drop p = putN d.length ++ (encL d ++ R) := by rw [hdr, encD, List.append_assoc]
  rw [getS_put (Nat.lt_of_le_of_lt h16 (by decide)) hd1 hp] at hg
  have hlen := congrArg List.length hd1
  rw [List.length_drop, List.length_append, List.length_append] at hlen
  have hsm : Ev (fun k => varint_Small.f k (ints B) (p : Int)) ((d.length : Int), ((p + (putN d.length).length : Nat) : Int), 0) := by
    refine Ev.congr (fun k => rfl) (Ev.bind hg (Ev.congr (f := fun _ => some ((d.length : Int), ((p + (putN d.length).length : Nat) : Int), (0 : Int))) (fun k => ?_) (Ev.now _)))
    have e : mn (d.length : Int) 1099511627776 = (d.length : Int) := by rw [mn, if_neg (by omega)]
    have e2 : wrap64 (d.length : Int) = (d.length : Int) := natN (by omega)
    rw [e, e2]
  have hn := decode_l0 hB hl hd hs R _ 0 (p + (putN d.length).length) rfl (Nat.zero_le _) (by omega) (by rw [← List.drop_drop, hd1, List.drop_left' rfl, List.drop_zero])
  rw [List.drop_zero, Nat.add_assoc, ← List.length_append] at hn
  refine Ev.congr (fun k => rfl) (Ev.bind hsm (Ev.congr (fun k => ?_) hn))
  rw [if_pos rfl, if_neg (by omega)]
  rfl
/-- What is read may be written. -/
def Fine (r : List ByteArray × Int × Int) : Prop := (r.2.2 ≠ 0 ∧ r.1 = []) ∨ (r.2.2 = 0 ∧ Short r.1 ∧ Ev (fun k => dict_rising.f k r.1) true)
theorem decode_g (n : Nat) (hn : n ≤ 16) (m : Nat) : ∀ i (p : Int) (acc : List ByteArray), n - i = m → i ≤ n → acc.length = i → (∀ s ∈ acc, s.size ≤ 40) →
    ∃ r, Fine r ∧ Ev (fun k => dict_Decode.l0 k (ints B) p acc (n : Int) (i : Int)) r := by
  induction m with
  | zero =>
    intro i p acc hm hi ha hs
    obtain ⟨b, h1, h2⟩ := rising_ev acc (by omega)
    cases b with
    | true => exact ⟨(acc, p, 0), .inr ⟨rfl, ⟨by simp only; omega, hs⟩, h2⟩, Ev.step (fun k => by rw [dict_Decode.l0, if_neg (by omega)]) (Ev.bind h2 (Ev.congr (f := fun _ => some (acc, p, (0 : Int))) (fun k => by rw [if_pos rfl]) (Ev.now _)))⟩
    | false => exact ⟨([], 0, 12), .inl ⟨by decide, rfl⟩, Ev.step (fun k => by rw [dict_Decode.l0, if_neg (by omega)]) (Ev.bind h2 (Ev.congr (f := fun _ => some (([] : List ByteArray), (0 : Int), (12 : Int))) (fun k => by rw [if_neg Bool.false_ne_true]) (Ev.now _)))⟩
  | succ m ih =>
    intro i p acc hm hi ha hs
    obtain ⟨g, hg1, hg2⟩ := getText_good hB hl p
    by_cases h : g.2.2 = 0
    · obtain ⟨r, h3, h4⟩ := ih (i + 1) g.2.1 (acc ++ [g.1]) (by omega) (by omega) (by rw [List.length_append, ha]; rfl) (fun s hs' => by
        rcases List.mem_append.1 hs' with h5 | h5
        · exact hs s h5
        · rw [List.mem_singleton.1 h5]
          exact hg1 h)
      refine ⟨r, h3, Ev.step (fun k => by rw [dict_Decode.l0, if_pos (by omega), succ64 (by omega)]) (Ev.bind hg2 (Ev.congr (fun k => ?_) h4))⟩
      rw [if_pos h, if_pos (by omega)]
    · exact ⟨([], 0, g.2.2), .inl ⟨h, rfl⟩, Ev.step (fun k => by rw [dict_Decode.l0, if_pos (by omega)]) (Ev.bind hg2 (Ev.congr (f := fun _ => some (([] : List ByteArray), (0 : Int), g.2.2)) (fun k => by rw [if_neg h]) (Ev.now _)))⟩
theorem decode_fine (a : Int) : ∃ r, Fine r ∧ Ev (fun k => dict_Decode.f k (ints B) a) r := by
  have hg := get_ev hB hl a
  have h1 := (getS_good B a).1
  generalize getS B a = g at hg h1
  obtain ⟨v, q, e⟩ := g
  simp only at h1
  obtain ⟨u, hu1, hu2⟩ : ∃ u : Nat, wrap64 (mn v 1099511627776) = (u : Int) ∧ (u : Int) = mn v 1099511627776 := by
    have hm : 0 ≤ mn v 1099511627776 ∧ mn v 1099511627776 ≤ 1099511627776 := by
      rw [mn]
      split <;> omega
    exact ⟨(mn v 1099511627776).toNat, by rw [w64 (by omega) (by omega)]; omega, by omega⟩
  have hsm : Ev (fun k => varint_Small.f k (ints B) a) ((u : Int), q, e) := by
    refine Ev.congr (fun k => rfl) (Ev.bind hg (Ev.congr (f := fun _ => some ((u : Int), q, e)) (fun k => ?_) (Ev.now _)))
    rw [hu1]
  clear hu1 hu2
  by_cases he : e = 0
  · by_cases h16 : u ≤ 16
    · obtain ⟨r, h3, h4⟩ := decode_g hB hl u h16 _ 0 q [] rfl (Nat.zero_le _) rfl (by simp)
      refine ⟨r, h3, Ev.congr (fun k => rfl) (Ev.bind hsm (Ev.congr (fun k => ?_) h4))⟩
      rw [if_pos he, if_neg (by omega)]
      rfl
    · exact ⟨([], 0, 4), .inl ⟨by decide, rfl⟩, Ev.congr (fun k => rfl) (Ev.bind hsm (Ev.congr (f := fun _ => some (([] : List ByteArray), (0 : Int), (4 : Int))) (fun k => by rw [if_pos he, if_pos (by omega)]) (Ev.now _)))⟩
  · exact ⟨([], 0, e), .inl ⟨he, rfl⟩, Ev.congr (fun k => rfl) (Ev.bind hsm (Ev.congr (f := fun _ => some (([] : List ByteArray), (0 : Int), e)) (fun k => by rw [if_neg he]) (Ev.now _)))⟩
end
theorem fits_short {d : List ByteArray} (hs : Short d) (hr : Ev (fun k => dict_rising.f k d) true) : Ev (fun k => dict_Fits.f k d) true := by
  have := fits_of hr
  rwa [Bool.true_and, short_fits.2 hs] at this

end Go.Proofs.Ytllboaghcfeepaa.QDictTells
