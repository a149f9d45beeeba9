/- Texts in bytes: PutText and GetText, as printed for DictTells. -/
import Derived.Test.YtllboaghcfeepaaTVarTripDictTells
namespace Go.Proofs.Ytllboaghcfeepaa.QDictTells
open Go.RowKit Go.Proofs.YtllboaghcfeepaaW.PrintWords Go.Proofs.YtllboaghcfeepaaW.PrintLast Go.Proofs.YtllboaghcfeepaaW.PrintMore Go.Proofs.Ytllboaghcfeepaa.Base
set_option linter.unusedVariables false
set_option linter.unusedSimpArgs false

def txt (s : ByteArray) : List Nat := s.data.toList.map UInt8.toNat
theorem bytesOf_txt (s : ByteArray) : Go.Proofs.YtllboaghcfeepaaW.PrintWords.bytesOf s = ints (txt s) := by
  rw [Go.Proofs.YtllboaghcfeepaaW.PrintWords.bytesOf, ints, txt, List.map_map]
  rfl
theorem txt_length (s : ByteArray) : (txt s).length = s.size := by
  rw [txt, List.length_map, Array.length_toList]
  rfl
theorem txt_lt (s : ByteArray) : ∀ x ∈ txt s, x < 256 := by
  intro x hx
  obtain ⟨b, _, rfl⟩ := List.mem_map.1 hx
  exact b.toNat_lt
theorem str_txt (s : ByteArray) : strOfNums (ints (txt s)) = s := by
  apply ba_ext
  rw [str_ints, txt, List.map_map, ByteArray.toList_eq]
  conv => rhs; rw [← List.map_id s.data.toList]
  refine List.map_congr_left fun b _ => ?_
  simp
theorem str_size (xs : List Int) : (strOfNums xs).size = xs.length := by
  have h := congrArg List.length (Go.Lib.strOfNums_toList xs)
  rw [ByteArray.toList_eq, Array.length_toList, Go.Lib.bytesOf, List.length_map] at h
  exact h
theorem putA_ev (A : List Nat) {n : Nat} (hn : n < 2 ^ 64) (hA : A.length + 10 < 140737488355328) : Ev (fun k => varint_Put.f k (ints A) (n : Int)) (ints (A ++ putN n)) := by
  have h10 := putN_10 hn
  exact Ev.congr (f := fun k => varint_Put.l0 k (n : Int) (ints A)) (fun k => by rw [varint_Put.f, Option.bind_some, if_pos (by rw [ints_length]; simp; omega), List.nil_append]) (put_l n hn A (by omega))
def encT (s : ByteArray) : List Nat := putN s.size ++ txt s
theorem encT_length (s : ByteArray) (h : s.size < 2 ^ 64) : (encT s).length ≤ s.size + 10 := by
  have := putN_10 h
  rw [encT, List.length_append, txt_length]
  omega
theorem encT_lt (s : ByteArray) : ∀ x ∈ encT s, x < 256 := fun x hx => (List.mem_append.1 hx).elim (putN_lt _ x) (txt_lt s x)
theorem putText_ev (A : List Nat) (s : ByteArray) (h : A.length + s.size + 10 < 140737488355328) : Ev (fun k => varint_PutText.f k (ints A) s) (ints (A ++ encT s)) := by
  have hs : s.size < 2 ^ 64 := Nat.lt_trans (show s.size < 140737488355328 by omega) (by decide)
  have h10 := putN_10 hs
  have e : IntKind.u64.wrap ((s.size : Nat) : Int) = ((s.size : Nat) : Int) := wu64 (by omega) (by omega)
  refine Ev.congr (fun k => by rw [varint_PutText.f, e]) (Ev.bind (putA_ev A hs (by omega)) ?_)
  refine Ev.congr (f := fun _ => some (ints (A ++ encT s))) (fun k => ?_) (Ev.now _)
  rw [if_pos (by rw [ints_length, List.length_append]; omega), bytesOf_txt, ints_append, List.append_assoc]
  rfl
theorem getS_good (B : List Nat) (a : Int) : (0 ≤ (getS B a).1 ∧ (getS B a).1 ≤ 18446744073709551615) ∧ ((getS B a).2.2 = 0 → 0 ≤ (getS B a).2.1 ∧ (getS B a).2.1 ≤ (B.length : Int)) := by
  unfold getS
  by_cases h : a < 0 ∨ (B.length : Int) < a
  · rw [if_pos h]
    exact ⟨by decide, fun h => absurd h (by decide)⟩
  · rw [if_neg h]
    have := getR_good (B.drop a.toNat) a.toNat
    refine ⟨this.1, fun h2 => ?_⟩
    have h3 := this.2 h2
    rw [List.length_drop] at h3
    omega
theorem max40 : IntKind.u64.wrap (mx 40 0) = 40 := by decide
theorem addN {a b : Nat} (h : a + b < 9223372036854775808) : wrap64 ((a : Int) + (b : Int)) = ((a + b : Nat) : Int) := by
  rw [w64 (by omega) (by omega)]
  omega
theorem subN {a b : Nat} (h : b ≤ a) (h2 : a < 9223372036854775808) : wrap64 ((a : Int) - (b : Int)) = ((a - b : Nat) : Int) := by
  rw [w64 (by omega) (by omega)]
  omega
theorem natN {a : Nat} (h : a < 9223372036854775808) : wrap64 (a : Int) = (a : Int) := w64 (by omega) (by omega)
theorem unatN {a : Nat} (h : a < 9223372036854775808) : IntKind.u64.wrap (a : Int) = (a : Int) := wu64 (by omega) (by omega)
theorem getText_put {B R : List Nat} {p : Nat} {s : ByteArray} (hB : ∀ x ∈ B, x < 256) (hl : B.length ≤ 140737488355327) (hs : s.size ≤ 40) (hd : B.drop p = encT s ++ R) (hp : p ≤ B.length) : Ev (fun k => varint_GetText.f k (ints B) (p : Int) 40) (s, ((p + (encT s).length : Nat) : Int), 0) := by
  have hg := get_ev hB hl (p : Int)
  have hd1 : B.drop p = putN s.size ++ (txt s ++ R) := by rw [hd, encT, List.append_assoc]
  have hv : s.size < 2 ^ 28 := Nat.lt_of_le_of_lt hs (by decide)
  rw [getS_put hv hd1 hp] at hg
  have hlen := congrArg List.length hd1
  rw [List.length_drop, List.length_append, List.length_append, txt_length] at hlen
  have hd2 : B.drop (p + (putN s.size).length) = txt s ++ R := by
    rw [← List.drop_drop, hd1, List.drop_left' rfl]
  generalize hq : (putN s.size).length = q at *
  have hE : p + (encT s).length = p + q + s.size := by rw [encT, List.length_append, txt_length, hq]; omega
  have c0 : p + q + s.size - (p + q) = s.size := by omega
  have c1 : ¬ ((s.size : Nat) : Int) > 40 := by omega
  have c2 : ¬ ((s.size : Nat) : Int) > ((B.length - (p + q) : Nat) : Int) := by omega
  have c3 : (0 : Int) ≤ ((p + q : Nat) : Int) := by omega
  have c4 : ((p + q : Nat) : Int) ≤ ((p + q + s.size : Nat) : Int) := by omega
  have c5 : ((p + q + s.size : Nat) : Int) ≤ (B.length : Int) := by omega
  have a1 : p + q + s.size < 9223372036854775808 := by omega
  have a2 : p + q ≤ B.length := by omega
  have a3 : B.length < 9223372036854775808 := by omega
  have a4 : B.length - (p + q) < 9223372036854775808 := by omega
  have a5 : s.size < 9223372036854775808 := by omega
  have e1 := subN a2 a3
  have e2 := unatN a4
  have e3 := natN a5
  have e4 := addN a1
  refine Ev.congr (fun k => rfl) (Ev.bind hg ?_)
  refine Ev.congr (f := fun _ => some (s, ((p + (encT s).length : Nat) : Int), 0)) (fun k => ?_) (Ev.now _)
  rw [if_pos rfl, max40, if_neg c1, ints_length, e1, e2, if_neg c2, if_pos c3, e3, e4, if_pos c4, if_pos c5, Int.toNat_natCast, Int.toNat_natCast, ints_take, ints_drop, List.drop_take, hd2, c0, List.take_left' (txt_length s), str_txt, hE]
theorem getText_good {B : List Nat} (hB : ∀ x ∈ B, x < 256) (hl : B.length ≤ 140737488355327) (a : Int) : ∃ r, (r.2.2 = 0 → r.1.size ≤ 40) ∧ Ev (fun k => varint_GetText.f k (ints B) a 40) r := by
  have hg := get_ev hB hl a
  have h1 := getS_good B a
  generalize getS B a = g at hg h1
  obtain ⟨v, q, e⟩ := g
  simp only at h1
  by_cases he : e = 0
  · obtain ⟨h2, h3⟩ := h1.2 he
    by_cases h4 : v > 40
    · refine ⟨_, fun h => ?_, Ev.congr (fun k => rfl) (Ev.bind hg (Ev.congr (fun k => by rw [if_pos he, max40, if_pos h4]) (Ev.now (⟨⟨#[]⟩, 0, 3⟩ : ByteArray × Int × Int))))⟩
      exact absurd h (by decide)
    · have e1 : wrap64 ((B.length : Int) - q) = (B.length : Int) - q := w64 (by omega) (by omega)
      have e2 : IntKind.u64.wrap ((B.length : Int) - q) = (B.length : Int) - q := wu64 (by omega) (by omega)
      by_cases h5 : v > (B.length : Int) - q
      · refine ⟨_, fun h => ?_, Ev.congr (fun k => rfl) (Ev.bind hg (Ev.congr (fun k => by rw [if_pos he, max40, if_neg h4, ints_length, e1, e2, if_pos h5]) (Ev.now (⟨⟨#[]⟩, 0, 10⟩ : ByteArray × Int × Int))))⟩
        exact absurd h (by decide)
      · have c6 : q ≤ q + v := by omega
        have c7 : q + v ≤ (B.length : Int) := by omega
        have c8 : (q + v).toNat - q.toNat ≤ 40 := by omega
        have e3 : wrap64 v = v := w64 (by omega) (by omega)
        have e4 : wrap64 (q + v) = q + v := w64 (by omega) (by omega)
        refine ⟨_, fun h => ?_, Ev.congr (fun k => rfl) (Ev.bind hg (Ev.congr (fun k => by rw [if_pos he, max40, if_neg h4, ints_length, e1, e2, if_neg h5, if_pos h2, e3, e4, if_pos c6, if_pos c7]) (Ev.now (strOfNums (((ints B).take (q + v).toNat).drop q.toNat), q + v, 0))))⟩
        simp only
        rw [str_size, List.length_drop, List.length_take]
        exact Nat.le_trans (Nat.sub_le_sub_right (Nat.min_le_left _ _) _) c8
  · refine ⟨_, fun h => ?_, Ev.congr (fun k => rfl) (Ev.bind hg (Ev.congr (fun k => by rw [if_neg he]) (Ev.now (⟨⟨#[]⟩, 0, e⟩ : ByteArray × Int × Int))))⟩
    exact absurd h he

end Go.Proofs.Ytllboaghcfeepaa.QDictTells
