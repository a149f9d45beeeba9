-- Written by a program of this session (wip/myprint.py): the machine's side of a law
import Derived.Test.YtifcocmmapgebaaQBloomTellsx0
namespace Go.Proofs.Ytifcocmmapgebaa.QBloomTells
open Go.RowKit Go.Proofs.YtifcocmmapgebaaW.PrintWords Go.Proofs.YtifcocmmapgebaaW.PrintLast Go.Proofs.YtifcocmmapgebaaW.PrintMore
attribute [local go_sem] max2_int min2_int max_two min_two max_three min_three max_four min_four   -- for this text's walks alone
set_option linter.unusedVariables false
set_option linter.unusedSimpArgs false

/-! ### columbariumlaw9_few: function 9 -/
def columbariumlaw9_few.f (l0 : List ByteArray) : Option (List ByteArray) := if (l0.length : Int) > 40 then (if 40 ≤ (l0.length : Int) then (some (l0.take 40)) else (none)) else (some l0)
set_option maxHeartbeats 8000000 in
set_option maxRecDepth 100000 in
theorem columbariumlaw9_few.calls (P0_ : Nat → Prop) (A0 : Option Addr) (c0 : Nat) (l0 : List ByteArray) (r : List ByteArray) (w : World) (hs0 : Kd.V Kd.string 9 w w.heap.size (fun k_ => P0_ k_) (.slice A0 l0.length c0) l0) (h : columbariumlaw9_few.f l0 = some r) :
  Calls Try.prog 9 #[.slice A0 l0.length c0] w fun e w' => ∃ v0_ : Value, e = .returned (v0_) ∧ Kd.V Kd.string 9 w' w.heap.size (fun k_ => (P0_ k_ ∨ w.heap.size ≤ k_)) v0_ r ∧ Below w.heap.size w w' := by
 have HO0 := Aside0.mk (show Kd.V Kd.string 9 w w.heap.size (fun k_ => (P0_ k_ ∨ w.heap.size ≤ k_)) (.slice A0 l0.length c0) l0 from Kd.V_mono hs0 (fun k_ hk => .inl hk))
 have HB := Aside0.mk (Below.refl w.heap.size w)
 have H : (if (l0.length : Int) > 40 then (if 40 ≤ (l0.length : Int) then (some (l0.take 40)) else (none)) else (some l0)) = some r := h
 clear h
 by_cases c2 : (l0.length : Int) > 40
 ·rw [if_pos c2] at H
  have c2b0 : decide (40 < (l0.length : Int)) = true := decide_eq_true c2
  have c2b1 : decide (40 < l0.length) = true := decide_eq_true (by omega)
  clear c2
  by_cases c3 : 40 ≤ (l0.length : Int)
  ·rw [if_pos c3] at H
   have c3b0 := eq_true c3
   have c3b1 : decide (40 ≤ (l0.length : Int)) = true := decide_eq_true c3
   clear c3
   obtain ⟨y101, hy101⟩ : ∃ y_ : List ByteArray, y_ = (l0.take 40) := ⟨_, rfl⟩
   replace H : (some y101) = some r := by first | (rw [hy101]; with_reducible exact H) | (have H2_ := (Option.bind_some _ _).symm.trans H; rw [hy101]; with_reducible exact H2_) | (have H2_ := (Option.bind_some _ _).symm.trans H; with_reducible exact H2_) | with_reducible exact H | (rw [hy101]; exact H) | exact H
   have Ny101 := Aside0.mk hy101
   clear hy101
   obtain rfl := Option.some.inj H
   have q4 : (40 : Int) ≤ ((l0.length : Int) : Int) := of_decide_eq_true (by first | (with_reducible assumption) | assumption)
   obtain ⟨i04, hi04, _, hsz4, _⟩ := info_parts info9
   have hroom4 : l0.length ≤ c0 := (Kd.V_reads' HO0.out).2.1
   have hC4 : Kd.F Kd.string _ _ A0 l0.length l0 := (Kd.V_at (base := w.heap.size) HO0.out).2.2
   have hcut4 := cut_to (P := Try.prog) 22 9 .i64 Try.underlying22 hi04 A0 l0.length c0 40 (by omega) q4 hroom4
   have hr4 := Kd.F_take (m := 40) hC4 (by omega)
   have hy4 : y101.length = (40 : Int).toNat := (by rw [Ny101.out, List.length_take]; omega)
   rw [← Ny101.out] at hr4
   rw [← hy4] at hcut4
   have HO105 := Aside0.mk (show Kd.V Kd.string 9 _ w.heap.size _ (.slice A0 y101.length c0) y101 from Kd.V_mk (by omega) hr4)
   have HC105 := Aside0.mk (show y101.length ≤ c0 from by omega)
   clear hr4 hC4 hroom4 hi04 hsz4
   have KY4 := Aside0.mk hy4
   clear hy4
   replace q4 := eq_true q4
   go_enter Try.func9, Try.ntmps9
   go_wp2
   go_ret
   exact ⟨_, by first | rfl | (simp [errW_none, errW_some] <;> rfl) | (simp [*, errW_none, errW_some] <;> rfl), mV HO105.out, mB HB.out⟩
  ·rw [if_neg c3] at H
   exact absurd H (by simp)
 ·rw [if_neg c2] at H
  have c2b0 : decide (40 < (l0.length : Int)) = false := decide_eq_false c2
  have c2b1 : decide (40 < l0.length) = false := decide_eq_false (by omega)
  clear c2
  obtain rfl := Option.some.inj H
  go_enter Try.func9, Try.ntmps9
  go_wp2
  go_ret
  exact ⟨_, by first | rfl | (simp [errW_none, errW_some] <;> rfl) | (simp [*, errW_none, errW_some] <;> rfl), mV HO0.out, mB HB.out⟩

/-! ### slices_Clone_string_string: function 23 -/
/-! slices.Clone at []string: by hand -/
def slices_Clone_string_string.f (l0 : List ByteArray) : Option (List ByteArray) := if l0.length < 8796093022208 then (some l0) else none
set_option maxHeartbeats 8000000 in
set_option maxRecDepth 100000 in
theorem slices_Clone_string_string.calls (A0 : Option Addr) (c0 : Nat) (l0 : List ByteArray) (r : List ByteArray) (w : World) (hr0 : Kd.C Kd.string w A0 l0.length l0) (hc0 : l0.length ≤ c0) (h : slices_Clone_string_string.f l0 = some r) :
  Calls Try.prog 23 #[.slice A0 l0.length c0] w fun e w' => ∃ v0_ : Value, e = .returned (v0_) ∧ Kd.R Kd.string 9 w' w.heap.size (fun _ => True) v0_ r ∧ Below w.heap.size w w' := by
 unfold slices_Clone_string_string.f at h
 by_cases hl : l0.length < 8796093022208
 ·rw [if_pos hl] at h
  obtain rfl := Option.some.inj h
  have HR0 := Aside0.mk hr0
  have HC0 := Aside0.mk hc0
  have HL0 := Aside0.mk hl
  have HB := Aside0.mk (Below.refl w.heap.size w)
  clear hc0 hl h
  cases A0 with
  | none =>
   have h0 : l0 = [] := by
    rcases Nat.eq_zero_or_pos l0.length with h0 | h0
    ·exact List.eq_nil_of_length_eq_zero h0
    ·obtain ⟨ad, e, _⟩ := hr0.2.2 h0
     cases e
   subst h0
   clear hr0
   have hq := Lib.run_eql_slice_nil (P := Try.prog)
   go_enter Try.func23, Try.ntmps23
   go_wp2
   go_ret
   exact ⟨_, rfl, Kd.R_nil _ _ _ _ _, HB.out⟩
  | some ad =>
   clear hr0
   have hq := Lib.run_eql_slice_nil (P := Try.prog)
   go_enter Try.func23, Try.ntmps23
   go_wp2_with (first | ((with_reducible refine gate_dst (N := 5) rfl ?_); refine Kd.R_lit Kd.string _ 9 ?hg (N := 5) ?hd (xs := ([] : List ByteArray)) (inner := []) (ok := fun _ => True) (okp := fun _ => True) ?hr ?hp (fun _ hk => hk) trivial (Below.refl _ _) (Nat.le_refl _) (by simp) ?_; (case hd => rfl); (case hg => rfl); (case hr => first | (go_simp; done) | (go_simp; rfl)); (case hp => exact (Reps.none _ _)); intro v1 w1 ho1 hb1 hg1 hn1; clear hg1 hn1; have HO := Aside0.mk ho1; have HB1 := Aside0.mk hb1; have HR1 := Aside0.mk (Kd.C_below HR0.out hb1); clear ho1 hb1) | ((with_reducible refine gate_builtin (b := .append) (xs := #[.tmp 5, .tmp 6]) rfl ?_); at_builtin; refine Kd.R_append_rows Kd.string (w0 := w) w.heap.size rfl (.tmp 5) (.tmp 6) 22 9 (.string ByteArray.empty) 16 rfl Try.underlying22 info9 rfl (by decide) (by omega) v1 [] l0 _ _ _ (fun _ => True) (fun _ => False) rfl rfl ?aO ?aR (fun _ _ h => h) (fun _ h => h.elim) ?aF ?aB ?aS ?aL ?_; (case aO => exact HO.out); (case aR => exact HR1.out); (case aB => exact HB1.out); (case aF => exact fun _ _ => trivial); (case aS => exact below_size HB1.out); (case aL => have := HL0.out; simp only [List.length_nil, Nat.zero_add]; omega); intro v2 w2 ho2 hb2 hg2 hat2; rw [List.nil_append] at ho2; have HO2 := Aside0.mk ho2; have HB2 := Aside0.mk hb2; clear ho2 hb2 hg2 hat2))
   go_ret
   exact ⟨_, rfl, HO2.out, HB2.out⟩
 ·rw [if_neg hl] at h
  cases h

/-! ### slices_Sort_string_string: function 24 -/
/-! slices.Sort at []string: by the shelf's contract -/
/-- A text laid into a rising list, once. -/
def dict_put (s : ByteArray) : List ByteArray → List ByteArray
 | [] => [s]
 | x :: r => if Op.bytesLess x.toList s.toList = true then x :: dict_put s r else if x.toList = s.toList then x :: r else s :: x :: r
/-- The texts of a list in rising order, each once. -/
def dict_set (l : List ByteArray) : List ByteArray := l.foldl (fun d s => dict_put s d) []
namespace DictSort
/-- The same over lists of bytes. -/
def put (s : List UInt8) : List (List UInt8) → List (List UInt8)
 | [] => [s]
 | x :: r => if x < s then x :: put s r else if x = s then x :: r else s :: x :: r
theorem put_map (s : ByteArray) (l : List ByteArray) : (dict_put s l).map (·.data.toList) = put s.data.toList (l.map (·.data.toList)) := by
 induction l with
 | nil => rfl
 | cons x r ih =>
  rw [List.map_cons, dict_put, put, Go.Proofs.bytesLess_eq]
  simp only [ByteArray.toList_eq, decide_eq_true_eq]
  by_cases h : x.data.toList < s.data.toList
  ·rw [if_pos h, if_pos h, List.map_cons, ih]
  ·rw [if_neg h, if_neg h]
   by_cases h2 : x.data.toList = s.data.toList
   ·rw [if_pos h2, if_pos h2, List.map_cons]
   ·rw [if_neg h2, if_neg h2, List.map_cons, List.map_cons]
theorem mem_put (s y : List UInt8) (l : List (List UInt8)) : y ∈ put s l ↔ y = s ∨ y ∈ l := by
 induction l with
 | nil => simp [put]
 | cons x r ih =>
  rw [put]
  split
  ·rw [List.mem_cons, ih, List.mem_cons]
   constructor
   ·rintro (h | h | h)
    ·exact .inr (.inl h)
    ·exact .inl h
    ·exact .inr (.inr h)
   ·rintro (h | h | h)
    ·exact .inr (.inl h)
    ·exact .inl h
    ·exact .inr (.inr h)
  ·split
   ·rename_i h
    subst h
    simp
   ·simp
theorem lt_of {a b : List UInt8} (h1 : ¬ a < b) (h2 : a ≠ b) : b < a := by
 rcases Std.lt_trichotomy a b with h | h | h
 ·exact absurd h h1
 ·exact absurd h h2
 ·exact h
theorem put_rises (s : List UInt8) : ∀ l : List (List UInt8), l.Pairwise (· < ·) → (put s l).Pairwise (· < ·)
 | [], _ => List.pairwise_singleton _ _
 | x :: r, h => by
  obtain ⟨h1, h2⟩ := List.pairwise_cons.1 h
  rw [put]
  split
  ·rename_i hx
   refine List.pairwise_cons.2 ⟨fun y hy => ?_, put_rises s r h2⟩
   rcases (mem_put s y r).1 hy with rfl | hy
   ·exact hx
   ·exact h1 y hy
  ·split
   ·exact h
   ·rename_i hx hne
    have hs := lt_of hx hne
    exact List.pairwise_cons.2 ⟨fun y hy => (List.mem_cons.1 hy).elim (fun e => e ▸ hs) (fun hy => List.lt_trans hs (h1 y hy)), h⟩
/-- Of two rising lists of the same texts one is the other. -/
theorem rising_eq : ∀ {a b : List (List UInt8)}, a.Pairwise (· < ·) → b.Pairwise (· < ·) → (∀ x, x ∈ a ↔ x ∈ b) → a = b
 | [], [], _, _, _ => rfl
 | [], y :: s, _, _, h => absurd ((h y).2 (List.mem_cons_self ..)) (List.not_mem_nil)
 | x :: r, [], _, _, h => absurd ((h x).1 (List.mem_cons_self ..)) (List.not_mem_nil)
 | x :: r, y :: s, ha, hb, h => by
  obtain ⟨a1, a2⟩ := List.pairwise_cons.1 ha
  obtain ⟨b1, b2⟩ := List.pairwise_cons.1 hb
  have exy : x = y := by
   rcases List.mem_cons.1 ((h x).1 (List.mem_cons_self ..)) with e | hx
   ·exact e
   rcases List.mem_cons.1 ((h y).2 (List.mem_cons_self ..)) with e | hy
   ·exact e.symm
   exact absurd (List.lt_trans (a1 y hy) (b1 x hx)) (List.lt_irrefl _)
  subst exy
  congr 1
  refine rising_eq a2 b2 fun z => ⟨fun hz => ?_, fun hz => ?_⟩
  ·rcases List.mem_cons.1 ((h z).1 (List.mem_cons_of_mem _ hz)) with e | h2
   ·subst e
    exact absurd (a1 _ hz) (List.lt_irrefl _)
   ·exact h2
  ·rcases List.mem_cons.1 ((h z).2 (List.mem_cons_of_mem _ hz)) with e | h2
   ·subst e
    exact absurd (b1 _ hz) (List.lt_irrefl _)
   ·exact h2
theorem le_lt {a b : List UInt8} (h : a ≤ b) (hne : a ≠ b) : a < b := by
 rcases Std.lt_trichotomy a b with h1 | h1 | h1
 ·exact h1
 ·exact absurd h1 hne
 ·exact absurd h1 h
theorem le_lt_trans {a b c : List UInt8} (h : a ≤ b) (h2 : b < c) : a < c := by
 by_cases e : a = b
 ·exact e ▸ h2
 ·exact List.lt_trans (le_lt h e) h2
theorem compact_upto (d : Array (List UInt8)) (hs : ∀ i j, i ≤ j → j < d.size → d[i]! ≤ d[j]!) : ∀ m, m ≤ d.size → (Lib.compactUpTo d m).Pairwise (· < ·) ∧ ∀ x, x ∈ Lib.compactUpTo d m ↔ ∃ j, j < m ∧ d[j]! = x
 | 0, _ => by simp [Lib.compactUpTo]
 | m + 1, hm => by
  obtain ⟨h1, h2⟩ := compact_upto d hs m (by omega)
  rw [Lib.compactUpTo_succ]
  by_cases hk : Lib.keeps d m = true
  ·rw [if_pos hk]
   have hk' : m = 0 ∨ d[m]! ≠ d[m - 1]! := of_decide_eq_true hk
   refine ⟨List.pairwise_append.2 ⟨h1, List.pairwise_singleton _ _, fun x hx y hy => ?_⟩, fun x => ?_⟩
   ·rw [List.mem_singleton.1 hy]
    obtain ⟨j, hj, rfl⟩ := (h2 x).1 hx
    have hne : d[m]! ≠ d[m - 1]! := hk'.resolve_left (by omega)
    exact le_lt_trans (hs j (m - 1) (by omega) (by omega)) (le_lt (hs (m - 1) m (by omega) (by omega)) (fun e => hne e.symm))
   ·rw [List.mem_append, h2, List.mem_singleton]
    constructor
    ·rintro (⟨j, hj, e⟩ | e)
     ·exact ⟨j, by omega, e⟩
     ·exact ⟨m, by omega, e.symm⟩
    ·rintro ⟨j, hj, e⟩
     by_cases h : j = m
     ·subst h
      exact .inr e.symm
     ·exact .inl ⟨j, by omega, e⟩
  ·rw [if_neg hk, List.append_nil]
   have hk' : m ≠ 0 ∧ d[m]! = d[m - 1]! := by
    have h3 : ¬ (m = 0 ∨ d[m]! ≠ d[m - 1]!) := fun h => hk (decide_eq_true h)
    exact ⟨fun h => h3 (.inl h), Classical.byContradiction fun h => h3 (.inr h)⟩
   refine ⟨h1, fun x => ?_⟩
   rw [h2]
   constructor
   ·rintro ⟨j, hj, e⟩
    exact ⟨j, by omega, e⟩
   ·rintro ⟨j, hj, e⟩
    by_cases h : j = m
    ·subst h
     exact ⟨j - 1, by omega, hk'.2.symm.trans e⟩
    ·exact ⟨j, by omega, e⟩
theorem compact_sorted (zs : List (List UInt8)) (hs : zs.Pairwise (· ≤ ·)) : (Lib.compact zs).Pairwise (· < ·) ∧ ∀ x, x ∈ Lib.compact zs ↔ x ∈ zs := by
 have hg : ∀ i, (hi : i < zs.length) → zs.toArray[i]! = zs[i] := fun i hi => by simp [getElem!_pos, hi]
 obtain ⟨h1, h2⟩ := compact_upto zs.toArray (fun i j hij hj => by
  have hj : j < zs.length := by simpa using hj
  rw [hg i (by omega), hg j hj]
  by_cases e : i = j
  ·subst e
   exact List.le_refl _
  ·exact List.pairwise_iff_getElem.1 hs i j (by omega) hj (by omega)) zs.length (by simp)
 refine ⟨h1, fun x => (h2 x).trans ⟨?_, fun hx => ?_⟩⟩
 ·rintro ⟨j, hj, e⟩
  rw [← e, hg j hj]
  exact List.getElem_mem _
 ·obtain ⟨j, hj, e⟩ := List.getElem_of_mem hx
  exact ⟨j, hj, (hg j hj).trans e⟩
theorem fold_rises (l : List (List UInt8)) : ∀ d : List (List UInt8), d.Pairwise (· < ·) → (l.foldl (fun d s => put s d) d).Pairwise (· < ·) ∧ ∀ x, x ∈ l.foldl (fun d s => put s d) d ↔ x ∈ d ∨ x ∈ l := by
 induction l with
 | nil => exact fun d h => ⟨h, fun x => by simp⟩
 | cons s r ih =>
  intro d h
  obtain ⟨h1, h2⟩ := ih (put s d) (put_rises s d h)
  refine ⟨h1, fun x => ?_⟩
  rw [List.foldl_cons, h2, mem_put, List.mem_cons]
  constructor
  ·rintro ((h | h) | h)
   ·exact .inr (.inl h)
   ·exact .inl h
   ·exact .inr (.inr h)
  ·rintro (h | h | h)
   ·exact .inl (.inr h)
   ·exact .inl (.inl h)
   ·exact .inr h
theorem fold_map (l : List ByteArray) : ∀ d : List ByteArray, (l.foldl (fun d s => dict_put s d) d).map (·.data.toList) = (l.map (·.data.toList)).foldl (fun d s => put s d) (d.map (·.data.toList)) := by
 induction l with
 | nil => exact fun d => rfl
 | cons s r ih =>
  intro d
  rw [List.foldl_cons, ih, put_map, List.map_cons, List.foldl_cons]
/-- What the library's Sort and Compact make of a list. -/
theorem compact_sort (l : List ByteArray) : Lib.compact ((l.map (·.data.toList)).mergeSort fun x y => decide (x ≤ y)) = (dict_set l).map (·.data.toList) := by
 have hsort : ((l.map (·.data.toList)).mergeSort fun x y => decide (x ≤ y)).Pairwise (· ≤ ·) := by
  have := List.pairwise_mergeSort (le := fun x y : List UInt8 => decide (x ≤ y)) (fun a b c h1 h2 => by simp only [decide_eq_true_eq] at *; exact List.le_trans h1 h2) (fun a b => by simp only [Bool.or_eq_true, decide_eq_true_eq]; exact List.le_total a b) (l.map (·.data.toList))
  exact this.imp (fun h => by simpa using h)
 obtain ⟨h1, h2⟩ := compact_sorted _ hsort
 obtain ⟨h3, h4⟩ := fold_rises (l.map (·.data.toList)) [] List.Pairwise.nil
 rw [dict_set, fold_map, List.map_nil]
 exact rising_eq h1 h3 fun x => by rw [h2, h4, List.mem_mergeSort]; simp
end DictSort
/-- A text of bytes. -/
def dict_str (b : List UInt8) : ByteArray := ⟨b.toArray⟩
theorem dict_str_data (s : ByteArray) : dict_str s.data.toList = s := rfl
theorem dict_str_enc (ss : List (List UInt8)) : (ss.map dict_str).map Value.string = ss.map Go.Proofs.encStr := by
 rw [List.map_map]
 rfl
theorem dict_enc_str (l : List ByteArray) : l.map Value.string = (l.map (·.data.toList)).map Go.Proofs.encStr := by
 rw [List.map_map]
 rfl
theorem slices_Sort_R (P0_ : Nat → Prop) (base : Nat) (v : Value) (l : List ByteArray) (w : World) (ho : Kd.R Kd.string 9 w base P0_ v l) (hl : l.length < 4611686018427387904) :
  Calls Try.prog 24 #[v] w fun e w' => e = .returned (.tuple #[]) ∧ Kd.R Kd.string 9 w' base P0_ v (((l.map (·.data.toList)).mergeSort fun x y => decide (x ≤ y)).map dict_str) ∧ w.grownBy w' v.ownBlock := by
 have hown := Kd.own_of_R ho
 rcases hown.2 with ⟨rfl, h0⟩ | ⟨g, cap, cur, rfl, hbase, hb, h1, h2, h3, h4⟩
 ·have : l = [] := List.eq_nil_of_length_eq_zero h0
  subst this
  refine (Try.slices_Sort_string_none none 0 w).mono ?_
  rintro e w' ⟨rfl, rfl⟩
  exact ⟨rfl, by rw [List.map_nil, List.mergeSort_nil, List.map_nil]; exact ho, ⟨rfl, rfl, rfl, Nat.le_refl _, fun k _ _ => rfl⟩⟩
 ·have hH := holds_of_block (ss := l.map (·.data.toList)) hb (by rw [List.length_map, ← dict_enc_str]; rw [Nat.mul_one] at h4; exact h4)
  have hg : g < w.heap.size := (Array.getElem?_eq_some_iff.1 hb).1
  have hc := Try.slices_Sort_string g 0 cap (l.map (·.data.toList)) w hH hg (by rw [List.length_map]; exact hl)
  rw [List.length_map] at hc
  refine hc.mono ?_
  rintro e w' ⟨rfl, n, os, rfl⟩
  have how := ownsRow_sorted (base := base) (n := n) (os := os) (ss := l.map (·.data.toList)) (ts := (l.map (·.data.toList)).mergeSort fun x y => decide (x ≤ y)) (List.length_mergeSort _) hbase hb (by rw [List.length_map]; exact h1) h2 h3
  refine ⟨rfl, Kd.R_of_own ?_ ho.1, grownBy_sorted _⟩
  rw [List.length_map] at how
  rw [show (((l.map (·.data.toList)).mergeSort fun x y => decide (x ≤ y)).map dict_str).length = l.length from by rw [List.length_map, List.length_mergeSort, List.length_map]]
  unfold encs
  rw [dict_str_enc]
  exact how
/-- The texts in order. -/
def sortL (l : List ByteArray) : List ByteArray := ((l.map (·.data.toList)).mergeSort fun x y => decide (x ≤ y)).map dict_str
theorem kept_of_grown {w w' : World} {v : Value} {P : Nat → Prop} (hg : w.grownBy w' v.ownBlock) (hP : ∀ k, v.ownBlock = some k → P k) : Kept w w' P :=
 ⟨hg.size, fun i hi hn => hg.block i hi (fun e => hn (hP i e.symm))⟩
def slices_Sort_string_string.f (l0 : List ByteArray) : Option (List ByteArray) := if l0.length < 8796093022208 then (some (sortL l0)) else none
theorem slices_Sort_string_string.calls (P0_ : Nat → Prop) (u9000_ : Value) (l0 : List ByteArray) (r1 : List ByteArray) (w0 w : World) (hB : Below w0.heap.size w0 w) (ho0 : Kd.R Kd.string 9 w w0.heap.size P0_ u9000_ l0) (h : slices_Sort_string_string.f l0 = some r1) :
  Calls Try.prog 24 #[u9000_] w fun e w' => e = .returned (.tuple #[]) ∧ Kd.R Kd.string 9 w' w0.heap.size (fun k_ => (P0_ k_ ∨ w.heap.size ≤ k_)) u9000_ r1 ∧ Below w0.heap.size w0 w' ∧ Kept w w' (fun k_ => P0_ k_) := by
 unfold slices_Sort_string_string.f at h
 by_cases hl : l0.length < 8796093022208
 ·rw [if_pos hl] at h
  obtain rfl := Option.some.inj h
  refine (slices_Sort_R _ _ _ l0 _ ho0 (by omega)).mono ?_
  rintro e w' ⟨rfl, ho, hg⟩
  exact ⟨rfl, Kd.R_mono ho (fun k hk => .inl hk), Below.grown hB hg (below_size hB) (Kd.R_base ho0), kept_of_grown hg (fun k e => ho0.1 k e)⟩
 ·rw [if_neg hl] at h
  cases h

/-! ### slices_Compact_string_string: function 25 -/
/-! slices.Compact at []string: by the shelf's contract -/
theorem slices_Compact_R (P0_ : Nat → Prop) (base : Nat) (A : Option Addr) (n c : Nat) (zs : List (List UInt8)) (w : World) (ho : Kd.R Kd.string 9 w base P0_ (.slice A n c) (zs.map dict_str)) (hl : zs.length ≤ 9223372036854775807) :
  Calls Try.prog 25 #[.slice A n c] w fun e w' => e = .returned (.slice A (Lib.compact zs).length c) ∧ Kd.R Kd.string 9 w' base P0_ (.slice A (Lib.compact zs).length c) ((Lib.compact zs).map dict_str) ∧ w.grownBy w' (Value.slice A n c).ownBlock := by
 have hown := Kd.own_of_R ho
 have hn : n = zs.length := by
  have := (Kd.R_reads' ho).1
  rw [List.length_map] at this
  exact this
 subst hn
 rcases hown.2 with ⟨e0, h0⟩ | ⟨g, cap, cur, e0, hbase, hb, h1, h2, h3, h4⟩
 ·rw [List.length_map] at h0
  have : zs = [] := List.eq_nil_of_length_eq_zero h0
  subst this
  refine (Try.slices_Compact_string_empty A c w).mono ?_
  rintro e w' ⟨rfl, rfl⟩
  exact ⟨rfl, ho, ⟨rfl, rfl, rfl, Nat.le_refl _, fun k _ _ => rfl⟩⟩
 ·injection e0 with e1 _ e2
  subst e1
  subst e2
  rw [List.length_map] at h1 h4
  have hH := holds_of_block (ss := zs) hb (by rw [← dict_str_enc]; rw [Nat.mul_one] at h4; exact h4)
  refine (Try.slices_Compact_string g 0 c zs w hH hl h1).mono ?_
  rintro e w' ⟨rfl, q, rfl⟩
  have hle := Lib.compact_length_le zs
  have how := Lib.ownsRow_putRow (enc := Go.Proofs.encStr) (zs := zs) (q := q) (k := (Lib.compact zs).length) (ys := Lib.compact zs ++ List.replicate (zs.length - (Lib.compact zs).length) []) (by have h := hown; unfold encs at h; rw [dict_str_enc, List.length_map] at h; exact h) (by simp; omega) hle
  rw [List.take_left' rfl, ← dict_str_enc] at how
  refine ⟨rfl, Kd.R_of_own (by rw [List.length_map]; exact how) ho.1, ?_⟩
  exact grownBy_sorted (os := #[]) _
/-- The texts, each once where it stands twice. -/
def compactL (l : List ByteArray) : List ByteArray := (Lib.compact (l.map (·.data.toList))).map dict_str
theorem compact_sortL (l : List ByteArray) : compactL (sortL l) = dict_set l := by
 have e : (sortL l).map (·.data.toList) = (l.map (·.data.toList)).mergeSort fun x y => decide (x ≤ y) := by
  rw [sortL, List.map_map]
  exact List.map_id _
 rw [compactL, e, DictSort.compact_sort, List.map_map]
 exact List.map_id _
def slices_Compact_string_string.f (l0 : List ByteArray) : Option (List ByteArray) := if l0.length < 8796093022208 then (some (compactL l0)) else none
theorem slices_Compact_string_string.calls (P0_ : Nat → Prop) (u9000_ : Value) (l0 : List ByteArray) (r1 : List ByteArray) (w0 w : World) (hB : Below w0.heap.size w0 w) (ho0 : Kd.R Kd.string 9 w w0.heap.size P0_ u9000_ l0) (h : slices_Compact_string_string.f l0 = some r1) :
  Calls Try.prog 25 #[u9000_] w fun e w' => ∃ v0_ : Value, e = .returned (v0_) ∧ Kd.R Kd.string 9 w' w0.heap.size (fun k_ => (P0_ k_ ∨ w.heap.size ≤ k_)) v0_ r1 ∧ Below w0.heap.size w0 w' ∧ Kept w w' (fun k_ => P0_ k_) := by
 unfold slices_Compact_string_string.f at h
 by_cases hl : l0.length < 8796093022208
 ·rw [if_pos hl] at h
  obtain rfl := Option.some.inj h
  obtain ⟨A, c, rfl⟩ := Kd.R_slice ho0
  have e : (l0.map (·.data.toList)).map dict_str = l0 := by
   rw [List.map_map]
   exact List.map_id _
  refine (slices_Compact_R P0_ w0.heap.size A l0.length c (l0.map (·.data.toList)) w (by rw [e]; exact ho0) (by rw [List.length_map]; omega)).mono ?_
  rintro e w' ⟨rfl, ho, hg⟩
  exact ⟨_, rfl, Kd.R_mono ho (fun k hk => .inl hk), Below.grown hB hg (below_size hB) (Kd.R_base ho0), kept_of_grown hg (fun k e => ho0.1 k e)⟩
 ·rw [if_neg hl] at h
  cases h

/-! ### sum_Fnv: function 39 -/
def sum_Fnv.l0 : Nat → ByteArray → Int → Int → Int → Option (Int)
 | 0, _, _, _, _ => none
 | k + 1, x0, x3, x6, x7 => if x7 < x6 then (if 0 ≤ x7 then (if x7 < (x0.size : Int) then (sum_Fnv.l0 k x0 (IntKind.u64.wrap ((Go.bits .xor .u64 x3 (IntKind.u64.wrap (bt x0 x7))) * 1099511628211)) x6 (wrap64 (x7 + 1))) else (none)) else (none)) else (some x3)
def sum_Fnv.f (k : Nat) (a0 : ByteArray) : Option (Int) := sum_Fnv.l0 k a0 14695981039346656037 (a0.size : Int) 0
theorem sum_Fnv.mono_l : ∀ k, (∀ y0 y1 y2 y3, LeO (sum_Fnv.l0 k y0 y1 y2 y3) (sum_Fnv.l0 (k + 1) y0 y1 y2 y3))
 | 0 => fun _ _ _ _ r h => by simp [sum_Fnv.l0] at h
 | k + 1 => by
  have ih0 := sum_Fnv.mono_l k
  ·intro y0 y1 y2 y3
   unfold sum_Fnv.l0
   repeat' first
   | (with_reducible exact ih0 _ _ _ _)
   | (with_reducible exact LeO.refl _)
   | (with_reducible exact LeO.none _)
   | (with_reducible refine LeO.ite ?_ ?_)
   | (with_reducible refine LeO.bind ?_ (fun _ => ?_))
   | exact ih0 _ _ _ _
   | exact LeO.none _
   | refine LeO.ite ?_ ?_
   | refine LeO.bind ?_ (fun _ => ?_)
theorem sum_Fnv.mono : ∀ a0 k, LeO (sum_Fnv.f k a0) (sum_Fnv.f (k + 1) a0) := by
 intro a0 k
 have ih0 := sum_Fnv.mono_l k
 unfold sum_Fnv.f
 repeat' first
   | (with_reducible exact ih0 _ _ _ _)
   | (with_reducible exact LeO.refl _)
   | (with_reducible exact LeO.none _)
   | (with_reducible refine LeO.ite ?_ ?_)
   | (with_reducible refine LeO.bind ?_ (fun _ => ?_))
   | exact ih0 _ _ _ _
   | exact LeO.none _
   | refine LeO.ite ?_ ?_
   | refine LeO.bind ?_ (fun _ => ?_)
set_option maxHeartbeats 8000000 in
set_option maxRecDepth 100000 in
theorem sum_Fnv.calls (k : Nat) (a0 : ByteArray) (r : Int) (w : World) (h : sum_Fnv.f k a0 = some r) :
  Calls Try.prog 39 #[.string a0] w fun e w' => e = .returned (.int .u64 r) ∧ Drawn0 w w' := by
 have H : (sum_Fnv.l0 k a0 14695981039346656037 (a0.size : Int) 0) = some r := h
 clear h
 have H' := Aside0.mk H
 clear H
 go_enter Try.func39, Try.ntmps39
 go_wp2
 go_loopg [3, 7] k (fun kq v3 v7 w' => ∃ (x3_1 : Int) (x7_1 : Int), v3 = .int .u64 x3_1 ∧ v7 = .int .i64 x7_1 ∧ Aside0 (sum_Fnv.l0 kq a0 x3_1 (a0.size : Int) x7_1 = some r) ∧ Aside0 (kq ≤ k) ∧ Drawn0 w w')
 case atStart => exact ⟨(14695981039346656037), (0), (by first | rfl | (simp; done) | (simp [*]; done)), (by first | rfl | (simp; done) | (simp [*]; done)), H', ⟨Nat.le_refl _⟩, by repeat (first | exact Drawn0.refl _ | apply Drawn0.step)⟩
 case round =>
  clear H'
  obtain ⟨x3_1, x7_1, rfl, rfl, HA, HK1, ⟨m1, rfl⟩⟩ := hrel
  cases gk with
  | zero => exact absurd HA.out (by simp [sum_Fnv.l0])
  | succ k1 =>
   have H := HA.out
   clear HA
   simp only [sum_Fnv.l0] at H
   by_cases c2 : x7_1 < (a0.size : Int)
   ·rw [if_pos c2] at H
    have c2b0 : decide (x7_1 < (a0.size : Int)) = true := decide_eq_true c2
    clear c2
    by_cases c3 : 0 ≤ x7_1
    ·rw [if_pos c3] at H
     have c3b0 : decide (0 ≤ x7_1) = true := decide_eq_true c3
     clear c3
     by_cases c4 : x7_1 < (a0.size : Int)
     ·rw [if_pos c4] at H
      have c4b0 : decide (x7_1 < (a0.size : Int)) = true := decide_eq_true c4
      clear c4
      have H' := Aside0.mk H
      clear H
      have p5 : 0 ≤ (x7_1 : Int) := of_decide_eq_true (by first | (with_reducible assumption) | assumption)
      have q5 : x7_1 < (a0.size : Int) := of_decide_eq_true (by first | (with_reducible assumption) | assumption)
      have hx5 := bt_at a0 x7_1
      replace p5 := eq_true p5
      replace q5 := eq_true q5
      go_wp2
      go_roundg k1
      case measure => have := HK1.out; omega
      case rel => exact ⟨(IntKind.u64.wrap ((Go.bits .xor .u64 x3_1 (IntKind.u64.wrap (bt a0 x7_1))) * 1099511628211)), (wrap64 (x7_1 + 1)), (by first | rfl | (simp; done) | (simp [*]; done)), (by first | rfl | (simp; done) | (simp [*]; done)), H', ⟨by have := HK1.out; omega⟩, by repeat (first | exact Drawn0.refl _ | apply Drawn0.step)⟩
     ·rw [if_neg c4] at H
      exact absurd H (by simp)
    ·rw [if_neg c3] at H
     exact absurd H (by simp)
   ·rw [if_neg c2] at H
    have c2b0 : decide (x7_1 < (a0.size : Int)) = false := decide_eq_false c2
    clear c2
    obtain rfl := Option.some.inj H
    go_wp2
    go_ret
    exact ⟨by first | rfl | (simp; done) | (simp [*]; done), by repeat (first | exact Drawn0.refl _ | apply Drawn0.step)⟩

/-! ### bloom_spots: function 26 -/
def bloom_spots.l0 : Nat → Int → Int → Int → List Int → Int → Option (List Int)
 | 0, _, _, _, _, _ => none
 | k + 1, x1, x6, x7, x8, x17 => if x17 < 4 then (if (IntKind.u64.wrap (x1)) = 0 then (none) else (if x8.length < 17592186044416 then (bloom_spots.l0 k x1 x6 x7 (x8 ++ [Int.tmod (IntKind.u64.wrap (x6 + (IntKind.u64.wrap (x17 * x7)))) (IntKind.u64.wrap (x1))]) (IntKind.u64.wrap (x17 + 1))) else (none))) else (some x8)
def bloom_spots.f (k : Nat) (a0 : ByteArray) (a1 : Int) : Option (List Int) := (sum_Fnv.f k a0).bind fun t106 => (bloom_spots.l0 k a1 (Go.bits .and .u64 t106 4294967295) (Go.bits .or .u64 (t106 / 4294967296) 1) ([] : List Int) 0)
theorem bloom_spots.mono_l : ∀ k, (∀ y0 y1 y2 y3 y4, LeO (bloom_spots.l0 k y0 y1 y2 y3 y4) (bloom_spots.l0 (k + 1) y0 y1 y2 y3 y4))
 | 0 => fun _ _ _ _ _ r h => by simp [bloom_spots.l0] at h
 | k + 1 => by
  have ih0 := bloom_spots.mono_l k
  ·intro y0 y1 y2 y3 y4
   unfold bloom_spots.l0
   repeat' first
   | (with_reducible exact ih0 _ _ _ _ _)
   | (with_reducible exact sum_Fnv.mono _ _)
   | (with_reducible exact LeO.refl _)
   | (with_reducible exact LeO.none _)
   | (with_reducible refine LeO.ite ?_ ?_)
   | (with_reducible refine LeO.bind ?_ (fun _ => ?_))
   | exact ih0 _ _ _ _ _
   | exact sum_Fnv.mono _ _
   | exact LeO.none _
   | refine LeO.ite ?_ ?_
   | refine LeO.bind ?_ (fun _ => ?_)
theorem bloom_spots.mono : ∀ a0 a1 k, LeO (bloom_spots.f k a0 a1) (bloom_spots.f (k + 1) a0 a1) := by
 intro a0 a1 k
 have ih0 := bloom_spots.mono_l k
 unfold bloom_spots.f
 repeat' first
   | (with_reducible exact ih0 _ _ _ _ _)
   | (with_reducible exact sum_Fnv.mono _ _)
   | (with_reducible exact LeO.refl _)
   | (with_reducible exact LeO.none _)
   | (with_reducible refine LeO.ite ?_ ?_)
   | (with_reducible refine LeO.bind ?_ (fun _ => ?_))
   | exact ih0 _ _ _ _ _
   | exact sum_Fnv.mono _ _
   | exact LeO.none _
   | refine LeO.ite ?_ ?_
   | refine LeO.bind ?_ (fun _ => ?_)
set_option maxHeartbeats 8000000 in
set_option maxRecDepth 100000 in
theorem bloom_spots.calls (k : Nat) (a0 : ByteArray) (a1 : Int) (r : List Int) (w : World) (h : bloom_spots.f k a0 a1 = some r) :
  Calls Try.prog 26 #[.string a0, .int .i64 a1] w fun e w' => ∃ v0_ : Value, e = .returned (v0_) ∧ Kd.R (Kd.int .u64) 57 w' w.heap.size (fun _ => True) v0_ r ∧ Below w.heap.size w w' := by
 have HB := Aside0.mk (Below.refl w.heap.size w)
 have H : ((sum_Fnv.f k a0).bind fun t106 => (bloom_spots.l0 k a1 (Go.bits .and .u64 t106 4294967295) (Go.bits .or .u64 (t106 / 4294967296) 1) ([] : List Int) 0)) = some r := h
 clear h
 replace H := Option.bind_eq_some_iff.mp H
 obtain ⟨t106, A30, H⟩ := H
 replace H : (bloom_spots.l0 k a1 (Go.bits .and .u64 t106 4294967295) (Go.bits .or .u64 (t106 / 4294967296) 1) ([] : List Int) 0) = some r := H
 have A3 := Aside0.mk A30
 clear A30
 have H' := Aside0.mk H
 clear H
 go_enter Try.func26, Try.ntmps26
 go_wp2_with (first | ((with_reducible refine gate_callee (f := 39) rfl ?_); refine goesL_ (some 11) rfl rfl Try.func39 (by kernel_rfl) rfl #[.string a0] rfl (by (try simp only [List.map_toArray, List.map_cons, List.map_nil]); first | done | rfl | (simp only [List.length_drop, List.length_take]; rfl)) ?_; (with_reducible refine (sum_Fnv.calls k a0 t106 _ A3.out).mono ?_); rintro e w' ⟨rfl, ⟨nd, rfl⟩⟩; refine ⟨_, rfl, ?_⟩))
 try simp only [Act.put, List.setIfInBounds_toArray, List.set_cons_zero, List.set_cons_succ]
 go_loopg [8, 17] k (fun kq v8 v17 w' => ∃ (x8_1 : List Int) (x17_1 : Int), v17 = .int .u64 x17_1 ∧ Aside0 (bloom_spots.l0 kq a1 (Go.bits .and .u64 t106 4294967295) (Go.bits .or .u64 (t106 / 4294967296) 1) x8_1 x17_1 = some r) ∧ Aside0 (kq ≤ k) ∧ Aside0 (Kd.R (Kd.int .u64) 57 w' w.heap.size (fun _ => True) v8 x8_1) ∧ Aside0 (Below w.heap.size w w'))
 case atStart => exact ⟨(([] : List Int)), (0), (by first | rfl | (simp; done) | (simp [*]; done)), H', ⟨Nat.le_refl _⟩, ⟨by first | exact Kd.R_nil _ _ _ _ _ | exact Kd.N_nil _ _ _ _ _ | exact Kd.V_nil _ _ _ _ _ | exact Kd.Q_nil _ _ _ _ _ | exact Kd.S_nil _ _ _ _ _⟩, ⟨mB HB.out⟩⟩
 case round =>
  clear H'
  obtain ⟨x8_1, x17_1, rfl, HA, HK1, HO_8, HB⟩ := hrel
  cases gk with
  | zero => exact absurd HA.out (by simp [bloom_spots.l0])
  | succ k1 =>
   have H := HA.out
   clear HA
   simp only [bloom_spots.l0] at H
   by_cases c4 : x17_1 < 4
   ·rw [if_pos c4] at H
    have c4b0 : decide (x17_1 < 4) = true := decide_eq_true c4
    clear c4
    by_cases c5 : (IntKind.u64.wrap (a1)) = 0
    ·rw [if_pos c5] at H
     exact absurd H (by simp)
    ·rw [if_neg c5] at H
     have c5b0 : ((IntKind.u64.wrap (a1)) == 0) = false := beq_eq_false_iff_ne.mpr c5
     have c5b1 : ((IntKind.u64.wrap (a1)) != 0) = true := bne_iff_ne.mpr c5
     by_cases c6 : x8_1.length < 17592186044416
     ·rw [if_pos c6] at H
      have LMc6 := Aside0.mk c6
      clear c6
      obtain ⟨y107, hy107⟩ : ∃ y_ : List Int, y_ = (x8_1 ++ [Int.tmod (IntKind.u64.wrap ((Go.bits .and .u64 t106 4294967295) + (IntKind.u64.wrap (x17_1 * (Go.bits .or .u64 (t106 / 4294967296) 1))))) (IntKind.u64.wrap (a1))]) := ⟨_, rfl⟩
      replace H : (bloom_spots.l0 k1 a1 (Go.bits .and .u64 t106 4294967295) (Go.bits .or .u64 (t106 / 4294967296) 1) y107 (IntKind.u64.wrap (x17_1 + 1))) = some r := by first | (rw [hy107]; with_reducible exact H) | (have H2_ := (Option.bind_some _ _).symm.trans H; rw [hy107]; with_reducible exact H2_) | (have H2_ := (Option.bind_some _ _).symm.trans H; with_reducible exact H2_) | with_reducible exact H | (rw [hy107]; exact H) | exact H
      have Ny107 := Aside0.mk hy107
      clear hy107
      have H' := Aside0.mk H
      clear H
      go_wp2_with (first | ((with_reducible refine gate_builtin (b := .append) (xs := #[.tmp 20, .tmp 29]) rfl ?_); at_builtin; refine Kd.R_append (Kd.int .u64) (w0 := w) w.heap.size rfl (.tmp 20) (.tmp 29) 55 57 (.int .u64 0) 8 rfl Try.underlying55 info57 rfl (by decide) (by omega) u8 x8_1 (Int.tmod (IntKind.u64.wrap ((Go.bits .and .u64 t106 4294967295) + (IntKind.u64.wrap (x17_1 * (Go.bits .or .u64 (t106 / 4294967296) 1))))) (IntKind.u64.wrap (a1))) [.int .u64 (Int.tmod (IntKind.u64.wrap ((Go.bits .and .u64 t106 4294967295) + (IntKind.u64.wrap (x17_1 * (Go.bits .or .u64 (t106 / 4294967296) 1))))) (IntKind.u64.wrap (a1)))] (fun _ => True) (fun _ => False) rfl rfl ?aP (fun _ hk => hk.elim) ?aF ?aO ?aB ?aS ?aL ?_; (case aP => exact rfl); (case aB => exact (mB HB.out)); (case aF => exact (fun _ _ => trivial)); (case aO => exact (mR HO_8.out)); (case aS => exact (below_size (mB HB.out))); (case aL => have := LMc6.out; omega); intro v108 w7 ho hb hg hat; rw [← Ny107.out] at ho; have n0_ := Aside0.mk (hb); have n1_ := Aside0.mk (ho); clear HB; clear HO_8; have HB := n0_; have HO109 := n1_; clear n0_ n1_; clear ho hb hg hat))
      go_roundg k1
      case measure => have := HK1.out; omega
      case rel => exact ⟨(y107), (IntKind.u64.wrap (x17_1 + 1)), (by first | rfl | (simp; done) | (simp [*]; done)), H', ⟨by have := HK1.out; omega⟩, ⟨mR HO109.out⟩, ⟨mB HB.out⟩⟩
     ·rw [if_neg c6] at H
      exact absurd H (by simp)
   ·rw [if_neg c4] at H
    have c4b0 : decide (x17_1 < 4) = false := decide_eq_false c4
    clear c4
    obtain rfl := Option.some.inj H
    go_wp2
    go_ret
    exact ⟨_, by first | rfl | (simp [errW_none, errW_some] <;> rfl) | (simp [*, errW_none, errW_some] <;> rfl), mR HO_8.out, mB HB.out⟩

end Go.Proofs.Ytifcocmmapgebaa.QBloomTells
