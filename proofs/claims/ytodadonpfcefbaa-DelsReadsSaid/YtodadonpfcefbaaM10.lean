/- DelsPlays: the walk. -/
import Derived.Test.YtodadonpfcefbaaR
import Derived.Test.YtodadonpfcefbaaM9
namespace Go.Proofs.Ytodadonpfcefbaa.Marks
open Reg Go.RowKit Go.Proofs.YtodadonpfcefbaaW.PrintWords Go.Proofs.YtodadonpfcefbaaW.PrintLast Go.Proofs.YtodadonpfcefbaaW.PrintMore Go.Proofs.Ytodadonpfcefbaa.QDelsReads Go.Proofs.Ytodadonpfcefbaa.Base
attribute [local go_sem] max2_int min2_int max_two min_two max_three min_three max_four min_four
set_option linter.unusedVariables false
set_option linter.unusedSimpArgs false
theorem alikeB {w : World} {b g c N : Nat} {ls : List Bool} (h : MkL w b g ls) (k : Bk w c ls) (hN : ls.length = N) : Calls Try.prog 17 #[.pointer (some ⟨g, 0, none⟩), .slice (some ⟨c, 0, none⟩) N N] w fun e w' => e = .returned (.bool true) ∧ Below w.heap.size w w' := by
  subst hN
  exact alikeC h _ _ (k.row (by have := h.small; omega))
theorem refEncB {w : World} {c N : Nat} {ls : List Bool} (k : Bk w c ls) (hl : ls.length ≤ 1048576) (hN : ls.length = N) : Calls Try.prog 19 #[.slice (some ⟨c, 0, none⟩) N N] w fun e w' => ∃ v0_ : Value, e = .returned (v0_) ∧ Kd.R (Kd.int .u8) 5 w' w.heap.size (fun _ => True) v0_ (encB ls) ∧ Below w.heap.size w w' := by
  subst hN
  exact refEncC (k.row (by omega)) (Nat.le_refl _) hl
/-- These bytes are this slice's, whole. -/
def OwnRow (A : Option Addr) (c : Nat) (xs : List Int) (w : World) : Prop := ∃ base ok, Kd.R (Kd.int .u8) 5 w base ok (.slice A xs.length c) xs
theorem OwnRow.below {A : Option Addr} {c : Nat} {xs : List Int} {w w1 : World} (h : OwnRow A c xs w) (hb : Below w.heap.size w w1) : OwnRow A c xs w1 := by
  obtain ⟨base, ok, h⟩ := h
  exact ⟨base, ok, Kd.R_below h hb⟩
theorem OwnRow.str {A : Option Addr} {c : Nat} {xs : List Int} {w : World} (h : OwnRow A c xs w) : (convert 38 9 (.slice A xs.length c)).run Try.prog w = .ok (.string (strOfNums xs)) w := by
  obtain ⟨base, ok, h⟩ := h
  exact own_string Try.underlying38 Try.underlying5 Try.underlying9 (Kd.own_of_R h)
/-- The row, joined up to i. -/
def orAtB (l o : List Bool) (i : Nat) : List Bool := (orL l o).take i ++ l.drop i
theorem orL_length {l o : List Bool} (h : l.length = o.length) : (orL l o).length = l.length := by simp [orL, h]
theorem orAtB_get {l o : List Bool} (h : l.length = o.length) {i : Nat} (hi : i < l.length) : (orAtB l o i)[i]? = l[i]? := by
  unfold orAtB
  rw [List.getElem?_append_right (by simp [orL_length h]; omega)]
  simp only [List.length_take, orL_length h, List.getElem?_drop]
  congr 1
  omega
theorem orAtB_step {l o : List Bool} (h : l.length = o.length) {i : Nat} (hi : i < l.length) {x y : Bool} (hx : l[i]? = some x) (hy : o[i]? = some y) : (orAtB l o i).set i (x || y) = orAtB l o (i + 1) := by
  have ho : (orL l o)[i]? = some (x || y) := by simp [orL, List.getElem?_zipWith, hx, hy]
  have hl := orL_length h
  apply List.ext_getElem?
  intro j
  rw [List.getElem?_set]
  by_cases e : i = j
  · subst e
    rw [if_pos rfl, if_pos (by simp [orAtB, hl]; omega)]
    unfold orAtB
    rw [List.getElem?_append_left (by simp [hl]; omega), List.getElem?_take, if_pos (by omega), ho]
  · rw [if_neg e]
    unfold orAtB
    by_cases hj : j < i
    · rw [List.getElem?_append_left (by simp [hl]; omega), List.getElem?_append_left (by simp [hl]; omega), List.getElem?_take, List.getElem?_take, if_pos (by omega), if_pos (by omega)]
    · rw [List.getElem?_append_right (by simp [hl]; omega), List.getElem?_append_right (by simp [hl]; omega)]
      simp only [List.length_take, hl, List.getElem?_drop]
      congr 1
      omega
theorem orAtB_end {l o : List Bool} (h : l.length = o.length) : orAtB l o l.length = orL l o := by
  have hl := orL_length h
  unfold orAtB
  rw [List.take_of_length_le (by omega), List.drop_eq_nil_of_le (Nat.le_refl _), List.append_nil]
/-- Two marks and their rows lie in this world. -/
structure PS (W : World) (ba ga ca : Nat) (la : List Bool) (bb gb cb : Nat) (lb : List Bool) (w' : World) : Prop where
  a : MkL w' ba ga la
  x : Bk w' ca la
  b : MkL w' bb gb lb
  y : Bk w' cb lb
  below : Below W.heap.size W w'
theorem PS.step {W : World} {ba ga ca bb gb cb : Nat} {la lb : List Bool} {w1 w2 : World} (h : PS W ba ga ca la bb gb cb lb w1) (k : Below w1.heap.size w1 w2) : PS W ba ga ca la bb gb cb lb w2 := ⟨h.a.below k, h.x.below k, h.b.below k, h.y.below k, below_step h.below k⟩
theorem PS.drew {W : World} {ba ga ca bb gb cb : Nat} {la lb : List Bool} {w1 : World} (h : PS W ba ga ca la bb gb cb lb w1) : PS W ba ga ca la bb gb cb lb w1.drew := ⟨h.a.drew, h.x, h.b.drew, h.y, h.below.drew⟩
set_option maxHeartbeats 8000000 in
set_option maxRecDepth 100000 in
theorem playsC (a0 : Int) (A1 : Option Addr) (c1 : Nat) (l : List Int) (A2 : Option Addr) (c2 : Nat) (o : List Int) (W : World) (hr1 : Kd.C (Kd.int .i64) W A1 l.length l) (hr2 : Kd.C (Kd.int .i64) W A2 o.length o) : Calls Try.prog 4 #[.int .i64 a0, .slice A1 l.length c1, .slice A2 o.length c2] W fun e w' => e = .returned (.bool true) ∧ Below W.heap.size W w' := by
  obtain ⟨N, hN, hwi⟩ := within_some a0 200 (by decide)
  have HN := Aside0.mk hN
  have HR1 := Aside0.mk hr1
  have HR2 := Aside0.mk hr2
  have hla := markL_length N l
  have hlb := markL_length N o
  generalize hga : markL N l = la at hla
  generalize hgb : markL N o = lb at hlb
  have HLA := Aside0.mk hla
  have HLB := Aside0.mk hlb
  clear hr1 hr2 hN hla hlb
  go_enter Try.func4, Try.ntmps4
  go_upto_region 4 with (first
    | (go_at_call 8; refine (columbariumbook_Within.calls a0 0 200 _ _ hwi).mono ?_; rintro e w1 ⟨rfl, hd⟩; have HB1 := Aside0.mk hd.below; clear hd)
    | (go_at_call 16; (with_reducible refine (markedC N (Nat.le_trans HN.out (by decide)) A1 c1 l _ (Kd.C_below HR1.out HB1.out)).mono ?_); rintro e w2 ⟨ba, ga, ca, rfl, hm, hc, hb, hbc, hB⟩; rw [hga] at hm hc; have HA2 := Aside0.mk hm; have HX2 := Aside0.mk hc; have Hba := Aside0.mk (Nat.le_trans HB1.out.size hb); have Hca := Aside0.mk (Nat.le_trans HB1.out.size hbc); have HB2 := Aside0.mk (below_step HB1.out hB); clear hm hc hb hbc hB)
    | (go_at_call 16; (with_reducible refine (markedC N (Nat.le_trans HN.out (by decide)) A2 c2 o _ (Kd.C_below HR2.out HB2.out)).mono ?_); rintro e w3 ⟨bb, gb, cb, rfl, hm, hc, hb, hbc, hB⟩; rw [hgb] at hm hc; have HP := Aside0.mk (show PS W ba ga ca la bb gb cb lb w3 from ⟨HA2.out.below hB, HX2.out.below hB, hm, hc, below_step HB2.out hB⟩); have Hab := Aside0.mk (show ba ≠ bb ∧ ba ≠ gb ∧ ca ≠ cb ∧ ca ≠ bb ∧ ca ≠ gb ∧ cb ≠ ba ∧ cb ≠ ga from by have h1 := HA2.out.lt; have h2 := HX2.out.lt; have h3 := hm.lt; exact ⟨by omega, by omega, by omega, by omega, by omega, by omega, by omega⟩); have Hbb := Aside0.mk (Nat.le_trans HB2.out.size hb); have Hcb := Aside0.mk (Nat.le_trans HB2.out.size hbc); clear hm hc hb hbc hB HA2 HX2 HB2))
  refine hstart (fun w' => PS W ba ga ca la bb gb cb lb w') 27 (by kernel_rfl) rfl (by kernel_rfl) (PS.drew HP.out) (fun w_ hw_ s_ => ?_)
  clear HP hw_
  refine hpure 0 (some 26) 1 [] (v := ?_) (a' := ?_) s_ rfl rfl (by kernel_rfl) (Or.inl ⟨by rfl, ?_⟩) ?_ ?_
  rotate_left
  · intro w' s0; go_simp; with_reducible rfl
  rotate_left
  · simp only [Act.put, List.setIfInBounds_toArray, List.set_cons_zero, List.set_cons_succ, i64_w, i32_w]; rfl
  refine hpure 1 (some 27) 2 [] (v := ?_) (a' := ?_) s_ rfl rfl (by kernel_rfl) (Or.inl ⟨by rfl, ?_⟩) ?_ ?_
  rotate_left
  · intro w' s0; go_simp; with_reducible rfl
  rotate_left
  · simp only [Act.put, List.setIfInBounds_toArray, List.set_cons_zero, List.set_cons_succ, i64_w, i32_w]; rfl
  refine hpure 2 (some 28) 3 [] (v := ?_) (a' := ?_) s_ rfl rfl (by kernel_rfl) (Or.inl ⟨by rfl, ?_⟩) ?_ ?_
  rotate_left
  · intro w' s0; go_simp; with_reducible rfl
  rotate_left
  · simp only [Act.put, List.setIfInBounds_toArray, List.set_cons_zero, List.set_cons_succ, i64_w, i32_w]; rfl
  refine hpure 3 (some 29) 4 [] (v := ?_) (a' := ?_) s_ rfl rfl (by kernel_rfl) (Or.inl ⟨by rfl, ?_⟩) ?_ ?_
  rotate_left
  · intro w' s0; go_simp; with_reducible rfl
  rotate_left
  · simp only [Act.put, List.setIfInBounds_toArray, List.set_cons_zero, List.set_cons_succ, i64_w, i32_w]; rfl
  refine hpure 4 (some 30) 5 [] (v := ?_) (a' := ?_) s_ rfl rfl (by kernel_rfl) (Or.inl ⟨by rfl, ?_⟩) ?_ ?_
  rotate_left
  · intro w' s0; go_simp; with_reducible rfl
  rotate_left
  · simp only [Act.put, List.setIfInBounds_toArray, List.set_cons_zero, List.set_cons_succ, i64_w, i32_w]; rfl
  refine hpure 5 (some 31) 6 [] (v := ?_) (a' := ?_) s_ rfl rfl (by kernel_rfl) (Or.inl ⟨by rfl, ?_⟩) ?_ ?_
  rotate_left
  · intro w' s0; go_simp; with_reducible rfl
  rotate_left
  · simp only [Act.put, List.setIfInBounds_toArray, List.set_cons_zero, List.set_cons_succ, i64_w, i32_w]; rfl
  refine hpure 6 (some 32) 7 [] (v := ?_) (a' := ?_) s_ rfl rfl (by kernel_rfl) (Or.inl ⟨by rfl, ?_⟩) ?_ ?_
  rotate_left
  · intro w' s0; go_simp; with_reducible rfl
  rotate_left
  · simp only [Act.put, List.setIfInBounds_toArray, List.set_cons_zero, List.set_cons_succ, i64_w, i32_w]; rfl
  refine hpure 7 (some 33) 8 [] (v := ?_) (a' := ?_) s_ rfl rfl (by kernel_rfl) (Or.inl ⟨by rfl, ?_⟩) ?_ ?_
  rotate_left
  · intro w' s0; go_simp; with_reducible rfl
  rotate_left
  · simp only [Act.put, List.setIfInBounds_toArray, List.set_cons_zero, List.set_cons_succ, i64_w, i32_w]; rfl
  refine hpure 8 (some 34) 9 [] (v := ?_) (a' := ?_) s_ rfl rfl (by kernel_rfl) (Or.inl ⟨by rfl, ?_⟩) ?_ ?_
  rotate_left
  · intro w' s0; go_simp; with_reducible rfl
  rotate_left
  · simp only [Act.put, List.setIfInBounds_toArray, List.set_cons_zero, List.set_cons_succ, i64_w, i32_w]; rfl
  refine hcall 9 (some 35) 10 [] rfl rfl (by kernel_rfl) Try.func17 (by kernel_rfl) rfl #[.pointer (some ⟨ga, 0, none⟩), .slice (some ⟨ca, 0, none⟩) N N] (by rfl) rfl (by simp only [List.map_toArray, List.map_cons, List.map_nil]; rfl) ?_
  refine (alikeB s_.a s_.x HLA.out).mono ?_
  rintro e w5 ⟨rfl, hb5⟩
  refine ⟨_, rfl, fun w' => PS W ba ga ca la bb gb cb lb w', fun _ h => h, s_.step hb5, ?_⟩
  have s_ := s_.step hb5
  clear hb5
  intro a_ ha_
  simp only [Act.put, List.setIfInBounds_toArray, List.set_cons_zero, List.set_cons_succ, i64_w, i32_w] at ha_
  subst ha_
  refine hpure 10 (some 36) 11 [] (v := ?_) (a' := ?_) s_ rfl rfl (by kernel_rfl) (Or.inl ⟨by rfl, ?_⟩) ?_ ?_
  rotate_left
  · intro w' s0; go_simp; with_reducible rfl
  rotate_left
  · simp only [Act.put, List.setIfInBounds_toArray, List.set_cons_zero, List.set_cons_succ, i64_w, i32_w]; rfl
  refine hpure 11 (some 37) 12 [] (v := ?_) (a' := ?_) s_ rfl rfl (by kernel_rfl) (Or.inl ⟨by rfl, ?_⟩) ?_ ?_
  rotate_left
  · intro w' s0; go_simp; with_reducible rfl
  rotate_left
  · simp only [Act.put, List.setIfInBounds_toArray, List.set_cons_zero, List.set_cons_succ, i64_w, i32_w]; rfl
  refine hpure 12 (some 38) 13 [] (v := ?_) (a' := ?_) s_ rfl rfl (by kernel_rfl) (Or.inl ⟨by rfl, ?_⟩) ?_ ?_
  rotate_left
  · intro w' s0; go_simp; with_reducible rfl
  rotate_left
  · simp only [Act.put, List.setIfInBounds_toArray, List.set_cons_zero, List.set_cons_succ, i64_w, i32_w]; rfl
  refine hpure 13 (some 39) 14 [] (v := ?_) (a' := ?_) s_ rfl rfl (by kernel_rfl) (Or.inl ⟨by rfl, ?_⟩) ?_ ?_
  rotate_left
  · intro w' s0; go_simp; with_reducible rfl
  rotate_left
  · simp only [Act.put, List.setIfInBounds_toArray, List.set_cons_zero, List.set_cons_succ, i64_w, i32_w]; rfl
  refine hpure 14 (some 40) 15 [] (v := ?_) (a' := ?_) s_ rfl rfl (by kernel_rfl) (Or.inl ⟨by rfl, ?_⟩) ?_ ?_
  rotate_left
  · intro w' s0; go_simp; with_reducible rfl
  rotate_left
  · simp only [Act.put, List.setIfInBounds_toArray, List.set_cons_zero, List.set_cons_succ, i64_w, i32_w]; rfl
  refine hcall 15 (some 41) 16 [] rfl rfl (by kernel_rfl) Try.func17 (by kernel_rfl) rfl #[.pointer (some ⟨gb, 0, none⟩), .slice (some ⟨cb, 0, none⟩) N N] (by rfl) rfl (by simp only [List.map_toArray, List.map_cons, List.map_nil]; rfl) ?_
  refine (alikeB s_.b s_.y HLB.out).mono ?_
  rintro e w5 ⟨rfl, hb5⟩
  refine ⟨_, rfl, fun w' => PS W ba ga ca la bb gb cb lb w', fun _ h => h, s_.step hb5, ?_⟩
  have s_ := s_.step hb5
  clear hb5
  intro a_ ha_
  simp only [Act.put, List.setIfInBounds_toArray, List.set_cons_zero, List.set_cons_succ, i64_w, i32_w] at ha_
  subst ha_
  refine hpure 16 (some 42) 17 [] (v := ?_) (a' := ?_) s_ rfl rfl (by kernel_rfl) (Or.inl ⟨by rfl, ?_⟩) ?_ ?_
  rotate_left
  · intro w' s0; go_simp; with_reducible rfl
  rotate_left
  · simp only [Act.put, List.setIfInBounds_toArray, List.set_cons_zero, List.set_cons_succ, i64_w, i32_w]; rfl
  refine hpure 17 (some 43) 18 [] (v := ?_) (a' := ?_) s_ rfl rfl (by kernel_rfl) (Or.inl ⟨by rfl, ?_⟩) ?_ ?_
  rotate_left
  · intro w' s0; go_simp; with_reducible rfl
  rotate_left
  · simp only [Act.put, List.setIfInBounds_toArray, List.set_cons_zero, List.set_cons_succ, i64_w, i32_w]; rfl
  refine hpure 18 (some 44) 19 [] (v := ?_) (a' := ?_) s_ rfl rfl (by kernel_rfl) (Or.inl ⟨by rfl, ?_⟩) ?_ ?_
  rotate_left
  · intro w' s0; go_simp; with_reducible rfl
  rotate_left
  · simp only [Act.put, List.setIfInBounds_toArray, List.set_cons_zero, List.set_cons_succ, i64_w, i32_w]; rfl
  refine hpure 19 (some 45) 20 [] (v := ?_) (a' := ?_) s_ rfl rfl (by kernel_rfl) (Or.inl ⟨by rfl, ?_⟩) ?_ ?_
  rotate_left
  · intro w' s0; go_simp; with_reducible rfl
  rotate_left
  · simp only [Act.put, List.setIfInBounds_toArray, List.set_cons_zero, List.set_cons_succ, i64_w, i32_w]; rfl
  refine hpure 22 (some 48) 20 [22] (v := ?_) (a' := ?_) s_ rfl rfl (by kernel_rfl) (Or.inl ⟨by rfl, ?_⟩) ?_ ?_
  rotate_left
  · intro w' s0; go_simp; with_reducible rfl
  rotate_left
  · simp only [Act.put, List.setIfInBounds_toArray, List.set_cons_zero, List.set_cons_succ, i64_w, i32_w]; rfl
  refine hcall 20 (some 46) 21 [22] rfl rfl (by kernel_rfl) Try.func18 (by kernel_rfl) rfl #[.pointer (some ⟨ga, 0, none⟩)] (by rfl) rfl (by simp only [List.map_toArray, List.map_cons, List.map_nil]; rfl) ?_
  refine (encodeC s_.a).mono ?_
  rintro e w5 ⟨v5, rfl, ho, hb5⟩
  obtain ⟨AE, cE, eE⟩ := Kd.R_slice ho
  subst eE
  refine ⟨_, rfl, fun w' => PS W ba ga ca la bb gb cb lb w' ∧ OwnRow AE cE (encB la) w', fun _ h => h.1, ⟨s_.step hb5, _, _, ho⟩, ?_⟩
  have s_ : PS W ba ga ca la bb gb cb lb w5 ∧ OwnRow AE cE (encB la) w5 := ⟨s_.step hb5, _, _, ho⟩
  clear hb5 ho
  intro a_ ha_
  simp only [Act.put, List.setIfInBounds_toArray, List.set_cons_zero, List.set_cons_succ, i64_w, i32_w] at ha_
  subst ha_
  refine hpure 21 (some 47) 23 [] (v := ?_) (a' := ?_) s_ rfl rfl (by kernel_rfl) (Or.inl ⟨by rfl, ?_⟩) ?_ ?_
  rotate_left
  · intro w' s0; have s1 := s0.2.str; go_simp; with_reducible rfl
  rotate_left
  · simp only [Act.put, List.setIfInBounds_toArray, List.set_cons_zero, List.set_cons_succ, i64_w, i32_w]; rfl
  refine hcall 23 (some 49) 24 [] rfl rfl (by kernel_rfl) Try.func19 (by kernel_rfl) rfl #[.slice (some ⟨ca, 0, none⟩) N N] (by rfl) rfl (by simp only [List.map_toArray, List.map_cons, List.map_nil]; rfl) ?_
  refine (refEncB s_.1.x s_.1.a.small HLA.out).mono ?_
  rintro e w5 ⟨v5, rfl, ho, hb5⟩
  obtain ⟨AF, cF, eF⟩ := Kd.R_slice ho
  subst eF
  refine ⟨_, rfl, fun w' => (PS W ba ga ca la bb gb cb lb w' ∧ OwnRow AE cE (encB la) w') ∧ OwnRow AF cF (encB la) w', fun _ h => h.1, ⟨⟨s_.1.step hb5, s_.2.below hb5⟩, _, _, ho⟩, ?_⟩
  have s_ : (PS W ba ga ca la bb gb cb lb w5 ∧ OwnRow AE cE (encB la) w5) ∧ OwnRow AF cF (encB la) w5 := ⟨⟨s_.1.step hb5, s_.2.below hb5⟩, _, _, ho⟩
  clear hb5 ho
  intro a_ ha_
  simp only [Act.put, List.setIfInBounds_toArray, List.set_cons_zero, List.set_cons_succ, i64_w, i32_w] at ha_
  subst ha_
  refine hpure 24 (some 50) 25 [] (v := ?_) (a' := ?_) s_ rfl rfl (by kernel_rfl) (Or.inl ⟨by rfl, ?_⟩) ?_ ?_
  rotate_left
  · intro w' s0; have s1 := s0.2.str; go_simp; with_reducible rfl
  rotate_left
  · simp only [Act.put, List.setIfInBounds_toArray, List.set_cons_zero, List.set_cons_succ, i64_w, i32_w]; rfl
  refine hpure 25 (some 51) 26 [] (v := ?_) (a' := ?_) s_ rfl rfl (by kernel_rfl) (Or.inl ⟨by rfl, ?_⟩) ?_ ?_
  rotate_left
  · intro w' s0; go_simp; with_reducible rfl
  rotate_left
  · simp only [Act.put, List.setIfInBounds_toArray, List.set_cons_zero, List.set_cons_succ, i64_w, i32_w]; rfl
  refine hpure 26 (some 52) 27 [] (v := ?_) (a' := ?_) s_ rfl rfl (by kernel_rfl) (Or.inl ⟨by rfl, ?_⟩) ?_ ?_
  rotate_left
  · intro w' s0; go_simp; with_reducible rfl
  rotate_left
  · simp only [Act.put, List.setIfInBounds_toArray, List.set_cons_zero, List.set_cons_succ, i64_w, i32_w]; rfl
  refine hdone (by kernel_rfl) ?_
  have HP := Aside0.mk s_.1.1
  clear s_
  all_goals (
    have HP5 := HP
    clear HP
    have hlab : la.length = lb.length := HLA.out.trans HLB.out.symm
    go_wp2_with (first
      | (go_at_call 14; (with_reducible refine (orC HP5.out.a HP5.out.b hlab Hab.out.1 Hab.out.2.1).mono ?_); rintro e w6 ⟨rfl, hm, hg⟩; have HA6 := Aside0.mk hm; have HX6 := Aside0.mk (HP5.out.x.grown hg (by intro e; injection e with e; exact (HP5.out.a.ne HP5.out.x).1 e.symm)); have HY6 := Aside0.mk (HP5.out.y.grown hg (by intro e; injection e with e; exact Hab.out.2.2.2.2.2.1 e)); have HB6 := Aside0.mk (HP5.out.b.grown hg (by intro e; injection e with e; exact Hab.out.1 e.symm) (by intro e; injection e with e; exact Hab.out.2.1 e.symm)); have HW6 := Aside0.mk (grown_below HP5.out.below Hba.out hg); clear hm hg))
    have hn1 := Aside0.mk (HP5.out.a.ne HP5.out.x)
    have hn2 := Aside0.mk (HP5.out.b.ne HP5.out.x)
    clear HP5
    go_loopg [11] (N + 1) (fun kq v11 w' => ∃ i : Nat, v11 = .int .i64 (i : Int) ∧ Aside0 (i + kq = N + 1 ∧ i ≤ N) ∧ Aside0 (MkL w' ba ga (orL la lb)) ∧ Aside0 (Bk w' ca (orAtB la lb i)) ∧ Aside0 (MkL w' bb gb lb) ∧ Aside0 (Bk w' cb lb) ∧ Aside0 (Below W.heap.size W w'))
    case atStart => exact ⟨0, rfl, ⟨by omega, by omega⟩, HA6, ⟨by rw [show orAtB la lb 0 = la from by simp [orAtB]]; exact HX6.out⟩, HB6, HY6, HW6⟩
    case round =>
      clear HA6 HX6 HB6 HY6 HW6
      obtain ⟨i, rfl, HI, HA, HX, HB, HY, HW⟩ := hrel
      cases gk with
      | zero => have := HI.out; omega
      | succ k1 =>
        obtain ⟨ji, hji⟩ : ∃ j : Int, (i : Int) = j := ⟨_, rfl⟩
        rw [hji]
        by_cases cc : i < N
        · have c1b : decide (ji < (N : Int)) = true := decide_eq_true (by omega)
          have hti : ji.toNat = i := by omega
          have hi1 : i < la.length := by rw [HLA.out]; exact cc
          have hi2 : i < lb.length := by rw [HLB.out]; exact cc
          obtain ⟨x, hx⟩ : ∃ x, la[i]? = some x := ⟨_, List.getElem?_eq_getElem hi1⟩
          obtain ⟨y, hy⟩ : ∃ y, lb[i]? = some y := ⟨_, List.getElem?_eq_getElem hi2⟩
          have hst := orAtB_step hlab hi1 hx hy
          have hcx := HX.out.cell ((orAtB_get hlab hi1).trans hx)
          have hfx := blk_frozen HX.out i
          have hcy := HY.out.cell hy
          rw [← hti] at hcx hfx hcy hst
          have p0 : (0 ≤ ji) = True := eq_true (by omega)
          have p1 : (ji < (N : Int)) = True := eq_true (by omega)
          have hw' : IntKind.i64.wrap (ji + 1) = ((ji.toNat + 1 : Nat) : Int) := by have := HN.out; rw [IntKind.wrap_i64]; omega
          have hrel2 : Aside0 (ji.toNat + 1 + k1 = N + 1 ∧ ji.toNat + 1 ≤ N) := ⟨by have := HI.out; omega⟩
          have HX2 := Aside0.mk (show Bk wr ca (orAtB la lb ji.toNat) from by rw [hti]; exact HX.out)
          clear hi1 hi2 hti cc hji
          cases x
          all_goals (
            go_wp2
            go_roundg k1
            case measure => omega
            case rel =>
              refine ⟨ji.toNat + 1, by first | rfl | (rw [hw']; done) | (simp [hw']; done), hrel2, ⟨HA.out.grown (grown_set (Below.refl _ _) ca _ _) (by intro e; injection e with e; exact hn1.out.1 e) (by intro e; injection e with e; exact hn1.out.2 e)⟩, ⟨?_⟩, ⟨HB.out.grown (grown_set (Below.refl _ _) ca _ _) (by intro e; injection e with e; exact hn2.out.1 e) (by intro e; injection e with e; exact hn2.out.2 e)⟩, ⟨HY.out.grown (grown_set (Below.refl _ _) ca _ _) (by intro e; injection e with e; exact Hab.out.2.2.1 e.symm)⟩, ⟨bk_far HW.out ca _ _ Hca.out⟩⟩
              rw [← hst]
              exact HX2.out.put _ _)
        · have c1b : decide (ji < (N : Int)) = false := decide_eq_false (by omega)
          have hi : i = la.length := by have := HI.out; rw [HLA.out]; omega
          have hxe : Aside0 (Bk wr ca (orL la lb)) := ⟨by rw [← orAtB_end hlab, ← hi]; exact HX.out⟩
          have HL2 := Aside0.mk ((orL_length hlab).trans HLA.out)
          have HP6 := Aside0.mk (show PS W ba ga ca (orL la lb) bb gb cb lb wr from ⟨HA.out, hxe.out, HB.out, HY.out, HW.out⟩)
          generalize orL la lb = lc at HL2 HP6
          clear HX HA HB HY HW hxe hi hji cc hlab
          go_upto_region 12 with (fail)
          refine hstart (fun w' => PS W ba ga ca lc bb gb cb lb w') 21 (by kernel_rfl) rfl (by kernel_rfl) (PS.drew HP6.out) (fun w_ hw_ s_ => ?_)
          clear HP6 hw_
          refine hpure 0 (some 75) 1 [] (v := ?_) (a' := ?_) s_ rfl rfl (by kernel_rfl) (Or.inl ⟨by rfl, ?_⟩) ?_ ?_
          rotate_left
          · intro w' s0; go_simp; with_reducible rfl
          rotate_left
          · simp only [Act.put, List.setIfInBounds_toArray, List.set_cons_zero, List.set_cons_succ, i64_w, i32_w]; rfl
          refine hpure 1 (some 76) 2 [] (v := ?_) (a' := ?_) s_ rfl rfl (by kernel_rfl) (Or.inl ⟨by rfl, ?_⟩) ?_ ?_
          rotate_left
          · intro w' s0; go_simp; with_reducible rfl
          rotate_left
          · simp only [Act.put, List.setIfInBounds_toArray, List.set_cons_zero, List.set_cons_succ, i64_w, i32_w]; rfl
          refine hcall 2 (some 77) 3 [] rfl rfl (by kernel_rfl) Try.func17 (by kernel_rfl) rfl #[.pointer (some ⟨ga, 0, none⟩), .slice (some ⟨ca, 0, none⟩) N N] (by rfl) rfl (by simp only [List.map_toArray, List.map_cons, List.map_nil]; rfl) ?_
          refine (alikeB s_.a s_.x HL2.out).mono ?_
          rintro e w5 ⟨rfl, hb5⟩
          refine ⟨_, rfl, fun w' => PS W ba ga ca lc bb gb cb lb w', fun _ h => h, s_.step hb5, ?_⟩
          have s_ := s_.step hb5
          clear hb5
          intro a_ ha_
          simp only [Act.put, List.setIfInBounds_toArray, List.set_cons_zero, List.set_cons_succ, i64_w, i32_w] at ha_
          subst ha_
          refine hpure 3 (some 78) 4 [] (v := ?_) (a' := ?_) s_ rfl rfl (by kernel_rfl) (Or.inl ⟨by rfl, ?_⟩) ?_ ?_
          rotate_left
          · intro w' s0; go_simp; with_reducible rfl
          rotate_left
          · simp only [Act.put, List.setIfInBounds_toArray, List.set_cons_zero, List.set_cons_succ, i64_w, i32_w]; rfl
          refine hpure 4 (some 79) 5 [] (v := ?_) (a' := ?_) s_ rfl rfl (by kernel_rfl) (Or.inl ⟨by rfl, ?_⟩) ?_ ?_
          rotate_left
          · intro w' s0; go_simp; with_reducible rfl
          rotate_left
          · simp only [Act.put, List.setIfInBounds_toArray, List.set_cons_zero, List.set_cons_succ, i64_w, i32_w]; rfl
          refine hpure 5 (some 80) 6 [] (v := ?_) (a' := ?_) s_ rfl rfl (by kernel_rfl) (Or.inl ⟨by rfl, ?_⟩) ?_ ?_
          rotate_left
          · intro w' s0; go_simp; with_reducible rfl
          rotate_left
          · simp only [Act.put, List.setIfInBounds_toArray, List.set_cons_zero, List.set_cons_succ, i64_w, i32_w]; rfl
          refine hcall 6 (some 81) 7 [] rfl rfl (by kernel_rfl) Try.func17 (by kernel_rfl) rfl #[.pointer (some ⟨gb, 0, none⟩), .slice (some ⟨cb, 0, none⟩) N N] (by rfl) rfl (by simp only [List.map_toArray, List.map_cons, List.map_nil]; rfl) ?_
          refine (alikeB s_.b s_.y HLB.out).mono ?_
          rintro e w5 ⟨rfl, hb5⟩
          refine ⟨_, rfl, fun w' => PS W ba ga ca lc bb gb cb lb w', fun _ h => h, s_.step hb5, ?_⟩
          have s_ := s_.step hb5
          clear hb5
          intro a_ ha_
          simp only [Act.put, List.setIfInBounds_toArray, List.set_cons_zero, List.set_cons_succ, i64_w, i32_w] at ha_
          subst ha_
          refine hpure 7 (some 82) 8 [] (v := ?_) (a' := ?_) s_ rfl rfl (by kernel_rfl) (Or.inl ⟨by rfl, ?_⟩) ?_ ?_
          rotate_left
          · intro w' s0; go_simp; with_reducible rfl
          rotate_left
          · simp only [Act.put, List.setIfInBounds_toArray, List.set_cons_zero, List.set_cons_succ, i64_w, i32_w]; rfl
          refine hpure 8 (some 83) 9 [] (v := ?_) (a' := ?_) s_ rfl rfl (by kernel_rfl) (Or.inl ⟨by rfl, ?_⟩) ?_ ?_
          rotate_left
          · intro w' s0; go_simp; with_reducible rfl
          rotate_left
          · simp only [Act.put, List.setIfInBounds_toArray, List.set_cons_zero, List.set_cons_succ, i64_w, i32_w]; rfl
          refine hpure 9 (some 84) 10 [] (v := ?_) (a' := ?_) s_ rfl rfl (by kernel_rfl) (Or.inl ⟨by rfl, ?_⟩) ?_ ?_
          rotate_left
          · intro w' s0; go_simp; with_reducible rfl
          rotate_left
          · simp only [Act.put, List.setIfInBounds_toArray, List.set_cons_zero, List.set_cons_succ, i64_w, i32_w]; rfl
          refine hpure 12 (some 87) 10 [12] (v := ?_) (a' := ?_) s_ rfl rfl (by kernel_rfl) (Or.inl ⟨by rfl, ?_⟩) ?_ ?_
          rotate_left
          · intro w' s0; go_simp; with_reducible rfl
          rotate_left
          · simp only [Act.put, List.setIfInBounds_toArray, List.set_cons_zero, List.set_cons_succ, i64_w, i32_w]; rfl
          refine hcall 10 (some 85) 11 [12] rfl rfl (by kernel_rfl) Try.func18 (by kernel_rfl) rfl #[.pointer (some ⟨ga, 0, none⟩)] (by rfl) rfl (by simp only [List.map_toArray, List.map_cons, List.map_nil]; rfl) ?_
          refine (encodeC s_.a).mono ?_
          rintro e w5 ⟨v5, rfl, ho, hb5⟩
          obtain ⟨AE, cE, eE⟩ := Kd.R_slice ho
          subst eE
          refine ⟨_, rfl, fun w' => PS W ba ga ca lc bb gb cb lb w' ∧ OwnRow AE cE (encB lc) w', fun _ h => h.1, ⟨s_.step hb5, _, _, ho⟩, ?_⟩
          have s_ : PS W ba ga ca lc bb gb cb lb w5 ∧ OwnRow AE cE (encB lc) w5 := ⟨s_.step hb5, _, _, ho⟩
          clear hb5 ho
          intro a_ ha_
          simp only [Act.put, List.setIfInBounds_toArray, List.set_cons_zero, List.set_cons_succ, i64_w, i32_w] at ha_
          subst ha_
          refine hpure 11 (some 86) 13 [] (v := ?_) (a' := ?_) s_ rfl rfl (by kernel_rfl) (Or.inl ⟨by rfl, ?_⟩) ?_ ?_
          rotate_left
          · intro w' s0; have s1 := s0.2.str; go_simp; with_reducible rfl
          rotate_left
          · simp only [Act.put, List.setIfInBounds_toArray, List.set_cons_zero, List.set_cons_succ, i64_w, i32_w]; rfl
          refine hcall 13 (some 88) 14 [] rfl rfl (by kernel_rfl) Try.func19 (by kernel_rfl) rfl #[.slice (some ⟨ca, 0, none⟩) N N] (by rfl) rfl (by simp only [List.map_toArray, List.map_cons, List.map_nil]; rfl) ?_
          refine (refEncB s_.1.x s_.1.a.small HL2.out).mono ?_
          rintro e w5 ⟨v5, rfl, ho, hb5⟩
          obtain ⟨AF, cF, eF⟩ := Kd.R_slice ho
          subst eF
          refine ⟨_, rfl, fun w' => (PS W ba ga ca lc bb gb cb lb w' ∧ OwnRow AE cE (encB lc) w') ∧ OwnRow AF cF (encB lc) w', fun _ h => h.1, ⟨⟨s_.1.step hb5, s_.2.below hb5⟩, _, _, ho⟩, ?_⟩
          have s_ : (PS W ba ga ca lc bb gb cb lb w5 ∧ OwnRow AE cE (encB lc) w5) ∧ OwnRow AF cF (encB lc) w5 := ⟨⟨s_.1.step hb5, s_.2.below hb5⟩, _, _, ho⟩
          clear hb5 ho
          intro a_ ha_
          simp only [Act.put, List.setIfInBounds_toArray, List.set_cons_zero, List.set_cons_succ, i64_w, i32_w] at ha_
          subst ha_
          refine hpure 14 (some 89) 15 [] (v := ?_) (a' := ?_) s_ rfl rfl (by kernel_rfl) (Or.inl ⟨by rfl, ?_⟩) ?_ ?_
          rotate_left
          · intro w' s0; have s1 := s0.2.str; go_simp; with_reducible rfl
          rotate_left
          · simp only [Act.put, List.setIfInBounds_toArray, List.set_cons_zero, List.set_cons_succ, i64_w, i32_w]; rfl
          refine hpure 15 (some 90) 16 [] (v := ?_) (a' := ?_) s_ rfl rfl (by kernel_rfl) (Or.inl ⟨by rfl, ?_⟩) ?_ ?_
          rotate_left
          · intro w' s0; go_simp; with_reducible rfl
          rotate_left
          · simp only [Act.put, List.setIfInBounds_toArray, List.set_cons_zero, List.set_cons_succ, i64_w, i32_w]; rfl
          refine hpure 16 (some 91) 17 [] (v := ?_) (a' := ?_) s_ rfl rfl (by kernel_rfl) (Or.inl ⟨by rfl, ?_⟩) ?_ ?_
          rotate_left
          · intro w' s0; go_simp; with_reducible rfl
          rotate_left
          · simp only [Act.put, List.setIfInBounds_toArray, List.set_cons_zero, List.set_cons_succ, i64_w, i32_w]; rfl
          refine hpure 17 (some 92) 18 [] (v := ?_) (a' := ?_) s_ rfl rfl (by kernel_rfl) (Or.inl ⟨by rfl, ?_⟩) ?_ ?_
          rotate_left
          · intro w' s0; go_simp; with_reducible rfl
          rotate_left
          · simp only [Act.put, List.setIfInBounds_toArray, List.set_cons_zero, List.set_cons_succ, i64_w, i32_w]; rfl
          refine hcall 18 (some 93) 19 [] rfl rfl (by kernel_rfl) Try.func15 (by kernel_rfl) rfl #[] (by rfl) rfl (by simp only [List.map_toArray, List.map_nil]) ?_
          refine (knownC _).mono ?_
          rintro e w5 ⟨rfl, hb5⟩
          refine ⟨_, rfl, fun w' => (PS W ba ga ca lc bb gb cb lb w' ∧ OwnRow AE cE (encB lc) w') ∧ OwnRow AF cF (encB lc) w', fun _ h => h, ⟨⟨s_.1.1.step hb5, s_.1.2.below hb5⟩, s_.2.below hb5⟩, ?_⟩
          have s_ : (PS W ba ga ca lc bb gb cb lb w5 ∧ OwnRow AE cE (encB lc) w5) ∧ OwnRow AF cF (encB lc) w5 := ⟨⟨s_.1.1.step hb5, s_.1.2.below hb5⟩, s_.2.below hb5⟩
          clear hb5
          intro a_ ha_
          simp only [Act.put, List.setIfInBounds_toArray, List.set_cons_zero, List.set_cons_succ, i64_w, i32_w] at ha_
          subst ha_
          refine hpure 19 (some 94) 20 [] (v := ?_) (a' := ?_) s_ rfl rfl (by kernel_rfl) (Or.inl ⟨by rfl, ?_⟩) ?_ ?_
          rotate_left
          · intro w' s0; go_simp; with_reducible rfl
          rotate_left
          · simp only [Act.put, List.setIfInBounds_toArray, List.set_cons_zero, List.set_cons_succ, i64_w, i32_w]; rfl
          refine hpure 20 (some 6) 21 [] (v := ?_) (a' := ?_) s_ rfl rfl (by kernel_rfl) (Or.inl ⟨by rfl, ?_⟩) ?_ ?_
          rotate_left
          · intro w' s0; go_simp; with_reducible rfl
          rotate_left
          · simp only [Act.put, List.setIfInBounds_toArray, List.set_cons_zero, List.set_cons_succ, i64_w, i32_w]; rfl
          refine hdone (by kernel_rfl) ?_
          all_goals (
            have HP7 := Aside0.mk s_.1.1
            clear s_
            go_wp2
            go_ret
            exact ⟨rfl, HP7.out.below⟩))
theorem playsW (W : World) (a0 : Int) (w0 : (Lit.int .i64 a0).wf = true) (A1 : Option Addr) (c1 : Nat) (l : List Int) (hr1 : Kd.C (Kd.int .i64) W A1 l.length l) (hc1 : l.length ≤ c1) (hm1 : l.length ≤ maxLen) (hw1 : ∀ x ∈ l, (Lit.int .i64 x).wf = true) (hy1 : l.length * 8 ≤ 140737488351232)
    (A2 : Option Addr) (c2 : Nat) (o : List Int) (hr2 : Kd.C (Kd.int .i64) W A2 o.length o) (hc2 : o.length ≤ c2) (hm2 : o.length ≤ maxLen) (hw2 : ∀ x ∈ o, (Lit.int .i64 x).wf = true) (hy2 : o.length * 8 ≤ 140737488351232) : Calls Try.prog 4 #[.int .i64 a0, .slice A1 l.length c1, .slice A2 o.length c2] W fun e w' => e = .returned (.bool true) ∧ Below W.heap.size W w' := playsC a0 A1 c1 l A2 c2 o W hr1 hr2
end Go.Proofs.Ytodadonpfcefbaa.Marks
