/- DelsBack: the walk. -/
import Derived.Test.YtodadonpfcefbaaM12
import Derived.Lib.Hide
namespace Go.Proofs.Ytodadonpfcefbaa.Marks
open Reg Go.RowKit Go.Proofs.YtodadonpfcefbaaW.PrintWords Go.Proofs.YtodadonpfcefbaaW.PrintLast Go.Proofs.YtodadonpfcefbaaW.PrintMore Go.Proofs.Ytodadonpfcefbaa.QDelsReads Go.Proofs.Ytodadonpfcefbaa.Base
attribute [local go_sem] max2_int min2_int max_two min_two max_three min_three max_four min_four
set_option linter.unusedVariables false
set_option linter.unusedSimpArgs false
theorem orL_comm (l o : List Bool) : orL l o = orL o l := by
  unfold orL
  rw [List.zipWith_comm]
  congr 1
  funext a c
  exact Bool.or_comm _ _
theorem orL_twice : ∀ (l o : List Bool), orL (orL l o) o = orL l o
  | [], _ => rfl
  | _ :: _, [] => rfl
  | a :: l, c :: o => by
    have h := orL_twice l o
    simp only [orL, List.zipWith_cons_cons] at h ⊢
    rw [h]
    cases a <;> cases c <;> rfl
/-- Three marks, the first one's row, and the bytes that came in. -/
structure BS (W : World) (A0 : Option Addr) (ah : List Int) (ba ga ca : Nat) (la : List Bool) (bb gb bc gc : Nat) (lb : List Bool) (w' : World) : Prop where
  a : MkL w' ba ga la
  x : Bk w' ca la
  b : MkL w' bb gb lb
  c : MkL w' bc gc lb
  h : Kd.C (Kd.int .u8) w' A0 ah.length ah
  below : Below W.heap.size W w'
theorem BS.step {W : World} {A0 : Option Addr} {ah : List Int} {ba ga ca bb gb bc gc : Nat} {la lb : List Bool} {w1 w2 : World} (h : BS W A0 ah ba ga ca la bb gb bc gc lb w1) (k : Below w1.heap.size w1 w2) : BS W A0 ah ba ga ca la bb gb bc gc lb w2 :=
  ⟨h.a.below k, h.x.below k, h.b.below k, h.c.below k, Kd.C_below h.h k, below_step h.below k⟩
/-- Four marks. -/
structure QS (W : World) (ba ga : Nat) (la : List Bool) (bb gb : Nat) (lb : List Bool) (bc gc : Nat) (lc : List Bool) (bm gm : Nat) (lm : List Bool) (w' : World) : Prop where
  a : MkL w' ba ga la
  b : MkL w' bb gb lb
  c : MkL w' bc gc lc
  m : MkL w' bm gm lm
  below : Below W.heap.size W w'
theorem QS.step {W : World} {ba ga bb gb bc gc bm gm : Nat} {la lb lc lm : List Bool} {w1 w2 : World} (h : QS W ba ga la bb gb lb bc gc lc bm gm lm w1) (k : Below w1.heap.size w1 w2) : QS W ba ga la bb gb lb bc gc lc bm gm lm w2 :=
  ⟨h.a.below k, h.b.below k, h.c.below k, h.m.below k, below_step h.below k⟩
theorem QS.drew {W : World} {ba ga bb gb bc gc bm gm : Nat} {la lb lc lm : List Bool} {w1 : World} (h : QS W ba ga la bb gb lb bc gc lc bm gm lm w1) : QS W ba ga la bb gb lb bc gc lc bm gm lm w1.drew :=
  ⟨h.a.drew, h.b.drew, h.c.drew, h.m.drew, h.below.drew⟩
theorem ne_some {a b : Nat} (h : a < b) : some a ≠ some b := by intro e; injection e with e; omega
theorem ne_some' {a b : Nat} (h : b < a) : some a ≠ some b := by intro e; injection e with e; omega
theorem QS.orA {W : World} {ba ga bb gb bc gc bm gm : Nat} {la lb lc lm l2 : List Bool} {w1 w2 : World} (h : QS W ba ga la bb gb lb bc gc lc bm gm lm w1) (hm : MkL w2 ba ga l2) (hg : w1.grownBy w2 (some ba)) (hW : W.heap.size ≤ ba) (h1 : ba < bb) (h2 : ba < bc) (h3 : ba < bm) : QS W ba ga l2 bb gb lb bc gc lc bm gm lm w2 :=
  ⟨hm, h.b.grown hg (ne_some' h1) (ne_some' (Nat.lt_trans h1 h.b.lt.1)), h.c.grown hg (ne_some' h2) (ne_some' (Nat.lt_trans h2 h.c.lt.1)), h.m.grown hg (ne_some' h3) (ne_some' (Nat.lt_trans h3 h.m.lt.1)), grown_below h.below hW hg⟩
theorem QS.orB {W : World} {ba ga bb gb bc gc bm gm : Nat} {la lb lc lm l2 : List Bool} {w1 w2 : World} (h : QS W ba ga la bb gb lb bc gc lc bm gm lm w1) (hm : MkL w2 bb gb l2) (hg : w1.grownBy w2 (some bb)) (hW : W.heap.size ≤ bb) (h1 : ga < bb) (h2 : bb < bc) (h3 : bb < bm) : QS W ba ga la bb gb l2 bc gc lc bm gm lm w2 :=
  ⟨h.a.grown hg (ne_some (Nat.lt_trans h.a.lt.1 h1)) (ne_some h1), hm, h.c.grown hg (ne_some' h2) (ne_some' (Nat.lt_trans h2 h.c.lt.1)), h.m.grown hg (ne_some' h3) (ne_some' (Nat.lt_trans h3 h.m.lt.1)), grown_below h.below hW hg⟩
set_option maxHeartbeats 8000000 in
set_option maxRecDepth 100000 in
theorem backC (A0 : Option Addr) (c0 : Nat) (A : List Nat) (a1 : Int) (A2 : Option Addr) (c2 : Nat) (l : List Int) (A3 : Option Addr) (c3 : Nat) (o : List Int) (W : World) (hA : ∀ x ∈ A, x < 256) (hAl : A.length ≤ 140737488351232) (hr0 : Kd.C (Kd.int .u8) W A0 (ints A).length (ints A)) (hc0 : (ints A).length ≤ c0) (hr2 : Kd.C (Kd.int .i64) W A2 l.length l) (hr3 : Kd.C (Kd.int .i64) W A3 o.length o) : Calls Try.prog 7 #[.slice A0 (ints A).length c0, .int .i64 a1, .slice A2 l.length c2, .slice A3 o.length c3] W fun e w' => e = .returned (.bool true) ∧ Below W.heap.size W w' := by
  obtain ⟨N, hN, hwi⟩ := within_some a1 200 (by decide)
  have HN := Aside0.mk hN
  have HR0 := Aside0.mk hr0
  have HR2 := Aside0.mk hr2
  have HR3 := Aside0.mk hr3
  have hla := markL_length N l
  have hlb := markL_length N o
  generalize hga : markL N l = la at hla
  generalize hgb : markL N o = lb at hlb
  have HLA := Aside0.mk hla
  have HLB := Aside0.mk hlb
  have HLL := Aside0.mk (hla.trans hlb.symm)
  obtain ⟨kd, hkd⟩ := dec_put hA hAl la (by omega)
  have HKD := Aside0.mk hkd
  have HEL : Aside0 ((ints A).length + (encB la).length ≤ 140737488355328) := ⟨by
    obtain ⟨E, he, _, hE2⟩ := encB_bytes la
    have hsz := enc_size5 (L := la.map bn) (by rw [List.length_map]; omega) 1
    have hpl : (putN la.length).length ≤ 10 := putN_10 (by omega)
    rw [List.length_map] at hsz
    rw [he, ints_length, ints_length, hE2, List.length_append]
    omega⟩
  have hcn : IntKind.i64.wrap (cntL (orL (orL la lb) lb) + ((leftL (orL (orL la lb) lb)).length : Int)) = (N : Int) := by
    have h1 := left_len (orL (orL la lb) lb)
    have h2 : (orL (orL la lb) lb).length = N := by rw [orL_length (by rw [orL_length HLL.out]; exact HLL.out), orL_length HLL.out, hla]
    rw [h2] at h1
    rw [IntKind.wrap_i64]
    omega
  have HCN := Aside0.mk hcn
  generalize hal : ints A = ah at *
  clear hr0 hr2 hr3 hN hla hlb hal hA hAl hkd hcn
  go_enter Try.func7, Try.ntmps7
  go_upto_region 14 with (first
    | (go_at_call 8; refine (columbariumbook_Within.calls a1 0 200 _ _ hwi).mono ?_; rintro e w1 ⟨rfl, hd⟩; have HB1 := Aside0.mk hd.below; clear hd)
    | (go_at_call 16; (with_reducible refine (markedC N (Nat.le_trans HN.out (by decide)) A2 c2 l _ (Kd.C_below HR2.out HB1.out)).mono ?_); rintro e w2 ⟨ba, ga, ca, rfl, hm, hc, hb, hbc, hB⟩; rw [hga] at hm hc; have HA2 := Aside0.mk hm; have HX2 := Aside0.mk hc; have Hba := Aside0.mk (Nat.le_trans HB1.out.size hb); have HB2 := Aside0.mk (below_step HB1.out hB); clear hm hc hb hbc hB)
    | (go_at_call 16; have t1 := HA2.out; (with_reducible refine (markedC N (Nat.le_trans HN.out (by decide)) A3 c3 o _ (Kd.C_below HR3.out HB2.out)).mono ?_); rintro e w3 ⟨bb, gb, cb, rfl, hm, hc, hb, hbc, hB⟩; rw [hgb] at hm hc; have HO3 := Aside0.mk (show ga < bb from Nat.lt_of_lt_of_le t1.lt.2 hb); have HA3 := Aside0.mk (t1.below hB); have HX3 := Aside0.mk (HX2.out.below hB); have HM3 := Aside0.mk hm; have Hbb := Aside0.mk (Nat.le_trans HB2.out.size hb); have HB3 := Aside0.mk (below_step HB2.out hB); clear hm hc hb hbc hB HA2 HX2 t1)
    | (go_at_call 16; have t1 := HA3.out; have t2 := HM3.out; (with_reducible refine (markedC N (Nat.le_trans HN.out (by decide)) A3 c3 o _ (Kd.C_below HR3.out HB3.out)).mono ?_); rintro e w4 ⟨bc, gc, cc, rfl, hm, hc, hb, hbc, hB⟩; rw [hgb] at hm hc; have HO4 := Aside0.mk (show gb < bc from Nat.lt_of_lt_of_le t2.lt.2 hb); have HS4 := Aside0.mk (show BS W A0 ah ba ga ca la bb gb bc gc lb w4 from ⟨t1.below hB, HX3.out.below hB, t2.below hB, hm, Kd.C_below HR0.out (below_step HB3.out hB), below_step HB3.out hB⟩); clear hm hc hb hbc hB HA3 HX3 HM3 t1 t2 HB2 HB3)
    | ((with_reducible refine gate_dst (N := 52) rfl ?_); refine Kd.R_lit (Kd.int .u8) (w0 := w4) w4.heap.size 5 ?hg (N := 52) ?hd (xs := ([] : List Int)) (inner := []) (ok := fun _ => True) (okp := fun _ => True) ?hr ?hp (fun _ hk => hk) trivial (Below.refl _ _) (Nat.le_refl _) (by simp) ?_; (case hd => rfl); (case hg => rfl); (case hr => first | (go_simp; done) | (go_simp; rfl)); (case hp => exact (Reps.none _ _)); intro v5 w5 ho hb hg_ hnew_; clear hg_ hnew_; have HO5 := Aside0.mk ho; have HB5 := Aside0.mk hb; clear ho hb)
    | ((with_reducible refine gate_builtin (b := .append) (xs := #[.tmp 52, .tmp 53]) rfl ?_); at_builtin; refine Kd.R_append_rows (Kd.int .u8) (w0 := w4) w4.heap.size rfl (.tmp 52) (.tmp 53) 38 5 (.int .u8 0) 1 rfl Try.underlying38 info5 rfl (by decide) (by omega) v5 ([] : List Int) ah _ _ _ (fun _ => True) (fun _ => False) rfl rfl HO5.out (Kd.C_below HS4.out.h HB5.out) (fun _ _ h => h) (fun _ h => h.elim) (fun _ _ => trivial) HB5.out HB5.out.size ?aL ?_; (case aL => have := HEL.out; simp; omega); intro v6 w6 ho hb hg hat; clear hg hat; have HO6 := Aside0.mk (show Kd.R (Kd.int .u8) 5 w6 w4.heap.size (fun _ => True) v6 ah from ho); have HB6 := Aside0.mk hb; clear ho hb HO5 HB5)
    | (go_at_call 18; (with_reducible refine (encodeC (HS4.out.a.below HB6.out)).mono ?_); rintro e w7 ⟨v7, rfl, ho, hb⟩; obtain ⟨AE, cE, eE⟩ := Kd.R_slice ho; subst eE; have HE7 := Aside0.mk (Kd.R_reads' ho).2.2; have HO7 := Aside0.mk (Kd.R_below HO6.out hb); have HB7 := Aside0.mk (below_step HB6.out hb); clear ho hb HO6 HB6)
    | ((with_reducible refine gate_builtin (b := .append) (xs := #[.tmp 54, .tmp 56]) rfl ?_); at_builtin; refine Kd.R_append_rows (Kd.int .u8) (w0 := w4) w4.heap.size rfl (.tmp 54) (.tmp 56) 38 5 (.int .u8 0) 1 rfl Try.underlying38 info5 rfl (by decide) (by omega) v6 ah (encB la) _ _ _ (fun _ => True) (fun _ => False) rfl rfl HO7.out HE7.out (fun _ _ h => h) (fun _ h => h.elim) (fun _ _ => trivial) HB7.out HB7.out.size ?aL ?_; (case aL => have := HEL.out; omega); intro v8 w8 ho hb hg hat; clear hg hat; obtain ⟨AD, cD, eD⟩ := Kd.R_slice ho; subst eD; have HD8 := Aside0.mk (Kd.R_reads' ho).2; have HB8 := Aside0.mk hb; have HS8 := Aside0.mk (HS4.out.step hb); have hdec := decOk (A0 := AD) (c0 := cD) (W := w8) HD8.out.2 (by simpa using HD8.out.1) HKD.out; rw [List.length_append] at hdec; have HDEC := Lib.hid hdec; clear hdec ho hb HO7 HB7 HE7)
    | (go_at_call 20; (with_reducible refine HDEC.out.mono ?_); rintro e w9 ⟨bm, gm, rfl, hm, hb, hB⟩; have t1 := HS8.out; have HO9 := Aside0.mk (show gc < bm from Nat.lt_of_lt_of_le t1.c.lt.2 hb); have HX9 := Aside0.mk (show Bk w9 ca la from t1.x.below hB); have HQ9 := Aside0.mk (show QS W ba ga la bb gb lb bc gc lb bm gm la w9 from ⟨t1.a.below hB, t1.b.below hB, t1.c.below hB, hm, below_step t1.below hB⟩); clear hm hb hB t1 HS8 HS4 HDEC)
    | (go_at_call 17; (with_reducible refine (alikeB HQ9.out.m HX9.out HLA.out).mono ?_); rintro e w10 ⟨rfl, hb⟩; have HQ10 := Aside0.mk (HQ9.out.step hb); clear hb HQ9 HX9)
    | (go_at_call 14; have t1 := HQ10.out; (with_reducible refine (orC t1.a t1.b HLL.out ?o1 ?o2).mono ?_); (case o1 => have := t1.a.lt; have := HO3.out; omega); (case o2 => have := t1.a.lt; have := t1.b.lt; have := HO3.out; omega); rintro e w11 ⟨rfl, hm, hg⟩; have HQ11 := Aside0.mk (t1.orA hm hg Hba.out (Nat.lt_trans t1.a.lt.1 HO3.out) (by have := t1.a.lt; have := t1.b.lt; have := HO3.out; have := HO4.out; omega) (by have := t1.a.lt; have := t1.b.lt; have := t1.c.lt; have := HO3.out; have := HO4.out; have := HO9.out; omega)); clear hm hg t1 HQ10)
    | (go_at_call 14; have t1 := HQ11.out; (with_reducible refine (orC t1.b t1.m HLL.out.symm ?o1 ?o2).mono ?_); (case o1 => have := t1.b.lt; have := t1.c.lt; have := HO4.out; have := HO9.out; omega); (case o2 => have := t1.b.lt; have := t1.c.lt; have := t1.m.lt; have := HO4.out; have := HO9.out; omega); rintro e w12 ⟨rfl, hm, hg⟩; have HQ12 := Aside0.mk (t1.orB hm hg Hbb.out HO3.out (Nat.lt_trans t1.b.lt.1 HO4.out) (by have := t1.b.lt; have := t1.c.lt; have := HO4.out; have := HO9.out; omega)); clear hm hg t1 HQ11)
    | (go_at_call 14; have t1 := HQ12.out; (with_reducible refine (orC t1.a t1.c ((orL_length HLL.out).trans HLL.out) ?o1 ?o2).mono ?_); (case o1 => have := t1.a.lt; have := t1.b.lt; have := HO3.out; have := HO4.out; omega); (case o2 => have := t1.a.lt; have := t1.b.lt; have := t1.c.lt; have := HO3.out; have := HO4.out; omega); rintro e w13 ⟨rfl, hm, hg⟩; have HQ := Aside0.mk (t1.orA hm hg Hba.out (Nat.lt_trans t1.a.lt.1 HO3.out) (by have := t1.a.lt; have := t1.b.lt; have := HO3.out; have := HO4.out; omega) (by have := t1.a.lt; have := t1.b.lt; have := t1.c.lt; have := HO3.out; have := HO4.out; have := HO9.out; omega)); clear hm hg t1 HQ12))
  have HXX : Aside0 (orL (orL la lb) lb = orL lb la) := ⟨by rw [orL_twice, orL_comm]⟩
  generalize orL (orL la lb) lb = x1 at HQ HXX HCN
  generalize orL lb la = x2 at HQ HXX
  clear hwi HO3 HO4 HO9 Hba Hbb HR0 HR2 HR3 HKD HEL HLL HLA HLB hga hgb HD8 HN
  refine hstart (fun w' => QS W ba ga x1 bb gb x2 bc gc lb bm gm la w') 33 (by kernel_rfl) rfl (by kernel_rfl) (QS.drew HQ.out) (fun w_ hw_ s_ => ?_)
  clear HQ hw_
  refine hpure 0 (some 93) 1 [] (v := ?_) (a' := ?_) s_ rfl rfl (by kernel_rfl) (Or.inl ⟨by rfl, ?_⟩) ?_ ?_
  rotate_left
  · intro w' s0; go_simp; with_reducible rfl
  rotate_left
  · simp only [Act.put, List.setIfInBounds_toArray, List.set_cons_zero, List.set_cons_succ, i64_w, i32_w]; rfl
  refine hpure 1 (some 94) 2 [] (v := ?_) (a' := ?_) s_ rfl rfl (by kernel_rfl) (Or.inl ⟨by rfl, ?_⟩) ?_ ?_
  rotate_left
  · intro w' s0; go_simp; with_reducible rfl
  rotate_left
  · simp only [Act.put, List.setIfInBounds_toArray, List.set_cons_zero, List.set_cons_succ, i64_w, i32_w]; rfl
  refine hpure 2 (some 95) 3 [] (v := ?_) (a' := ?_) s_ rfl rfl (by kernel_rfl) (Or.inl ⟨by rfl, ?_⟩) ?_ ?_
  rotate_left
  · intro w' s0; go_simp; with_reducible rfl
  rotate_left
  · simp only [Act.put, List.setIfInBounds_toArray, List.set_cons_zero, List.set_cons_succ, i64_w, i32_w]; rfl
  refine hpure 3 (some 96) 4 [] (v := ?_) (a' := ?_) s_ rfl rfl (by kernel_rfl) (Or.inl ⟨by rfl, ?_⟩) ?_ ?_
  rotate_left
  · intro w' s0; go_simp; with_reducible rfl
  rotate_left
  · simp only [Act.put, List.setIfInBounds_toArray, List.set_cons_zero, List.set_cons_succ, i64_w, i32_w]; rfl
  refine hpure 4 (some 97) 5 [] (v := ?_) (a' := ?_) s_ rfl rfl (by kernel_rfl) (Or.inl ⟨by rfl, ?_⟩) ?_ ?_
  rotate_left
  · intro w' s0; go_simp; with_reducible rfl
  rotate_left
  · simp only [Act.put, List.setIfInBounds_toArray, List.set_cons_zero, List.set_cons_succ, i64_w, i32_w]; rfl
  refine hpure 5 (some 98) 6 [] (v := ?_) (a' := ?_) s_ rfl rfl (by kernel_rfl) (Or.inl ⟨by rfl, ?_⟩) ?_ ?_
  rotate_left
  · intro w' s0; go_simp; with_reducible rfl
  rotate_left
  · simp only [Act.put, List.setIfInBounds_toArray, List.set_cons_zero, List.set_cons_succ, i64_w, i32_w]; rfl
  refine hpure 6 (some 99) 7 [] (v := ?_) (a' := ?_) s_ rfl rfl (by kernel_rfl) (Or.inl ⟨by rfl, ?_⟩) ?_ ?_
  rotate_left
  · intro w' s0; go_simp; with_reducible rfl
  rotate_left
  · simp only [Act.put, List.setIfInBounds_toArray, List.set_cons_zero, List.set_cons_succ, i64_w, i32_w]; rfl
  refine hpure 7 (some 100) 8 [] (v := ?_) (a' := ?_) s_ rfl rfl (by kernel_rfl) (Or.inl ⟨by rfl, ?_⟩) ?_ ?_
  rotate_left
  · intro w' s0; go_simp; with_reducible rfl
  rotate_left
  · simp only [Act.put, List.setIfInBounds_toArray, List.set_cons_zero, List.set_cons_succ, i64_w, i32_w]; rfl
  refine hpure 8 (some 101) 9 [] (v := ?_) (a' := ?_) s_ rfl rfl (by kernel_rfl) (Or.inl ⟨by rfl, ?_⟩) ?_ ?_
  rotate_left
  · intro w' s0; go_simp; with_reducible rfl
  rotate_left
  · simp only [Act.put, List.setIfInBounds_toArray, List.set_cons_zero, List.set_cons_succ, i64_w, i32_w]; rfl
  refine hpure 9 (some 102) 10 [] (v := ?_) (a' := ?_) s_ rfl rfl (by kernel_rfl) (Or.inl ⟨by rfl, ?_⟩) ?_ ?_
  rotate_left
  · intro w' s0; go_simp; with_reducible rfl
  rotate_left
  · simp only [Act.put, List.setIfInBounds_toArray, List.set_cons_zero, List.set_cons_succ, i64_w, i32_w]; rfl
  refine hpure 10 (some 103) 11 [] (v := ?_) (a' := ?_) s_ rfl rfl (by kernel_rfl) (Or.inl ⟨by rfl, ?_⟩) ?_ ?_
  rotate_left
  · intro w' s0; go_simp; with_reducible rfl
  rotate_left
  · simp only [Act.put, List.setIfInBounds_toArray, List.set_cons_zero, List.set_cons_succ, i64_w, i32_w]; rfl
  refine hpure 11 (some 104) 12 [] (v := ?_) (a' := ?_) s_ rfl rfl (by kernel_rfl) (Or.inl ⟨by rfl, ?_⟩) ?_ ?_
  rotate_left
  · intro w' s0; go_simp; with_reducible rfl
  rotate_left
  · simp only [Act.put, List.setIfInBounds_toArray, List.set_cons_zero, List.set_cons_succ, i64_w, i32_w]; rfl
  refine hpure 14 (some 107) 12 [14] (v := ?_) (a' := ?_) s_ rfl rfl (by kernel_rfl) (Or.inl ⟨by rfl, ?_⟩) ?_ ?_
  rotate_left
  · intro w' s0; go_simp; with_reducible rfl
  rotate_left
  · simp only [Act.put, List.setIfInBounds_toArray, List.set_cons_zero, List.set_cons_succ, i64_w, i32_w]; rfl
  refine hcall 12 (some 105) 13 [14] rfl rfl (by kernel_rfl) Try.func18 (by kernel_rfl) rfl #[.pointer (some ⟨ga, 0, none⟩)] (by rfl) rfl (by simp only [List.map_toArray, List.map_cons, List.map_nil]; rfl) ?_
  refine (encodeC s_.a).mono ?_
  rintro e w5 ⟨v5, rfl, ho, hb5⟩
  obtain ⟨AE, cE, eE⟩ := Kd.R_slice ho
  subst eE
  refine ⟨_, rfl, fun w' => QS W ba ga x1 bb gb x2 bc gc lb bm gm la w' ∧ OwnRow AE cE (encB x1) w', fun _ h => h.1, ⟨s_.step hb5, _, _, ho⟩, ?_⟩
  have s_ : QS W ba ga x1 bb gb x2 bc gc lb bm gm la w5 ∧ OwnRow AE cE (encB x1) w5 := ⟨s_.step hb5, _, _, ho⟩
  clear hb5 ho
  intro a_ ha_
  simp only [Act.put, List.setIfInBounds_toArray, List.set_cons_zero, List.set_cons_succ, i64_w, i32_w] at ha_
  subst ha_
  refine hpure 13 (some 106) 15 [] (v := ?_) (a' := ?_) s_ rfl rfl (by kernel_rfl) (Or.inl ⟨by rfl, ?_⟩) ?_ ?_
  rotate_left
  · intro w' s0; have s1 := s0.2.str; go_simp; with_reducible rfl
  rotate_left
  · simp only [Act.put, List.setIfInBounds_toArray, List.set_cons_zero, List.set_cons_succ, i64_w, i32_w]; rfl
  refine hcall 15 (some 108) 16 [] rfl rfl (by kernel_rfl) Try.func18 (by kernel_rfl) rfl #[.pointer (some ⟨gb, 0, none⟩)] (by rfl) rfl (by simp only [List.map_toArray, List.map_cons, List.map_nil]; rfl) ?_
  refine (encodeC s_.1.b).mono ?_
  rintro e w5 ⟨v5, rfl, ho, hb5⟩
  obtain ⟨AF, cF, eF⟩ := Kd.R_slice ho
  subst eF
  refine ⟨_, rfl, fun w' => (QS W ba ga x1 bb gb x2 bc gc lb bm gm la w' ∧ OwnRow AE cE (encB x1) w') ∧ OwnRow AF cF (encB x2) w', fun _ h => h.1, ⟨⟨s_.1.step hb5, s_.2.below hb5⟩, _, _, ho⟩, ?_⟩
  have s_ : (QS W ba ga x1 bb gb x2 bc gc lb bm gm la w5 ∧ OwnRow AE cE (encB x1) w5) ∧ OwnRow AF cF (encB x2) w5 := ⟨⟨s_.1.step hb5, s_.2.below hb5⟩, _, _, ho⟩
  clear hb5 ho
  intro a_ ha_
  simp only [Act.put, List.setIfInBounds_toArray, List.set_cons_zero, List.set_cons_succ, i64_w, i32_w] at ha_
  subst ha_
  refine hpure 16 (some 109) 17 [] (v := ?_) (a' := ?_) s_ rfl rfl (by kernel_rfl) (Or.inl ⟨by rfl, ?_⟩) ?_ ?_
  rotate_left
  · intro w' s0; have s1 := s0.2.str; go_simp; with_reducible rfl
  rotate_left
  · simp only [Act.put, List.setIfInBounds_toArray, List.set_cons_zero, List.set_cons_succ, i64_w, i32_w]; rfl
  refine hpure 17 (some 110) 18 [] (v := ?_) (a' := ?_) s_ rfl rfl (by kernel_rfl) (Or.inl ⟨by rfl, ?_⟩) ?_ ?_
  rotate_left
  · intro w' s0; have s2 := HXX.out; go_simp; with_reducible rfl
  rotate_left
  · simp only [Act.put, List.setIfInBounds_toArray, List.set_cons_zero, List.set_cons_succ, i64_w, i32_w]; rfl
  refine hpure 18 (some 111) 19 [] (v := ?_) (a' := ?_) s_ rfl rfl (by kernel_rfl) (Or.inl ⟨by rfl, ?_⟩) ?_ ?_
  rotate_left
  · intro w' s0; go_simp; with_reducible rfl
  rotate_left
  · simp only [Act.put, List.setIfInBounds_toArray, List.set_cons_zero, List.set_cons_succ, i64_w, i32_w]; rfl
  refine hpure 19 (some 112) 20 [] (v := ?_) (a' := ?_) s_ rfl rfl (by kernel_rfl) (Or.inl ⟨by rfl, ?_⟩) ?_ ?_
  rotate_left
  · intro w' s0; go_simp; with_reducible rfl
  rotate_left
  · simp only [Act.put, List.setIfInBounds_toArray, List.set_cons_zero, List.set_cons_succ, i64_w, i32_w]; rfl
  refine hpure 20 (some 113) 21 [] (v := ?_) (a' := ?_) s_ rfl rfl (by kernel_rfl) (Or.inl ⟨by rfl, ?_⟩) ?_ ?_
  rotate_left
  · intro w' s0; go_simp; with_reducible rfl
  rotate_left
  · simp only [Act.put, List.setIfInBounds_toArray, List.set_cons_zero, List.set_cons_succ, i64_w, i32_w]; rfl
  refine hpure 22 (some 115) 21 [22] (v := ?_) (a' := ?_) s_ rfl rfl (by kernel_rfl) (Or.inl ⟨by rfl, ?_⟩) ?_ ?_
  rotate_left
  · intro w' s0; go_simp; with_reducible rfl
  rotate_left
  · simp only [Act.put, List.setIfInBounds_toArray, List.set_cons_zero, List.set_cons_succ, i64_w, i32_w]; rfl
  refine hpure 26 (some 119) 21 [22, 26] (v := ?_) (a' := ?_) s_ rfl rfl (by kernel_rfl) (Or.inl ⟨by rfl, ?_⟩) ?_ ?_
  rotate_left
  · intro w' s0; go_simp; with_reducible rfl
  rotate_left
  · simp only [Act.put, List.setIfInBounds_toArray, List.set_cons_zero, List.set_cons_succ, i64_w, i32_w]; rfl
  refine hcall 21 (some 114) 23 [26] rfl rfl (by kernel_rfl) Try.func12 (by kernel_rfl) rfl #[.pointer (some ⟨ga, 0, none⟩)] (by rfl) rfl (by simp only [List.map_toArray, List.map_cons, List.map_nil]; rfl) ?_
  refine (countC s_.1.1.a).mono ?_
  rintro e w5 ⟨rfl, hb5⟩
  refine ⟨_, rfl, fun w' => (QS W ba ga x1 bb gb x2 bc gc lb bm gm la w' ∧ OwnRow AE cE (encB x1) w') ∧ OwnRow AF cF (encB x2) w', fun _ h => h, ⟨⟨s_.1.1.step hb5, s_.1.2.below hb5⟩, s_.2.below hb5⟩, ?_⟩
  have s_ : (QS W ba ga x1 bb gb x2 bc gc lb bm gm la w5 ∧ OwnRow AE cE (encB x1) w5) ∧ OwnRow AF cF (encB x2) w5 := ⟨⟨s_.1.1.step hb5, s_.1.2.below hb5⟩, s_.2.below hb5⟩
  clear hb5
  intro a_ ha_
  simp only [Act.put, List.setIfInBounds_toArray, List.set_cons_zero, List.set_cons_succ, i64_w, i32_w] at ha_
  subst ha_
  refine hcall 23 (some 116) 24 [26] rfl rfl (by kernel_rfl) Try.func13 (by kernel_rfl) rfl #[.pointer (some ⟨ga, 0, none⟩)] (by rfl) rfl (by simp only [List.map_toArray, List.map_cons, List.map_nil]; rfl) ?_
  refine (leftC s_.1.1.a).mono ?_
  rintro e w5 ⟨v5, rfl, ho, hb5⟩
  obtain ⟨AL, cL, eL⟩ := Kd.R_slice ho
  subst eL
  clear ho
  refine ⟨_, rfl, fun w' => (QS W ba ga x1 bb gb x2 bc gc lb bm gm la w' ∧ OwnRow AE cE (encB x1) w') ∧ OwnRow AF cF (encB x2) w', fun _ h => h, ⟨⟨s_.1.1.step hb5, s_.1.2.below hb5⟩, s_.2.below hb5⟩, ?_⟩
  have s_ : (QS W ba ga x1 bb gb x2 bc gc lb bm gm la w5 ∧ OwnRow AE cE (encB x1) w5) ∧ OwnRow AF cF (encB x2) w5 := ⟨⟨s_.1.1.step hb5, s_.1.2.below hb5⟩, s_.2.below hb5⟩
  clear hb5
  intro a_ ha_
  simp only [Act.put, List.setIfInBounds_toArray, List.set_cons_zero, List.set_cons_succ, i64_w, i32_w] at ha_
  subst ha_
  refine hpure 24 (some 117) 25 [26] (v := ?_) (a' := ?_) s_ rfl rfl (by kernel_rfl) (Or.inl ⟨by rfl, ?_⟩) ?_ ?_
  rotate_left
  · intro w' s0; go_simp; with_reducible rfl
  rotate_left
  · simp only [Act.put, List.setIfInBounds_toArray, List.set_cons_zero, List.set_cons_succ, i64_w, i32_w]; rfl
  refine hpure 25 (some 118) 27 [] (v := ?_) (a' := ?_) s_ rfl rfl (by kernel_rfl) (Or.inl ⟨by rfl, ?_⟩) ?_ ?_
  rotate_left
  · intro w' s0; have s2 := HCN.out; go_simp; with_reducible rfl
  rotate_left
  · simp only [Act.put, List.setIfInBounds_toArray, List.set_cons_zero, List.set_cons_succ, i64_w, i32_w]; rfl
  refine hpure 27 (some 120) 28 [] (v := ?_) (a' := ?_) s_ rfl rfl (by kernel_rfl) (Or.inl ⟨by rfl, ?_⟩) ?_ ?_
  rotate_left
  · intro w' s0; have s2 := HCN.out; go_simp; with_reducible rfl
  rotate_left
  · simp only [Act.put, List.setIfInBounds_toArray, List.set_cons_zero, List.set_cons_succ, i64_w, i32_w]; rfl
  refine hpure 28 (some 121) 29 [] (v := ?_) (a' := ?_) s_ rfl rfl (by kernel_rfl) (Or.inl ⟨by rfl, ?_⟩) ?_ ?_
  rotate_left
  · intro w' s0; go_simp; with_reducible rfl
  rotate_left
  · simp only [Act.put, List.setIfInBounds_toArray, List.set_cons_zero, List.set_cons_succ, i64_w, i32_w]; rfl
  refine hpure 29 (some 122) 30 [] (v := ?_) (a' := ?_) s_ rfl rfl (by kernel_rfl) (Or.inl ⟨by rfl, ?_⟩) ?_ ?_
  rotate_left
  · intro w' s0; go_simp; with_reducible rfl
  rotate_left
  · simp only [Act.put, List.setIfInBounds_toArray, List.set_cons_zero, List.set_cons_succ, i64_w, i32_w]; rfl
  refine hcall 30 (some 123) 31 [] rfl rfl (by kernel_rfl) Try.func15 (by kernel_rfl) rfl #[] (by rfl) rfl (by simp only [List.map_toArray, List.map_nil]) ?_
  refine (knownC _).mono ?_
  rintro e w5 ⟨rfl, hb5⟩
  refine ⟨_, rfl, fun w' => (QS W ba ga x1 bb gb x2 bc gc lb bm gm la w' ∧ OwnRow AE cE (encB x1) w') ∧ OwnRow AF cF (encB x2) w', fun _ h => h, ⟨⟨s_.1.1.step hb5, s_.1.2.below hb5⟩, s_.2.below hb5⟩, ?_⟩
  have s_ : (QS W ba ga x1 bb gb x2 bc gc lb bm gm la w5 ∧ OwnRow AE cE (encB x1) w5) ∧ OwnRow AF cF (encB x2) w5 := ⟨⟨s_.1.1.step hb5, s_.1.2.below hb5⟩, s_.2.below hb5⟩
  clear hb5
  intro a_ ha_
  simp only [Act.put, List.setIfInBounds_toArray, List.set_cons_zero, List.set_cons_succ, i64_w, i32_w] at ha_
  subst ha_
  refine hpure 31 (some 124) 32 [] (v := ?_) (a' := ?_) s_ rfl rfl (by kernel_rfl) (Or.inl ⟨by rfl, ?_⟩) ?_ ?_
  rotate_left
  · intro w' s0; go_simp; with_reducible rfl
  rotate_left
  · simp only [Act.put, List.setIfInBounds_toArray, List.set_cons_zero, List.set_cons_succ, i64_w, i32_w]; rfl
  refine hpure 32 (some 8) 33 [] (v := ?_) (a' := ?_) s_ rfl rfl (by kernel_rfl) (Or.inl ⟨by rfl, ?_⟩) ?_ ?_
  rotate_left
  · intro w' s0; go_simp; with_reducible rfl
  rotate_left
  · simp only [Act.put, List.setIfInBounds_toArray, List.set_cons_zero, List.set_cons_succ, i64_w, i32_w]; rfl
  refine hdone (by kernel_rfl) ?_
  have HEND := s_.1.1.below
  clear s_
  go_wp2
  go_ret
  exact ⟨rfl, HEND⟩
theorem backW (W : World) (A0 : Option Addr) (c0 : Nat) (l0 : List Int) (hr0 : Kd.C (Kd.int .u8) W A0 l0.length l0) (hc0 : l0.length ≤ c0) (hm0 : l0.length ≤ maxLen) (hw0 : ∀ x ∈ l0, (Lit.int .u8 x).wf = true) (hy0 : l0.length ≤ 140737488351232)
    (a1 : Int) (w1 : (Lit.int .i64 a1).wf = true) (A2 : Option Addr) (c2 : Nat) (l : List Int) (hr2 : Kd.C (Kd.int .i64) W A2 l.length l) (hc2 : l.length ≤ c2) (hm2 : l.length ≤ maxLen) (hw2 : ∀ x ∈ l, (Lit.int .i64 x).wf = true) (hy2 : l.length * 8 ≤ 140737488351232)
    (A3 : Option Addr) (c3 : Nat) (o : List Int) (hr3 : Kd.C (Kd.int .i64) W A3 o.length o) (hc3 : o.length ≤ c3) (hm3 : o.length ≤ maxLen) (hw3 : ∀ x ∈ o, (Lit.int .i64 x).wf = true) (hy3 : o.length * 8 ≤ 140737488351232) :
    Calls Try.prog 7 #[.slice A0 l0.length c0, .int .i64 a1, .slice A2 l.length c2, .slice A3 o.length c3] W fun e w' => e = .returned (.bool true) ∧ Below W.heap.size W w' := by
  obtain ⟨A, rfl, hA⟩ := ints_of fun x hx => wf_u8 (hw0 x hx)
  rw [ints_length] at hy0
  exact backC A0 c0 A a1 A2 c2 l A3 c3 o W hA (by omega) hr0 hc0 hr2 hr3
end Go.Proofs.Ytodadonpfcefbaa.Marks
