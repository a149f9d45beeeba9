/- marked and alike: the walks. -/
import Derived.Test.YtodadonpfcefbaaM6
namespace Go.Proofs.Ytodadonpfcefbaa.Marks
open Go.RowKit Go.Proofs.YtodadonpfcefbaaW.PrintWords Go.Proofs.YtodadonpfcefbaaW.PrintLast Go.Proofs.YtodadonpfcefbaaW.PrintMore Go.Proofs.Ytodadonpfcefbaa.QDelsReads Go.Proofs.Ytodadonpfcefbaa.Base
attribute [local go_sem] max2_int min2_int max_two min_two max_three min_three max_four min_four
set_option linter.unusedVariables false
set_option linter.unusedSimpArgs false
/-! ### a row of yes and no in a block of its own -/
def Bk (w : World) (c : Nat) (l : List Bool) : Prop := w.heap[c]? = some (.cells (Array.mk (l.map Value.bool)) 4 (0, 0))
theorem Bk.cell {w : World} {c : Nat} {l : List Bool} (h : Bk w c l) {i : Nat} {x : Bool} (hx : l[i]? = some x) : w.cell? ⟨c, i, none⟩ = some (.bool x) := by
  rw [blk_cell h i]
  simp [hx]
theorem Bk.below {w W : World} {c : Nat} {l : List Bool} (h : Bk w c l) (hb : Below w.heap.size w W) : Bk W c l := blk_below h hb
theorem Bk.grown {w W : World} {c : Nat} {l : List Bool} {row : Option Nat} (h : Bk w c l) (hk : w.grownBy W row) (n1 : some c ≠ row) : Bk W c l := blk_grown h hk n1
theorem Bk.put {w : World} {c : Nat} {l : List Bool} (h : Bk w c l) (i : Nat) (v : Bool) : Bk (w.setCell ⟨c, i, none⟩ (.bool v)) c (l.set i v) := by
  unfold Bk
  rw [blk_set h i (.bool v)]
  simp [List.map_set]
theorem Bk.lt {w : World} {c : Nat} {l : List Bool} (h : Bk w c l) : c < w.heap.size := blk_lt h
theorem Bk.row {w : World} {c : Nat} {l : List Bool} (hl : l.length ≤ 9223372036854775807) (h : Bk w c l) : Kd.C Kd.bool w (some ⟨c, 0, none⟩) l.length l := by
  refine ⟨rfl, hl, fun _ => ⟨⟨c, 0, none⟩, rfl, fun j p hp => ⟨[.bool p], rfl, rfl, fun i u hu => ?_⟩⟩⟩
  match i, hu with
  | 0, hu =>
    simp only [List.getElem?_cons_zero, Option.some.injEq] at hu
    subst hu
    have := h.cell hp
    rw [show Kd.bool.sz = 1 from rfl, Nat.mul_one, Nat.add_zero, show (⟨c, 0, none⟩ : Addr).add j = ⟨c, j, none⟩ from (by simp [Addr.add]; intro h; omega), this]
theorem MkL.ne {w : World} {b g c : Nat} {l o : List Bool} (h : MkL w b g l) (k : Bk w c o) : b ≠ c ∧ g ≠ c := by
  obtain ⟨A, h1, h2⟩ := h
  exact ⟨blk_ne h1.2.2.1 k (by decide), blk_ne h1.2.2.2 k (by decide)⟩
theorem madeCells_bool (m : Nat) : madeCells (Value.bool false).cells (m * 1) = Array.mk ((List.replicate m false).map Value.bool) := by
  apply Array.ext
  · simp [size_madeCells]
  · intro i h1 h2
    simp [madeCells, Value.cells, Nat.mod_one]
theorem info4 : (Try.prog.info? 4).map (fun i => (i.zero, i.size, i.bytes)) = some (some (.bool false), 1, 1) := by kernel_rfl
theorem make_bools {P : Program} {ops : Array Oper} {Q : Exit → Act → World → Prop} {rest : List Oper} {o : Oper} {a : Act} {W : World} (hgd : o.guard = none) (t : TypeId) (x y : Operand) (ho : o.op = .makeSlice t x y) (m : Nat) (hx : a.eval x = .int .i64 (m : Int)) (hy : a.eval y = .int .i64 (m : Int)) (e : TypeId) (ht : P.underlying t = some (.slice e))
    (hinfo : (P.info? e).map (fun i => (i.zero, i.size, i.bytes)) = some (some (.bool false), 1, 1)) (hm : m ≤ 281474976710656) (h : wpList P ops Q rest (a.put o.dst (.slice (some ⟨W.heap.size, 0, none⟩) m m)) (W.alloc (.cells (Array.mk ((List.replicate m false).map Value.bool)) e))) : wpList P ops Q (o :: rest) a W := by
  obtain ⟨i0, hi, hzz⟩ := Option.map_eq_some_iff.1 hinfo
  simp only [Prod.mk.injEq] at hzz
  obtain ⟨hz0, hz1, hz2⟩ := hzz
  have hr := run_make (P := P) W t e i0 _ ht hi hz0 .i64 .i64 (m : Int) (m : Int) (by omega) (by omega) (by rw [hz2]; omega) (by omega)
  simp only [Int.toNat_natCast] at hr
  rw [hz1, madeCells_bool] at hr
  refine Kd.event_run hgd ?_ h
  simp [execOp, ho, hx, hy, hr]
/-! ### marked -/
def markL (N : Nat) (l : List Int) : List Bool := (l.take 100).foldl setL (List.replicate N false)
theorem foldl_setL_length (l : List Int) : ∀ ls : List Bool, (l.foldl setL ls).length = ls.length := by
  induction l with
  | nil => intro ls; rfl
  | cons x r ih => intro ls; rw [List.foldl_cons, ih, setL_length]
theorem markL_length (N : Nat) (l : List Int) : (markL N l).length = N := by rw [markL, foldl_setL_length, List.length_replicate]
theorem bk_far {w w1 : World} (h : Below w.heap.size w w1) (b j : Nat) (v : Value) (hb : w.heap.size ≤ b) : Below w.heap.size w (w1.setCell ⟨b, j, none⟩ v) := h.setCell hb _
set_option maxHeartbeats 8000000 in
set_option maxRecDepth 100000 in
theorem markedC (N : Nat) (hN : N ≤ 1048576) (A1 : Option Addr) (c1 : Nat) (l : List Int) (W : World) (hr1 : Kd.C (Kd.int .i64) W A1 l.length l) : Calls Try.prog 16 #[.int .i64 (N : Int), .slice A1 l.length c1] W fun e w' => ∃ b g c, e = .returned (.tuple #[.pointer (some ⟨g, 0, none⟩), .slice (some ⟨c, 0, none⟩) N N]) ∧ MkL w' b g (markL N l) ∧ Bk w' c (markL N l) ∧ W.heap.size ≤ b ∧ W.heap.size ≤ c ∧ Below W.heap.size W w' := by
  have HN := Aside0.mk hN
  have HR := Aside0.mk hr1
  have hm2 : N ≤ 281474976710656 := by omega
  clear hr1 hN
  go_enter Try.func16, Try.ntmps16
  go_wp2_with (first
    | (go_at_call 9; refine (newC N _ HN.out).mono ?_; rintro e w2 ⟨b, g, rfl, hm, hb, hB⟩; have HM2 := Aside0.mk hm; have Hb := Aside0.mk hb; have HB2 := Aside0.mk hB; clear hm hb hB)
    | ((with_reducible refine gate_dst (N := 24) rfl ?_); refine make_bools rfl 34 _ _ rfl N rfl rfl 4 Try.underlying34 info4 hm2 ?_; have HM3 := Aside0.mk (HM2.out.below (below_alloc (Below.refl _ _) (.cells (Array.mk ((List.replicate N false).map Value.bool)) 4))); have HC3 := Aside0.mk (show Bk _ w2.heap.size (List.replicate N false) from blk_new w2 (.cells (Array.mk ((List.replicate N false).map Value.bool)) 4)); have HB3 := Aside0.mk (below_alloc HB2.out (.cells (Array.mk ((List.replicate N false).map Value.bool)) 4)); have Hc := Aside0.mk HB2.out.size; generalize w2.heap.size = c at HC3 Hc; generalize w2.alloc (.cells (Array.mk ((List.replicate N false).map Value.bool)) 4) = w3 at HM3 HC3 HB3; clear HM2 HB2))
  go_loopg [9] 101 (fun kq v9 w' => ∃ (i : Nat), v9 = .int .i64 (i : Int) ∧ Aside0 (i + kq = 101 ∧ i ≤ 100 ∧ i ≤ l.length) ∧ Aside0 (MkL w' b g ((l.take i).foldl setL (List.replicate N false))) ∧ Aside0 (Bk w' c ((l.take i).foldl setL (List.replicate N false))) ∧ Aside0 (Below W.heap.size W w'))
  case atStart => exact ⟨0, rfl, ⟨by simp⟩, HM3, HC3, HB3⟩
  case round =>
    clear HM3 HC3 HB3
    obtain ⟨i, rfl, HI, HM, HC, HB⟩ := hrel
    cases gk with
    | zero => have := HI.out; omega
    | succ k1 =>
      obtain ⟨ji, hji⟩ : ∃ j : Int, (i : Int) = j := ⟨_, rfl⟩
      rw [hji]
      by_cases cc : i < l.length ∧ i < 100
      · obtain ⟨cc1, cc2⟩ := cc
        have c1b : decide (ji < (l.length : Int)) = true := decide_eq_true (by omega)
        have c2b : decide (ji < 100) = true := decide_eq_true (by omega)
        have p0 : 0 ≤ ji := by omega
        have p1 : ji < (l.length : Int) := by omega
        obtain ⟨ad, e1, hx⟩ := Kd.at_int HR.out ji p0 p1
        cases e1
        have hti : ji.toNat = i := by omega
        have hlx : l[i]? = some (rd l ji) := by simp [rd, hti, cc1]
        generalize rd l ji = x at hx hlx
        have hx0 := pw_cell_below HB.out hx
        have htk : (l.take (i + 1)).foldl setL (List.replicate N false) = setL ((l.take i).foldl setL (List.replicate N false)) x := by
          rw [List.take_add_one, hlx, Option.toList_some, List.foldl_append]
          rfl
        have hlN : ((l.take i).foldl setL (List.replicate N false)).length = N := by rw [foldl_setL_length, List.length_replicate]
        generalize (l.take i).foldl setL (List.replicate N false) = ls at HM HC htk hlN
        have hw' : IntKind.i64.wrap (ji + 1) = ((i + 1 : Nat) : Int) := by rw [IntKind.wrap_i64]; omega
        have hrel2 : Aside0 (i + 1 + k1 = 101 ∧ i + 1 ≤ 100 ∧ i + 1 ≤ l.length) := ⟨by have := HI.out; omega⟩
        have hfe := fresh_eq ls x
        rw [hlN] at hfe
        have hne := HM.out.ne HC.out
        have hxe : some c ≠ some b := by intro e; injection e with e; exact hne.1 e.symm
        have hxe2 : some b ≠ some c := by intro e; injection e with e; exact hne.1 e
        have hxe3 : some g ≠ some c := by intro e; injection e with e; exact hne.2 e
        clear hx hlx hti cc1 cc2 hji
        replace p0 := eq_true p0
        replace p1 := eq_true p1
        by_cases hpq : 0 ≤ x ∧ x < (N : Int)
        · obtain ⟨h0, h1⟩ := hpq
          have h0b : decide (0 ≤ x) = true := decide_eq_true h0
          have h1b : decide (x < (N : Int)) = true := decide_eq_true h1
          obtain ⟨d, hd⟩ : ∃ d, ls[x.toNat]? = some d := ⟨_, List.getElem?_eq_getElem (by omega)⟩
          have hhas : hasL ls x = d := by simp [hasL, h0, hd]
          rw [h0b, h1b, hhas] at hfe
          have hst : setL ls x = ls.set x.toNat true := if_pos h0
          have hcd := HC.out.cell hd
          replace h0 := eq_true h0
          replace h1 := eq_true h1
          cases d with
          | false =>
            go_wp2_with (first
              | (go_at_call 11; (with_reducible refine (setR HM.out x hfe rfl).mono ?_); rintro e w4 ⟨rfl, hm, hg⟩; have HM4 := Aside0.mk hm; have HB4 := Aside0.mk (grown_below HB.out Hb.out hg); have HC4 := Aside0.mk (HC.out.grown hg hxe); have hf4 := blk_frozen HC4.out x.toNat; have hcd4 := HC4.out.cell hd; clear hm hg))
            go_roundg k1
            case measure => omega
            case rel =>
              refine ⟨i + 1, by first | rfl | (rw [hw']; done) | (simp [hw']; done), hrel2, ⟨?_⟩, ⟨?_⟩, ⟨bk_far HB4.out c _ _ Hc.out⟩⟩
              · rw [htk]
                exact HM4.out.grown (grown_set (Below.refl _ _) c _ _) hxe2 hxe3
              · rw [htk, hst]
                exact HC4.out.put x.toNat true
          | true =>
            have hss : setL ls x = ls := by rw [hst]; exact set_same (.inr (by rw [List.getD_eq_getElem?_getD, hd]; rfl))
            go_wp2_with (first
              | (go_at_call 11; (with_reducible refine (setR HM.out x hfe rfl).mono ?_); rintro e w4 ⟨rfl, hm, hg⟩; have HM4 := Aside0.mk hm; have HB4 := Aside0.mk (grown_below HB.out Hb.out hg); have HC4 := Aside0.mk (HC.out.grown hg hxe); clear hm hg))
            go_roundg k1
            case measure => omega
            case rel => exact ⟨i + 1, by first | rfl | (rw [hw']; done) | (simp [hw']; done), hrel2, ⟨by rw [htk]; exact HM4.out⟩, ⟨by rw [htk, hss]; exact HC4.out⟩, HB4⟩
        · have hss : setL ls x = ls := by
            unfold setL
            split
            · exact set_same (.inl (by omega))
            · rfl
          have hh : (decide (0 ≤ x) = true ∧ decide (x < (N : Int)) = false) ∨ decide (0 ≤ x) = false := by
            by_cases h0 : 0 ≤ x
            · exact .inl ⟨decide_eq_true h0, decide_eq_false (fun h => hpq ⟨h0, h⟩)⟩
            · exact .inr (decide_eq_false h0)
          have hf0 : freshL ls x = false := by
            rcases hh with ⟨h0, h1⟩ | h0
            · rw [hfe, h1, Bool.and_false]; rfl
            · rw [hfe, h0]; rfl
          clear hpq hfe
          rcases hh with ⟨h0, h1⟩ | h0
          all_goals (
            go_wp2_with (first
              | (go_at_call 11; (with_reducible refine (setR HM.out x hf0 rfl).mono ?_); rintro e w4 ⟨rfl, hm, hg⟩; have HM4 := Aside0.mk hm; have HB4 := Aside0.mk (grown_below HB.out Hb.out hg); have HC4 := Aside0.mk (HC.out.grown hg hxe); clear hm hg))
            go_roundg k1
            case measure => omega
            case rel => exact ⟨i + 1, by first | rfl | (rw [hw']; done) | (simp [hw']; done), hrel2, ⟨by rw [htk]; exact HM4.out⟩, ⟨by rw [htk, hss]; exact HC4.out⟩, HB4⟩)
      · have hcc : decide (ji < (l.length : Int)) = false ∨ (decide (ji < (l.length : Int)) = true ∧ decide (ji < 100) = false) := by
          by_cases c1 : i < l.length
          · exact .inr ⟨decide_eq_true (by omega), decide_eq_false (by omega)⟩
          · exact .inl (decide_eq_false (by omega))
        have htk : l.take i = l.take 100 := by
          have := HI.out
          by_cases c1 : i < l.length
          · rw [show i = 100 by omega]
          · rw [List.take_of_length_le (by omega), List.take_of_length_le (by omega)]
        clear cc
        rcases hcc with c1b | ⟨c1b, c2b⟩
        all_goals (
          go_wp2
          go_ret2
          exact ⟨b, g, c, rfl, by rw [markL, ← htk]; exact HM.out, by rw [markL, ← htk]; exact HC.out, Hb.out, Hc.out, HB.out⟩)
end Go.Proofs.Ytodadonpfcefbaa.Marks
