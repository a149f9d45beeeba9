-- Written by a program of this session (wip/myprint.py): the machine's side of a law
import Derived.Test.YtodadonpfcefbaaQDelsReadsx0
import Derived.Test.YtodadonpfcefbaaQDelsReadsx3
import Derived.Test.YtodadonpfcefbaaQDelsReadsx7
import Derived.Test.YtodadonpfcefbaaQDelsReadsx8
namespace Go.Proofs.Ytodadonpfcefbaa.QDelsReads
open Go.RowKit Go.Proofs.YtodadonpfcefbaaW.PrintWords Go.Proofs.YtodadonpfcefbaaW.PrintLast Go.Proofs.YtodadonpfcefbaaW.PrintMore
attribute [local go_sem] max2_int min2_int max_two min_two max_three min_three max_four min_four   -- for this text's walks alone
set_option linter.unusedVariables false
set_option linter.unusedSimpArgs false

/-! ### runs_Decode: function 29 -/
/-! runs.Decode, whose reader lies in memory: by hand -/
/-- The bytes from a place on. -/
def runs_part (l0 : List Int) (at_ m : Int) : List Int := (l0.take (at_ + m).toNat).drop at_.toNat
set_option maxHeartbeats 8000000 in
set_option maxRecDepth 100000 in
theorem runs_take.no (g : Nat) (A0 : Option Addr) (c0 : Nat) (l0 : List Int) (at_ n width : Int) (outv : Value) (m : Int) (w : World)
    (hb : w.heap[g]? = some (.cells #[.slice A0 l0.length c0, .int .i64 at_, .int .i64 n, .int .i64 width, outv] 75 (0, 0)))
    (hl : l0.length ≤ 140737488355328) (h0 : 0 ≤ at_) (h1 : at_ ≤ l0.length) (hm : (l0.length : Int) - at_ < m) :
    Calls Try.prog 44 #[.pointer (some ⟨g, 0, none⟩), .int .u64 m] w fun e w' => e = .returned (.tuple #[.slice none 0 0, .bool false]) ∧ Drawn0 w w' := by
  have hv0 : w.cell? ⟨g, 0, none⟩ = some (.slice A0 l0.length c0) := blk_cell hb 0
  have hv1 : w.cell? ⟨g, 1, none⟩ = some (.int .i64 at_) := blk_cell hb 1
  have hd : decide ((l0.length : Int) - at_ < m) = true := decide_eq_true hm
  go_enter Try.func44, Try.ntmps44
  go_wp2
  go_quiet (fail)
  go_wp2
  go_ret2
  exact ⟨rfl, ⟨_, rfl⟩⟩
set_option maxHeartbeats 8000000 in
set_option maxRecDepth 100000 in
theorem runs_take.yes (g : Nat) (A0 : Option Addr) (c0 : Nat) (l0 : List Int) (at_ n width : Int) (outv : Value) (m : Int) (w : World)
    (hb : w.heap[g]? = some (.cells #[.slice A0 l0.length c0, .int .i64 at_, .int .i64 n, .int .i64 width, outv] 75 (0, 0)))
    (hc0 : l0.length ≤ c0) (hl : l0.length ≤ 140737488355328) (h0 : 0 ≤ at_) (h1 : at_ ≤ l0.length) (hm : m ≤ (l0.length : Int) - at_) (hm0 : 0 ≤ m) :
    Calls Try.prog 44 #[.pointer (some ⟨g, 0, none⟩), .int .u64 m] w fun e w' => ∃ A' c', e = .returned (.tuple #[.slice A' (runs_part l0 at_ m).length c', .bool true]) ∧
      (∀ W, Kd.C (Kd.int .u8) W A0 l0.length l0 → Kd.C (Kd.int .u8) W A' (runs_part l0 at_ m).length (runs_part l0 at_ m)) ∧ (runs_part l0 at_ m).length ≤ c' ∧ ∃ nd, w' = (w.setCell ⟨g, 1, none⟩ (.int .i64 (at_ + m))).drewN nd := by
  have hv0 : w.cell? ⟨g, 0, none⟩ = some (.slice A0 l0.length c0) := blk_cell hb 0
  have hv1 : w.cell? ⟨g, 1, none⟩ = some (.int .i64 at_) := blk_cell hb 1
  have hd : decide ((l0.length : Int) - at_ < m) = false := decide_eq_false (by omega)
  obtain ⟨i0, hi0, _, hsz, _⟩ := info_parts info5
  obtain ⟨A', hcut0, hA', hC'⟩ := print_mid_of (P := Try.prog) (Value.int .u8) 0 38 5 .i64 .i64 Try.underlying38 hi0 hsz A0 c0 l0 at_ (at_ + m) h0 (by omega) (by omega) hc0
  have hcut : ∀ W : World, (Instr.slice 38 (.slice A0 l0.length c0) (some (.int .i64 at_)) (some (.int .i64 (at_ + m))) none).run Try.prog W = .ok (.slice A' (runs_part l0 at_ m).length (c0 - at_.toNat)) W := hcut0
  obtain ⟨L, hL⟩ : ∃ L, L = (runs_part l0 at_ m).length := ⟨_, rfl⟩
  rw [← hL] at hcut
  clear hcut0
  have HL := Aside0.mk hL
  clear hL
  go_enter Try.func44, Try.ntmps44
  go_wp2
  go_quiet (fail)
  have hv1 : (w.drewN nq).cell? ⟨g, 1, none⟩ = some (.int .i64 at_) := blk_cell hb 1
  have hf1 : (w.drewN nq).frozen? ⟨g, 1, none⟩ = false := blk_frozen hb 1
  have hb2 : ((w.drewN nq).setCell ⟨g, 1, none⟩ (.int .i64 (at_ + m))).heap[g]? = some (.cells #[.slice A0 l0.length c0, .int .i64 (at_ + m), .int .i64 n, .int .i64 width, outv] 75 (0, 0)) := blk_set hb 1 _
  have hw0 : ((w.drewN nq).setCell ⟨g, 1, none⟩ (.int .i64 (at_ + m))).cell? ⟨g, 0, none⟩ = some (.slice A0 l0.length c0) := blk_cell hb2 0
  have hw1 : ((w.drewN nq).setCell ⟨g, 1, none⟩ (.int .i64 (at_ + m))).cell? ⟨g, 1, none⟩ = some (.int .i64 (at_ + m)) := blk_cell hb2 1
  clear hb2
  go_wp2
  have hq : ∀ nd, (((w.drewN nq).setCell ⟨g, 1, none⟩ (.int .i64 (at_ + m))).drewN nd) = ((w.setCell ⟨g, 1, none⟩ (.int .i64 (at_ + m))).drewN (nq + nd)) := fun nd => by
    simp [World.drewN, World.setCell, Nat.add_assoc]
  go_quiet (fail)
  go_wp2
  go_ret2
  refine ⟨A', c0 - at_.toNat, by rw [HL.out]; rfl, fun W h => Kd.C_of_reads (h1 := fun _ => rfl) (hA' W (Kd.reads_of_C h)), hC', ⟨_, hq _⟩⟩
/-- A number of few bytes. -/
def runs_val : List Int → Int → Int → Int
  | [], _, v => v
  | c :: cs, k, v => runs_val cs (k + 1) (Go.bits .or .u64 v (shl .u64 (IntKind.u64.wrap c) (8 * k)))
set_option maxHeartbeats 8000000 in
set_option maxRecDepth 100000 in
theorem runs_run.end_ (g : Nat) (A0 : Option Addr) (c0 : Nat) (l0 : List Int) (at_ n width : Int) (outv : Value) (m : Int) (w : World)
    (hb : w.heap[g]? = some (.cells #[.slice A0 l0.length c0, .int .i64 at_, .int .i64 n, .int .i64 width, outv] 75 (0, 0)))
    (hl : l0.length ≤ 140737488355328) (h0 : 0 ≤ at_) (h1 : at_ ≤ l0.length) (hw0 : 0 ≤ width) (hw1 : width ≤ 32) (hm : (l0.length : Int) - at_ < (width + 7) / 8) :
    Calls Try.prog 40 #[.pointer (some ⟨g, 0, none⟩), .int .u64 m] w fun e w' => e = .returned (.int .i64 10) ∧ Drawn0 w w' := by
  have hv3 : w.cell? ⟨g, 3, none⟩ = some (.int .i64 width) := blk_cell hb 3
  go_enter Try.func40, Try.ntmps40
  go_wp2_with (go_at_call 44; refine (runs_take.no g A0 c0 l0 at_ n width outv ((width + 7) / 8) _ hb hl h0 h1 hm).mono ?_; rintro e w' ⟨rfl, ⟨nd, rfl⟩⟩)
  go_ret
  exact ⟨rfl, ⟨_, rfl⟩⟩
set_option maxHeartbeats 8000000 in
set_option maxRecDepth 100000 in
theorem runs_run.form (g : Nat) (A0 : Option Addr) (c0 : Nat) (l0 : List Int) (at_ n width : Int) (Ao : Option Addr) (co : Nat) (out : List Int) (m : Int) (w : World)
    (hb : w.heap[g]? = some (.cells #[.slice A0 l0.length c0, .int .i64 at_, .int .i64 n, .int .i64 width, .slice Ao out.length co] 75 (0, 0)))
    (hc0 : l0.length ≤ c0) (hl : l0.length ≤ 140737488355328) (h0 : 0 ≤ at_) (h1 : at_ ≤ l0.length) (hw0 : 0 ≤ width) (hw1 : width ≤ 32) (hm : (width + 7) / 8 ≤ (l0.length : Int) - at_)
    (hn1 : n ≤ 1048576) (hno : (out.length : Int) ≤ n) (hf : m = 0 ∨ n - out.length < m) :
    Calls Try.prog 40 #[.pointer (some ⟨g, 0, none⟩), .int .u64 m] w fun e w' => e = .returned (.int .i64 12) ∧ ∃ nd, w' = (w.setCell ⟨g, 1, none⟩ (.int .i64 (at_ + (width + 7) / 8))).drewN nd := by
  have hv3 : w.cell? ⟨g, 3, none⟩ = some (.int .i64 width) := blk_cell hb 3
  have hb2 : (w.setCell ⟨g, 1, none⟩ (.int .i64 (at_ + (width + 7) / 8))).heap[g]? = some (.cells #[.slice A0 l0.length c0, .int .i64 (at_ + (width + 7) / 8), .int .i64 n, .int .i64 width, .slice Ao out.length co] 75 (0, 0)) := blk_set hb 1 _
  by_cases hz : m = 0
  · subst hz
    go_enter Try.func40, Try.ntmps40
    go_wp2_with (go_at_call 44; refine (runs_take.yes g A0 c0 l0 at_ n width _ ((width + 7) / 8) _ hb hc0 hl h0 h1 hm (by omega)).mono ?_; rintro e w' ⟨A', c', rfl, hA, hc', nd, rfl⟩)
    go_quiet (fail)
    go_wp2
    go_ret
    exact ⟨rfl, ⟨_, World.drewN_drewN ..⟩⟩
  · have hz1 : (m == 0) = false := beq_false_of_ne hz
    have hz2 : decide (n - out.length < m) = true := decide_eq_true (by omega)
    go_enter Try.func40, Try.ntmps40
    go_wp2_with (go_at_call 44; refine (runs_take.yes g A0 c0 l0 at_ n width _ ((width + 7) / 8) _ hb hc0 hl h0 h1 hm (by omega)).mono ?_; rintro e w' ⟨A', c', rfl, hA, hc', nd, rfl⟩)
    have hb3 : ((w.setCell ⟨g, 1, none⟩ (.int .i64 (at_ + (width + 7) / 8))).drewN nd).heap[g]? = some (.cells #[.slice A0 l0.length c0, .int .i64 (at_ + (width + 7) / 8), .int .i64 n, .int .i64 width, .slice Ao out.length co] 75 (0, 0)) := hb2
    generalize hw2 : (w.setCell ⟨g, 1, none⟩ (.int .i64 (at_ + (width + 7) / 8))).drewN nd = w2 at hb3 ⊢
    have hx2 : w2.cell? ⟨g, 2, none⟩ = some (.int .i64 n) := blk_cell hb3 2
    have hx4 : w2.cell? ⟨g, 4, none⟩ = some (.slice Ao out.length co) := blk_cell hb3 4
    go_quiet (fail)
    go_wp2
    go_ret
    subst hw2
    exact ⟨rfl, ⟨_, World.drewN_drewN ..⟩⟩
theorem runs_part_len (l0 : List Int) (at_ m : Int) (h0 : 0 ≤ at_) (hm0 : 0 ≤ m) (hm : m ≤ (l0.length : Int) - at_) : ((runs_part l0 at_ m).length : Int) = m := by
  unfold runs_part
  rw [List.length_drop, List.length_take]
  omega
theorem runs_drop_rd (P : List Int) (x : Int) (h0 : 0 ≤ x) (h1 : x < P.length) : P.drop x.toNat = rd P x :: P.drop (x + 1).toNat := by
  rw [List.drop_eq_getElem_cons (by omega), show (x + 1).toNat = x.toNat + 1 by omega]
  congr 1
  simp only [rd, List.getD_eq_getElem?_getD]
  rw [List.getElem?_eq_getElem (by omega)]
  rfl
set_option maxHeartbeats 8000000 in
set_option maxRecDepth 100000 in
theorem runs_run.ok (g : Nat) (A0 : Option Addr) (c0 : Nat) (l0 : List Int) (at_ n width : Int) (u : Value) (out : List Int) (m : Int) (w0 w : World)
    (hB : Below w0.heap.size w0 w) (hg : w0.heap.size ≤ g)
    (hb : w.heap[g]? = some (.cells #[.slice A0 l0.length c0, .int .i64 at_, .int .i64 n, .int .i64 width, u] 75 (0, 0)))
    (hr0 : Kd.C (Kd.int .u8) w0 A0 l0.length l0) (ho : Kd.R (Kd.int .u64) 53 w w0.heap.size (fun k_ => k_ ≠ g) u out)
    (hc0 : l0.length ≤ c0) (hl : l0.length ≤ 140737488355328) (h0 : 0 ≤ at_) (h1 : at_ ≤ l0.length) (hw0 : 0 ≤ width) (hw1 : width ≤ 32) (hm : (width + 7) / 8 ≤ (l0.length : Int) - at_)
    (hn1 : n ≤ 1048576) (hno : (out.length : Int) ≤ n) (hm0 : 0 < m) (hm1 : m ≤ n - out.length) :
    Calls Try.prog 40 #[.pointer (some ⟨g, 0, none⟩), .int .u64 m] w fun e w' => ∃ u' : Value, e = .returned (.int .i64 0) ∧
      w'.heap[g]? = some (.cells #[.slice A0 l0.length c0, .int .i64 (at_ + (width + 7) / 8), .int .i64 n, .int .i64 width, u'] 75 (0, 0)) ∧
      Kd.R (Kd.int .u64) 53 w' w0.heap.size (fun k_ => k_ ≠ g) u' (out ++ List.replicate m.toNat (runs_val (runs_part l0 at_ ((width + 7) / 8)) 0 0)) ∧ Below w0.heap.size w0 w' := by
  have hv3 : w.cell? ⟨g, 3, none⟩ = some (.int .i64 width) := blk_cell hb 3
  have hb2 : (w.setCell ⟨g, 1, none⟩ (.int .i64 (at_ + (width + 7) / 8))).heap[g]? = some (.cells #[.slice A0 l0.length c0, .int .i64 (at_ + (width + 7) / 8), .int .i64 n, .int .i64 width, u] 75 (0, 0)) := blk_set hb 1 _
  have HB2 := below_set (j := 1) (v := .int .i64 (at_ + (width + 7) / 8)) hB hg
  have HO2 := Kd.R_far ho (p := ⟨g, 1, none⟩) (fun k hk => hk) (.int .i64 (at_ + (width + 7) / 8))
  have hz1 : (m == 0) = false := beq_false_of_ne (by omega)
  have hz2 : decide (n - out.length < m) = false := decide_eq_false (by omega)
  have hPl := runs_part_len l0 at_ ((width + 7) / 8) h0 (by omega) hm
  obtain ⟨P, hP⟩ : ∃ P, P = runs_part l0 at_ ((width + 7) / 8) := ⟨_, rfl⟩
  rw [← hP] at hPl ⊢
  obtain ⟨V, hV⟩ : ∃ V, runs_val P 0 0 = V := ⟨_, rfl⟩
  rw [hV]
  have HPl := Aside0.mk hPl
  clear hPl
  have HP := Aside0.mk hP
  have HV := Aside0.mk hV
  clear hP hV
  obtain ⟨Ao, co, eo⟩ := Kd.R_slice ho
  subst eo
  have Hb2 := Aside0.mk hb2
  have HB2' := Aside0.mk HB2
  have HO2' := Aside0.mk HO2
  clear hb2 HB2 HO2
  go_enter Try.func40, Try.ntmps40
  go_wp2_with (go_at_call 44; refine (runs_take.yes g A0 c0 l0 at_ n width _ ((width + 7) / 8) _ hb hc0 hl h0 h1 hm (by omega)).mono ?_; rintro e w' ⟨A', c', rfl, hA, hc', nd, rfl⟩; rw [← HP.out] at hA hc' ⊢)
  have hb3 : ((w.setCell ⟨g, 1, none⟩ (.int .i64 (at_ + (width + 7) / 8))).drewN nd).heap[g]? = some (.cells #[.slice A0 l0.length c0, .int .i64 (at_ + (width + 7) / 8), .int .i64 n, .int .i64 width, .slice Ao out.length co] 75 (0, 0)) := Hb2.out
  have HB3 := Aside0.mk (pw_below_drewN HB2'.out nd)
  have HO3 := Aside0.mk (Kd.R_drewN HO2'.out nd)
  clear hb hv3 Hb2 HB2' HO2'
  generalize (w.setCell ⟨g, 1, none⟩ (.int .i64 (at_ + (width + 7) / 8))).drewN nd = w2 at hb3 HB3 HO3 ⊢
  have hx2 : w2.cell? ⟨g, 2, none⟩ = some (.int .i64 n) := blk_cell hb3 2
  have hx4 : w2.cell? ⟨g, 4, none⟩ = some (.slice Ao out.length co) := blk_cell hb3 4
  go_quiet (fail)
  have hb4 := Aside0.mk (show (w2.drewN nq).heap[g]? = _ from hb3)
  have HB4 := Aside0.mk (pw_below_drewN HB3.out nq)
  have HO4 := Aside0.mk (Kd.R_drewN HO3.out nq)
  clear hb3 HB3 HO3 hx2 hx4
  generalize w2.drewN nq = w3 at hb4 HB4 HO4 ⊢
  have HRP := Aside0.mk (hA _ (Kd.C_below hr0 HB4.out))
  clear hA
  go_wp2
  go_loopg [7, 43] P.length (fun kq v7 v43 w' => ∃ (x7 x43 : Int), v7 = .int .u64 x7 ∧ v43 = .int .i64 x43 ∧ Aside0 (0 ≤ x43 ∧ x43 + kq = P.length) ∧ Aside0 (runs_val (P.drop x43.toNat) x43 x7 = V) ∧ w3 = w')
  case atStart => exact ⟨0, 0, rfl, rfl, ⟨by omega⟩, ⟨by simpa using HV.out⟩, rfl⟩
  case round =>
    obtain ⟨x7, x43, rfl, rfl, HX, HA, rfl⟩ := hrel
    cases gk with
    | zero =>
      have hx0 := HX.out.1
      have hxe := HX.out.2
      have hd : decide (x43 < (P.length : Int)) = false := decide_eq_false (by omega)
      have hVx : x7 = V := by
        have := HA.out
        rw [List.drop_eq_nil_of_le (by omega)] at this
        exact this
      subst hVx
      clear hx0 hxe
      go_wp2
      go_loopg [57] m.toNat (fun kq v57 w' => ∃ (x57 : Int) (u' : Value), v57 = .int .u64 x57 ∧ Aside0 (0 ≤ x57 ∧ x57 + kq = m) ∧ Aside0 (w'.heap[g]? = some (.cells #[.slice A0 l0.length c0, .int .i64 (at_ + (width + 7) / 8), .int .i64 n, .int .i64 width, u'] 75 (0, 0))) ∧ Aside0 (∃ Y, Y = out ++ List.replicate x57.toNat x7 ∧ Kd.R (Kd.int .u64) 53 w' w0.heap.size (fun k_ => k_ ≠ g) u' Y) ∧ Aside0 (Below w0.heap.size w0 w'))
      case atStart => exact ⟨0, _, rfl, ⟨by omega⟩, hb4, ⟨_, rfl, by simpa using HO4.out⟩, HB4⟩
      case round =>
        clear hb4 HO4 HB4
        obtain ⟨x57, u', rfl, HX, Hb, HY, HB⟩ := hrel
        obtain ⟨Y, hY0, hO0⟩ := HY.out
        have HYe := Aside0.mk hY0
        have HO := Aside0.mk hO0
        clear HY hY0 hO0
        have hx0 := HX.out.1
        have hxe := HX.out.2
        cases gk with
        | zero =>
          have hd2 : decide (x57 < m) = false := decide_eq_false (by omega)
          go_wp2
          go_ret
          refine ⟨u', rfl, Hb.out, ?_, HB.out⟩
          have := HO.out
          rwa [HYe.out, show x57.toNat = m.toNat by omega] at this
        | succ k1 =>
          have hd2 : decide (x57 < m) = true := decide_eq_true (by omega)
          have hx4 : wr.cell? ⟨g, 4, none⟩ = some u' := blk_cell Hb.out 4
          obtain ⟨Ao, co, eo⟩ := Kd.R_slice HO.out
          subst eo
          have hlY : (Y.length : Int) < 1048577 := by rw [HYe.out, List.length_append, List.length_replicate]; omega
          have HLY := Aside0.mk hlY
          clear hlY
          have hgk := Aside0.mk (blk_lt Hb.out)
          obtain ⟨Y2, hY2⟩ : ∃ Y2, Y2 = Y ++ [x7] := ⟨_, rfl⟩
          have HY2 := Aside0.mk hY2
          clear hY2
          go_wp2_with (first | ((with_reducible refine gate_builtin (b := .append) (xs := #[.tmp 63, .tmp 65]) rfl ?_); at_builtin; refine Kd.R_append (Kd.int .u64) (w0 := w0) w0.heap.size rfl (.tmp 63) (.tmp 65) 52 53 (.int .u64 0) 8 rfl Try.underlying52 info53 rfl (by decide) (by omega) _ Y x7 [.int .u64 x7] (fun k_ => k_ ≠ g) (fun _ => False) rfl rfl ?aP (fun _ hk => hk.elim) ?aF ?aO ?aB ?aS ?aL ?_; (case aP => exact rfl); (case aB => exact HB.out); (case aF => exact fun k hk e => by have := hgk.out; omega); (case aO => exact HO.out); (case aS => exact HB.out.size); (case aL => have := HLY.out; omega); intro v1 w5 ho5 hb5 hg5 hat5; rw [← HY2.out] at ho5; obtain ⟨Ao5, co5, eo5⟩ := Kd.R_slice ho5; subst eo5; have hbn := Aside0.mk (blk_grown Hb.out hg5 (fun e => HO.out.1 g e.symm rfl)); have HO5 := Aside0.mk ho5; have HB5 := Aside0.mk hb5; have hf5 : w5.frozen? ⟨g, 4, none⟩ = false := blk_frozen hbn.out 4; have hc5 : w5.cell? ⟨g, 4, none⟩ = some (.slice Ao Y.length co) := blk_cell hbn.out 4; clear ho5 hb5 hg5 hat5))
          go_roundg k1
          case measure => omega
          case rel =>
            refine ⟨x57 + 1, _, rfl, ⟨by omega⟩, ⟨blk_set hbn.out 4 _⟩, ⟨Y2, ?_, Kd.R_far HO5.out (fun k hk => hk) _⟩, ⟨below_set HB5.out hg⟩⟩
            rw [HY2.out, HYe.out, show (x57 + 1).toNat = x57.toNat + 1 by omega, List.replicate_succ', List.append_assoc]
    | succ k1 =>
      have hx0 := HX.out.1
      have hxe := HX.out.2
      have hd : decide (x43 < (P.length : Int)) = true := decide_eq_true (by omega)
      have hx5 : x43 < 5 := by have := HPl.out; omega
      obtain ⟨ad, e1, hx⟩ := Kd.at_int HRP.out x43 hx0 (by omega)
      cases e1
      have p1 : (0 ≤ x43) = True := eq_true hx0
      have p2 : (x43 < (P.length : Int)) = True := eq_true (by omega)
      have H' := Aside0.mk HA.out
      clear HA
      obtain ⟨ji, hji⟩ : ∃ j_ : Int, shl .u64 (IntKind.u64.wrap (rd P x43)) (8 * x43) = j_ := ⟨_, rfl⟩
      have hji_ : IntKind.u64.wrap (IntKind.u64.wrap (rd P x43) * 2 ^ min (8 * x43).toNat 64) = ji := hji
      have hjiz : IntKind.u64.wrap (IntKind.u64.wrap (rd P x43) * 2 ^ (8 * x43).toNat) = ji := shl_small hji (show 8 * x43 ≤ 64 by omega)
      have HJ := Aside0.mk hji
      clear hji
      go_wp2
      go_roundg k1
      case measure => omega
      case rel =>
        refine ⟨Go.bits .or .u64 x7 ji, x43 + 1, rfl, rfl, ⟨by omega⟩, ⟨?_⟩, rfl⟩
        have h2 := H'.out
        rw [runs_drop_rd P x43 hx0 (by omega)] at h2
        simp only [runs_val] at h2
        rw [HJ.out] at h2
        exact h2
set_option maxHeartbeats 8000000 in
set_option maxRecDepth 100000 in
theorem runs_groups.end_ (g : Nat) (A0 : Option Addr) (c0 : Nat) (l0 : List Int) (at_ n width : Int) (outv : Value) (m sz : Int) (w : World)
    (hb : w.heap[g]? = some (.cells #[.slice A0 l0.length c0, .int .i64 at_, .int .i64 n, .int .i64 width, outv] 75 (0, 0)))
    (hl : l0.length ≤ 140737488355328) (h0 : 0 ≤ at_) (h1 : at_ ≤ l0.length) (hw0 : 0 ≤ width) (hw1 : width ≤ 32) (hsz : IntKind.u64.wrap (m * width) = sz)
    (hf : (0 < width ∧ (l0.length : Int) < m) ∨ ((0 < width → m ≤ (l0.length : Int)) ∧ (l0.length : Int) - at_ < sz)) :
    Calls Try.prog 41 #[.pointer (some ⟨g, 0, none⟩), .int .u64 m] w fun e w' => e = .returned (.int .i64 10) ∧ Drawn0 w w' := by
  have hv3 : w.cell? ⟨g, 3, none⟩ = some (.int .i64 width) := blk_cell hb 3
  have hv0 : w.cell? ⟨g, 0, none⟩ = some (.slice A0 l0.length c0) := blk_cell hb 0
  by_cases hw : 0 < width
  · have hwd : decide (0 < width) = true := decide_eq_true hw
    by_cases hm : (l0.length : Int) < m
    · have hmd : decide ((l0.length : Int) < m) = true := decide_eq_true hm
      clear hf
      go_enter Try.func41, Try.ntmps41
      go_wp2
      go_ret
      exact ⟨rfl, ⟨0, rfl⟩⟩
    · have hmd : decide ((l0.length : Int) < m) = false := decide_eq_false hm
      have hs : (l0.length : Int) - at_ < sz := hf.elim (fun h => absurd h.2 hm) (fun h => h.2)
      clear hf
      go_enter Try.func41, Try.ntmps41
      go_wp2_with (go_at_call 44; refine (runs_take.no g A0 c0 l0 at_ n width outv sz _ hb hl h0 h1 hs).mono ?_; rintro e w' ⟨rfl, ⟨nd, rfl⟩⟩)
      go_ret
      exact ⟨rfl, ⟨_, rfl⟩⟩
  · have hwd : decide (0 < width) = false := decide_eq_false hw
    have hs : (l0.length : Int) - at_ < sz := hf.elim (fun h => absurd h.1 hw) (fun h => h.2)
    obtain rfl : width = 0 := by omega
    exfalso
    rw [Int.mul_zero] at hsz
    have : IntKind.u64.wrap 0 = 0 := by decide
    omega
set_option maxHeartbeats 8000000 in
set_option maxRecDepth 100000 in
theorem runs_groups.form (g : Nat) (A0 : Option Addr) (c0 : Nat) (l0 : List Int) (at_ n width : Int) (Ao : Option Addr) (co : Nat) (out : List Int) (m sz : Int) (w : World)
    (hb : w.heap[g]? = some (.cells #[.slice A0 l0.length c0, .int .i64 at_, .int .i64 n, .int .i64 width, .slice Ao out.length co] 75 (0, 0)))
    (hc0 : l0.length ≤ c0) (hl : l0.length ≤ 140737488355328) (h0 : 0 ≤ at_) (h1 : at_ ≤ l0.length) (hw0 : 0 ≤ width) (hw1 : width ≤ 32) (hsz : IntKind.u64.wrap (m * width) = sz) (hsz0 : 0 ≤ sz)
    (hwm : 0 < width → m ≤ (l0.length : Int)) (hs : sz ≤ (l0.length : Int) - at_)
    (hn1 : n ≤ 1048576) (hno : (out.length : Int) ≤ n) (hf : m = 0 ∨ (n - out.length + 8 - 1) / 8 < m) :
    Calls Try.prog 41 #[.pointer (some ⟨g, 0, none⟩), .int .u64 m] w fun e w' => e = .returned (.int .i64 12) ∧ ∃ nd, w' = (w.setCell ⟨g, 1, none⟩ (.int .i64 (at_ + sz))).drewN nd := by
  have hv3 : w.cell? ⟨g, 3, none⟩ = some (.int .i64 width) := blk_cell hb 3
  have hv0 : w.cell? ⟨g, 0, none⟩ = some (.slice A0 l0.length c0) := blk_cell hb 0
  have hb2 : (w.setCell ⟨g, 1, none⟩ (.int .i64 (at_ + sz))).heap[g]? = some (.cells #[.slice A0 l0.length c0, .int .i64 (at_ + sz), .int .i64 n, .int .i64 width, .slice Ao out.length co] 75 (0, 0)) := blk_set hb 1 _
  have hcs : (decide (0 < width) = true ∧ decide ((l0.length : Int) < m) = false) ∨ decide (0 < width) = false := by
    by_cases hw : 0 < width
    · exact .inl ⟨decide_eq_true hw, decide_eq_false (by have := hwm hw; omega)⟩
    · exact .inr (decide_eq_false hw)
  have hfm : ∀ b, (m == 0) = b → (b = true ∨ decide ((n - out.length + 8 - 1) / 8 < m) = true) := by
    intro b hb
    cases b with
    | true => exact .inl rfl
    | false => exact .inr (decide_eq_true (hf.elim (fun h => by subst h; cases hb) id))
  clear hwm hf
  rcases hcs with ⟨hwd, hmd⟩ | hwd
  · go_enter Try.func41, Try.ntmps41
    go_wp2_with (go_at_call 44; refine (runs_take.yes g A0 c0 l0 at_ n width _ sz _ hb hc0 hl h0 h1 hs hsz0).mono ?_; rintro e w' ⟨A', c', rfl, hA, hc', nd, rfl⟩)
    have hb3 : ((w.setCell ⟨g, 1, none⟩ (.int .i64 (at_ + sz))).drewN nd).heap[g]? = some (.cells #[.slice A0 l0.length c0, .int .i64 (at_ + sz), .int .i64 n, .int .i64 width, .slice Ao out.length co] 75 (0, 0)) := hb2
    generalize hw2 : (w.setCell ⟨g, 1, none⟩ (.int .i64 (at_ + sz))).drewN nd = w2 at hb3 ⊢
    have hx2 : w2.cell? ⟨g, 2, none⟩ = some (.int .i64 n) := blk_cell hb3 2
    have hx4 : w2.cell? ⟨g, 4, none⟩ = some (.slice Ao out.length co) := blk_cell hb3 4
    go_quiet (fail)
    cases hz : (m == 0)
    · have hfd := (hfm _ hz).resolve_left (by decide)
      go_wp2
      go_ret
      subst hw2
      exact ⟨rfl, ⟨_, World.drewN_drewN ..⟩⟩
    · go_wp2
      go_ret
      subst hw2
      exact ⟨rfl, ⟨_, World.drewN_drewN ..⟩⟩
  · go_enter Try.func41, Try.ntmps41
    go_wp2_with (go_at_call 44; refine (runs_take.yes g A0 c0 l0 at_ n width _ sz _ hb hc0 hl h0 h1 hs hsz0).mono ?_; rintro e w' ⟨A', c', rfl, hA, hc', nd, rfl⟩)
    have hb3 : ((w.setCell ⟨g, 1, none⟩ (.int .i64 (at_ + sz))).drewN nd).heap[g]? = some (.cells #[.slice A0 l0.length c0, .int .i64 (at_ + sz), .int .i64 n, .int .i64 width, .slice Ao out.length co] 75 (0, 0)) := hb2
    generalize hw2 : (w.setCell ⟨g, 1, none⟩ (.int .i64 (at_ + sz))).drewN nd = w2 at hb3 ⊢
    have hx2 : w2.cell? ⟨g, 2, none⟩ = some (.int .i64 n) := blk_cell hb3 2
    have hx4 : w2.cell? ⟨g, 4, none⟩ = some (.slice Ao out.length co) := blk_cell hb3 4
    go_quiet (fail)
    cases hz : (m == 0)
    · have hfd := (hfm _ hz).resolve_left (by decide)
      go_wp2
      go_ret
      subst hw2
      exact ⟨rfl, ⟨_, World.drewN_drewN ..⟩⟩
    · go_wp2
      go_ret
      subst hw2
      exact ⟨rfl, ⟨_, World.drewN_drewN ..⟩⟩
set_option maxHeartbeats 8000000 in
set_option maxRecDepth 100000 in
theorem runs_groups.some_ (k : Nat) (g : Nat) (A0 : Option Addr) (c0 : Nat) (l0 : List Int) (at_ n width : Int) (u : Value) (out : List Int) (m sz : Int) (l : List Int) (why : Int) (w0 w : World)
    (hB : Below w0.heap.size w0 w) (hg : w0.heap.size ≤ g)
    (hb : w.heap[g]? = some (.cells #[.slice A0 l0.length c0, .int .i64 at_, .int .i64 n, .int .i64 width, u] 75 (0, 0)))
    (hr0 : Kd.C (Kd.int .u8) w0 A0 l0.length l0) (ho : Kd.R (Kd.int .u64) 53 w w0.heap.size (fun k_ => k_ ≠ g) u out)
    (hc0 : l0.length ≤ c0) (hl : l0.length ≤ 140737488355328) (h0 : 0 ≤ at_) (h1 : at_ ≤ l0.length) (hw0 : 0 ≤ width) (hw1 : width ≤ 32) (hsz : IntKind.u64.wrap (m * width) = sz) (hsz0 : 0 ≤ sz)
    (hwm : 0 < width → m ≤ (l0.length : Int)) (hs : sz ≤ (l0.length : Int) - at_)
    (hn1 : n ≤ 1048576) (hno : (out.length : Int) ≤ n) (hm0 : 0 < m) (hm1 : m ≤ (n - out.length + 8 - 1) / 8)
    (hU : bits_Unpack.f k (runs_part l0 at_ sz) (8 * m) width = some (l, why)) (hll : l.length ≤ 1048584) :
    Calls Try.prog 41 #[.pointer (some ⟨g, 0, none⟩), .int .u64 m] w fun e w' => ∃ u' : Value, e = .returned (.int .i64 why) ∧
      w'.heap[g]? = some (.cells #[.slice A0 l0.length c0, .int .i64 (at_ + sz), .int .i64 n, .int .i64 width, u'] 75 (0, 0)) ∧
      Kd.R (Kd.int .u64) 53 w' w0.heap.size (fun k_ => k_ ≠ g) u' (if why = 0 then out ++ l else out) ∧ Below w0.heap.size w0 w' := by
  have hv3 : w.cell? ⟨g, 3, none⟩ = some (.int .i64 width) := blk_cell hb 3
  have hv0 : w.cell? ⟨g, 0, none⟩ = some (.slice A0 l0.length c0) := blk_cell hb 0
  obtain ⟨Ao, co, eo⟩ := Kd.R_slice ho
  subst eo
  have Hb2 := Aside0.mk (show (w.setCell ⟨g, 1, none⟩ (.int .i64 (at_ + sz))).heap[g]? = some (.cells #[.slice A0 l0.length c0, .int .i64 (at_ + sz), .int .i64 n, .int .i64 width, .slice Ao out.length co] 75 (0, 0)) from blk_set hb 1 _)
  have HB2 := Aside0.mk (below_set (j := 1) (v := .int .i64 (at_ + sz)) hB hg)
  have HO2 := Aside0.mk (Kd.R_far ho (p := ⟨g, 1, none⟩) (fun k hk => hk) (.int .i64 (at_ + sz)))
  have HU := Aside0.mk hU
  have HR0 := Aside0.mk hr0
  have hz : (m == 0) = false := beq_false_of_ne (by omega)
  have hfd : decide ((n - out.length + 8 - 1) / 8 < m) = false := decide_eq_false (by omega)
  obtain ⟨P, hP⟩ : ∃ P, P = runs_part l0 at_ sz := ⟨_, rfl⟩
  have HP := Aside0.mk hP
  have HG := Aside0.mk hg
  obtain ⟨Y, hY⟩ : ∃ Y, Y = out ++ l := ⟨_, rfl⟩
  have HY := Aside0.mk hY
  have HLL := Aside0.mk hll
  have hcs : (decide (0 < width) = true ∧ decide ((l0.length : Int) < m) = false) ∨ decide (0 < width) = false := by
    by_cases hw : 0 < width
    · exact .inl ⟨decide_eq_true hw, decide_eq_false (by have := hwm hw; omega)⟩
    · exact .inr (decide_eq_false hw)
  have hgL := Aside0.mk (blk_lt hb)
  clear hwm hB hg ho hU hr0 hP hY hll
  rcases hcs with ⟨hwd, hmd⟩ | hwd
  · go_enter Try.func41, Try.ntmps41
    go_wp2_with (go_at_call 44; refine (runs_take.yes g A0 c0 l0 at_ n width _ sz _ hb hc0 hl h0 h1 hs hsz0).mono ?_; rintro e w' ⟨A', c', rfl, hA, hc', nd, rfl⟩; rw [← HP.out] at hA hc' ⊢)
    have hb3 : ((w.setCell ⟨g, 1, none⟩ (.int .i64 (at_ + sz))).drewN nd).heap[g]? = some (.cells #[.slice A0 l0.length c0, .int .i64 (at_ + sz), .int .i64 n, .int .i64 width, .slice Ao out.length co] 75 (0, 0)) := Hb2.out
    have HB3 := Aside0.mk (pw_below_drewN HB2.out nd)
    have HO3 := Aside0.mk (Kd.R_drewN HO2.out nd)
    clear hb hv3 hv0 Hb2 HB2 HO2
    generalize (w.setCell ⟨g, 1, none⟩ (.int .i64 (at_ + sz))).drewN nd = w2 at hb3 HB3 HO3 ⊢
    have hx2 : w2.cell? ⟨g, 2, none⟩ = some (.int .i64 n) := blk_cell hb3 2
    have hx4 : w2.cell? ⟨g, 4, none⟩ = some (.slice Ao out.length co) := blk_cell hb3 4
    go_quiet (fail)
    have hb4 := Aside0.mk (show (w2.drewN nq).heap[g]? = _ from hb3)
    have HB4 := Aside0.mk (pw_below_drewN HB3.out nq)
    have HO4 := Aside0.mk (Kd.R_drewN HO3.out nq)
    clear hb3 HB3 HO3 hx2 hx4
    generalize w2.drewN nq = w3 at hb4 HB4 HO4 ⊢
    have HRP := Aside0.mk (hA _ (Kd.C_below HR0.out HB4.out))
    clear hA
    have hy3 : w3.cell? ⟨g, 3, none⟩ = some (.int .i64 width) := blk_cell hb4.out 3
    by_cases hwy : why = 0
    · subst hwy
      go_wp2_with (first | (go_at_call 45; refine (bits_Unpack.calls k _ _ P (8 * m) width l 0 _ HRP.out hc' (by rw [HP.out]; exact HU.out)).mono ?_; rintro e w5 ⟨v5, rfl, ho5, hb5⟩; obtain ⟨A5, c5, e5⟩ := Kd.R_slice ho5; subst e5; have HO5 := Aside0.mk ho5; have HOo := Aside0.mk (Kd.R_below HO4.out hb5); have HB5 := Aside0.mk (below_step HB4.out hb5); have Hb5 := Aside0.mk ((hb5.block g (blk_lt hb4.out)).trans hb4.out); have hz4 : w5.cell? ⟨g, 4, none⟩ = some (.slice Ao out.length co) := blk_cell Hb5.out 4; clear ho5 hb5 hb4 HO4 HB4) | ((with_reducible refine gate_builtin (b := .append) (xs := #[.tmp 79, .tmp 80]) rfl ?_); at_builtin; refine Kd.R_append_rows (Kd.int .u64) (w0 := w0) w0.heap.size rfl (.tmp 79) (.tmp 80) 52 53 (.int .u64 0) 8 rfl Try.underlying52 info53 rfl (by decide) (by omega) _ out l _ _ _ (fun k_ => k_ ≠ g) (fun _ => False) rfl rfl ?aO ?aR (fun _ _ h => h) (fun _ h => h.elim) ?aF ?aB ?aS ?aL ?_; (case aO => exact HOo.out); (case aR => exact (Kd.R_reads' HO5.out).2.2); (case aF => exact fun k hk e => by have := blk_lt Hb5.out; omega); (case aB => exact HB5.out); (case aS => exact HB5.out.size); (case aL => have := HLL.out; omega); intro v6 w6 ho6 hb6 hg6 hat6; rw [← HY.out] at ho6; obtain ⟨A6, c6, e6⟩ := Kd.R_slice ho6; subst e6; have HO6 := Aside0.mk ho6; have HB6 := Aside0.mk hb6; have Hb6 := Aside0.mk (blk_grown Hb5.out hg6 (fun e => HOo.out.1 g e.symm rfl)); have hf6 : w6.frozen? ⟨g, 4, none⟩ = false := blk_frozen Hb6.out 4; have hc6 : w6.cell? ⟨g, 4, none⟩ = some (.slice Ao out.length co) := blk_cell Hb6.out 4; clear ho6 hb6 hg6 hat6))
      go_ret
      exact ⟨rfl, _, blk_set Hb6.out 4 _, by rw [← HY.out]; exact Kd.R_far HO6.out (fun k hk => hk) _, below_set HB6.out HG.out⟩
    · have hwz : (why != 0) = true := bne_iff_ne.mpr hwy
      go_wp2_with (first | (go_at_call 45; refine (bits_Unpack.calls k _ _ P (8 * m) width l why _ HRP.out hc' (by rw [HP.out]; exact HU.out)).mono ?_; rintro e w5 ⟨v5, rfl, ho5, hb5⟩; have HOo := Aside0.mk (Kd.R_below HO4.out hb5); have HB5 := Aside0.mk (below_step HB4.out hb5); have Hb5 := Aside0.mk ((hb5.block g (blk_lt hb4.out)).trans hb4.out); clear ho5 hb5 hb4 HO4 HB4))
      go_ret
      exact ⟨rfl, _, Hb5.out, by first | exact HOo.out | (rw [if_neg hwy]; exact HOo.out), HB5.out⟩
  · go_enter Try.func41, Try.ntmps41
    go_wp2_with (go_at_call 44; refine (runs_take.yes g A0 c0 l0 at_ n width _ sz _ hb hc0 hl h0 h1 hs hsz0).mono ?_; rintro e w' ⟨A', c', rfl, hA, hc', nd, rfl⟩; rw [← HP.out] at hA hc' ⊢)
    have hb3 : ((w.setCell ⟨g, 1, none⟩ (.int .i64 (at_ + sz))).drewN nd).heap[g]? = some (.cells #[.slice A0 l0.length c0, .int .i64 (at_ + sz), .int .i64 n, .int .i64 width, .slice Ao out.length co] 75 (0, 0)) := Hb2.out
    have HB3 := Aside0.mk (pw_below_drewN HB2.out nd)
    have HO3 := Aside0.mk (Kd.R_drewN HO2.out nd)
    clear hb hv3 hv0 Hb2 HB2 HO2
    generalize (w.setCell ⟨g, 1, none⟩ (.int .i64 (at_ + sz))).drewN nd = w2 at hb3 HB3 HO3 ⊢
    have hx2 : w2.cell? ⟨g, 2, none⟩ = some (.int .i64 n) := blk_cell hb3 2
    have hx4 : w2.cell? ⟨g, 4, none⟩ = some (.slice Ao out.length co) := blk_cell hb3 4
    go_quiet (fail)
    have hb4 := Aside0.mk (show (w2.drewN nq).heap[g]? = _ from hb3)
    have HB4 := Aside0.mk (pw_below_drewN HB3.out nq)
    have HO4 := Aside0.mk (Kd.R_drewN HO3.out nq)
    clear hb3 HB3 HO3 hx2 hx4
    generalize w2.drewN nq = w3 at hb4 HB4 HO4 ⊢
    have HRP := Aside0.mk (hA _ (Kd.C_below HR0.out HB4.out))
    clear hA
    have hy3 : w3.cell? ⟨g, 3, none⟩ = some (.int .i64 width) := blk_cell hb4.out 3
    by_cases hwy : why = 0
    · subst hwy
      go_wp2_with (first | (go_at_call 45; refine (bits_Unpack.calls k _ _ P (8 * m) width l 0 _ HRP.out hc' (by rw [HP.out]; exact HU.out)).mono ?_; rintro e w5 ⟨v5, rfl, ho5, hb5⟩; obtain ⟨A5, c5, e5⟩ := Kd.R_slice ho5; subst e5; have HO5 := Aside0.mk ho5; have HOo := Aside0.mk (Kd.R_below HO4.out hb5); have HB5 := Aside0.mk (below_step HB4.out hb5); have Hb5 := Aside0.mk ((hb5.block g (blk_lt hb4.out)).trans hb4.out); have hz4 : w5.cell? ⟨g, 4, none⟩ = some (.slice Ao out.length co) := blk_cell Hb5.out 4; clear ho5 hb5 hb4 HO4 HB4) | ((with_reducible refine gate_builtin (b := .append) (xs := #[.tmp 79, .tmp 80]) rfl ?_); at_builtin; refine Kd.R_append_rows (Kd.int .u64) (w0 := w0) w0.heap.size rfl (.tmp 79) (.tmp 80) 52 53 (.int .u64 0) 8 rfl Try.underlying52 info53 rfl (by decide) (by omega) _ out l _ _ _ (fun k_ => k_ ≠ g) (fun _ => False) rfl rfl ?aO ?aR (fun _ _ h => h) (fun _ h => h.elim) ?aF ?aB ?aS ?aL ?_; (case aO => exact HOo.out); (case aR => exact (Kd.R_reads' HO5.out).2.2); (case aF => exact fun k hk e => by have := blk_lt Hb5.out; omega); (case aB => exact HB5.out); (case aS => exact HB5.out.size); (case aL => have := HLL.out; omega); intro v6 w6 ho6 hb6 hg6 hat6; rw [← HY.out] at ho6; obtain ⟨A6, c6, e6⟩ := Kd.R_slice ho6; subst e6; have HO6 := Aside0.mk ho6; have HB6 := Aside0.mk hb6; have Hb6 := Aside0.mk (blk_grown Hb5.out hg6 (fun e => HOo.out.1 g e.symm rfl)); have hf6 : w6.frozen? ⟨g, 4, none⟩ = false := blk_frozen Hb6.out 4; have hc6 : w6.cell? ⟨g, 4, none⟩ = some (.slice Ao out.length co) := blk_cell Hb6.out 4; clear ho6 hb6 hg6 hat6))
      go_ret
      exact ⟨rfl, _, blk_set Hb6.out 4 _, by rw [← HY.out]; exact Kd.R_far HO6.out (fun k hk => hk) _, below_set HB6.out HG.out⟩
    · have hwz : (why != 0) = true := bne_iff_ne.mpr hwy
      go_wp2_with (first | (go_at_call 45; refine (bits_Unpack.calls k _ _ P (8 * m) width l why _ HRP.out hc' (by rw [HP.out]; exact HU.out)).mono ?_; rintro e w5 ⟨v5, rfl, ho5, hb5⟩; have HOo := Aside0.mk (Kd.R_below HO4.out hb5); have HB5 := Aside0.mk (below_step HB4.out hb5); have Hb5 := Aside0.mk ((hb5.block g (blk_lt hb4.out)).trans hb4.out); clear ho5 hb5 hb4 HO4 HB4))
      go_ret
      exact ⟨rfl, _, Hb5.out, by first | exact HOo.out | (rw [if_neg hwy]; exact HOo.out), HB5.out⟩
/-- A run, or groups, in one word. -/
def runs_run.f (l0 out : List Int) (at_ n width m : Int) : Int × Int × List Int :=
  if (l0.length : Int) - at_ < (width + 7) / 8 then (10, at_, out) else if m = 0 ∨ n - out.length < m then (12, at_ + (width + 7) / 8, out)
  else (0, at_ + (width + 7) / 8, out ++ List.replicate m.toNat (runs_val (runs_part l0 at_ ((width + 7) / 8)) 0 0))
def runs_groups.f (k : Nat) (l0 out : List Int) (at_ n width m : Int) : Option (Int × Int × List Int) :=
  if 0 < width ∧ (l0.length : Int) < m then some (10, at_, out) else if (l0.length : Int) - at_ < IntKind.u64.wrap (m * width) then some (10, at_, out)
  else if m = 0 ∨ (n - out.length + 8 - 1) / 8 < m then some (12, at_ + IntKind.u64.wrap (m * width), out)
  else (bits_Unpack.f k (runs_part l0 at_ (IntKind.u64.wrap (m * width))) (8 * m) width).bind fun t =>
    if t.1.length ≤ 1048584 then some (t.2, at_ + IntKind.u64.wrap (m * width), if t.2 = 0 then out ++ t.1 else out) else none
def runs_Decode.last (k : Nat) (l0 : List Int) (a1 n width at_ : Int) (out : List Int) : Option (List Int × Int × Int) :=
  if (out.drop n.toNat).any (fun x => decide (0 < x)) then some ([], 0, 12) else
  (runs_Encode.f k (out.take n.toNat) width).bind fun t => if t.2 = 0 then (if a1 ≤ at_ then
    (bytes_Equal.f t.1 ((l0.take at_.toNat).drop a1.toNat)).bind fun b => if b = true then some (out.take n.toNat, at_, 0) else some ([], 0, 12) else none) else some ([], 0, 12)
def runs_Decode.step (k : Nat) (l0 : List Int) (n width head at_ : Int) (out : List Int) : Option (Int × Int × List Int) :=
  if head % 2 = 0 then some (runs_run.f l0 out at_ n width (head / 2)) else runs_groups.f k l0 out at_ n width (head / 2)
def runs_Decode.l0 : Nat → List Int → Int → Int → Int → Int → List Int → Option (List Int × Int × Int)
  | 0, _, _, _, _, _, _ => none
  | k + 1, l0, a1, n, width, at_, out => if (out.length : Int) < n then
      ((varint_Get.f k l0 at_).bind fun t => if t.2.2 = 0 then (if (0 ≤ t.1 ∧ t.1 ≤ 18446744073709551615) ∧ (0 ≤ t.2.1 ∧ t.2.1 ≤ l0.length) then
        ((runs_Decode.step k l0 n width t.1 t.2.1 out).bind fun s => if s.1 = 0 then (if 0 ≤ s.2.1 ∧ s.2.1 ≤ l0.length then runs_Decode.l0 k l0 a1 n width s.2.1 s.2.2 else none) else some ([], 0, s.1)) else none) else some ([], 0, t.2.2))
    else runs_Decode.last k l0 a1 n width at_ out
def runs_Decode.f (k : Nat) (l0 : List Int) (a1 : Int) (a2 : Int) (a3 : Int) : Option (List Int × Int × Int) :=
  if l0.length ≤ 140737488355328 then (if a3 < 0 then some ([], 0, 15) else if a3 > 32 then some ([], 0, 15) else if a2 < 0 then some ([], 0, 1) else if a2 > 1048576 then some ([], 0, 1) else
    if a1 < 0 then some ([], 0, 1) else if a1 > (l0.length : Int) then some ([], 0, 1) else runs_Decode.l0 k l0 a1 a2 a3 a1 []) else none
theorem runs_groups.mono (l0 out : List Int) (at_ n width m : Int) (k : Nat) : LeO (runs_groups.f k l0 out at_ n width m) (runs_groups.f (k + 1) l0 out at_ n width m) := by
  unfold runs_groups.f
  repeat' first
  | (with_reducible exact LeO.refl _)
  | exact bits_Unpack.mono _ _ _ _
  | refine LeO.ite ?_ ?_
  | refine LeO.bind ?_ (fun _ => ?_)
theorem runs_Decode.mono_s (l0 : List Int) (n width head at_ : Int) (out : List Int) (k : Nat) : LeO (runs_Decode.step k l0 n width head at_ out) (runs_Decode.step (k + 1) l0 n width head at_ out) := by
  unfold runs_Decode.step
  repeat' first
  | (with_reducible exact LeO.refl _)
  | exact runs_groups.mono _ _ _ _ _ _ _
  | refine LeO.ite ?_ ?_
theorem runs_Decode.mono_e (l0 : List Int) (a1 n width at_ : Int) (out : List Int) (k : Nat) : LeO (runs_Decode.last k l0 a1 n width at_ out) (runs_Decode.last (k + 1) l0 a1 n width at_ out) := by
  unfold runs_Decode.last
  repeat' first
  | (with_reducible exact LeO.refl _)
  | exact runs_Encode.mono _ _ _
  | refine LeO.ite ?_ ?_
  | refine LeO.bind ?_ (fun _ => ?_)
theorem runs_Decode.mono_l : ∀ (k : Nat) (y0 : List Int) (y1 y2 y3 y4 : Int) (y5 : List Int), LeO (runs_Decode.l0 k y0 y1 y2 y3 y4 y5) (runs_Decode.l0 (k + 1) y0 y1 y2 y3 y4 y5)
  | 0 => fun _ _ _ _ _ _ r h => by simp [runs_Decode.l0] at h
  | k + 1 => by
    have ih := runs_Decode.mono_l k
    intro y0 y1 y2 y3 y4 y5
    unfold runs_Decode.l0
    repeat' first
    | exact ih _ _ _ _ _ _
    | (with_reducible exact LeO.refl _)
    | exact LeO.none _
    | exact varint_Get.mono _ _ _
    | exact runs_Decode.mono_s _ _ _ _ _ _ _
    | exact runs_Decode.mono_e _ _ _ _ _ _ _
    | refine LeO.ite ?_ ?_
    | refine LeO.bind ?_ (fun _ => ?_)
theorem runs_Decode.mono : ∀ a0 a1 a2 a3 k, LeO (runs_Decode.f k a0 a1 a2 a3) (runs_Decode.f (k + 1) a0 a1 a2 a3) := by
  intro a0 a1 a2 a3 k
  unfold runs_Decode.f
  repeat' first
  | exact runs_Decode.mono_l _ _ _ _ _ _ _
  | (with_reducible exact LeO.refl _)
  | exact LeO.none _
  | refine LeO.ite ?_ ?_
theorem runs_run.calls (g : Nat) (A0 : Option Addr) (c0 : Nat) (l0 : List Int) (at_ n width : Int) (u : Value) (out : List Int) (m : Int) (r : Int × Int × List Int) (w0 w : World)
    (hB : Below w0.heap.size w0 w) (hg : w0.heap.size ≤ g)
    (hb : w.heap[g]? = some (.cells #[.slice A0 l0.length c0, .int .i64 at_, .int .i64 n, .int .i64 width, u] 75 (0, 0)))
    (hr0 : Kd.C (Kd.int .u8) w0 A0 l0.length l0) (ho : Kd.R (Kd.int .u64) 53 w w0.heap.size (fun k_ => k_ ≠ g) u out)
    (hc0 : l0.length ≤ c0) (hl : l0.length ≤ 140737488355328) (h0 : 0 ≤ at_) (h1 : at_ ≤ l0.length) (hw0 : 0 ≤ width) (hw1 : width ≤ 32)
    (hn1 : n ≤ 1048576) (hno : (out.length : Int) ≤ n) (hm0 : 0 ≤ m) (h : runs_run.f l0 out at_ n width m = r) :
    Calls Try.prog 40 #[.pointer (some ⟨g, 0, none⟩), .int .u64 m] w fun e w' => ∃ u' : Value, e = .returned (.int .i64 r.1) ∧
      w'.heap[g]? = some (.cells #[.slice A0 l0.length c0, .int .i64 r.2.1, .int .i64 n, .int .i64 width, u'] 75 (0, 0)) ∧
      Kd.R (Kd.int .u64) 53 w' w0.heap.size (fun k_ => k_ ≠ g) u' r.2.2 ∧ Below w0.heap.size w0 w' := by
  subst h
  unfold runs_run.f
  by_cases c1 : (l0.length : Int) - at_ < (width + 7) / 8
  · rw [if_pos c1]
    refine (runs_run.end_ g A0 c0 l0 at_ n width u m w hb hl h0 h1 hw0 hw1 c1).mono ?_
    rintro e w' ⟨rfl, ⟨nd, rfl⟩⟩
    exact ⟨u, rfl, hb, Kd.R_drewN ho nd, pw_below_drewN hB nd⟩
  · rw [if_neg c1]
    by_cases c2 : m = 0 ∨ n - out.length < m
    · rw [if_pos c2]
      obtain ⟨Ao, co, eo⟩ := Kd.R_slice ho
      subst eo
      refine (runs_run.form g A0 c0 l0 at_ n width Ao co out m w hb hc0 hl h0 h1 hw0 hw1 (by omega) hn1 hno c2).mono ?_
      rintro e w' ⟨rfl, nd, rfl⟩
      exact ⟨_, rfl, blk_set hb 1 _, Kd.R_drewN (Kd.R_far ho (p := ⟨g, 1, none⟩) (fun k hk => hk) _) nd, pw_below_drewN (below_set hB hg) nd⟩
    · rw [if_neg c2]
      exact runs_run.ok g A0 c0 l0 at_ n width u out m w0 w hB hg hb hr0 ho hc0 hl h0 h1 hw0 hw1 (by omega) hn1 hno (by omega) (by omega)
theorem runs_groups.calls (k : Nat) (g : Nat) (A0 : Option Addr) (c0 : Nat) (l0 : List Int) (at_ n width : Int) (u : Value) (out : List Int) (m : Int) (r : Int × Int × List Int) (w0 w : World)
    (hB : Below w0.heap.size w0 w) (hg : w0.heap.size ≤ g)
    (hb : w.heap[g]? = some (.cells #[.slice A0 l0.length c0, .int .i64 at_, .int .i64 n, .int .i64 width, u] 75 (0, 0)))
    (hr0 : Kd.C (Kd.int .u8) w0 A0 l0.length l0) (ho : Kd.R (Kd.int .u64) 53 w w0.heap.size (fun k_ => k_ ≠ g) u out)
    (hc0 : l0.length ≤ c0) (hl : l0.length ≤ 140737488355328) (h0 : 0 ≤ at_) (h1 : at_ ≤ l0.length) (hw0 : 0 ≤ width) (hw1 : width ≤ 32)
    (hn1 : n ≤ 1048576) (hno : (out.length : Int) ≤ n) (hm0 : 0 ≤ m) (h : runs_groups.f k l0 out at_ n width m = some r) :
    Calls Try.prog 41 #[.pointer (some ⟨g, 0, none⟩), .int .u64 m] w fun e w' => ∃ u' : Value, e = .returned (.int .i64 r.1) ∧
      w'.heap[g]? = some (.cells #[.slice A0 l0.length c0, .int .i64 r.2.1, .int .i64 n, .int .i64 width, u'] 75 (0, 0)) ∧
      Kd.R (Kd.int .u64) 53 w' w0.heap.size (fun k_ => k_ ≠ g) u' r.2.2 ∧ Below w0.heap.size w0 w' := by
  unfold runs_groups.f at h
  obtain ⟨sz, hsz⟩ : ∃ sz, IntKind.u64.wrap (m * width) = sz := ⟨_, rfl⟩
  have hsz0 : 0 ≤ sz := by rw [← hsz, IntKind.wrap_u64]; omega
  rw [hsz] at h
  by_cases c1 : 0 < width ∧ (l0.length : Int) < m
  · rw [if_pos c1] at h
    obtain rfl := Option.some.inj h
    refine (runs_groups.end_ g A0 c0 l0 at_ n width u m sz w hb hl h0 h1 hw0 hw1 hsz (.inl c1)).mono ?_
    rintro e w' ⟨rfl, ⟨nd, rfl⟩⟩
    exact ⟨u, rfl, hb, Kd.R_drewN ho nd, pw_below_drewN hB nd⟩
  rw [if_neg c1] at h
  have hwm : 0 < width → m ≤ (l0.length : Int) := fun hw => by
    by_cases hlt : (l0.length : Int) < m
    · exact absurd ⟨hw, hlt⟩ c1
    · omega
  by_cases c2 : (l0.length : Int) - at_ < sz
  · rw [if_pos c2] at h
    obtain rfl := Option.some.inj h
    refine (runs_groups.end_ g A0 c0 l0 at_ n width u m sz w hb hl h0 h1 hw0 hw1 hsz (.inr ⟨hwm, c2⟩)).mono ?_
    rintro e w' ⟨rfl, ⟨nd, rfl⟩⟩
    exact ⟨u, rfl, hb, Kd.R_drewN ho nd, pw_below_drewN hB nd⟩
  rw [if_neg c2] at h
  by_cases c3 : m = 0 ∨ (n - out.length + 8 - 1) / 8 < m
  · rw [if_pos c3] at h
    obtain rfl := Option.some.inj h
    obtain ⟨Ao, co, eo⟩ := Kd.R_slice ho
    subst eo
    refine (runs_groups.form g A0 c0 l0 at_ n width Ao co out m sz w hb hc0 hl h0 h1 hw0 hw1 hsz hsz0 hwm (by omega) hn1 hno c3).mono ?_
    rintro e w' ⟨rfl, nd, rfl⟩
    exact ⟨_, rfl, blk_set hb 1 _, Kd.R_drewN (Kd.R_far ho (p := ⟨g, 1, none⟩) (fun k hk => hk) _) nd, pw_below_drewN (below_set hB hg) nd⟩
  rw [if_neg c3] at h
  obtain ⟨t, hU, h⟩ := Option.bind_eq_some_iff.mp h
  by_cases c4 : t.1.length ≤ 1048584
  · rw [if_pos c4] at h
    obtain rfl := Option.some.inj h
    exact runs_groups.some_ k g A0 c0 l0 at_ n width u out m sz t.1 t.2 w0 w hB hg hb hr0 ho hc0 hl h0 h1 hw0 hw1 hsz hsz0 hwm (by omega) hn1 hno (by omega) (by omega) hU c4
  · rw [if_neg c4] at h
    cases h
theorem runs_full {A : Option Addr} {len c : Nat} {n : Int} (h0 : 0 ≤ n) (hc : n ≤ (c : Int)) (W : World) :
    (Instr.slice 52 (.slice A len c) none (some (.int .i64 n)) (some (.int .i64 n))).run Try.prog W = .ok (.slice A n.toNat n.toNat) W := by
  obtain ⟨i0, hi0, _, hsz, _⟩ := info_parts info53
  have hel : Try.prog.elem 52 = 53 := by simp [Program.elem, Try.underlying52]
  have hb : ((0 : Int) ≤ n ∧ n ≤ (c : Int)) := ⟨h0, hc⟩
  have hb2 : ((0 : Int) ≤ n ∧ n ≤ ((n.toNat : Nat) : Int)) := ⟨h0, by omega⟩
  have hs : (sizeOf 53).run Try.prog W = .ok 1 W := by simp [sizeOf, typeInfo, hi0, hsz]
  have hA : (Option.map (fun x : Addr => x.add 0) A) = A := by cases A <;> simp [Addr.add]
  simp [Instr.slice, run_underlying Try.underlying52, Instr.sliceBounds, run_sliceBound_if, hb, Result.andThen, hs, hA, Int.max_eq_left h0]
set_option maxHeartbeats 8000000 in
set_option maxRecDepth 100000 in
theorem runs_Decode.calls (k : Nat) (A0 : Option Addr) (c0 : Nat) (l0 : List Int) (a1 : Int) (a2 : Int) (a3 : Int) (r1 : List Int) (r2 : Int) (r3 : Int) (w : World) (hr0 : Kd.C (Kd.int .u8) w A0 l0.length l0) (hc0 : l0.length ≤ c0) (h : runs_Decode.f k l0 a1 a2 a3 = some (r1, r2, r3)) :
    Calls Try.prog 29 #[.slice A0 l0.length c0, .int .i64 a1, .int .i64 a2, .int .i64 a3] w fun e w' => ∃ v0_ : Value, e = .returned (.tuple #[v0_, .int .i64 r2, .int .i64 r3]) ∧ Kd.V (Kd.int .u64) 53 w' w.heap.size (fun k_ => (w.heap.size ≤ k_)) v0_ r1 ∧ Below w.heap.size w w' := by
  have HB0 := Aside0.mk (Below.refl w.heap.size w)
  have HR0 := Aside0.mk hr0
  unfold runs_Decode.f at h
  by_cases hl : l0.length ≤ 140737488355328
  case neg => rw [if_neg hl] at h; cases h
  rw [if_pos hl] at h
  clear hr0
  by_cases c0 : a3 < 0
  · rw [if_pos c0] at h
    simp only [Option.some.injEq, Prod.mk.injEq] at h
    obtain ⟨rfl, rfl, rfl⟩ := h
    have c0b : decide (a3 < 0) = true := decide_eq_true c0
    clear c0
    go_enter Try.func29, Try.ntmps29
    go_wp2
    go_ret3
    exact ⟨_, rfl, Kd.V_nil _ _ _ _ _, HB0.out⟩
  rw [if_neg c0] at h
  have c0b : decide (a3 < 0) = false := decide_eq_false c0
  by_cases c1 : a3 > 32
  · rw [if_pos c1] at h
    simp only [Option.some.injEq, Prod.mk.injEq] at h
    obtain ⟨rfl, rfl, rfl⟩ := h
    have c1b : decide (32 < a3) = true := decide_eq_true c1
    clear c1
    go_enter Try.func29, Try.ntmps29
    go_wp2
    go_ret3
    exact ⟨_, rfl, Kd.V_nil _ _ _ _ _, HB0.out⟩
  rw [if_neg c1] at h
  have c1b : decide (32 < a3) = false := decide_eq_false c1
  by_cases c2 : a2 < 0
  · rw [if_pos c2] at h
    simp only [Option.some.injEq, Prod.mk.injEq] at h
    obtain ⟨rfl, rfl, rfl⟩ := h
    have c2b : decide (a2 < 0) = true := decide_eq_true c2
    clear c2
    go_enter Try.func29, Try.ntmps29
    go_wp2
    go_ret3
    exact ⟨_, rfl, Kd.V_nil _ _ _ _ _, HB0.out⟩
  rw [if_neg c2] at h
  have c2b : decide (a2 < 0) = false := decide_eq_false c2
  by_cases c3 : a2 > 1048576
  · rw [if_pos c3] at h
    simp only [Option.some.injEq, Prod.mk.injEq] at h
    obtain ⟨rfl, rfl, rfl⟩ := h
    have c3b : decide (1048576 < a2) = true := decide_eq_true c3
    clear c3
    go_enter Try.func29, Try.ntmps29
    go_wp2
    go_ret3
    exact ⟨_, rfl, Kd.V_nil _ _ _ _ _, HB0.out⟩
  rw [if_neg c3] at h
  have c3b : decide (1048576 < a2) = false := decide_eq_false c3
  by_cases c4 : a1 < 0
  · rw [if_pos c4] at h
    simp only [Option.some.injEq, Prod.mk.injEq] at h
    obtain ⟨rfl, rfl, rfl⟩ := h
    have c4b : decide (a1 < 0) = true := decide_eq_true c4
    clear c4
    go_enter Try.func29, Try.ntmps29
    go_wp2
    go_ret3
    exact ⟨_, rfl, Kd.V_nil _ _ _ _ _, HB0.out⟩
  rw [if_neg c4] at h
  have c4b : decide (a1 < 0) = false := decide_eq_false c4
  by_cases c5 : a1 > (l0.length : Int)
  · rw [if_pos c5] at h
    simp only [Option.some.injEq, Prod.mk.injEq] at h
    obtain ⟨rfl, rfl, rfl⟩ := h
    have c5b : decide ((l0.length : Int) < a1) = true := decide_eq_true c5
    clear c5
    go_enter Try.func29, Try.ntmps29
    go_wp2
    go_ret3
    exact ⟨_, rfl, Kd.V_nil _ _ _ _ _, HB0.out⟩
  rw [if_neg c5] at h
  have c5b : decide ((l0.length : Int) < a1) = false := decide_eq_false c5
  have H := Aside0.mk h
  have w0_ : 0 ≤ a3 := by omega
  have w1_ : a3 ≤ 32 := by omega
  have n0_ : 0 ≤ a2 := by omega
  have n1_ : a2 ≤ 1048576 := by omega
  have p0_ : 0 ≤ a1 := by omega
  have p1_ : a1 ≤ l0.length := by omega
  clear h c0 c1 c2 c3 c4 c5
  have HbA := Aside0.mk (heap_alloc_new w (.cells #[.slice A0 l0.length c0, .int .i64 a1, .int .i64 a2, .int .i64 a3, .slice none 0 0] 75))
  have HBA := Aside0.mk (below_alloc (Below.refl w.heap.size w) (.cells #[.slice A0 l0.length c0, .int .i64 a1, .int .i64 a2, .int .i64 a3, .slice none 0 0] 75))
  go_enter Try.func29, Try.ntmps29
  go_wp2
  generalize w.alloc (.cells #[.slice A0 l0.length c0, .int .i64 a1, .int .i64 a2, .int .i64 a3, .slice none 0 0] 75) = w1 at HbA HBA ⊢
  go_loopg [12] k (fun kq v12 w' => ∃ (x1 : Int) (u : Value) (out : List Int), Aside0 (runs_Decode.l0 kq l0 a1 a2 a3 x1 out = some (r1, r2, r3)) ∧ Aside0 (kq ≤ k) ∧ Aside0 (0 ≤ x1 ∧ x1 ≤ (l0.length : Int)) ∧ Aside0 (w'.heap[w.heap.size]? = some (.cells #[.slice A0 l0.length c0, .int .i64 x1, .int .i64 a2, .int .i64 a3, u] 75 (0, 0))) ∧ Aside0 (Kd.R (Kd.int .u64) 53 w' w.heap.size (fun k_ => k_ ≠ w.heap.size) u out) ∧ Aside0 (Below w.heap.size w w'))
  case atStart => exact ⟨a1, _, [], H, ⟨Nat.le_refl _⟩, ⟨p0_, p1_⟩, HbA, ⟨Kd.R_nil _ _ _ _ _⟩, HBA⟩
  case round =>
    clear H HbA HBA
    obtain ⟨x1, u, out, HA, HK, HX, Hb, HO, HB⟩ := hrel
    cases gk with
    | zero => exact absurd HA.out (by simp [runs_Decode.l0])
    | succ k1 =>
      have H := HA.out
      clear HA
      simp only [runs_Decode.l0] at H
      obtain ⟨Ao, co, eo⟩ := Kd.R_slice HO.out
      subst eo
      have hv4 : wr.cell? ⟨w.heap.size, 4, none⟩ = some (.slice Ao out.length co) := blk_cell Hb.out 4
      have hv1 : wr.cell? ⟨w.heap.size, 1, none⟩ = some (.int .i64 x1) := blk_cell Hb.out 1
      by_cases d1 : (out.length : Int) < a2
      · rw [if_pos d1] at H
        have d1b : decide ((out.length : Int) < a2) = true := decide_eq_true d1
        obtain ⟨⟨t1, t2, t3⟩, A1, H⟩ := Option.bind_eq_some_iff.mp H
        have HA1 := Aside0.mk A1
        clear A1
        have HRw := Aside0.mk (Kd.C_below HR0.out HB.out)
        simp only at H
        by_cases d2 : t3 = 0
        · subst d2
          rw [if_pos rfl] at H
          by_cases d3 : (0 ≤ t1 ∧ t1 ≤ 18446744073709551615) ∧ (0 ≤ t2 ∧ t2 ≤ (l0.length : Int))
          case neg => rw [if_neg d3] at H; cases H
          rw [if_pos d3] at H
          obtain ⟨⟨d3a, d3b⟩, d3c, d3d⟩ := d3
          obtain ⟨s, A2, H⟩ := Option.bind_eq_some_iff.mp H
          obtain ⟨s1, s2, s3⟩ := s
          simp only at H
          have hq0 : 0 ≤ t1 / 2 := by omega
          have HQ := Aside0.mk hq0
          have HT := Aside0.mk (And.intro d3c d3d)
          clear hq0
          by_cases dm : t1 % 2 = 0
          · have dmb : (t1 % 2 == 0) = true := beq_iff_eq.mpr dm
            unfold runs_Decode.step at A2
            rw [if_pos dm] at A2
            have HA2 := Aside0.mk (Option.some.inj A2)
            clear A2 dm
            by_cases d4 : s1 = 0
            · subst d4
              rw [if_pos rfl] at H
              by_cases d5 : 0 ≤ s2 ∧ s2 ≤ (l0.length : Int)
              case neg => rw [if_neg d5] at H; cases H
              rw [if_pos d5] at H
              have H' := Aside0.mk H
              clear H
              go_wp2_with (first | (go_at_call 39; refine (varint_Get.calls k1 _ _ l0 x1 t1 t2 0 _ HRw.out hc0 HA1.out).mono ?_; rintro e w' ⟨rfl, ⟨nd, rfl⟩⟩; have hbd : (wr.drewN nd).heap[w.heap.size]? = _ := Hb.out; have hvd : (wr.drewN nd).cell? ⟨w.heap.size, 1, none⟩ = some (.int .i64 x1) := blk_cell hbd 1; have hfd : (wr.drewN nd).frozen? ⟨w.heap.size, 1, none⟩ = false := blk_frozen hbd 1; have Hb6 := Aside0.mk (blk_set hbd 1 (.int .i64 t2)); have HB6 := Aside0.mk (below_set (j := 1) (v := .int .i64 t2) (pw_below_drewN HB.out nd) (Nat.le_refl w.heap.size)); have HO6 := Aside0.mk (Kd.R_far (Kd.R_drewN HO.out nd) (p := ⟨w.heap.size, 1, none⟩) (fun k hk => hk) (.int .i64 t2)); clear hbd) | (go_at_call 40; refine (runs_run.calls w.heap.size A0 c0 l0 t2 a2 a3 _ out (t1 / 2) (0, s2, s3) w _ HB6.out (Nat.le_refl _) Hb6.out HR0.out HO6.out hc0 hl HT.out.1 HT.out.2 w0_ w1_ n1_ (by omega) HQ.out HA2.out).mono ?_; rintro e w7 ⟨u7, rfl, hb7, ho7, hB7⟩; have Hb7 := Aside0.mk hb7; have HO7 := Aside0.mk ho7; have HB7 := Aside0.mk hB7; clear hb7 ho7 hB7))
              go_roundg k1
              case measure => have := HK.out; omega
              case rel => exact ⟨s2, _, s3, H', ⟨by have := HK.out; omega⟩, ⟨d5⟩, Hb7, HO7, HB7⟩
            · rw [if_neg d4] at H
              simp only [Option.some.injEq, Prod.mk.injEq] at H
              obtain ⟨rfl, rfl, rfl⟩ := H
              have d4b : (s1 != 0) = true := bne_iff_ne.mpr d4
              go_wp2_with (first | (go_at_call 39; refine (varint_Get.calls k1 _ _ l0 x1 t1 t2 0 _ HRw.out hc0 HA1.out).mono ?_; rintro e w' ⟨rfl, ⟨nd, rfl⟩⟩; have hbd : (wr.drewN nd).heap[w.heap.size]? = _ := Hb.out; have hvd : (wr.drewN nd).cell? ⟨w.heap.size, 1, none⟩ = some (.int .i64 x1) := blk_cell hbd 1; have hfd : (wr.drewN nd).frozen? ⟨w.heap.size, 1, none⟩ = false := blk_frozen hbd 1; have Hb6 := Aside0.mk (blk_set hbd 1 (.int .i64 t2)); have HB6 := Aside0.mk (below_set (j := 1) (v := .int .i64 t2) (pw_below_drewN HB.out nd) (Nat.le_refl w.heap.size)); have HO6 := Aside0.mk (Kd.R_far (Kd.R_drewN HO.out nd) (p := ⟨w.heap.size, 1, none⟩) (fun k hk => hk) (.int .i64 t2)); clear hbd) | (go_at_call 40; refine (runs_run.calls w.heap.size A0 c0 l0 t2 a2 a3 _ out (t1 / 2) (s1, s2, s3) w _ HB6.out (Nat.le_refl _) Hb6.out HR0.out HO6.out hc0 hl HT.out.1 HT.out.2 w0_ w1_ n1_ (by omega) HQ.out HA2.out).mono ?_; rintro e w7 ⟨u7, rfl, hb7, ho7, hB7⟩; have Hb7 := Aside0.mk hb7; have HO7 := Aside0.mk ho7; have HB7 := Aside0.mk hB7; clear hb7 ho7 hB7))
              go_ret3
              exact ⟨_, rfl, Kd.V_nil _ _ _ _ _, HB7.out⟩
          · have dmb : (t1 % 2 == 0) = false := beq_false_of_ne dm
            unfold runs_Decode.step at A2
            rw [if_neg dm] at A2
            have HA2 := Aside0.mk A2
            clear A2 dm
            by_cases d4 : s1 = 0
            · subst d4
              rw [if_pos rfl] at H
              by_cases d5 : 0 ≤ s2 ∧ s2 ≤ (l0.length : Int)
              case neg => rw [if_neg d5] at H; cases H
              rw [if_pos d5] at H
              have H' := Aside0.mk H
              clear H
              go_wp2_with (first | (go_at_call 39; refine (varint_Get.calls k1 _ _ l0 x1 t1 t2 0 _ HRw.out hc0 HA1.out).mono ?_; rintro e w' ⟨rfl, ⟨nd, rfl⟩⟩; have hbd : (wr.drewN nd).heap[w.heap.size]? = _ := Hb.out; have hvd : (wr.drewN nd).cell? ⟨w.heap.size, 1, none⟩ = some (.int .i64 x1) := blk_cell hbd 1; have hfd : (wr.drewN nd).frozen? ⟨w.heap.size, 1, none⟩ = false := blk_frozen hbd 1; have Hb6 := Aside0.mk (blk_set hbd 1 (.int .i64 t2)); have HB6 := Aside0.mk (below_set (j := 1) (v := .int .i64 t2) (pw_below_drewN HB.out nd) (Nat.le_refl w.heap.size)); have HO6 := Aside0.mk (Kd.R_far (Kd.R_drewN HO.out nd) (p := ⟨w.heap.size, 1, none⟩) (fun k hk => hk) (.int .i64 t2)); clear hbd) | (go_at_call 41; refine (runs_groups.calls k1 w.heap.size A0 c0 l0 t2 a2 a3 _ out (t1 / 2) (0, s2, s3) w _ HB6.out (Nat.le_refl _) Hb6.out HR0.out HO6.out hc0 hl HT.out.1 HT.out.2 w0_ w1_ n1_ (by omega) HQ.out HA2.out).mono ?_; rintro e w7 ⟨u7, rfl, hb7, ho7, hB7⟩; have Hb7 := Aside0.mk hb7; have HO7 := Aside0.mk ho7; have HB7 := Aside0.mk hB7; clear hb7 ho7 hB7))
              go_roundg k1
              case measure => have := HK.out; omega
              case rel => exact ⟨s2, _, s3, H', ⟨by have := HK.out; omega⟩, ⟨d5⟩, Hb7, HO7, HB7⟩
            · rw [if_neg d4] at H
              simp only [Option.some.injEq, Prod.mk.injEq] at H
              obtain ⟨rfl, rfl, rfl⟩ := H
              have d4b : (s1 != 0) = true := bne_iff_ne.mpr d4
              go_wp2_with (first | (go_at_call 39; refine (varint_Get.calls k1 _ _ l0 x1 t1 t2 0 _ HRw.out hc0 HA1.out).mono ?_; rintro e w' ⟨rfl, ⟨nd, rfl⟩⟩; have hbd : (wr.drewN nd).heap[w.heap.size]? = _ := Hb.out; have hvd : (wr.drewN nd).cell? ⟨w.heap.size, 1, none⟩ = some (.int .i64 x1) := blk_cell hbd 1; have hfd : (wr.drewN nd).frozen? ⟨w.heap.size, 1, none⟩ = false := blk_frozen hbd 1; have Hb6 := Aside0.mk (blk_set hbd 1 (.int .i64 t2)); have HB6 := Aside0.mk (below_set (j := 1) (v := .int .i64 t2) (pw_below_drewN HB.out nd) (Nat.le_refl w.heap.size)); have HO6 := Aside0.mk (Kd.R_far (Kd.R_drewN HO.out nd) (p := ⟨w.heap.size, 1, none⟩) (fun k hk => hk) (.int .i64 t2)); clear hbd) | (go_at_call 41; refine (runs_groups.calls k1 w.heap.size A0 c0 l0 t2 a2 a3 _ out (t1 / 2) (s1, s2, s3) w _ HB6.out (Nat.le_refl _) Hb6.out HR0.out HO6.out hc0 hl HT.out.1 HT.out.2 w0_ w1_ n1_ (by omega) HQ.out HA2.out).mono ?_; rintro e w7 ⟨u7, rfl, hb7, ho7, hB7⟩; have Hb7 := Aside0.mk hb7; have HO7 := Aside0.mk ho7; have HB7 := Aside0.mk hB7; clear hb7 ho7 hB7))
              go_ret3
              exact ⟨_, rfl, Kd.V_nil _ _ _ _ _, HB7.out⟩
        · rw [if_neg d2] at H
          simp only [Option.some.injEq, Prod.mk.injEq] at H
          obtain ⟨rfl, rfl, rfl⟩ := H
          have d2b : (t3 != 0) = true := bne_iff_ne.mpr d2
          go_wp2_with (go_at_call 39; refine (varint_Get.calls k1 _ _ l0 x1 t1 t2 t3 _ HRw.out hc0 HA1.out).mono ?_; rintro e w' ⟨rfl, ⟨nd, rfl⟩⟩)
          go_ret3
          exact ⟨_, rfl, Kd.V_nil _ _ _ _ _, pw_below_drewN HB.out _⟩
      · rw [if_neg d1] at H
        have d1b : decide ((out.length : Int) < a2) = false := decide_eq_false d1
        have hlo : a2 ≤ (out.length : Int) := by omega
        have hlc : out.length ≤ co := (Kd.R_reads' HO.out).2.1
        obtain ⟨i0, hi0, _, hsz, _⟩ := info_parts info53
        obtain ⟨A9, hcut9, hA9, hC9⟩ := print_drop_of (P := Try.prog) (Value.int .u64) 0 52 53 .i64 Try.underlying52 hi0 hsz Ao co out a2 n0_ hlo hlc
        have hcut3 := fun W => runs_full (A := Ao) (len := out.length) (c := co) n0_ (show a2 ≤ (co : Int) by omega) W
        obtain ⟨E, hE⟩ : ∃ E, E = out.take a2.toNat := ⟨_, rfl⟩
        have hEl : E.length = a2.toNat := by rw [hE, List.length_take]; omega
        rw [← hEl] at hcut3
        have HRo := (Kd.R_reads' HO.out).2.2
        have HRE := Aside0.mk (show Kd.C (Kd.int .u64) wr Ao E.length E from by rw [hEl, hE]; exact Kd.C_of_reads (h1 := fun _ => rfl) (ReadsOf.take_ (Kd.reads_of_C (d := (0 : Int)) HRo) a2.toNat (by omega)))
        obtain ⟨D, hD⟩ : ∃ D, D = out.drop a2.toNat := ⟨_, rfl⟩
        have HRD := Aside0.mk (Kd.C_of_reads (h1 := fun _ => rfl) (hA9 wr (Kd.reads_of_C HRo)))
        rw [← hD] at hcut9 hC9 HRD
        unfold runs_Decode.last at H
        rw [← hD, ← hE] at H
        have HE := Aside0.mk hE
        have H' := Aside0.mk H
        clear H hD hE hEl HRo hA9 hsz hi0 hlc
        go_wp2
        go_loopg [95] D.length (fun kq v95 w' => ∃ x95 : Int, v95 = .int .i64 x95 ∧ Aside0 (0 ≤ x95 ∧ x95 + kq = D.length) ∧ Aside0 ((D.drop x95.toNat).any (fun x => decide (0 < x)) = D.any (fun x => decide (0 < x))) ∧ wr = w')
        case atStart => exact ⟨0, rfl, ⟨by omega⟩, ⟨by simp⟩, rfl⟩
        case round =>
          obtain ⟨x95, rfl, HX9, HA9, rfl⟩ := hrel
          have hx0 := HX9.out.1
          have hxe := HX9.out.2
          cases gk with
          | zero =>
            have hd : decide (x95 < (D.length : Int)) = false := decide_eq_false (by omega)
            have hany : D.any (fun x => decide (0 < x)) = false := by rw [← HA9.out, List.drop_eq_nil_of_le (by omega)]; rfl
            have H := H'.out
            rw [if_neg (by rw [hany]; decide)] at H
            clear H' hx0 hxe
            obtain ⟨⟨t4, t5⟩, A4, H⟩ := Option.bind_eq_some_iff.mp H
            have HA4 := Aside0.mk A4
            clear A4
            simp only at H
            have HBr := HB
            have hgl := Aside0.mk (blk_lt Hb.out)
            by_cases e1 : t5 = 0
            · subst e1
              rw [if_pos rfl] at H
              by_cases e2 : a1 ≤ x1
              case neg => rw [if_neg e2] at H; cases H
              rw [if_pos e2] at H
              obtain ⟨b, A5, H⟩ := Option.bind_eq_some_iff.mp H
              have HM := print_mid_of (P := Try.prog) (Value.int .u8) 0 38 5 .i64 .i64 Try.underlying38 (info_parts info5).choose_spec.1 (info_parts info5).choose_spec.2.2.1 A0 c0 l0 a1 x1 p0_ e2 HX.out.2 hc0
              obtain ⟨M, hM⟩ : ∃ M, M = (l0.take x1.toNat).drop a1.toNat := ⟨_, rfl⟩
              rw [← hM] at HM A5
              have HA5 := Aside0.mk A5
              clear hM A5
              obtain ⟨Am, hcutm, hAm, hCm⟩ := HM
              cases b with
              | true =>
                rw [if_pos rfl] at H
                simp only [Option.some.injEq, Prod.mk.injEq] at H
                obtain ⟨rfl, rfl, rfl⟩ := H
                go_wp2_with (first | (go_at_call 24; refine (runs_Encode.calls k1 _ _ E a3 t4 0 _ HRE.out (Nat.le_refl _) HA4.out).mono ?_; rintro e w8 ⟨v8, rfl, ho8, hb8⟩; obtain ⟨A8, c8, e8⟩ := Kd.R_slice ho8; subst e8; have HRc := Aside0.mk (Kd.R_reads' ho8).2.2; have HCc := Aside0.mk (Kd.R_reads' ho8).2.1; have Hb8 := Aside0.mk ((hb8.block _ hgl.out).trans Hb.out); have hv18 : w8.cell? ⟨w.heap.size, 1, none⟩ = some (.int .i64 x1) := blk_cell Hb8.out 1; have HO8 := Aside0.mk (Kd.R_below HO.out hb8); have HB8 := Aside0.mk (below_step HB.out hb8); have HRm := Aside0.mk (Kd.C_of_reads (h1 := fun _ => rfl) (hAm w8 (Kd.reads_of_C (Kd.C_below HR0.out (below_step HB.out hb8))))); clear ho8 hb8) | (go_at_call 42; refine (bytes_Equal.calls _ _ t4 _ _ M _ _ HRc.out HCc.out HRm.out hCm HA5.out).mono ?_; rintro e w9 ⟨rfl, ⟨nd9, rfl⟩⟩))
                have hbq : (w8.drewN nd9).heap[w.heap.size]? = _ := Hb8.out
                have hv1q : (w8.drewN nd9).cell? ⟨w.heap.size, 1, none⟩ = some (.int .i64 x1) := blk_cell hbq 1
                clear hbq
                go_quiet (fail)
                go_wp2
                go_ret3
                refine ⟨_, rfl, ?_, pw_below_drewN (pw_below_drewN HB8.out _) _⟩
                refine Kd.V_mk (Nat.le_refl _) (Kd.F_drewN (Kd.F_drewN ?_ _) _)
                obtain ⟨A', c', e', _, hF⟩ := Kd.R_V (base' := w.heap.size) (Kd.R_mono (Kd.R_bound HO8.out) (fun k hk => hk.2.1) : Kd.R (Kd.int .u64) 53 w8 w.heap.size (fun k_ => w.heap.size ≤ k_) _ out)
                injection e' with e1' _ _
                subst e1'
                refine Kd.F_imp hF fun W' hC => ?_
                rw [HE.out, List.length_take, Nat.min_eq_left (by omega)]
                exact Kd.C_of_reads (h1 := fun _ => rfl) (ReadsOf.take_ (Kd.reads_of_C (d := (0 : Int)) hC) a2.toNat (by omega))
              | false =>
                rw [if_neg (by decide)] at H
                simp only [Option.some.injEq, Prod.mk.injEq] at H
                obtain ⟨rfl, rfl, rfl⟩ := H
                go_wp2_with (first | (go_at_call 24; refine (runs_Encode.calls k1 _ _ E a3 t4 0 _ HRE.out (Nat.le_refl _) HA4.out).mono ?_; rintro e w8 ⟨v8, rfl, ho8, hb8⟩; obtain ⟨A8, c8, e8⟩ := Kd.R_slice ho8; subst e8; have HRc := Aside0.mk (Kd.R_reads' ho8).2.2; have HCc := Aside0.mk (Kd.R_reads' ho8).2.1; have Hb8 := Aside0.mk ((hb8.block _ hgl.out).trans Hb.out); have hv18 : w8.cell? ⟨w.heap.size, 1, none⟩ = some (.int .i64 x1) := blk_cell Hb8.out 1; have HO8 := Aside0.mk (Kd.R_below HO.out hb8); have HB8 := Aside0.mk (below_step HB.out hb8); have HRm := Aside0.mk (Kd.C_of_reads (h1 := fun _ => rfl) (hAm w8 (Kd.reads_of_C (Kd.C_below HR0.out (below_step HB.out hb8))))); clear ho8 hb8) | (go_at_call 42; refine (bytes_Equal.calls _ _ t4 _ _ M _ _ HRc.out HCc.out HRm.out hCm HA5.out).mono ?_; rintro e w9 ⟨rfl, ⟨nd9, rfl⟩⟩))
                go_ret3
                exact ⟨_, rfl, Kd.V_nil _ _ _ _ _, pw_below_drewN HB8.out _⟩
            · rw [if_neg e1] at H
              simp only [Option.some.injEq, Prod.mk.injEq] at H
              obtain ⟨rfl, rfl, rfl⟩ := H
              have e1b : (t5 != 0) = true := bne_iff_ne.mpr e1
              go_wp2_with (go_at_call 24; refine (runs_Encode.calls k1 _ _ E a3 t4 t5 _ HRE.out (Nat.le_refl _) HA4.out).mono ?_; rintro e w8 ⟨v8, rfl, ho8, hb8⟩; have HB8 := Aside0.mk (below_step HB.out hb8); clear ho8 hb8)
              go_ret3
              exact ⟨_, rfl, Kd.V_nil _ _ _ _ _, HB8.out⟩
          | succ k2 =>
            have hd : decide (x95 < (D.length : Int)) = true := decide_eq_true (by omega)
            obtain ⟨ad, e1, hx⟩ := Kd.at_int HRD.out x95 hx0 (by omega)
            cases e1
            have p1 : (0 ≤ x95) = True := eq_true hx0
            have p2 : (x95 < (D.length : Int)) = True := eq_true (by omega)
            have hdr := runs_drop_rd D x95 hx0 (by omega)
            have h2 := HA9.out
            rw [hdr, List.any_cons] at h2
            have HDR := Aside0.mk hdr
            clear hdr
            by_cases e3 : 0 < rd D x95
            · have e3b : decide (0 < rd D x95) = true := decide_eq_true e3
              rw [e3b, Bool.true_or] at h2
              have H := H'.out
              rw [if_pos (by rw [← h2])] at H
              simp only [Option.some.injEq, Prod.mk.injEq] at H
              obtain ⟨rfl, rfl, rfl⟩ := H
              clear h2
              go_wp2
              go_ret3
              exact ⟨_, rfl, Kd.V_nil _ _ _ _ _, HB.out⟩
            · have e3b : decide (0 < rd D x95) = false := decide_eq_false e3
              rw [e3b, Bool.false_or] at h2
              have HH := Aside0.mk h2
              clear h2
              go_wp2
              go_roundg k2
              case measure => omega
              case rel => exact ⟨x95 + 1, congrArg (Value.int .i64) (by have := (Kd.reads_of_C (d := (0 : Int)) HRD.out).2.1; unfold wrap64; omega), ⟨by omega⟩, HH, rfl⟩

-- NOT PRINTED: function 20 (dels_Decode)

end Go.Proofs.Ytodadonpfcefbaa.QDelsReads
