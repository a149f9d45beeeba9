/- DelsReads: the walk. -/
import Derived.Test.YtodadonpfcefbaaM14
import Derived.Lib.Hide
namespace Go.Proofs.Ytodadonpfcefbaa.Marks
open Reg Go.RowKit Go.Proofs.YtodadonpfcefbaaW.PrintWords Go.Proofs.YtodadonpfcefbaaW.PrintLast Go.Proofs.YtodadonpfcefbaaW.PrintMore Go.Proofs.Ytodadonpfcefbaa.QDelsReads Go.Proofs.Ytodadonpfcefbaa.Base
attribute [local go_sem] max2_int min2_int max_two min_two max_three min_three max_four min_four
set_option linter.unusedVariables false
set_option linter.unusedSimpArgs false
theorem byte_of (o : BinOp) (x y : Int) : ∃ v : Nat, Go.bits o .u8 x y = (v : Int) ∧ v < 256 := by
  have h : ∀ z : Int, 0 ≤ IntKind.u8.wrap z ∧ IntKind.u8.wrap z < 256 := fun z => by rw [IntKind.wrap_u8]; omega
  have h2 : 0 ≤ Go.bits o .u8 x y ∧ Go.bits o .u8 x y < 256 := by
    unfold Go.bits
    exact h _
  exact ⟨(Go.bits o .u8 x y).toNat, by omega, by omega⟩
theorem encB_by (l : List Bool) : ∃ B : List Nat, encB l = ints B ∧ (∀ x ∈ B, x < 256) ∧ B = putN l.length ++ (enc (l.map bn) 1).1 :=
  ⟨_, by rw [encB, ints_append], fun x hx => (List.mem_append.1 hx).elim (putN_lt _ x) (enc_bytes _ _ x), rfl⟩
theorem encB_facts (l : List Bool) (hs : l.length ≤ 300) : ∃ (m : Nat) (E : List Nat), encB l = ints E ∧ E.length = m + 1 ∧ m ≤ 2000 ∧ ∀ x ∈ E, x < 256 := by
  obtain ⟨E, he, hE, hE2⟩ := encB_by l
  have hsz := enc_size5 (L := l.map bn) (by rw [List.length_map]; omega) 1
  rw [List.length_map] at hsz
  have hpl : (putN l.length).length ≤ 10 := putN_10 (by omega)
  have hp0 : 0 < (putN l.length).length := by
    rw [putN]
    split <;> simp
  have hEl : E.length = (putN l.length).length + (enc (l.map bn) 1).1.length := by rw [hE2, List.length_append]
  exact ⟨E.length - 1, E, he, by omega, by omega, hE⟩
set_option maxHeartbeats 8000000 in
set_option maxRecDepth 100000 in
theorem readsC (A0 : Option Addr) (c0 : Nat) (B : List Nat) (a1 a2 : Int) (A3 : Option Addr) (c3 : Nat) (l : List Int) (a4 a5 : Int) (W : World) (hB : ∀ x ∈ B, x < 256) (hBl : B.length ≤ 140737488351232) (hr0 : Kd.C (Kd.int .u8) W A0 (ints B).length (ints B)) (hc0 : (ints B).length ≤ c0) (hr3 : Kd.C (Kd.int .i64) W A3 l.length l) (hl : l.length ≤ 1000000000000000) : Calls Try.prog 5 #[.slice A0 (ints B).length c0, .int .i64 a1, .int .i64 a2, .slice A3 l.length c3, .int .i64 a4, .int .u8 a5] W fun e w' => e = .returned (.bool true) ∧ Below W.heap.size W w' := by
  obtain ⟨N, hN, hwi⟩ := within_some a2 200 (by decide)
  have HN := Aside0.mk hN
  have HR0 := Aside0.mk hr0
  have HR3 := Aside0.mk hr3
  have HL := Aside0.mk hl
  have hm2 : N ≤ 281474976710656 := by omega
  generalize hal : ints B = bs at *
  have HC0 := Aside0.mk hc0
  have HAL := Aside0.mk hal
  have HBB := Aside0.mk hB
  have HBL := Aside0.mk hBl
  clear hr0 hr3 hN hal hB hBl hc0 hl
  go_enter Try.func5, Try.ntmps5
  go_wp2_with (first
    | (go_at_call 8; refine (columbariumbook_Within.calls a2 0 200 _ _ hwi).mono ?_; rintro e w1 ⟨rfl, hd⟩; have HB1 := Aside0.mk hd.below; clear hd)
    | ((with_reducible refine gate_dst (N := 29) rfl ?_); refine make_bools rfl 34 _ _ rfl N rfl rfl 4 Try.underlying34 info4 hm2 ?_; have HC3 := Aside0.mk (show Bk _ w1.heap.size (List.replicate N false) from blk_new w1 (.cells (Array.mk ((List.replicate N false).map Value.bool)) 4)); have HB3 := Aside0.mk (below_alloc HB1.out (.cells (Array.mk ((List.replicate N false).map Value.bool)) 4)); have Hc := Aside0.mk HB1.out.size; generalize w1.heap.size = c at HC3 Hc; generalize w1.alloc (.cells (Array.mk ((List.replicate N false).map Value.bool)) 4) = w3 at HC3 HB3; clear HB1))
  go_loopg [14] (l.length + 1) (fun kq v14 w' => ∃ (i : Nat), v14 = .int .i64 (i : Int) ∧ Aside0 (i + kq = l.length + 1 ∧ i ≤ l.length) ∧ Aside0 (Bk w' c ((l.take i).foldl setL (List.replicate N false))) ∧ Aside0 (Below W.heap.size W w'))
  case atStart => exact ⟨0, rfl, ⟨by omega, by omega⟩, HC3, HB3⟩
  case round =>
    clear HC3 HB3
    obtain ⟨i, rfl, HI, HC, HB⟩ := hrel
    cases gk with
    | zero => have := HI.out; omega
    | succ k1 =>
      obtain ⟨ji, hji⟩ : ∃ j : Int, (i : Int) = j := ⟨_, rfl⟩
      rw [hji]
      by_cases cc : i < l.length
      · have c1b : decide (ji < (l.length : Int)) = true := decide_eq_true (by omega)
        have p0 : 0 ≤ ji := by omega
        have p1 : ji < (l.length : Int) := by omega
        obtain ⟨ad, e1, hx⟩ := Kd.at_int HR3.out ji p0 p1
        cases e1
        have hti : ji.toNat = i := by omega
        have hlx : l[i]? = some (rd l ji) := by simp [rd, hti, cc]
        generalize rd l ji = x at hx hlx
        have hx0 := pw_cell_below HB.out hx
        have htk : (l.take (i + 1)).foldl setL (List.replicate N false) = setL ((l.take i).foldl setL (List.replicate N false)) x := by
          rw [List.take_add_one, hlx, Option.toList_some, List.foldl_append]
          rfl
        have hlN : ((l.take i).foldl setL (List.replicate N false)).length = N := by rw [foldl_setL_length, List.length_replicate]
        generalize (l.take i).foldl setL (List.replicate N false) = ls at HC htk hlN
        have hw' : IntKind.i64.wrap (ji + 1) = ((i + 1 : Nat) : Int) := by have := HL.out; rw [IntKind.wrap_i64]; omega
        have hrel2 : Aside0 (i + 1 + k1 = l.length + 1 ∧ i + 1 ≤ l.length) := ⟨by have := HI.out; omega⟩
        clear hx hlx hti cc hji
        replace p0 := eq_true p0
        replace p1 := eq_true p1
        by_cases hpq : 0 ≤ x ∧ x < (N : Int)
        · obtain ⟨h0, h1⟩ := hpq
          have h0b : decide (0 ≤ x) = true := decide_eq_true h0
          have h1b : decide (x < (N : Int)) = true := decide_eq_true h1
          obtain ⟨d, hd⟩ : ∃ d, ls[x.toNat]? = some d := ⟨_, List.getElem?_eq_getElem (by omega)⟩
          have hcx := HC.out.cell hd
          have hfx := blk_frozen HC.out x.toNat
          have hst : setL ls x = ls.set x.toNat true := by unfold setL; rw [if_pos h0]
          rw [hst] at htk
          clear hd hst hlN
          replace h0 := eq_true h0
          replace h1 := eq_true h1
          go_wp2
          go_roundg k1
          case measure => omega
          case rel => exact ⟨i + 1, by first | rfl | (rw [hw']; done) | (simp [hw']; done), hrel2, ⟨by rw [htk]; exact HC.out.put _ _⟩, ⟨bk_far HB.out c _ _ Hc.out⟩⟩
        · have hst : setL ls x = ls := by
            unfold setL
            split
            · exact List.set_eq_of_length_le (by omega)
            · rfl
          rw [hst] at htk
          clear hst hlN
          by_cases h0 : 0 ≤ x
          · have h0b : decide (0 ≤ x) = true := decide_eq_true h0
            have h1b : decide (x < (N : Int)) = false := decide_eq_false (by omega)
            clear hpq h0
            go_wp2
            go_roundg k1
            case measure => omega
            case rel => exact ⟨i + 1, by first | rfl | (rw [hw']; done) | (simp [hw']; done), hrel2, ⟨by rw [htk]; exact HC.out⟩, HB⟩
          · have h0b : decide (0 ≤ x) = false := decide_eq_false h0
            clear hpq h0
            go_wp2
            go_roundg k1
            case measure => omega
            case rel => exact ⟨i + 1, by first | rfl | (rw [hw']; done) | (simp [hw']; done), hrel2, ⟨by rw [htk]; exact HC.out⟩, HB⟩
      · have c1b : decide (ji < (l.length : Int)) = false := decide_eq_false (by omega)
        have hil : i = l.length := by have := HI.out; omega
        have hcw := HC.out
        rw [hil, List.take_length] at hcw
        have hwl : (l.foldl setL (List.replicate N false)).length = N := by rw [foldl_setL_length, List.length_replicate]
        generalize l.foldl setL (List.replicate N false) = ws at hcw hwl
        have HCW := Aside0.mk hcw
        have HWL := Aside0.mk hwl
        obtain ⟨m, E, he, hEl, hm, hE⟩ := encB_facts ws (by rw [hwl]; have := HN.out; omega)
        obtain ⟨K, hK, hwK⟩ := within_some a4 m (by omega)
        have hw1 : (m : Int) = wrap64 (((ints E).length : Int) - 1) := by rw [ints_length, hEl, w64 (by omega) (by omega)]; omega
        rw [hw1] at hwK
        obtain ⟨jk, hjk⟩ : ∃ j : Int, (K : Int) = j := ⟨_, rfl⟩
        rw [hjk] at hwK
        have q0 : 0 ≤ jk := by omega
        have q1 : jk < ((ints E).length : Int) := by rw [ints_length, hEl]; omega
        obtain ⟨vx, hvx, hvx2⟩ := byte_of .xor (rdOf 0 (ints E) jk) a5
        have HK := Lib.hid hwK
        have HE2 : Aside0 (∀ x ∈ E.set jk.toNat vx, x < 256) := ⟨fun x hx => (List.mem_or_eq_of_mem_set hx).elim (hE x) (fun h => h ▸ hvx2)⟩
        have HE3 : Aside0 ((ints E).set jk.toNat (vx : Int) = ints (E.set jk.toNat vx) ∧ (E.set jk.toNat vx).length = (ints E).length ∧ (ints E).length ≤ 2001) := ⟨by simp [ints, List.map_set], by rw [List.length_set, ints_length], by rw [ints_length]; omega⟩
        have HVX := Lib.hid hvx
        have HEp : Aside0 (0 < (ints E).length) := ⟨by rw [ints_length]; omega⟩
        clear HC hcw hil cc hji HI hwl hK hw1 hjk hwK hE hvx2 hvx hEl hm
        go_upto_region 10 with (first
          | (go_at_call 19; (with_reducible refine (refEncB HCW.out (by have := HWL.out; have := HN.out; omega) HWL.out).mono ?_); rintro e w5 ⟨v5, rfl, ho, hb⟩; rw [he] at ho; obtain ⟨gE, cE, eE, hgE, hgl, cl, hcl⟩ := Kd.R_form ho HEp.out; subst eE; have HO5 := Aside0.mk ho; have HG5 := Aside0.mk (Nat.le_trans HB.out.size hgE); have HB5 := Aside0.mk (below_step HB.out hb); clear hb ho hgE hgl hcl)
          | (go_at_call 8; (with_reducible refine (columbariumbook_Within.calls a4 0 (wrap64 (((ints E).length : Int) - 1)) _ _ HK.out).mono ?_); rintro e w6 ⟨rfl, hd⟩; have hc6 := Kd.R_celln 0 (Kd.R_below HO5.out hd.below) jk q0 q1; have HO6 := Aside0.mk (Kd.R_below HO5.out hd.below); have HB6 := Aside0.mk (below_step HB5.out hd.below); clear hd))
        obtain ⟨hx6, hf6⟩ := hc6
        replace q0 := eq_true q0
        replace q1 := eq_true q1
        have hr6 : rdOf 0 (ints E) jk = rdOf 0 (ints E) jk := rfl
        go_upto_region 11 with (fail)
        have hp := (Kd.R_putg HO6.out jk (Go.bits .xor .u8 (rdOf 0 (ints E) jk) a5)).1
        have hb7 := below_set (j := jk.toNat) (v := .int .u8 (Go.bits .xor .u8 (rdOf 0 (ints E) jk) a5)) HB6.out HG5.out
        replace hp : Kd.R (Kd.int .u8) 5 (w6.setCell ⟨gE, jk.toNat, none⟩ (.int .u8 (Go.bits .xor .u8 (rdOf 0 (ints E) jk) a5))) _ _ (.slice (some ⟨gE, 0, none⟩) (ints E).length cE) ((ints E).set jk.toNat (Go.bits .xor .u8 (rdOf 0 (ints E) jk) a5)) := hp
        rw [show (ints E).set jk.toNat (Go.bits .xor .u8 (rdOf 0 (ints E) jk) a5) = ints (E.set jk.toNat vx) from by rw [HVX.out]; exact HE3.out.1] at hp
        have hce := (Kd.R_reads' hp).2
        have HE4 := Aside0.mk (show (ints (E.set jk.toNat vx)).length = (ints E).length from by rw [ints_length]; exact HE3.out.2.1)
        rw [HE4.out] at hce
        have HCE := Aside0.mk hce
        have HB7 := Aside0.mk hb7
        have hx6 := hx6
        clear hx6 hf6 hp hce hb7 hr6 HO5 HO6 HB5 HB6
        generalize w6.setCell ⟨gE, jk.toNat, none⟩ (.int .u8 (Go.bits .xor .u8 (rdOf 0 (ints E) jk) a5)) = w7 at HCE HB7
        generalize Go.bits .xor .u8 (rdOf 0 (ints E) jk) a5 = vz
        go_wp2
        have HG8 := Aside0.mk (show (w7.alloc (.cells #[.slice A0 bs.length c0, .slice (some ⟨gE, 0, none⟩) (ints E).length cE] 38)).heap[w7.heap.size]? = some (.cells #[.slice A0 bs.length c0, .slice (some ⟨gE, 0, none⟩) (ints E).length cE] 38 (0, 0)) from blk_new w7 _)
        have HCE8 := Aside0.mk (Kd.C_alloc HCE.out.2 (.cells #[.slice A0 bs.length c0, .slice (some ⟨gE, 0, none⟩) (ints E).length cE] 38))
        have HB8 := Aside0.mk (below_alloc HB7.out (.cells #[.slice A0 bs.length c0, .slice (some ⟨gE, 0, none⟩) (ints E).length cE] 38))
        have HCE1 := Aside0.mk HCE.out.1
        clear HCE HB7
        generalize w7.heap.size = gs at HG8
        generalize w7.alloc (.cells #[.slice A0 bs.length c0, .slice (some ⟨gE, 0, none⟩) (ints E).length cE] 38) = w8 at HG8 HCE8 HB8
        go_loopg [75] 3 (fun kq v75 w' => ∃ z : Int, v75 = .int .i64 z ∧ Aside0 (0 ≤ z ∧ z ≤ 2 ∧ z + kq = 3) ∧ Aside0 (w'.heap[gs]? = some (.cells #[.slice A0 bs.length c0, .slice (some ⟨gE, 0, none⟩) (ints E).length cE] 38 (0, 0))) ∧ Aside0 ((ints E).length ≤ cE ∧ Kd.C (Kd.int .u8) w' (some ⟨gE, 0, none⟩) (ints E).length (ints (E.set jk.toNat vx))) ∧ Aside0 (Below W.heap.size W w'))
        case atStart => exact ⟨0, rfl, ⟨by omega⟩, HG8, ⟨HCE1.out, HCE8.out⟩, HB8⟩
        case round =>
          clear HG8 HCE8 HCE1 HB8
          obtain ⟨z, rfl, HZ, HG, HC, HB⟩ := hrel
          cases gk with
          | zero =>
            have := HZ.out
            omega
          | succ k1 =>
            obtain rfl | rfl | rfl : z = 0 ∨ z = 1 ∨ z = 2 := by have := HZ.out; omega
            · obtain ⟨k, mm, v, q, e, h1, h2, h3, h4⟩ := dec_same HBB.out HBL.out a1
              rw [HAL.out] at h1 h2
              have HCx := Aside0.mk (Kd.C_below HR0.out HB.out)
              have HCap := Aside0.mk HC0.out
              have hsl : wr.cell? ⟨gs, 0, none⟩ = some (.slice A0 bs.length c0) := blk_cell HG.out 0
              have HD2 := Aside0.mk h2
              by_cases c4 : 4000 < (bs.length : Int)
              · have c4b : decide (4000 < (bs.length : Int)) = true := decide_eq_true c4
                clear h1 h2 h3 h4 HD2 HC HG c4
                go_wp2_with (first
                  | (go_at_call 15; (with_reducible refine (knownC _).mono ?_); rintro e w9 ⟨rfl, hb⟩; have HB9 := Aside0.mk (below_step HB.out hb); clear hb))
                go_ret
                exact ⟨rfl, HB9.out⟩
              have c4b : decide (4000 < (bs.length : Int)) = false := decide_eq_false c4
              clear c4
              rcases h3 with ⟨h3, rfl⟩ | ⟨rfl, rfl⟩
              · have c5b : (e == 0) = false := beq_eq_false_iff_ne.mpr h3
                have c5c : (e != 0) = true := bne_iff_ne.mpr h3
                have HDC := Lib.hid (decBad HCx.out HCap.out h1)
                clear h1 h2 h3 h4
                go_wp2_with (first
                  | (go_at_call 20; (with_reducible refine HDC.out.mono ?_); rintro e' w9 ⟨rfl, hb⟩; have HB9' := Aside0.mk hb; have HB9 := Aside0.mk (below_step HB.out hb); clear hb)
                  | (go_at_call 21; (with_reducible refine (columbariumref11_Decode.calls k A0 c0 bs a1 v q e _ (Kd.C_below HCx.out HB9'.out) HCap.out HD2.out).mono ?_); rintro e' w10 ⟨v5, rfl, ho, hb⟩; obtain ⟨AV, cV, eV⟩ := Kd.R_slice ho; subst eV; have HB10' := Aside0.mk (below_step HB9'.out hb); have HB10 := Aside0.mk (below_step HB9.out hb); clear ho hb))
                go_roundg k1
                case measure => omega
                case rel => exact ⟨1, by first | rfl | (simp; done), ⟨by have := HZ.out; omega⟩, ⟨blk_below HG.out HB10'.out⟩, ⟨⟨HC.out.1, Kd.C_below HC.out.2 HB10'.out⟩⟩, HB10⟩
              · have HDC := Lib.hid (decOk HCx.out HCap.out h1)
                clear h1 h2 h4
                by_cases c6 : (v.length : Int) < 3000
                · have c6b : decide ((v.length : Int) < 3000) = true := decide_eq_true c6
                  clear c6
                  go_wp2_with (first
                    | (go_at_call 20; (with_reducible refine HDC.out.mono ?_); rintro e' w9 ⟨b9, g9, rfl, hm, hb0, hb⟩; have HM9 := Aside0.mk hm; have HB9' := Aside0.mk hb; have HB9 := Aside0.mk (below_step HB.out hb); clear hb hm hb0)
                    | (go_at_call 21; (with_reducible refine (columbariumref11_Decode.calls k A0 c0 bs a1 v q 0 _ (Kd.C_below HCx.out HB9'.out) HCap.out HD2.out).mono ?_); rintro e' w10 ⟨v5, rfl, ho, hb⟩; obtain ⟨AV, cV, eV⟩ := Kd.R_slice ho; subst eV; have HV10 := Aside0.mk (Kd.R_reads' ho).2.2; have HM10 := Aside0.mk (HM9.out.below hb); have HB10' := Aside0.mk (below_step HB9'.out hb); have HB10 := Aside0.mk (below_step HB9.out hb); clear ho hb)
                    | (go_at_call 17; (with_reducible refine (alikeC HM10.out AV cV HV10.out).mono ?_); rintro e' w11 ⟨rfl, hb⟩; have HB11' := Aside0.mk (below_step HB10'.out hb); have HB11 := Aside0.mk (below_step HB10.out hb); clear hb))
                  go_roundg k1
                  case measure => omega
                  case rel => exact ⟨1, by first | rfl | (simp; done), ⟨by have := HZ.out; omega⟩, ⟨blk_below HG.out HB11'.out⟩, ⟨⟨HC.out.1, Kd.C_below HC.out.2 HB11'.out⟩⟩, HB11⟩
                · have c6b : decide ((v.length : Int) < 3000) = false := decide_eq_false c6
                  clear c6
                  go_wp2_with (first
                    | (go_at_call 20; (with_reducible refine HDC.out.mono ?_); rintro e' w9 ⟨b9, g9, rfl, hm, hb0, hb⟩; have HM9 := Aside0.mk hm; have HB9' := Aside0.mk hb; have HB9 := Aside0.mk (below_step HB.out hb); clear hb hm hb0)
                    | (go_at_call 21; (with_reducible refine (columbariumref11_Decode.calls k A0 c0 bs a1 v q 0 _ (Kd.C_below HCx.out HB9'.out) HCap.out HD2.out).mono ?_); rintro e' w10 ⟨v5, rfl, ho, hb⟩; obtain ⟨AV, cV, eV⟩ := Kd.R_slice ho; subst eV; have HV10 := Aside0.mk (Kd.R_reads' ho).2.2; have HM10 := Aside0.mk (HM9.out.below hb); have HB10' := Aside0.mk (below_step HB9'.out hb); have HB10 := Aside0.mk (below_step HB9.out hb); clear ho hb)
                    | (go_at_call 17; (with_reducible refine (alikeC HM10.out AV cV HV10.out).mono ?_); rintro e' w11 ⟨rfl, hb⟩; have HB11' := Aside0.mk (below_step HB10'.out hb); have HB11 := Aside0.mk (below_step HB10.out hb); clear hb))
                  go_roundg k1
                  case measure => omega
                  case rel => exact ⟨1, by first | rfl | (simp; done), ⟨by have := HZ.out; omega⟩, ⟨blk_below HG.out HB10'.out⟩, ⟨⟨HC.out.1, Kd.C_below HC.out.2 HB10'.out⟩⟩, HB10⟩
            · obtain ⟨k, mm, v, q, e, h1, h2, h3, h4⟩ := dec_same HE2.out (by have := HE3.out; omega) 0
              have HCx := Aside0.mk HC.out.2
              have HCap := Aside0.mk HC.out.1
              have hsl : wr.cell? ⟨gs, 1, none⟩ = some (.slice (some ⟨gE, 0, none⟩) (ints E).length cE) := blk_cell HG.out 1
              have HD2 := Aside0.mk h2
              rcases h3 with ⟨h3, rfl⟩ | ⟨rfl, rfl⟩
              · have c5b : (e == 0) = false := beq_eq_false_iff_ne.mpr h3
                have c5c : (e != 0) = true := bne_iff_ne.mpr h3
                have hdc := decBad (W := wr) (c0 := cE) (show Kd.C (Kd.int .u8) wr (some ⟨gE, 0, none⟩) (ints (E.set jk.toNat vx)).length (ints (E.set jk.toNat vx)) from by rw [HE4.out]; exact HCx.out) (by rw [HE4.out]; exact HCap.out) h1
                rw [HE4.out] at hdc
                have HDC := Lib.hid hdc
                clear hdc
                have HRF := Lib.hid (show ∀ w, Below wr.heap.size wr w → Calls Try.prog 21 #[.slice (some ⟨gE, 0, none⟩) (ints E).length cE, .int .i64 0] w fun e' w' => ∃ v0_ : Value, e' = .returned (.tuple #[v0_, .int .i64 q, .int .i64 e]) ∧ Kd.R Kd.bool 4 w' w.heap.size (fun _ => True) v0_ v ∧ Below w.heap.size w w' from fun w hw => by have := columbariumref11_Decode.calls k (some ⟨gE, 0, none⟩) cE _ 0 v q e w (by rw [HE4.out]; exact Kd.C_below HCx.out hw) (by rw [HE4.out]; exact HCap.out) HD2.out; rw [HE4.out] at this; exact this)
                clear h1 h2 h3 h4
                go_wp2_with (first
                  | (go_at_call 20; (with_reducible refine HDC.out.mono ?_); rintro e' w9 ⟨rfl, hb⟩; have HB9' := Aside0.mk hb; have HB9 := Aside0.mk (below_step HB.out hb); clear hb)
                  | (go_at_call 21; (with_reducible refine (HRF.out _ HB9'.out).mono ?_); rintro e' w10 ⟨v5, rfl, ho, hb⟩; obtain ⟨AV, cV, eV⟩ := Kd.R_slice ho; subst eV; have HB10' := Aside0.mk (below_step HB9'.out hb); have HB10 := Aside0.mk (below_step HB9.out hb); clear ho hb))
                go_roundg k1
                case measure => omega
                case rel => exact ⟨2, by first | rfl | (simp; done), ⟨by have := HZ.out; omega⟩, ⟨blk_below HG.out HB10'.out⟩, ⟨⟨HC.out.1, Kd.C_below HC.out.2 HB10'.out⟩⟩, HB10⟩
              · have hdc := decOk (W := wr) (c0 := cE) (show Kd.C (Kd.int .u8) wr (some ⟨gE, 0, none⟩) (ints (E.set jk.toNat vx)).length (ints (E.set jk.toNat vx)) from by rw [HE4.out]; exact HCx.out) (by rw [HE4.out]; exact HCap.out) h1
                rw [HE4.out] at hdc
                have HDC := Lib.hid hdc
                clear hdc
                have HRF := Lib.hid (show ∀ w, Below wr.heap.size wr w → Calls Try.prog 21 #[.slice (some ⟨gE, 0, none⟩) (ints E).length cE, .int .i64 0] w fun e' w' => ∃ v0_ : Value, e' = .returned (.tuple #[v0_, .int .i64 q, .int .i64 0]) ∧ Kd.R Kd.bool 4 w' w.heap.size (fun _ => True) v0_ v ∧ Below w.heap.size w w' from fun w hw => by have := columbariumref11_Decode.calls k (some ⟨gE, 0, none⟩) cE _ 0 v q 0 w (by rw [HE4.out]; exact Kd.C_below HCx.out hw) (by rw [HE4.out]; exact HCap.out) HD2.out; rw [HE4.out] at this; exact this)
                clear h1 h2 h4
                by_cases c6 : (v.length : Int) < 3000
                · have c6b : decide ((v.length : Int) < 3000) = true := decide_eq_true c6
                  clear c6
                  go_wp2_with (first
                    | (go_at_call 20; (with_reducible refine HDC.out.mono ?_); rintro e' w9 ⟨b9, g9, rfl, hm, hb0, hb⟩; have HM9 := Aside0.mk hm; have HB9' := Aside0.mk hb; have HB9 := Aside0.mk (below_step HB.out hb); clear hb hm hb0)
                    | (go_at_call 21; (with_reducible refine (HRF.out _ HB9'.out).mono ?_); rintro e' w10 ⟨v5, rfl, ho, hb⟩; obtain ⟨AV, cV, eV⟩ := Kd.R_slice ho; subst eV; have HV10 := Aside0.mk (Kd.R_reads' ho).2.2; have HM10 := Aside0.mk (HM9.out.below hb); have HB10' := Aside0.mk (below_step HB9'.out hb); have HB10 := Aside0.mk (below_step HB9.out hb); clear ho hb)
                    | (go_at_call 17; (with_reducible refine (alikeC HM10.out AV cV HV10.out).mono ?_); rintro e' w11 ⟨rfl, hb⟩; have HB11' := Aside0.mk (below_step HB10'.out hb); have HB11 := Aside0.mk (below_step HB10.out hb); clear hb))
                  go_roundg k1
                  case measure => omega
                  case rel => exact ⟨2, by first | rfl | (simp; done), ⟨by have := HZ.out; omega⟩, ⟨blk_below HG.out HB11'.out⟩, ⟨⟨HC.out.1, Kd.C_below HC.out.2 HB11'.out⟩⟩, HB11⟩
                · have c6b : decide ((v.length : Int) < 3000) = false := decide_eq_false c6
                  clear c6
                  go_wp2_with (first
                    | (go_at_call 20; (with_reducible refine HDC.out.mono ?_); rintro e' w9 ⟨b9, g9, rfl, hm, hb0, hb⟩; have HM9 := Aside0.mk hm; have HB9' := Aside0.mk hb; have HB9 := Aside0.mk (below_step HB.out hb); clear hb hm hb0)
                    | (go_at_call 21; (with_reducible refine (HRF.out _ HB9'.out).mono ?_); rintro e' w10 ⟨v5, rfl, ho, hb⟩; obtain ⟨AV, cV, eV⟩ := Kd.R_slice ho; subst eV; have HV10 := Aside0.mk (Kd.R_reads' ho).2.2; have HM10 := Aside0.mk (HM9.out.below hb); have HB10' := Aside0.mk (below_step HB9'.out hb); have HB10 := Aside0.mk (below_step HB9.out hb); clear ho hb)
                    | (go_at_call 17; (with_reducible refine (alikeC HM10.out AV cV HV10.out).mono ?_); rintro e' w11 ⟨rfl, hb⟩; have HB11' := Aside0.mk (below_step HB10'.out hb); have HB11 := Aside0.mk (below_step HB10.out hb); clear hb))
                  go_roundg k1
                  case measure => omega
                  case rel => exact ⟨2, by first | rfl | (simp; done), ⟨by have := HZ.out; omega⟩, ⟨blk_below HG.out HB10'.out⟩, ⟨⟨HC.out.1, Kd.C_below HC.out.2 HB10'.out⟩⟩, HB10⟩
            · go_wp2_with (first
                | (go_at_call 15; (with_reducible refine (knownC _).mono ?_); rintro e w9 ⟨rfl, hb⟩; have HB9 := Aside0.mk (below_step HB.out hb); clear hb))
              go_ret
              exact ⟨rfl, HB9.out⟩
theorem readsW (W : World) (A0 : Option Addr) (c0 : Nat) (l0 : List Int) (hr0 : Kd.C (Kd.int .u8) W A0 l0.length l0) (hc0 : l0.length ≤ c0) (hm0 : l0.length ≤ maxLen) (hw0 : ∀ x ∈ l0, (Lit.int .u8 x).wf = true) (hy0 : l0.length ≤ 140737488351232)
    (a1 : Int) (w1 : (Lit.int .i64 a1).wf = true) (a2 : Int) (w2 : (Lit.int .i64 a2).wf = true) (A3 : Option Addr) (c3 : Nat) (l : List Int) (hr3 : Kd.C (Kd.int .i64) W A3 l.length l) (hc3 : l.length ≤ c3) (hm3 : l.length ≤ maxLen) (hw3 : ∀ x ∈ l, (Lit.int .i64 x).wf = true) (hy3 : l.length * 8 ≤ 140737488351232)
    (a4 : Int) (w4 : (Lit.int .i64 a4).wf = true) (a5 : Int) (w5 : (Lit.int .u8 a5).wf = true) :
    Calls Try.prog 5 #[.slice A0 l0.length c0, .int .i64 a1, .int .i64 a2, .slice A3 l.length c3, .int .i64 a4, .int .u8 a5] W fun e w' => e = .returned (.bool true) ∧ Below W.heap.size W w' := by
  obtain ⟨A, rfl, hA⟩ := ints_of fun x hx => wf_u8 (hw0 x hx)
  rw [ints_length] at hy0
  exact readsC A0 c0 A a1 a2 A3 c3 l a4 a5 W hA (by omega) hr0 hc0 hr3 (by omega)
end Go.Proofs.Ytodadonpfcefbaa.Marks
