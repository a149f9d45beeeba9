/- DiskAgain: the walk. -/
import Derived.Test.YtoninmgglcepmaaD20
namespace Go.Proofs.Ytoninmgglcepmaa.Dk
open Go.ChangeMaps hiding rd
open RegD Go.RowKit Go.Proofs.YtoninmgglcepmaaW.PrintWords Go.Proofs.YtoninmgglcepmaaW.PrintLast Go.Proofs.YtoninmgglcepmaaW.PrintMore Mp
attribute [local go_sem] max2_int min2_int max_two min_two max_three min_three max_four min_four
set_option linter.unusedVariables false
set_option linter.unusedSimpArgs false
/-- A block that a round has made: a call of the law. -/
def askO (x : S43) (A : Option Addr) (c : Nat) (n : Nat) : Obj := .cells #[.int .i64 x.f0, .int .i64 x.f1, .string x.f2, .string x.f3, .slice A n c, .int .u8 x.f5] 43
/-- Two numbers of calls. -/
theorem kind5 (k : Int) : (k = 1) ∨ (k ≠ 1 ∧ k = 2) ∨ (k ≠ 1 ∧ k ≠ 2 ∧ k = 3) ∨ (k ≠ 1 ∧ k ≠ 2 ∧ k ≠ 3 ∧ k = 4) ∨ (k ≠ 1 ∧ k ≠ 2 ∧ k ≠ 3 ∧ k ≠ 4 ∧ k = 5) ∨ (k ≠ 1 ∧ k ≠ 2 ∧ k ≠ 3 ∧ k ≠ 4 ∧ k ≠ 5) := by omega
set_option maxRecDepth 100000 in
theorem cut60 {A : Option Addr} {c : Nat} {a x : List Int} (hx : x = a.take 60) (hc : a.length ≤ c) :
    (decide ((60 : Int) < (a.length : Int)) = true ∧ ∀ w : World, (Instr.slice 29 (.slice A a.length c) none (some (.int .i64 60)) none).run Try.prog w = .ok (.slice A x.length c) w) ∨ (decide ((60 : Int) < (a.length : Int)) = false ∧ x = a) := by
  by_cases h : 60 < a.length
  · refine .inl ⟨decide_eq_true (by omega), fun w => ?_⟩
    rw [cut_to (P := Try.prog) 29 5 .i64 Try.underlying29 (i := _) rfl A a.length c 60 (by omega) (by omega) hc w, hx, List.length_take, Nat.min_eq_left (by omega)]
    rfl
  · exact .inr ⟨decide_eq_false (by omega), by rw [hx, List.take_of_length_le (by omega)]⟩
theorem crash_all {q : Nat} {f : FS} (h : f.safe = (f.bs.length : Int)) : crB q f = f.bs := by
  have hk : kOf q f = 0 := by
    unfold kOf
    rw [show f.bs.length - f.safe.toNat + 1 = 1 from by omega]
    exact Nat.mod_one _
  have hn : nOf q f = f.bs.length := by unfold nOf; omega
  unfold crB
  rw [hk, if_neg (by omega), hn, List.take_length]
/-- Behind a crash all files that have names are safe. -/
theorem crash_safe {d : DSt} {n k : Nat} (hi : Inv d n k) {dirP : List (ByteArray × Nat)} (hg : GoodL d.fs n dirP) (q nb1 nb2 : Nat) : ∀ p ∈ dirP, ∃ f ∈ (crashD d dirP q nb1 nb2).fs, f.g = p.2 ∧ f.safe = (f.bs.length : Int) := fun p hp => by
  obtain ⟨f, hf, he⟩ := hg.fs p hp
  obtain ⟨h1, h2, _⟩ := hi.sf f hf
  exact ⟨crF q f, List.mem_map.2 ⟨f, hf, if_pos (List.mem_map.2 ⟨p, hp, he.symm⟩)⟩, he, (crF_sf ⟨h1, h2⟩).2.1⟩
/-- Another crash loses nothing. -/
theorem again_bytes {w w2 : World} {d1 : DSt} {q nb1 nb2 : Nat} (h1 : DiskAt w d1) (h2 : DiskAt w2 (crashD d1 d1.dir q nb1 nb2)) (hs : ∀ p ∈ d1.dir, ∃ f ∈ d1.fs, f.g = p.2 ∧ f.safe = (f.bs.length : Int)) (s : ByteArray) :
    findR (crashD d1 d1.dir q nb1 nb2) s = findR d1 s ∧ bytesOf (crashD d1 d1.dir q nb1 nb2) s = bytesOf d1 s := by
  have hf : findR (crashD d1 d1.dir q nb1 nb2) s = findR d1 s := rfl
  refine ⟨hf, ?_⟩
  cases hg : (findR d1 s).1 with
  | none =>
    unfold bytesOf
    rw [hf, hg]
  | some g =>
    obtain ⟨f, hfm, hfg, hfs⟩ := hs _ (getM_mem (find_get hg).2)
    simp only at hfg
    subst hfg
    rw [bytesOf_file h1 hfm hg, bytesOf_file h2 (f := crF q f) (List.mem_map.2 ⟨f, hfm, if_pos (List.mem_map.2 ⟨_, getM_mem (find_get hg).2, rfl⟩)⟩) (by rw [hf]; exact hg)]
    exact crash_all hfs
theorem mem_sortL {l : List ByteArray} {s : ByteArray} : s ∈ sortL l ↔ s ∈ l := by
  unfold sortL
  rw [List.mem_map]
  constructor
  · rintro ⟨b, hb, rfl⟩
    rw [List.mem_mergeSort, List.mem_map] at hb
    obtain ⟨t, ht, rfl⟩ := hb
    exact ht
  · intro h
    exact ⟨s.data.toList, by rw [List.mem_mergeSort, List.mem_map]; exact ⟨s, h, rfl⟩, rfl⟩
theorem rdOf_get {l : List ByteArray} {j : Nat} (hj : j < l.length) : rdOf ByteArray.empty l (j : Int) = l[j] := by
  rw [rdOf, Int.toNat_natCast, List.getD_eq_getElem?_getD, List.getElem?_eq_getElem hj]
  rfl
set_option maxHeartbeats 8000000 in
set_option maxRecDepth 100000 in
theorem againW (W : World) (A0 : Option Addr) (c0 : Nat) (l : List S43) (hr0 : Kd.C k43 W A0 l.length l) (hc0 : l.length ≤ c0) (hm0 : l.length ≤ maxLen) (ho0 : ∀ x ∈ l, ok43 x) (pick : Int) (wp : (Lit.int .i64 pick).wf = true) (again : Int) (wa : (Lit.int .i64 again).wf = true) :
    Calls Try.prog 7 #[.slice A0 l.length c0, .int .i64 pick, .int .i64 again] W fun e w' => e = .returned (.bool true) ∧ Below W.heap.size W w' := by
  have HR0 := Aside0.mk hr0
  have HM0 := Aside0.mk hm0
  have hN := Lib.hid (stNew W)
  obtain ⟨P, hP⟩ : ∃ P : Nat, (P : Int) = if pick < 0 then -(pick + 1) else pick := ⟨(if pick < 0 then -(pick + 1) else pick).toNat, by split <;> omega⟩
  obtain ⟨P2, hP2⟩ : ∃ P : Nat, (P : Int) = if again < 0 then -(again + 1) else again := ⟨(if again < 0 then -(again + 1) else again).toNat, by split <;> omega⟩
  have HP := Aside0.mk hP
  have HP2 := Aside0.mk hP2
  have HPB := Aside0.mk (range64 wp)
  have HPB2 := Aside0.mk (range64 wa)
  clear hP hP2 wp wa hr0 hc0 hm0 ho0
  go_enter Try.func7, Try.ntmps7
  go_wp2_with (go_at_call 11; refine hN.out.mono ?_; rintro e w1 ⟨gd, bd, bs, vch, rfl, hS⟩; have HS := Aside0.mk hS; clear hS)
  go_loopg [8] (l.length + 1) (fun kq v8 w' => ∃ (i : Nat) (d : DSt), v8 = .int .i64 (i : Int) ∧ Aside0 (l.length + 1 ≤ kq + i ∧ i ≤ l.length ∧ i ≤ 40) ∧ Aside0 (d.gd = gd) ∧ Aside0 (Inv d i 60) ∧ Aside0 (St W w' d))
  case atStart => exact ⟨0, _, rfl, ⟨by omega⟩, ⟨rfl⟩, ⟨Inv.new gd bd bs vch 60⟩, HS⟩
  case round =>
    clear HS hN
    obtain ⟨i, d, rfl, HI, HG, HIn, HSt⟩ := hrel
    obtain ⟨k1, rfl⟩ : ∃ k1, gk = k1 + 1 := ⟨gk - 1, by have := HI.out; omega⟩
    obtain ⟨hg⟩ := HG
    subst hg
    by_cases hi : i < l.length ∧ i < 40
    · have b1 : decide (i < l.length) = true := decide_eq_true hi.1
      have b2 : decide ((i : Int) < 40) = true := decide_eq_true (by omega)
      obtain ⟨ad, A4, c4, hA, e0, e1, e2, e3, e4, e5, h4, g4⟩ := at_T43 HR0.out (i : Int) (by omega) (by omega)
      subst hA
      rw [Int.toNat_natCast] at e0 e1 e2 e3 e4 e5
      generalize rd_T43 l (i : Int) = x at e0 e1 e2 e3 e4 e5 h4 g4
      have hcar : ∀ {p : Addr} {v : Value}, W.cell? p = some v → wr.cell? p = some v := fun h => (HSt.out.below.cell (World.block_lt_of_cell? _ _ h)).trans h
      replace e0 := hcar e0
      replace e1 := hcar e1
      replace e2 := hcar e2
      replace e3 := hcar e3
      replace e4 := hcar e4
      replace e5 := hcar e5
      clear hcar
      have HIL := Aside0.mk hi
      have hil := hi.1
      clear hi
      obtain ⟨y, hy⟩ : ∃ y, y = x.f4.take 60 := ⟨_, rfl⟩
      have HYL : Aside0 (y.length ≤ 60) := ⟨by rw [hy, List.length_take]; omega⟩
      have HY := Aside0.mk (came_cutN 60 g4 hy)
      have hcut := cut60 (A := A4) hy h4
      clear g4 hy h4
      have hwi : IntKind.i64.wrap ((i : Int) + 1) = ((i + 1 : Nat) : Int) := by have := HIL.out; rw [IntKind.wrap_i64]; omega
      have HI2 : Aside0 (l.length + 1 ≤ k1 + (i + 1) ∧ i + 1 ≤ l.length ∧ i + 1 ≤ 40) := ⟨by have := HI.out; have := HIL.out; omega⟩
      have HN4 : Aside0 (i ≤ 1000) := ⟨by have := HI.out; omega⟩
      have HSx := Aside0.mk (HSt.out.alloc (askO x A4 c4 y.length))
      have hnb := blk_new wr (askO x A4 c4 y.length)
      have HC0 : Hid ((wr.alloc (askO x A4 c4 y.length)).cell? ⟨wr.heap.size, 0, none⟩ = some (.int .i64 x.f0)) := blk_cell hnb 0
      have HC2 : Hid ((wr.alloc (askO x A4 c4 y.length)).cell? ⟨wr.heap.size, 2, none⟩ = some (.string x.f2)) := blk_cell hnb 2
      have HC3 : Hid ((wr.alloc (askO x A4 c4 y.length)).cell? ⟨wr.heap.size, 3, none⟩ = some (.string x.f3)) := blk_cell hnb 3
      have HC4 : Hid ((wr.alloc (askO x A4 c4 y.length)).cell? ⟨wr.heap.size, 4, none⟩ = some (.slice A4 y.length c4)) := blk_cell hnb 4
      clear hnb HSt
      unfold askO at *
      rcases hcut with ⟨b3, hcutv⟩ | ⟨b3, rfl⟩
      all_goals
        go_upto_region 10 with (fail)
        generalize (wr.alloc (.cells #[.int .i64 x.f0, .int .i64 x.f1, .string x.f2, .string x.f3, .slice A4 _ c4, .int .u8 x.f5] 43)) = wx at *
        generalize wr.heap.size = bx at *
        have hc0 := HC0.out
        have hc2 := HC2.out
        have hc3 := HC3.out
        have hc4 := HC4.out
        clear HC0 HC2 HC3 HC4 b3 e0 e1 e2 e3 e4 e5
        rcases kind5 x.f0 with q1 | ⟨q1, q2⟩ | ⟨q1, q2, q3⟩ | ⟨q1, q2, q3, q4⟩ | ⟨q1, q2, q3, q4, q5⟩ | ⟨q1, q2, q3, q4, q5⟩
        · have c1 : (x.f0 == 1) = true := beq_iff_eq.2 q1
          clear q1
          have hq := Lib.hid (appG HSx.out.at_ HIn.out HN4.out (by decide) (s := x.f2) (cp := c4) (HSx.out.came HY.out) HYL.out)
          go_wp2_with (go_at_call 13; refine hq.out.mono ?_; rintro e w3 ⟨rfl, d', -, hD, hG, hI⟩; have HIn' := Aside0.mk hI; have HG' := Aside0.mk hG.gd; have HSt' := Aside0.mk (HSx.out.goes hD hG); clear hI hD hG)
          go_roundg k1
          case measure => omega
          case rel => exact ⟨i + 1, d', by first | rfl | (rw [hwi]; done) | (simp [hwi]; done), HI2, HG', HIn', HSt'⟩
        · have c1 : (x.f0 == 1) = false := beq_eq_false_iff_ne.mpr q1
          have c2 : (x.f0 == 2) = true := beq_iff_eq.2 q2
          clear q1 q2
          have hq := Lib.hid (syncG HSx.out.at_ HIn.out x.f2)
          go_wp2_with (go_at_call 16; refine hq.out.mono ?_; rintro e w3 ⟨rfl, d', -, hD, hG, hI⟩; have HIn' := Aside0.mk hI; have HG' := Aside0.mk hG.gd; have HSt' := Aside0.mk (HSx.out.goes hD hG); clear hI hD hG)
          go_roundg k1
          case measure => omega
          case rel => exact ⟨i + 1, d', by first | rfl | (rw [hwi]; done) | (simp [hwi]; done), HI2, HG', HIn', HSt'⟩
        · have c1 : (x.f0 == 1) = false := beq_eq_false_iff_ne.mpr q1
          have c2 : (x.f0 == 2) = false := beq_eq_false_iff_ne.mpr q2
          have c3 : (x.f0 == 3) = true := beq_iff_eq.2 q3
          clear q1 q2 q3
          have hq := Lib.hid (renG HSx.out.at_ HIn.out HN4.out x.f2 x.f3)
          go_wp2_with (go_at_call 19; refine hq.out.mono ?_; rintro e w3 ⟨rfl, d', -, hD, hG, hI⟩; have HIn' := Aside0.mk hI; have HG' := Aside0.mk hG.gd; have HSt' := Aside0.mk (HSx.out.goes hD hG); clear hI hD hG)
          go_roundg k1
          case measure => omega
          case rel => exact ⟨i + 1, d', by first | rfl | (rw [hwi]; done) | (simp [hwi]; done), HI2, HG', HIn', HSt'⟩
        · have c1 : (x.f0 == 1) = false := beq_eq_false_iff_ne.mpr q1
          have c2 : (x.f0 == 2) = false := beq_eq_false_iff_ne.mpr q2
          have c3 : (x.f0 == 3) = false := beq_eq_false_iff_ne.mpr q3
          have c4_ : (x.f0 == 4) = true := beq_iff_eq.2 q4
          clear q1 q2 q3 q4
          have hq := Lib.hid (remG HSx.out.at_ HIn.out HN4.out x.f2)
          go_wp2_with (go_at_call 21; refine hq.out.mono ?_; rintro e w3 ⟨rfl, d', -, hD, hG, hI⟩; have HIn' := Aside0.mk hI; have HG' := Aside0.mk hG.gd; have HSt' := Aside0.mk (HSx.out.goes hD hG); clear hI hD hG)
          go_roundg k1
          case measure => omega
          case rel => exact ⟨i + 1, d', by first | rfl | (rw [hwi]; done) | (simp [hwi]; done), HI2, HG', HIn', HSt'⟩
        · have c1 : (x.f0 == 1) = false := beq_eq_false_iff_ne.mpr q1
          have c2 : (x.f0 == 2) = false := beq_eq_false_iff_ne.mpr q2
          have c3 : (x.f0 == 3) = false := beq_eq_false_iff_ne.mpr q3
          have c4_ : (x.f0 == 4) = false := beq_eq_false_iff_ne.mpr q4
          have c5 : (x.f0 == 5) = true := beq_iff_eq.2 q5
          clear q1 q2 q3 q4 q5
          have hq := Lib.hid (syncDirG HSx.out.at_ HIn.out)
          go_wp2_with (go_at_call 17; refine hq.out.mono ?_; rintro e w3 ⟨rfl, nb, hD, hG, hI⟩; have HIn' := Aside0.mk hI; have HG' := Aside0.mk hG.gd; have HSt' := Aside0.mk (HSx.out.goes hD hG); clear hI hD hG)
          go_roundg k1
          case measure => omega
          case rel => exact ⟨i + 1, syncD d nb, by first | rfl | (rw [hwi]; done) | (simp [hwi]; done), HI2, HG', HIn', HSt'⟩
        · have c1 : (x.f0 == 1) = false := beq_eq_false_iff_ne.mpr q1
          have c2 : (x.f0 == 2) = false := beq_eq_false_iff_ne.mpr q2
          have c3 : (x.f0 == 3) = false := beq_eq_false_iff_ne.mpr q3
          have c4_ : (x.f0 == 4) = false := beq_eq_false_iff_ne.mpr q4
          have c5 : (x.f0 == 5) = false := beq_eq_false_iff_ne.mpr q5
          clear q1 q2 q3 q4 q5
          have HIn' := Aside0.mk HIn.out.more
          go_wp2
          go_roundg k1
          case measure => omega
          case rel => exact ⟨i + 1, d, by first | rfl | (rw [hwi]; done) | (simp [hwi]; done), HI2, ⟨rfl⟩, HIn', HSx⟩
    · have hd : decide (i < l.length) = false ∨ (decide (i < l.length) = true ∧ decide ((i : Int) < 40) = false) := by
        by_cases h1 : i < l.length
        · exact .inr ⟨decide_eq_true h1, decide_eq_false (by omega)⟩
        · exact .inl (decide_eq_false h1)
      have HN4 : Aside0 (i ≤ 40) := ⟨HI.out.2.2⟩
      have hC1 := Lib.hid (crashG HSt.out.at_ HIn.out (by have := HN4.out; omega) (by decide) pick P HP.out HPB.out)
      clear hi HI HM0 HR0 HP HPB
      rcases hd with b1 | ⟨b1, b2⟩
      all_goals
        go_upto_region 22 with (go_at_call 18; refine hC1.out.mono ?_; rintro e w2 ⟨rfl, dirP, nb1, nb2, hrun, hgl, hD, hG, hI⟩; have HS1 := Aside0.mk (HSt.out.goes hD hG); have HI1 := Aside0.mk hI; have HSF := Aside0.mk (crash_safe HIn.out hgl (P / (d.chg.length + 1)) nb1 nb2); have hgd := hG.gd; clear hrun hgl hD hG hI)
        obtain ⟨d1, hd1⟩ : ∃ d1, d1 = crashD d dirP (P / (d.chg.length + 1)) nb1 nb2 := ⟨_, rfl⟩
        have hdir1 : d1.dir = dirP := by rw [hd1]; rfl
        have hchg1 : d1.chg = [] := by rw [hd1]; rfl
        have hsafe1 : d1.safe = d1.dir := by rw [hd1]; rfl
        rw [← hd1] at HS1 HI1 HSF hgd
        rw [← hdir1] at HSF
        have HCH := Aside0.mk hchg1
        have HSD := Aside0.mk hsafe1
        clear hd1 hdir1 hchg1 hsafe1 HSt HIn hC1
        have hL := Lib.hid (listG HS1.out.at_ HI1.out (by have := HN4.out; omega))
        obtain ⟨L, hLe⟩ : ∃ L, L = sortL (d1.dir.map (·.1)) := ⟨_, rfl⟩
        rw [← hLe, hgd] at hL
        have HL := Aside0.mk hLe
        have HLl : Aside0 (L.length ≤ 41) := ⟨by rw [hLe, sortL_length, List.length_map]; have := HI1.out.dir.len; have := HN4.out; omega⟩
        clear hLe
        go_wp2_with (go_at_call 20; refine hL.out.mono ?_; rintro e w3 ⟨v, rfl, hR, -, hD, hG⟩; obtain ⟨A9, c9, e9⟩ := Kd.R_slice hR.r; subst e9; have HRl := Aside0.mk hR; have HS2 := Aside0.mk (HS1.out.goes hD hG); clear hR hD hG)
        clear hL HS1
        go_loopg [12, 11] (L.length + 1) (fun kq v12 v11 w' => ∃ (j : Nat) (M : List ByteArray), v12 = .int .i64 (j : Int) ∧ Aside0 (j ≤ L.length ∧ L.length + 1 ≤ kq + j) ∧ Aside0 (M = (L.take j).map fun s => strOfNums (bytesOf d1 s)) ∧ Aside0 (Row Kd.string 9 w' d1 (.slice A9 L.length c9) L) ∧ Aside0 (Row Kd.string 9 w' d1 v11 M) ∧ Aside0 (∀ k, v11.ownBlock = some k → W.heap.size ≤ k) ∧ Aside0 (∀ k, (Value.slice A9 L.length c9).ownBlock = some k → v11.ownBlock ≠ some k) ∧ Aside0 (St W w' d1))
        case atStart => exact ⟨0, [], rfl, ⟨by omega⟩, ⟨by simp⟩, HRl, ⟨⟨Kd.R_nil _ _ _ _ _, fun k hk => (by cases hk)⟩⟩, ⟨fun k hk => (by cases hk)⟩, ⟨fun k _ hk => (by cases hk)⟩, HS2⟩
        case round =>
          clear HRl HS2
          obtain ⟨j, M, rfl, HJ, HM, HRl, HRa, HOwn, HNe, HSt⟩ := hrel
          obtain ⟨k2, rfl⟩ : ∃ k2, gk = k2 + 1 := ⟨gk - 1, by have := HJ.out; omega⟩
          by_cases hj : j < L.length
          · have b3 : decide (j < L.length) = true := decide_eq_true hj
            obtain ⟨hn9, _, hC9⟩ := Kd.R_reads' HRl.out.r
            obtain ⟨adl, hAl, hc1⟩ := Kd.at_string hC9 (j : Int) (by omega) (by omega)
            subst hAl
            rw [Int.toNat_natCast, rdOf_get hj] at hc1
            have hin : ∀ s ∈ L, s ∈ d1.dir.map (·.1) := by rw [HL.out]; exact fun s h => mem_sortL.1 h
            have hsd : L[j] ∈ d1.dir.map (·.1) := hin _ (List.getElem_mem hj)
            obtain ⟨g, hg, hfd⟩ := find_ok HI1.out hsd
            have hMs : M ++ [strOfNums (bytesOf d1 L[j])] = (L.take (j + 1)).map fun s => strOfNums (bytesOf d1 s) := by
              rw [List.take_add_one, List.getElem?_eq_getElem hj, HM.out, List.map_append]
              rfl
            have HMs := Aside0.mk hMs
            have HMl : Aside0 (M.length ≤ 41) := ⟨by rw [HM.out, List.length_map, List.length_take]; have := HLl.out; omega⟩
            have hwi : IntKind.i64.wrap ((j : Int) + 1) = ((j + 1 : Nat) : Int) := by have := HLl.out; rw [IntKind.wrap_i64]; omega
            have HJ2 : Aside0 (j + 1 ≤ L.length ∧ L.length + 1 ≤ k2 + (j + 1)) := ⟨by have := HJ.out; omega⟩
            have hq := Lib.hid (readG HSt.out.at_ HI1.out (by have := HN4.out; omega) (by decide) L[j])
            rw [hfd, hgd] at hq
            generalize L[j] = s at *
            generalize bytesOf d1 s = by_ at *
            have hJl := HJ.out
            clear hC9 hn9 hin hsd hg hfd hMs HM
            obtain ⟨A8, c8, e8⟩ := Kd.R_slice HRa.out.r
            subst e8
            go_upto_region 30 with (go_at_call 14; refine hq.out.mono ?_; rintro e w4 ⟨v13, rfl, hR, hD, hG⟩; obtain ⟨Ab, cb, eb⟩ := Kd.R_slice hR.r; subst eb; have HRb := Aside0.mk hR; have HSt4 := Aside0.mk (HSt.out.goes hD hG); have HRl4 := Aside0.mk (HRl.out.goes rfl hG); have HRa4 := Aside0.mk (HRa.out.goes rfl hG); clear hR hD hG)
            have cb1 : (convert 29 9 (.slice Ab by_.length cb)).run Try.prog w4 = .ok (.string (strOfNums by_)) w4 := Kd.C_string Try.underlying29 Try.underlying5 Try.underlying9 (Kd.R_reads' HRb.out.r).2.2
            go_wp2_with ((with_reducible refine gate_builtin (b := .append) (xs := #[.tmp 99, .tmp 102]) rfl ?_); at_builtin; refine Kd.R_append Kd.string (w0 := w4) 0 rfl (.tmp 99) (.tmp 102) 37 9 (.string ByteArray.empty) 16 rfl Try.underlying37 info9 rfl (by decide) (by omega) (.slice A8 M.length c8) M (strOfNums by_) [.string (strOfNums by_)] (fun _ => True) (fun _ => False) rfl rfl ?aP (fun _ hk => hk.elim) (fun _ _ => trivial) ?aO (Below.refl 0 w4) (Nat.zero_le _) ?aL ?_; (case aP => exact rfl); (case aO => exact HRa4.out.r); (case aL => have := HMl.out; omega); intro v9 w9 ho9 hb9 hg9 hat9; obtain ⟨hs9, hr9, hw9⟩ := HSt4.out.append HRa4.out HOwn.out ho9 hg9 hat9; have HS9 := Aside0.mk hs9; have HR9 := Aside0.mk hr9; have HW9 := Aside0.mk hw9; have HRl9 := Aside0.mk (HRl4.out.beside rfl hg9 HNe.out); have HNe9 := Aside0.mk (apart_grown HRl4.out HNe.out hat9); clear ho9 hb9 hg9 hat9 hs9 hr9 hw9)
            go_roundg k2
            case measure => omega
            case rel => exact ⟨j + 1, M ++ [strOfNums by_], by first | rfl | (rw [hwi]; done) | (simp [hwi]; done), HJ2, HMs, HRl9, HR9, HW9, HNe9, HS9⟩
          · have b3 : decide (j < L.length) = false := decide_eq_false hj
            obtain rfl : j = L.length := by have := HJ.out; omega
            have hM : M = L.map fun s => strOfNums (bytesOf d1 s) := by rw [HM.out, List.take_length]
            have HM2 := Aside0.mk hM
            clear hj hM HM HJ HOwn HNe
            obtain ⟨AM, cM, eM⟩ := Kd.R_slice HRa.out.r
            subst eM
            have hC2 := Lib.hid (crashG HSt.out.at_ HI1.out (by have := HN4.out; omega) (by decide) again P2 HP2.out HPB2.out)
            rw [hgd] at hC2
            go_upto_region 32 with (go_at_call 18; refine hC2.out.mono ?_; rintro e w5 ⟨rfl, dirQ, nb3, nb4, hrun, hgl, hD, hG, hI⟩; rw [HCH.out, List.take_nil] at hrun; obtain rfl : d1.dir = dirQ := (by rw [← HSD.out]; exact Option.some.inj hrun); have HRl5 := Aside0.mk (HRl.out.goes rfl hG); have HRa5 := Aside0.mk (HRa.out.goes rfl hG); have HS5 := Aside0.mk (HSt.out.goes hD hG); have HI5 := Aside0.mk hI; have HAg := Aside0.mk (again_bytes HSt.out.at_ hD HSF.out); have hgd2 := hG.gd; clear hrun hgl hD hG hI)
            obtain ⟨d2, hd2⟩ : ∃ d2, d2 = crashD d1 d1.dir (P2 / (d1.chg.length + 1)) nb3 nb4 := ⟨_, rfl⟩
            have hdir2 : d2.dir = d1.dir := by rw [hd2]; rfl
            rw [← hd2] at HRl5 HRa5 HS5 HI5 HAg hgd2
            have hL2 := Lib.hid (listG HS5.out.at_ HI5.out (by have := HN4.out; omega))
            rw [hdir2, ← HL.out, hgd2, hgd] at hL2
            have HGD2 : Aside0 (d2.gd = d.gd) := ⟨hgd2.trans hgd⟩
            clear hd2 hdir2 hgd2 hC2 HRl HRa HSt
            have hTx := fun (w : World) (A : Option Addr) (c : Nat) (h1 : Row Kd.string 9 w d2 (.slice A L.length c) L) (h2 : Row Kd.string 9 w d2 (.slice A9 L.length c9) L) => textsC (by have := HLl.out; omega) (Kd.R_reads' h1.r).2.2 (Kd.R_reads' h1.r).2.1 (Kd.R_reads' h2.r).2.2 (Kd.R_reads' h2.r).2.1
            have HTx := Lib.hid hTx
            clear hTx
            go_wp2_with (first
              | (go_at_call 20; refine hL2.out.mono ?_; rintro e w6 ⟨v, rfl, hR, -, hD, hG⟩; obtain ⟨AL, cL, eL⟩ := Kd.R_slice hR.r; subst eL; have HRL := Aside0.mk hR; have HS6 := Aside0.mk (HS5.out.goes hD hG); have HRl6 := Aside0.mk (HRl5.out.goes rfl hG); have HRa6 := Aside0.mk (HRa5.out.goes rfl hG); clear hR hD hG)
              | (go_at_call 22; refine (HTx.out _ _ _ HRL.out HRl6.out).mono ?_; rintro e w7 ⟨rfl, hb⟩; have HS7 := Aside0.mk (HS6.out.more hb); have HRl7 := Aside0.mk (HRl6.out.goes rfl (Goes.of_below d2 hb)); have HRa7 := Aside0.mk (HRa6.out.goes rfl (Goes.of_below d2 hb)); clear hb))
            clear hL2 HTx
            go_loopg [15] (L.length + 1) (fun kq v15 w' => ∃ (j : Nat), v15 = .int .i64 (j : Int) ∧ Aside0 (j ≤ L.length ∧ L.length + 1 ≤ kq + j) ∧ Aside0 (Row Kd.string 9 w' d2 (.slice A9 L.length c9) L) ∧ Aside0 (Row Kd.string 9 w' d2 (.slice AM M.length cM) M) ∧ Aside0 (St W w' d2))
            case atStart => exact ⟨0, rfl, ⟨by omega⟩, HRl7, HRa7, HS7⟩
            case round =>
              clear HRl7 HRa7 HS7
              obtain ⟨j, rfl, HJ, HRl, HRa, HSt⟩ := hrel
              obtain ⟨k2, rfl⟩ : ∃ k2, gk = k2 + 1 := ⟨gk - 1, by have := HJ.out; omega⟩
              by_cases hj : j < L.length
              · have b4 : decide (j < L.length) = true := decide_eq_true hj
                obtain ⟨hn9, _, hC9⟩ := Kd.R_reads' HRl.out.r
                obtain ⟨adl, hAl, hc1⟩ := Kd.at_string hC9 (j : Int) (by omega) (by omega)
                subst hAl
                rw [Int.toNat_natCast, rdOf_get hj] at hc1
                have hin : ∀ s ∈ L, s ∈ d1.dir.map (·.1) := by rw [HL.out]; exact fun s h => mem_sortL.1 h
                have hsd : L[j] ∈ d1.dir.map (·.1) := hin _ (List.getElem_mem hj)
                obtain ⟨g, hg, hfd⟩ := find_ok HI1.out hsd
                have hMl : M.length = L.length := by rw [HM2.out, List.length_map]
                have hMj : j < M.length := hMl ▸ hj
                have hMe : M[j] = strOfNums (bytesOf d1 L[j]) := by
                  have h := congrArg (fun l : List ByteArray => l[j]?) HM2.out
                  simpa [List.getElem?_map, List.getElem?_eq_getElem hMj, List.getElem?_eq_getElem hj] using h
                have hwi : IntKind.i64.wrap ((j : Int) + 1) = ((j + 1 : Nat) : Int) := by have := HLl.out; rw [IntKind.wrap_i64]; omega
                have HJ2 : Aside0 (j + 1 ≤ L.length ∧ L.length + 1 ≤ k2 + (j + 1)) := ⟨by have := HJ.out; omega⟩
                have hq := Lib.hid (readG HSt.out.at_ HI5.out (by have := HN4.out; omega) (by decide) L[j])
                rw [(HAg.out L[j]).1, (HAg.out L[j]).2, hfd, HGD2.out] at hq
                have HMJ := Aside0.mk hMj
                have HME : Aside0 (rdOf ByteArray.empty M (j : Int) = strOfNums (bytesOf d1 L[j])) := ⟨by rw [rdOf_get hMj]; exact hMe⟩
                generalize L[j] = s at *
                generalize bytesOf d1 s = by_ at *
                clear hC9 hn9 hin hsd hg hfd hMl hMj hMe
                go_upto_region 38 with (go_at_call 14; refine hq.out.mono ?_; rintro e w4 ⟨v16, rfl, hR, hD, hG⟩; obtain ⟨Ab, cb, eb⟩ := Kd.R_slice hR.r; subst eb; have HRb := Aside0.mk hR; have HSt5 := Aside0.mk (HSt.out.goes hD hG); have HRl5 := Aside0.mk (HRl.out.goes rfl hG); have HRa5 := Aside0.mk (HRa.out.goes rfl hG); clear hR hD hG)
                obtain ⟨hnM, _, hCM⟩ := Kd.R_reads' HRa5.out.r
                obtain ⟨ada, hAa, hca⟩ := Kd.at_string hCM (j : Int) (by omega) (by have := HMJ.out; omega)
                subst hAa
                rw [Int.toNat_natCast, HME.out] at hca
                have hCb := (Kd.R_reads' HRb.out.r).2.2
                have hjM := HMJ.out
                clear hCM hnM HRl HRa HSt hq hc1
                refine hstart (fun w' => w'.cell? (ada.add j) = some (.string (strOfNums by_)) ∧ Kd.C (Kd.int .u8) w' Ab by_.length by_) [] 7 (by kernel_rfl) rfl (by kernel_rfl) (⟨hca, Kd.C_below hCb (below_drew (Below.refl _ _))⟩) (fun w_ hw_ s_ => ?_)
                have HSt6 := Aside0.mk (show St W w_ d2 from hw_ ▸ HSt5.out.more (below_drew (Below.refl _ _)))
                have HRl6 := Aside0.mk (show Row Kd.string 9 w_ d2 (.slice (some adl) L.length c9) L from hw_ ▸ HRl5.out.goes rfl (Goes.of_below d2 (below_drew (Below.refl _ _))))
                have HRa6 := Aside0.mk (show Row Kd.string 9 w_ d2 (.slice (some ada) M.length cM) M from hw_ ▸ HRa5.out.goes rfl (Goes.of_below d2 (below_drew (Below.refl _ _))))
                clear hw_ HSt5 HRl5 HRa5 hca hCb
                refine hpure 0 (some 127) 1 [] (v := ?_) (a' := ?_) s_ rfl rfl (by kernel_rfl) (Or.inl ⟨by rfl, ?_⟩) ?_ ?_
                rotate_left
                · intro w' s0; go_simp; with_reducible rfl
                rotate_left
                · simp only [Act.put, List.setIfInBounds_toArray, List.set_cons_zero, List.set_cons_succ, i64_w, i32_w]; rfl
                refine hpure 1 (some 128) 2 [] (v := ?_) (a' := ?_) s_ rfl rfl (by kernel_rfl) (Or.inl ⟨by rfl, ?_⟩) ?_ ?_
                rotate_left
                · intro w' s0; have s1 : (convert 29 9 (.slice Ab by_.length cb)).run Try.prog w' = .ok (.string (strOfNums by_)) w' := Kd.C_string Try.underlying29 Try.underlying5 Try.underlying9 s0.2; go_simp; with_reducible rfl
                rotate_left
                · simp only [Act.put, List.setIfInBounds_toArray, List.set_cons_zero, List.set_cons_succ, i64_w, i32_w]; rfl
                refine hpure 2 (some 129) 3 [] (v := ?_) (a' := ?_) s_ rfl rfl (by kernel_rfl) (Or.inl ⟨by rfl, ?_⟩) ?_ ?_
                rotate_left
                · intro w' s0; go_simp; with_reducible rfl
                rotate_left
                · simp only [Act.put, List.setIfInBounds_toArray, List.set_cons_zero, List.set_cons_succ, i64_w, i32_w]; rfl
                refine hpure 3 (some 130) 4 [] (v := ?_) (a' := ?_) s_ rfl rfl (by kernel_rfl) (Or.inl ⟨by rfl, ?_⟩) ?_ ?_
                rotate_left
                · intro w' s0; go_simp; with_reducible rfl
                rotate_left
                · simp only [Act.put, List.setIfInBounds_toArray, List.set_cons_zero, List.set_cons_succ, i64_w, i32_w]; rfl
                refine hpure 4 (some 131) 5 [] (v := ?_) (a' := ?_) s_ rfl rfl (by kernel_rfl) (Or.inl ⟨by rfl, ?_⟩) ?_ ?_
                rotate_left
                · intro w' s0; go_simp; with_reducible rfl
                rotate_left
                · simp only [Act.put, List.setIfInBounds_toArray, List.set_cons_zero, List.set_cons_succ, i64_w, i32_w]; rfl
                refine hpure 5 (some 132) 6 [] (v := ?_) (a' := ?_) s_ rfl rfl (by kernel_rfl) (Or.inl ⟨by rfl, ?_⟩) ?_ ?_
                rotate_left
                · intro w' s0; have s1 := s0.1; go_simp; with_reducible rfl
                rotate_left
                · simp only [Act.put, List.setIfInBounds_toArray, List.set_cons_zero, List.set_cons_succ, i64_w, i32_w]; rfl
                refine hpure 6 (some 133) 7 [] (v := ?_) (a' := ?_) s_ rfl rfl (by kernel_rfl) (Or.inl ⟨by rfl, ?_⟩) ?_ ?_
                rotate_left
                · intro w' s0; go_simp; with_reducible rfl
                rotate_left
                · simp only [Act.put, List.setIfInBounds_toArray, List.set_cons_zero, List.set_cons_succ, i64_w, i32_w]; rfl
                refine hdone (by kernel_rfl) ?_
                go_wp2
                go_roundg k2
                case measure => omega
                case rel => exact ⟨j + 1, by first | rfl | (rw [hwi]; done) | (simp [hwi]; done), HJ2, HRl6, HRa6, HSt6⟩
              · have b4 : decide (j < L.length) = false := decide_eq_false hj
                have hk := knownC wr
                clear hj
                go_wp2_with (go_at_call 15; refine hk.mono ?_; rintro e w8 ⟨rfl, hb⟩; have HB := Aside0.mk hb; clear hb)
                go_ret
                exact ⟨rfl, (HSt.out.more HB.out).below⟩
end Go.Proofs.Ytoninmgglcepmaa.Dk
