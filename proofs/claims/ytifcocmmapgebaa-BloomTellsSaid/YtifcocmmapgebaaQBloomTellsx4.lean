-- Written by a program of this session (wip/myprint.py): the machine's side of a law
import Derived.Test.YtifcocmmapgebaaQBloomTellsx0
import Derived.Test.YtifcocmmapgebaaQBloomTellsx2
import Derived.Test.YtifcocmmapgebaaQBloomTellsx3
namespace Go.Proofs.Ytifcocmmapgebaa.QBloomTells
open Go.RowKit Go.Proofs.YtifcocmmapgebaaW.PrintWords Go.Proofs.YtifcocmmapgebaaW.PrintLast Go.Proofs.YtifcocmmapgebaaW.PrintMore
attribute [local go_sem] max2_int min2_int max_two min_two max_three min_three max_four min_four   -- for this text's walks alone
set_option linter.unusedVariables false
set_option linter.unusedSimpArgs false

/-! ### columbariumref9_Build: function 15 -/
/-! columbariumref9.Build, whose array is read at a place that is no constant: by hand -/
def columbariumref9_set (l : List Int) (x : Int) : Option (List Int) := if 0 ≤ wrap64 (Int.tdiv x 8) then (if wrap64 (Int.tdiv x 8) < (l.length : Int) then some (l.set (wrap64 (Int.tdiv x 8)).toNat (Go.bits .or .u8 (rd l (wrap64 (Int.tdiv x 8))) (shl .u8 1 (IntKind.u64.wrap (Int.tmod x 8))))) else none) else none
def columbariumref9_fill : List Int → List Int → Option (List Int)
 | l, [] => some l
 | l, x :: r => (columbariumref9_set l x).bind fun l' => columbariumref9_fill l' r
def columbariumref9_texts (k : Nat) (n : Int) : List Int → List ByteArray → Option (List Int)
 | l, [] => some l
 | l, s :: d => (columbariumref9_bits.f k s n).bind fun r => (columbariumref9_fill l r).bind fun l' => columbariumref9_texts k n l' d
def columbariumref9_grow : Nat → Int → Int → Option Int
 | 0, _, _ => none
 | k + 1, m, n => if n < m then (if n < 65536 then columbariumref9_grow k m (wrap64 (2 * n)) else some n) else some n
theorem columbariumref9_grow.mono : ∀ k m n, LeO (columbariumref9_grow k m n) (columbariumref9_grow (k + 1) m n)
 | 0, _, _ => fun r h => by simp [columbariumref9_grow] at h
 | k + 1, m, n => by
  rw [columbariumref9_grow, columbariumref9_grow.eq_def (k + 1 + 1)]
  exact LeO.ite (LeO.ite (columbariumref9_grow.mono k _ _) (LeO.refl _)) (LeO.refl _)
theorem columbariumref9_texts.mono (k : Nat) (n : Int) : ∀ (d : List ByteArray) (l : List Int), LeO (columbariumref9_texts k n l d) (columbariumref9_texts (k + 1) n l d)
 | [], l => LeO.refl _
 | s :: d, l => by
  rw [columbariumref9_texts, columbariumref9_texts]
  exact LeO.bind (columbariumref9_bits.mono _ _ _) (fun _ => LeO.bind (LeO.refl _) (fun _ => columbariumref9_texts.mono k n d _))
def columbariumref9_Build.f (k : Nat) (l0 : List ByteArray) : Option (Int × List Int) := (columbariumref7_Build.f k l0).bind fun bt => (columbariumref9_grow k (wrap64 (8 * (bt.1.length : Int))) 64).bind fun n => if 0 ≤ wrap64 (Int.tdiv n 8) then (if (wrap64 (Int.tdiv n 8)).toNat ≤ 281474976710656 then ((columbariumref9_texts k n (List.replicate (wrap64 (Int.tdiv n 8)).toNat 0) bt.1).bind fun B => some (n, B)) else none) else none
theorem columbariumref9_Build.mono : ∀ a0 k, LeO (columbariumref9_Build.f k a0) (columbariumref9_Build.f (k + 1) a0) := by
 intro a0 k
 unfold columbariumref9_Build.f
 exact LeO.bind (columbariumref7_Build.mono _ _) (fun _ => LeO.bind (columbariumref9_grow.mono _ _ _) (fun _ => LeO.ite (LeO.ite (LeO.bind (columbariumref9_texts.mono _ _ _ _) (fun _ => LeO.refl _)) (LeO.refl _)) (LeO.refl _)))
theorem columbariumref9_texts_drop (k : Nat) (n : Int) (l : List Int) (d : List ByteArray) (i : Nat) (h : i < d.length) : columbariumref9_texts k n l (d.drop i) = (columbariumref9_bits.f k (rdOf ByteArray.empty d (i : Int)) n).bind fun r => (columbariumref9_fill l r).bind fun l' => columbariumref9_texts k n l' (d.drop (i + 1)) := by
 have e : rdOf ByteArray.empty d (i : Int) = d[i] := by simp [rdOf, List.getD_eq_getElem?_getD, List.getElem?_eq_getElem h]
 rw [List.drop_eq_getElem_cons h, columbariumref9_texts, e]
theorem columbariumref9_fill_drop (l K : List Int) (i : Nat) (h : i < K.length) : columbariumref9_fill l (K.drop i) = (columbariumref9_set l (rd K (i : Int))).bind fun l' => columbariumref9_fill l' (K.drop (i + 1)) := by
 have e : rd K (i : Int) = K[i] := by simp [rd, List.getD_eq_getElem?_getD, List.getElem?_eq_getElem h]
 rw [List.drop_eq_getElem_cons h, columbariumref9_fill, e]
set_option maxHeartbeats 8000000 in
set_option maxRecDepth 100000 in
theorem columbariumref9_Build.calls (k : Nat) (A0 : Option Addr) (c0 : Nat) (l0 : List ByteArray) (r1 : Int) (r2 : List Int) (w : World) (hr0 : Kd.C Kd.string w A0 l0.length l0) (hc0 : l0.length ≤ c0) (h : columbariumref9_Build.f k l0 = some (r1, r2)) :
  Calls Try.prog 15 #[.slice A0 l0.length c0] w fun e w' => ∃ v1_ : Value, e = .returned (.agg #[.int .i64 r1, v1_]) ∧ Kd.R (Kd.int .u8) 5 w' w.heap.size (fun _ => True) v1_ r2 ∧ Below w.heap.size w w' := by
 have hu36 := Try.underlying36
 have hu64 := Try.underlying64
 have HR0 := Aside0.mk (Kd.C_alloc hr0 (.cells #[.int .i64 0, .slice none 0 0] 36))
 have HC0 := Aside0.mk hc0
 have HB1 := Aside0.mk (below_alloc (Below.refl w.heap.size w) (.cells #[.int .i64 0, .slice none 0 0] 36))
 have B1 := Aside0.mk (blk_new w (.cells #[.int .i64 0, .slice none 0 0] 36))
 clear hr0 hc0
 unfold columbariumref9_Build.f at h
 obtain ⟨⟨d, at_⟩, A1, h⟩ := Option.bind_eq_some_iff.mp h
 obtain ⟨N, A2, h⟩ := Option.bind_eq_some_iff.mp h
 replace A1 := Aside0.mk A1
 obtain ⟨m, hm⟩ : ∃ m : Int, wrap64 (8 * (d.length : Int)) = m := ⟨_, rfl⟩
 have A2 : columbariumref9_grow k m 64 = some N := hm ▸ A2
 replace A2 := Aside0.mk A2
 have H' := Aside0.mk h
 clear h
 go_enter Try.func15, Try.ntmps15
 go_wp2_with (go_at_call 30; refine (columbariumref7_Build.calls k _ _ l0 d at_ _ HR0.out HC0.out A1.out).mono ?_; rintro e w2 ⟨v2, v3, rfl, ho2, _, hb2⟩; have HB2 := Aside0.mk (below_step HB1.out hb2); have B2 := Aside0.mk (blk_below B1.out hb2); obtain ⟨Ad, cd, ed⟩ := Kd.V_slice ho2; subst ed; have HD := Aside0.mk (Kd.V_reads' ho2).2.2; have HDC := Aside0.mk (Kd.V_reads' ho2).2.1; clear hb2 ho2)
 clear HR0 HB1 B1
 go_loopg [5] k (fun kq v5 w' => ∃ n : Int, v5 = .int .i64 n ∧ Aside0 (columbariumref9_grow kq m n = some N) ∧ w2 = w')
 case atStart => exact ⟨64, rfl, A2, rfl⟩
 case round =>
  clear A2
  obtain ⟨n, rfl, A2, rfl⟩ := hrel
  cases gk with
  | zero => exact absurd A2.out (by simp [columbariumref9_grow])
  | succ k1 =>
   have H := A2.out
   rw [columbariumref9_grow] at H
   clear A2
   by_cases c0 : n < m ∧ n < 65536
   ·have c1b : decide (n < m) = true := decide_eq_true c0.1
    have c2b : decide (n < 65536) = true := decide_eq_true c0.2
    rw [if_pos c0.1, if_pos c0.2] at H
    have HN := Aside0.mk H
    clear c0 H
    go_wp2
    go_roundg k1
    case measure => omega
    case rel => exact ⟨_, rfl, HN, rfl⟩
   ·obtain ⟨e, hx⟩ : n = N ∧ (decide (n < m) = false ∨ (decide (n < m) = true ∧ decide (n < 65536) = false)) := by
     by_cases c1 : n < m
     ·have c2 : ¬ n < 65536 := fun c2 => c0 ⟨c1, c2⟩
      rw [if_pos c1, if_neg c2] at H
      exact ⟨Option.some.inj H, .inr ⟨decide_eq_true c1, decide_eq_false c2⟩⟩
     ·rw [if_neg c1] at H
      exact ⟨Option.some.inj H, .inl (decide_eq_false c1)⟩
    subst e
    clear H c0
    have H := H'.out
    clear H'
    obtain ⟨q, hq⟩ : ∃ q : Int, wrap64 (Int.tdiv n 8) = q := ⟨_, rfl⟩
    have hqw : IntKind.i64.wrap (Int.tdiv n 8) = q := (i64_w _).trans hq
    simp only [hq] at H
    by_cases c3 : 0 ≤ q
    ·rw [if_pos c3] at H
     by_cases c4 : q.toNat ≤ 281474976710656
     ·rw [if_pos c4] at H
      obtain ⟨B, A3, H⟩ := Option.bind_eq_some_iff.mp H
      obtain ⟨rfl, rfl⟩ := Prod.mk.inj (Option.some.inj H)
      have C4 := Aside0.mk c4
      have C3 := Aside0.mk c3
      obtain ⟨y, hy⟩ : ∃ y : List Int, y = List.replicate q.toNat 0 := ⟨_, rfl⟩
      rw [← hy] at A3
      replace A3 := Aside0.mk A3
      have Ny := Aside0.mk hy
      clear H c4 hy
      rcases hx with c1b | ⟨c1b, c2b⟩
      all_goals
       go_wp2_with ((with_reducible refine gate_dst (N := 29) rfl ?_); refine Kd.R_make (Kd.int .u8) _ 5 rfl (N := 29) rfl 24 _ _ rfl q rfl rfl Try.underlying24 (.int .u8 0) 1 info5 rfl (by decide) (by omega) 0 (ok := fun _ => True) (okp := fun _ => True) rfl (fun _ hk => hk) trivial C3.out (Nat.le_trans (Nat.mul_le_mul_right _ C4.out) (by omega)) (Below.refl _ _) (Nat.le_refl _) ?_; intro v10 w4 ho4 hb4 hg4 hn4; clear hg4 hn4; rw [← Ny.out] at ho4; obtain ⟨Ao, co, eo⟩ := Kd.R_slice ho4; subst eo; have HO := Aside0.mk ho4; have HX := Aside0.mk hb4; clear ho4 hb4)
       have b6 := blk_new w4 (.cells #[.int .i64 n, .slice Ao y.length co] 36)
       have HO5 := Aside0.mk (Kd.R_alloc HO.out (.cells #[.int .i64 n, .slice Ao y.length co] 36))
       have HX5 := Aside0.mk (below_alloc HX.out (.cells #[.int .i64 n, .slice Ao y.length co] 36))
       obtain ⟨g6, hg6⟩ : ∃ g, g = w4.heap.size := ⟨_, rfl⟩
       obtain ⟨L, hL⟩ : ∃ L, L = y.length := ⟨_, rfl⟩
       have hge6 : w2.heap.size ≤ g6 := by rw [hg6]; exact HX.out.size
       rw [← hg6] at b6
       rw [← hg6]
       generalize w4.alloc (.cells #[.int .i64 n, .slice Ao y.length co] 36) = w5 at b6 HO5 HX5 ⊢
       rw [← hL] at b6 HO5
       rw [← hL]
       clear HO HX hg6 hL Ny
       have B6 := Aside0.mk b6
       have GE6 := Aside0.mk hge6
       clear b6 hge6
       go_loopg [7] d.length (fun kq v7 w' => ∃ (i : Nat) (x : List Int), v7 = .int .i64 (i : Int) ∧ Aside0 (i ≤ d.length ∧ d.length - i ≤ kq) ∧ Aside0 (columbariumref9_texts k n x (d.drop i) = some B) ∧ Aside0 (Kd.R (Kd.int .u8) 5 w' w2.heap.size (fun _ => True) (.slice Ao L co) x) ∧ Aside0 (w'.heap[g6]? = some (.cells #[.int .i64 n, .slice Ao L co] 36 (0, 0))) ∧ Aside0 (Below w2.heap.size w2 w'))
       case atStart => exact ⟨0, y, rfl, ⟨by omega, by omega⟩, ⟨by rw [List.drop_zero]; exact A3.out⟩, HO5, B6, HX5⟩
       case round =>
        clear A3 HO5 B6 HX5
        obtain ⟨i, x, rfl, HI, A3, HO5, B6, HX5⟩ := hrel
        have hdl := HD.out.2.1
        by_cases h : i < d.length
        ·have hlt : decide ((i : Int) < (d.length : Int)) = true := decide_eq_true (by omega)
         have p1 : 0 ≤ (i : Int) := by omega
         have q1 : (i : Int) < (d.length : Int) := by omega
         obtain ⟨ad, e1, hx⟩ := Kd.at_string (Kd.C_below HD.out HX5.out) (i : Int) p1 q1
         cases e1
         rw [Int.toNat_natCast] at hx
         have H := A3.out
         rw [columbariumref9_texts_drop k n x d i h] at H
         clear A3
         obtain ⟨K, AK, H⟩ := Option.bind_eq_some_iff.mp H
         obtain ⟨x2, AF, H⟩ := Option.bind_eq_some_iff.mp H
         have HL := Aside0.mk (columbariumref9_bits_length AK)
         replace AK := Aside0.mk AK
         replace AF := Aside0.mk AF
         have A3 := Aside0.mk H
         clear H
         generalize rdOf ByteArray.empty d (i : Int) = s at hx AK
         go_wp2_with (go_at_call 31; refine (columbariumref9_bits.calls k s n K _ AK.out).mono ?_; rintro e w6 ⟨rfl, hb6⟩; have HO6 := Aside0.mk (Kd.R_below HO5.out hb6); have B7 := Aside0.mk (blk_below B6.out hb6); have HX6 := Aside0.mk (below_step HX5.out hb6); clear hb6)
         have b8 := blk_new w6 (.cells #[.int .i64 (rd K 0), .int .i64 (rd K 1), .int .i64 (rd K 2), .int .i64 (rd K 3)] 64)
         have HO7 := Aside0.mk (Kd.R_alloc HO6.out (.cells #[.int .i64 (rd K 0), .int .i64 (rd K 1), .int .i64 (rd K 2), .int .i64 (rd K 3)] 64))
         have B9 := Aside0.mk (blk_alloc B7.out (.cells #[.int .i64 (rd K 0), .int .i64 (rd K 1), .int .i64 (rd K 2), .int .i64 (rd K 3)] 64))
         have HX7 := Aside0.mk (below_alloc HX6.out (.cells #[.int .i64 (rd K 0), .int .i64 (rd K 1), .int .i64 (rd K 2), .int .i64 (rd K 3)] 64))
         obtain ⟨g8, hg8⟩ : ∃ g, g = w6.heap.size := ⟨_, rfl⟩
         rw [← hg8] at b8
         rw [← hg8]
         generalize w6.alloc (.cells #[.int .i64 (rd K 0), .int .i64 (rd K 1), .int .i64 (rd K 2), .int .i64 (rd K 3)] 64) = w7 at b8 HO7 B9 HX7 ⊢
         have HDL := Aside0.mk hdl
         clear HO5 B6 HX5 HO6 B7 HX6 hg8 hx hdl
         have B8 := Aside0.mk b8
         clear b8
         go_loopg [9] 4 (fun kq v9 w' => ∃ (j : Nat) (z : List Int), v9 = .int .i64 (j : Int) ∧ Aside0 (j ≤ 4 ∧ 4 - j ≤ kq) ∧ Aside0 (columbariumref9_fill z (K.drop j) = some x2) ∧ Aside0 (Kd.R (Kd.int .u8) 5 w' w2.heap.size (fun _ => True) (.slice Ao L co) z) ∧ Aside0 (w'.heap[g6]? = some (.cells #[.int .i64 n, .slice Ao L co] 36 (0, 0))) ∧ Aside0 (w'.heap[g8]? = some (.cells #[.int .i64 (rd K 0), .int .i64 (rd K 1), .int .i64 (rd K 2), .int .i64 (rd K 3)] 64 (0, 0))) ∧ Aside0 (Below w2.heap.size w2 w'))
         case atStart => exact ⟨0, x, rfl, ⟨by omega, by omega⟩, ⟨by rw [List.drop_zero]; exact AF.out⟩, HO7, B9, B8, HX7⟩
         case round =>
          clear AF HO7 B9 B8 HX7
          obtain ⟨j, z, rfl, HJ, AF, HO7, B9, B8, HX7⟩ := hrel
          by_cases hj : j < 4
          ·have hlt2 : decide ((j : Int) < 4) = true := decide_eq_true (by omega)
           have hp1 : (0 ≤ (j : Int)) = True := eq_true (by omega)
           have hq1 : ((j : Int) < 4) = True := eq_true (by omega)
           have hcz : wr.drew.cell? ⟨g8, j, none⟩ = some (.int .i64 (rd K (j : Int))) := by
            have hi : j = 0 ∨ j = 1 ∨ j = 2 ∨ j = 3 := by omega
            rcases hi with rfl | rfl | rfl | rfl
            ·exact (blk_cell B8.out 0).trans rfl
            ·exact (blk_cell B8.out 1).trans rfl
            ·exact (blk_cell B8.out 2).trans rfl
            ·exact (blk_cell B8.out 3).trans rfl
           have hc6 : wr.drew.cell? ⟨g6, 1, none⟩ = some (.slice Ao L co) := (blk_cell B9.out 1).trans rfl
           have H := AF.out
           rw [columbariumref9_fill_drop z K j (by have := HL.out; omega)] at H
           clear AF
           obtain ⟨z2, hz, H⟩ := Option.bind_eq_some_iff.mp H
           have AF := Aside0.mk H
           clear H
           generalize rd K (j : Int) = a at hcz hz
           unfold columbariumref9_set at hz
           obtain ⟨ji7, hji7⟩ : ∃ j_ : Int, wrap64 (Int.tdiv a 8) = j_ := ⟨_, rfl⟩
           have hji7w : IntKind.i64.wrap (Int.tdiv a 8) = ji7 := (i64_w _).trans hji7
           rw [hji7] at hz
           by_cases c1 : 0 ≤ ji7
           ·rw [if_pos c1] at hz
            by_cases c2 : ji7 < (z.length : Int)
            ·rw [if_pos c2] at hz
             have hl := (Kd.R_reads' HO7.out).1
             obtain ⟨go5, co5, eo5, gb5, gl5, cl5, HG5⟩ := Kd.R_form HO7.out (by omega)
             injection eo5 with ea_ en_ ec_
             subst ea_
             subst ec_
             clear en_
             have c2L : ji7 < (L : Int) := by omega
             obtain ⟨hx5, hf5⟩ := Kd.R_celln 0 HO7.out ji7 c1 c2L
             have n6 := blk_ne B9.out HG5 (by decide)
             have n8 := blk_ne B8.out HG5 (by decide)
             obtain ⟨ji8, hji8⟩ : ∃ j_ : Int, IntKind.u64.wrap (Int.tmod a 8) = j_ := ⟨_, rfl⟩
             rw [hji8] at hz
             have c3 : 0 ≤ ji8 := by
              rw [← hji8]
              simp only [IntKind.wrap, IntKind.bits, IntKind.signed]
              exact Int.emod_nonneg _ (by decide)
             have c3b : decide (0 ≤ ji8) = true := decide_eq_true c3
             replace c3 := eq_true c3
             obtain ⟨ji10, hji10⟩ : ∃ j_ : Int, shl .u8 1 ji8 = j_ := ⟨_, rfl⟩
             rw [hji10] at hz
             have hji10_ : (IntKind.u8.wrap (1 * 2 ^ min (ji8).toNat 8)) = ji10 := hji10
             have hji10z : (ji8) ≤ 8 → (IntKind.u8.wrap (1 * 2 ^ (ji8).toNat)) = ji10 := shl_small hji10
             have hji10u : (IntKind.u8.wrap (2 ^ min (ji8).toNat 8)) = ji10 := by have h_ := hji10_; rw [Int.one_mul] at h_; exact h_
             have hji10v : (ji8) ≤ 8 → (IntKind.u8.wrap (2 ^ (ji8).toNat)) = ji10 := fun hle_ => by have h_ := hji10z hle_; rw [Int.one_mul] at h_; exact h_
             have hji108 : (1 * 2 ^ min (ji8).toNat 8) % 256 = ji10 := (IntKind.wrap_u8 _).symm.trans hji10_
             have hji109 : (ji8) ≤ 8 → (1 * 2 ^ (ji8).toNat) % 256 = ji10 := fun h_ => (IntKind.wrap_u8 _).symm.trans (hji10z h_)
             have hji106 : (2 ^ min (ji8).toNat 8) % 256 = ji10 := by have h_ := hji108; rw [Int.one_mul] at h_; exact h_
             have hji107 : (ji8) ≤ 8 → (2 ^ (ji8).toNat) % 256 = ji10 := fun hle_ => by have h_ := hji109 hle_; rw [Int.one_mul] at h_; exact h_
             have HZ := Aside0.mk (Option.some.inj hz)
             have c1b : decide (0 ≤ ji7) = true := decide_eq_true c1
             have c2b : decide (ji7 < (L : Int)) = true := decide_eq_true c2L
             have hx6 : wr.drew.cell? ⟨go5, ji7.toNat, none⟩ = some (.int .u8 (rd z ji7)) := hx5
             have hf6 : wr.drew.frozen? ⟨go5, ji7.toNat, none⟩ = false := hf5
             have N6 := Aside0.mk n6
             have N8 := Aside0.mk n8
             have GB5 := Aside0.mk gb5
             have HL1 := Aside0.mk hl
             replace c1 := eq_true c1
             replace c2 := eq_true c2L
             clear hji10 hz hx5 hf5 n6 n8 gb5 gl5 HG5 c2L hl
             go_wp2
             refine wp_region_still_tail 22 (by kernel_rfl) (by kernel_rfl) ?_
             simp only [List.take_succ_cons, List.take_zero, List.drop_succ_cons, List.drop_zero]
             repeat still_step
             refine wpStill_nil ?_
             change wpList _ _ _ _ _ wr.drew
             have HO8 := Aside0.mk (Kd.R_drew HO7.out)
             have HX8 := Aside0.mk (below_drew1 HX7.out)
             have B10 := Aside0.mk (blk_drew B9.out)
             have B11 := Aside0.mk (blk_drew B8.out)
             clear HO7 HX7 B9 B8
             generalize wr.drew = w9 at hcz hc6 hx6 hf6 HO8 HX8 B10 B11 ⊢
             have HQ := Aside0.mk (Kd.R_putn HO8.out ji7 (Go.bits .or .u8 (rd z ji7) ji10))
             have HBs := Aside0.mk (below_set (j := ji7.toNat) (v := .int .u8 (Go.bits .or .u8 (rd z ji7) ji10)) HX8.out GB5.out)
             have B12 := Aside0.mk (blk_far (p := ⟨go5, ji7.toNat, none⟩) B10.out N6.out (.int .u8 (Go.bits .or .u8 (rd z ji7) ji10)))
             have B13 := Aside0.mk (blk_far (p := ⟨go5, ji7.toNat, none⟩) B11.out N8.out (.int .u8 (Go.bits .or .u8 (rd z ji7) ji10)))
             rw [HZ.out] at HQ
             go_wp2
             go_roundg (4 - (j + 1))
             case measure => have := HJ.out; omega
             case rel => exact ⟨j + 1, z2, by first | rfl | (simp; done) | (congr 1; unfold wrap64; omega), ⟨by omega, by omega⟩, AF, HQ, B12, B13, HBs⟩
            ·rw [if_neg c2] at hz
             cases hz
           ·rw [if_neg c1] at hz
            cases hz
          ·have hj4 : j = 4 := by have := HJ.out; omega
           subst hj4
           have hlt2 : decide ((((4 : Nat) : Int)) < 4) = false := by decide
           have H := AF.out
           rw [List.drop_eq_nil_of_le (by have := HL.out; omega)] at H
           have e2 : z = x2 := Option.some.inj H
           subst e2
           clear H AF
           have hw : Aside0 (wrap64 ((i : Int) + 1) = ((i + 1 : Nat) : Int)) := ⟨by have := HDL.out; unfold wrap64; omega⟩
           go_wp2
           go_roundg (d.length - (i + 1))
           case measure => have := HI.out; omega
           case rel => exact ⟨i + 1, z, by first | rfl | rw [hw.out] | (simp; done), ⟨by omega, by omega⟩, A3, HO7, B9, HX7⟩
        ·have hlt : decide ((i : Int) < (d.length : Int)) = false := decide_eq_false (by omega)
         have H := A3.out
         rw [List.drop_eq_nil_of_le (by omega)] at H
         have e2 : x = B := Option.some.inj H
         subst e2
         clear H A3
         have b2 := blk_below B2.out HX5.out
         have hc0 : wr.cell? ⟨g6, 0, none⟩ = some (.int .i64 n) := (blk_cell B6.out 0).trans rfl
         have hc1 : wr.cell? ⟨g6, 1, none⟩ = some (.slice Ao L co) := (blk_cell B6.out 1).trans rfl
         have hd0 : wr.cell? ⟨w.heap.size, 0, none⟩ = some (.int .i64 0) := (blk_cell b2 0).trans rfl
         have hd1 : wr.cell? ⟨w.heap.size, 1, none⟩ = some (.slice none 0 0) := (blk_cell b2 1).trans rfl
         have hf0 := blk_frozen b2 0
         have hf1 := blk_frozen b2 1
         have HBf := Aside0.mk (below_step HB2.out HX5.out)
         go_wp2
         refine bodyPost_ret (results_cell_row rfl _ _ w.heap.size 36 #[.int .i64 n, .slice Ao L co] (0, 0) _ rfl (blk_set (blk_set b2 0 _) 1 _) Try.underlying36 rfl (by kernel_rfl)) rfl ?_
         exact ⟨_, rfl, Kd.R_set (Kd.R_set (Kd.R_lower HO5.out (below_size HB2.out)) b2 (by decide) 0 _) (blk_set b2 0 _) (by decide) 1 _, below_set (below_set HBf.out (Nat.le_refl _)) (Nat.le_refl _)⟩
     ·rw [if_neg c4] at H
      cases H
    ·rw [if_neg c3] at H
     cases H

/-! ### varint_Put: function 32 -/
def varint_Put.l0 : Nat → Int → List Int → Option (List Int)
 | 0, _, _ => none
 | k + 1, x1, x5 => if x1 > 127 then (if x5.length < 140737488355328 then (varint_Put.l0 k (x1 / 128) (x5 ++ [Go.bits .or .u8 ((x1) % 256) 128])) else (none)) else (if x5.length < 140737488355328 then (some (x5 ++ [(x1) % 256])) else (none))
def varint_Put.f (k : Nat) (l0 : List Int) (a1 : Int) : Option (List Int) := (some (([] : List Int) : List Int)).bind fun y211 => (if y211.length + l0.length < 140737488355328 then (varint_Put.l0 k a1 (y211 ++ l0)) else (none))
theorem varint_Put.mono_l : ∀ k, (∀ y0 y1, LeO (varint_Put.l0 k y0 y1) (varint_Put.l0 (k + 1) y0 y1))
 | 0 => fun _ _ r h => by simp [varint_Put.l0] at h
 | k + 1 => by
  have ih0 := varint_Put.mono_l k
  ·intro y0 y1
   unfold varint_Put.l0
   repeat' first
   | (with_reducible exact ih0 _ _)
   | (with_reducible exact LeO.refl _)
   | (with_reducible exact LeO.none _)
   | (with_reducible refine LeO.ite ?_ ?_)
   | (with_reducible refine LeO.bind ?_ (fun _ => ?_))
   | exact ih0 _ _
   | exact LeO.none _
   | refine LeO.ite ?_ ?_
   | refine LeO.bind ?_ (fun _ => ?_)
theorem varint_Put.mono : ∀ a0 a1 k, LeO (varint_Put.f k a0 a1) (varint_Put.f (k + 1) a0 a1) := by
 intro a0 a1 k
 have ih0 := varint_Put.mono_l k
 unfold varint_Put.f
 repeat' first
   | (with_reducible exact ih0 _ _)
   | (with_reducible exact LeO.refl _)
   | (with_reducible exact LeO.none _)
   | (with_reducible refine LeO.ite ?_ ?_)
   | (with_reducible refine LeO.bind ?_ (fun _ => ?_))
   | exact ih0 _ _
   | exact LeO.none _
   | refine LeO.ite ?_ ?_
   | refine LeO.bind ?_ (fun _ => ?_)
set_option maxHeartbeats 8000000 in
set_option maxRecDepth 100000 in
theorem varint_Put.calls (k : Nat) (A0 : Option Addr) (c0 : Nat) (l0 : List Int) (a1 : Int) (r : List Int) (w : World) (hr0 : Kd.C (Kd.int .u8) w A0 l0.length l0) (hc0 : l0.length ≤ c0) (h : varint_Put.f k l0 a1 = some r) :
  Calls Try.prog 32 #[.slice A0 l0.length c0, .int .u64 a1] w fun e w' => ∃ v0_ : Value, e = .returned (v0_) ∧ Kd.R (Kd.int .u8) 5 w' w.heap.size (fun _ => True) v0_ r ∧ Below w.heap.size w w' := by
 have HR0 := Aside0.mk hr0
 have HC0 := Aside0.mk hc0
 clear hr0 hc0
 have HB := Aside0.mk (Below.refl w.heap.size w)
 have H : ((some (([] : List Int) : List Int)).bind fun y211 => (if y211.length + l0.length < 140737488355328 then (varint_Put.l0 k a1 (y211 ++ l0)) else (none))) = some r := h
 clear h
 obtain ⟨y211, hy211⟩ : ∃ y_ : List Int, y_ = (([] : List Int)) := ⟨_, rfl⟩
 replace H : (if y211.length + l0.length < 140737488355328 then (varint_Put.l0 k a1 (y211 ++ l0)) else (none)) = some r := by first | (rw [hy211]; with_reducible exact H) | (have H2_ := (Option.bind_some _ _).symm.trans H; rw [hy211]; with_reducible exact H2_) | (have H2_ := (Option.bind_some _ _).symm.trans H; with_reducible exact H2_) | with_reducible exact H | (rw [hy211]; exact H) | exact H
 have Ny211 := Aside0.mk hy211
 clear hy211
 by_cases c3 : y211.length + l0.length < 140737488355328
 ·rw [if_pos c3] at H
  have LMc3 := Aside0.mk c3
  clear c3
  obtain ⟨y214, hy214⟩ : ∃ y_ : List Int, y_ = (y211 ++ l0) := ⟨_, rfl⟩
  replace H : (varint_Put.l0 k a1 y214) = some r := by first | (rw [hy214]; with_reducible exact H) | (have H2_ := (Option.bind_some _ _).symm.trans H; rw [hy214]; with_reducible exact H2_) | (have H2_ := (Option.bind_some _ _).symm.trans H; with_reducible exact H2_) | with_reducible exact H | (rw [hy214]; exact H) | exact H
  have Ny214 := Aside0.mk hy214
  clear hy214
  have H' := Aside0.mk H
  clear H
  go_enter Try.func32, Try.ntmps32
  go_wp2_with (first | ((with_reducible refine gate_dst (N := 6) rfl ?_); refine Kd.R_lit (Kd.int .u8) _ 5 ?hg (N := 6) ?hd (xs := ([] : List Int)) (inner := []) (ok := fun _ => True) (okp := fun _ => True) ?hr ?hp (fun _ hk => hk) trivial (Below.refl _ _) (Nat.le_refl _) (by simp) ?_; (case hd => rfl); (case hg => rfl); (case hr => first | (go_simp; done) | (go_simp; rfl)); (case hp => exact (Reps.none _ _)); intro v212 w4 ho5 hb hg_ hnew_; clear hg_ hnew_; (first | rw [← Ny211.out] at ho5 | (simp only [Int.reduceToNat] at ho5; rw [← Ny211.out] at ho5)); have n0_ := Aside0.mk (Kd.R_lower ho5 (below_size (mB HB.out))); have n1_ := Aside0.mk (below_step (mB HB.out) hb); clear HB; have HO213 := n0_; have HB := n1_; clear n0_ n1_; clear hb ho5) | ((with_reducible refine gate_builtin (b := .append) (xs := #[.tmp 6, .tmp 7]) rfl ?_); at_builtin; refine Kd.R_append_rows (Kd.int .u8) (w0 := w) w.heap.size rfl (.tmp 6) (.tmp 7) 24 5 (.int .u8 0) 1 rfl Try.underlying24 info5 rfl (by decide) (by omega) v212 y211 l0 _ _ _ (fun _ => True) (fun _ => False) rfl rfl ?aO ?aR (fun _ _ h => h) (fun _ h => h.elim) ?aF ?aB ?aS ?aL ?_; (case aR => repeat (first | exact (Kd.C_below HR0.out HB.out) | (with_reducible refine Kd.C_alloc ?_ _) | (with_reducible refine Kd.C_drewN ?_ _) | (with_reducible refine Kd.C_drew ?_))); (case aB => exact (mB HB.out)); (case aF => exact (fun _ _ => trivial)); (case aO => exact (mR HO213.out)); (case aS => exact (below_size (mB HB.out))); (case aL => have := LMc3.out; omega); intro v215 w6 ho hb hg hat; rw [← Ny214.out] at ho; have n0_ := Aside0.mk (hb); have n1_ := Aside0.mk (ho); clear HB; clear HO213; have HB := n0_; have HO216 := n1_; clear n0_ n1_; clear ho hb hg hat))
  try simp only [Act.put, List.setIfInBounds_toArray, List.set_cons_zero, List.set_cons_succ]
  go_loopg [1, 5] k (fun kq v1 v5 w' => ∃ (x1_1 : Int) (x5_1 : List Int), v1 = .int .u64 x1_1 ∧ Aside0 (varint_Put.l0 kq x1_1 x5_1 = some r) ∧ Aside0 (kq ≤ k) ∧ Aside0 (Kd.R (Kd.int .u8) 5 w' w.heap.size (fun _ => True) v5 x5_1) ∧ Aside0 (Below w.heap.size w w'))
  case atStart => exact ⟨(a1), (y214), (by first | rfl | (simp; done) | (simp [*]; done)), H', ⟨Nat.le_refl _⟩, ⟨mR HO216.out⟩, ⟨mB HB.out⟩⟩
  case round =>
   clear H'
   try clear c3
   obtain ⟨x1_1, x5_1, rfl, HA, HK1, HO_5, HB⟩ := hrel
   cases gk with
   | zero => exact absurd HA.out (by simp [varint_Put.l0])
   | succ k1 =>
    have H := HA.out
    clear HA
    simp only [varint_Put.l0] at H
    by_cases c7 : x1_1 > 127
    ·rw [if_pos c7] at H
     have c7b0 : decide (127 < x1_1) = true := decide_eq_true c7
     clear c7
     by_cases c8 : x5_1.length < 140737488355328
     ·rw [if_pos c8] at H
      have LMc8 := Aside0.mk c8
      clear c8
      obtain ⟨y217, hy217⟩ : ∃ y_ : List Int, y_ = (x5_1 ++ [Go.bits .or .u8 ((x1_1) % 256) 128]) := ⟨_, rfl⟩
      replace H : (varint_Put.l0 k1 (x1_1 / 128) y217) = some r := by first | (rw [hy217]; with_reducible exact H) | (have H2_ := (Option.bind_some _ _).symm.trans H; rw [hy217]; with_reducible exact H2_) | (have H2_ := (Option.bind_some _ _).symm.trans H; with_reducible exact H2_) | with_reducible exact H | (rw [hy217]; exact H) | exact H
      have Ny217 := Aside0.mk hy217
      clear hy217
      have H' := Aside0.mk H
      clear H
      go_wp2_with (first | ((with_reducible refine gate_builtin (b := .append) (xs := #[.tmp 11, .tmp 15]) rfl ?_); at_builtin; refine Kd.R_append (Kd.int .u8) (w0 := w) w.heap.size rfl (.tmp 11) (.tmp 15) 24 5 (.int .u8 0) 1 rfl Try.underlying24 info5 rfl (by decide) (by omega) u5 x5_1 (Go.bits .or .u8 ((x1_1) % 256) 128) [.int .u8 (Go.bits .or .u8 ((x1_1) % 256) 128)] (fun _ => True) (fun _ => False) rfl rfl ?aP (fun _ hk => hk.elim) ?aF ?aO ?aB ?aS ?aL ?_; (case aP => exact rfl); (case aB => exact (mB HB.out)); (case aF => exact (fun _ _ => trivial)); (case aO => exact (mR HO_5.out)); (case aS => exact (below_size (mB HB.out))); (case aL => have := LMc8.out; omega); intro v218 w9 ho hb hg hat; rw [← Ny217.out] at ho; have n0_ := Aside0.mk (hb); have n1_ := Aside0.mk (ho); clear HB; clear HO_5; have HB := n0_; have HO219 := n1_; clear n0_ n1_; clear ho hb hg hat))
      go_roundg k1
      case measure => have := HK1.out; omega
      case rel => exact ⟨(x1_1 / 128), (y217), (by first | rfl | (simp; done) | (simp [*]; done)), H', ⟨by have := HK1.out; omega⟩, ⟨mR HO219.out⟩, ⟨mB HB.out⟩⟩
     ·rw [if_neg c8] at H
      exact absurd H (by simp)
    ·rw [if_neg c7] at H
     have c7b0 : decide (127 < x1_1) = false := decide_eq_false c7
     clear c7
     by_cases c10 : x5_1.length < 140737488355328
     ·rw [if_pos c10] at H
      have LMc10 := Aside0.mk c10
      clear c10
      obtain ⟨y220, hy220⟩ : ∃ y_ : List Int, y_ = (x5_1 ++ [(x1_1) % 256]) := ⟨_, rfl⟩
      replace H : (some y220) = some r := by first | (rw [hy220]; with_reducible exact H) | (have H2_ := (Option.bind_some _ _).symm.trans H; rw [hy220]; with_reducible exact H2_) | (have H2_ := (Option.bind_some _ _).symm.trans H; with_reducible exact H2_) | with_reducible exact H | (rw [hy220]; exact H) | exact H
      have Ny220 := Aside0.mk hy220
      clear hy220
      obtain rfl := Option.some.inj H
      go_wp2_with (first | ((with_reducible refine gate_builtin (b := .append) (xs := #[.tmp 19, .tmp 22]) rfl ?_); at_builtin; refine Kd.R_append (Kd.int .u8) (w0 := w) w.heap.size rfl (.tmp 19) (.tmp 22) 24 5 (.int .u8 0) 1 rfl Try.underlying24 info5 rfl (by decide) (by omega) u5 x5_1 ((x1_1) % 256) [.int .u8 ((x1_1) % 256)] (fun _ => True) (fun _ => False) rfl rfl ?aP (fun _ hk => hk.elim) ?aF ?aO ?aB ?aS ?aL ?_; (case aP => exact rfl); (case aB => exact (mB HB.out)); (case aF => exact (fun _ _ => trivial)); (case aO => exact (mR HO_5.out)); (case aS => exact (below_size (mB HB.out))); (case aL => have := LMc10.out; omega); intro v221 w11 ho hb hg hat; rw [← Ny220.out] at ho; have n0_ := Aside0.mk (hb); have n1_ := Aside0.mk (ho); clear HB; clear HO_5; have HB := n0_; have HO222 := n1_; clear n0_ n1_; clear ho hb hg hat))
      go_ret
      exact ⟨_, by first | rfl | (simp [errW_none, errW_some] <;> rfl) | (simp [*, errW_none, errW_some] <;> rfl), mR HO222.out, mB HB.out⟩
     ·rw [if_neg c10] at H
      exact absurd H (by simp)
 ·rw [if_neg c3] at H
  exact absurd H (by simp)

/-! ### bloom_Encode: function 16 -/
def bloom_Encode.f (k : Nat) (a0_0 : Int) (l0_1 : List Int) : Option (List Int × Int) := (bloom_Right.f a0_0 l0_1).bind fun t224 => (if t224 = true then ((varint_Put.f k ([] : List Int) (IntKind.u64.wrap (a0_0))).bind fun t225 => (if t225.length + l0_1.length < 140737488355328 then (some ((t225 ++ l0_1), 0)) else (none))) else (some (([] : List Int), 12)))
theorem bloom_Encode.mono : ∀ a0 a1 k, LeO (bloom_Encode.f k a0 a1) (bloom_Encode.f (k + 1) a0 a1) := by
 intro a0 a1 k
 unfold bloom_Encode.f
 repeat' first
   | (with_reducible exact varint_Put.mono _ _ _)
   | (with_reducible exact LeO.refl _)
   | (with_reducible exact LeO.none _)
   | (with_reducible refine LeO.ite ?_ ?_)
   | (with_reducible refine LeO.bind ?_ (fun _ => ?_))
   | exact varint_Put.mono _ _ _
   | exact LeO.none _
   | refine LeO.ite ?_ ?_
   | refine LeO.bind ?_ (fun _ => ?_)
def bloom_Encode.T3 : Bool × List (List Nat × List Nat) := (true, [([], []), ([0], [0]), ([1], [1]), ([2], [2]), ([], []), ([4], [4]), ([3, 5, 3], [3, 5]), ([6, 6, 0, 1, 2, 3, 4, 5, 6], [6]), ([7, 0, 1, 2, 3, 4, 5, 6, 7], [])])
def bloom_Encode.B3 : List Nat := [0, 1, 3, 7, 0, 16, 63, 127, 255]
theorem bloom_Encode.tab3 : rtab .any (opsOf Try.f16 3) = bloom_Encode.T3 := by kernel_rfl
theorem bloom_Encode.bits3 : waitsOk bloom_Encode.T3.2 bloom_Encode.B3 = true := by kernel_rfl
set_option maxHeartbeats 8000000 in
set_option maxRecDepth 100000 in
theorem bloom_Encode.calls (k : Nat) (a0_0 : Int) (A0_1 : Option Addr) (c0_1 : Nat) (l0_1 : List Int) (r1 : List Int) (r2 : Int) (w : World) (hr0_1 : Kd.C (Kd.int .u8) w A0_1 l0_1.length l0_1) (hc0_1 : l0_1.length ≤ c0_1) (h : bloom_Encode.f k a0_0 l0_1 = some (r1, r2)) :
  Calls Try.prog 16 #[.agg #[.int .i64 a0_0, .slice A0_1 l0_1.length c0_1]] w fun e w' => ∃ v0_ : Value, e = .returned (.tuple #[v0_, .int .i64 r2]) ∧ Kd.R (Kd.int .u8) 5 w' w.heap.size (fun _ => True) v0_ r1 ∧ Below w.heap.size w w' := by
 have hu26 := Try.underlying26
 have HR0_1 := Aside0.mk hr0_1
 have HC0_1 := Aside0.mk hc0_1
 clear hr0_1 hc0_1
 have HB := Aside0.mk (Below.refl w.heap.size w)
 have H : ((bloom_Right.f a0_0 l0_1).bind fun t224 => (if t224 = true then ((varint_Put.f k ([] : List Int) (IntKind.u64.wrap (a0_0))).bind fun t225 => (if t225.length + l0_1.length < 140737488355328 then (some ((t225 ++ l0_1), 0)) else (none))) else (some (([] : List Int), 12)))) = some (r1, r2) := h
 clear h
 replace H := Option.bind_eq_some_iff.mp H
 obtain ⟨t224, A20, H⟩ := H
 replace H : (if t224 = true then ((varint_Put.f k ([] : List Int) (IntKind.u64.wrap (a0_0))).bind fun t225 => (if t225.length + l0_1.length < 140737488355328 then (some ((t225 ++ l0_1), 0)) else (none))) else (some (([] : List Int), 12))) = some (r1, r2) := H
 have A2 := Aside0.mk A20
 clear A20
 by_cases c3 : t224 = true
 ·subst c3
  have H1 : ((varint_Put.f k ([] : List Int) (IntKind.u64.wrap (a0_0))).bind fun t225 => (if t225.length + l0_1.length < 140737488355328 then (some ((t225 ++ l0_1), 0)) else (none))) = some (r1, r2) := by rw [if_pos rfl] at H; exact H
  clear H
  have H := H1
  clear H1
  replace H := Option.bind_eq_some_iff.mp H
  obtain ⟨t225, A40, H⟩ := H
  replace H : (if t225.length + l0_1.length < 140737488355328 then (some ((t225 ++ l0_1), 0)) else (none)) = some (r1, r2) := H
  have A4 := Aside0.mk A40
  clear A40
  by_cases c5 : t225.length + l0_1.length < 140737488355328
  ·rw [if_pos c5] at H
   have LMc5 := Aside0.mk c5
   clear c5
   obtain ⟨y228, hy228⟩ : ∃ y_ : List Int, y_ = (t225 ++ l0_1) := ⟨_, rfl⟩
   replace H : (some (y228, 0)) = some (r1, r2) := by first | (rw [hy228]; with_reducible exact H) | (have H2_ := (Option.bind_some _ _).symm.trans H; rw [hy228]; with_reducible exact H2_) | (have H2_ := (Option.bind_some _ _).symm.trans H; with_reducible exact H2_) | with_reducible exact H | (rw [hy228]; exact H) | exact H
   have Ny228 := Aside0.mk hy228
   clear hy228
   simp only [Option.some.injEq, Prod.mk.injEq] at H
   obtain ⟨rfl, rfl⟩ := H
   go_enter Try.func16, Try.ntmps16
   try go_wp2_with (first | ((with_reducible refine gate_dst (N := 1) rfl ?_); refine box_event ?hg (N := 1) ?hd (cs := #[.int .i64 a0_0, .slice A0_1 l0_1.length c0_1]) (t := 26) ?hr ?_; (case hd => rfl); (case hg => rfl); (case hr => first | (go_simp; done) | (go_simp; rfl)); intro gb223 hg w6 hbox hb; have n0_ := Aside0.mk (below_step (mB HB.out) hb); have n1_ := Aside0.mk (hbox); have n2_ := Aside0.mk ((by rw [hg]; exact (below_size (mB HB.out)) : w.heap.size ≤ gb223)); have n3_ := n2_; clear HB; have HB := n0_; have BK223 := n1_; have GW223 := n2_; have GE223 := n3_; clear n0_ n1_ n2_ n3_; clear hb hbox hg; obtain ⟨hcz7_0, hcz7_1, hfz7_0, hfz7_1⟩ := cells_2 BK223.out) | ((with_reducible refine gate_callee (f := 13) rfl ?_); refine goesL_ (some 5) rfl rfl Try.func13 (by kernel_rfl) rfl #[.agg #[.int .i64 a0_0, .slice A0_1 l0_1.length c0_1]] rfl (by (try simp only [List.map_toArray, List.map_cons, List.map_nil]); first | done | rfl | (simp only [List.length_drop, List.length_take]; rfl)) ?_; (with_reducible refine (bloom_Right.calls a0_0 _ _ l0_1 true _ ?side1 ?side2 A2.out).mono ?_); (case side1 => repeat (first | exact (Kd.C_below HR0_1.out HB.out) | (with_reducible refine Kd.C_alloc ?_ _) | (with_reducible refine Kd.C_drewN ?_ _) | (with_reducible refine Kd.C_drew ?_))); (case side2 => first | exact HC0_1.out | exact Kd.V_mono HC0_1.out (fun k_ hk_ => by grind)); rintro e w8 ⟨rfl, hb⟩; refine ⟨_, rfl, ?_⟩; have n0_ := Aside0.mk (blk_below (mK BK223.out) hb); have n1_ := Aside0.mk (below_step mZ hb); clear BK223; clear HB; have BK223 := n0_; have HB := n1_; clear n0_ n1_; (try clear hb); (try clear hb2); (try clear hk); (try clear hi)))
   have n0_ := Aside0.mk (blk_drew BK223.out)
   have n1_ := Aside0.mk (below_drew1 HB.out)
   clear BK223
   clear HB
   have BK223 := n0_
   have HB := n1_
   clear n0_ n1_
   refine start_ (n := 9) (S := fun w' => w'.cell? ⟨gb223, 0, none⟩ = some (.int .i64 a0_0) ∧ w'.cell? ⟨gb223, 1, none⟩ = some (.slice A0_1 l0_1.length c0_1)) (ds := []) #[false, false, false, false, false, false, false, false, false] (by kernel_rfl) rfl rfl ⟨(blk_cell BK223.out 0).trans rfl, (blk_cell BK223.out 1).trans rfl⟩ (fun hHeld => ?_); refine with_tabW bloom_Encode.tab3 bloom_Encode.bits3 (fun HT_ HW_ => ?_)
   generalize w8.drew = w9 at BK223 HB hHeld ⊢
   refine pure_ (i := 0) (N := some 7) (v := ?_) (a' := ?_) #[true, false, false, false, false, false, false, false, false] rfl rfl (any_of HT_.out (by kernel_rfl)) (fun _ _ _ h => h) (Or.inl ⟨by rfl, ?_⟩) ?_ ?_
   rotate_left
   ·intro w'
    go_simp
    with_reducible rfl
   rotate_left
   ·simp only [Act.put, List.setIfInBounds_toArray, List.set_cons_zero, List.set_cons_succ, i64_w, i32_w]
    rfl
   refine pure_ (i := 4) (N := some 11) (v := ?_) (a' := ?_) #[true, false, false, false, true, false, false, false, false] rfl rfl (any_of HT_.out (by kernel_rfl)) (fun _ _ _ h => h) (Or.inl ⟨by rfl, ?_⟩) ?_ ?_
   rotate_left
   ·intro w'
    go_simp
    with_reducible rfl
   rotate_left
   ·simp only [Act.put, List.setIfInBounds_toArray, List.set_cons_zero, List.set_cons_succ, i64_w, i32_w]
    rfl
   refine take_ (i := 1) (N := some 8) (v := ?_) (a' := ?_) #[true, true, false, false, true, false, false, false, false] rfl rfl (take_ofW HT_.out HW_.out (by kernel_rfl)) (fun _ _ _ h => h) (Or.inl ⟨by rfl, ?_⟩) hHeld ?_ ?_
   rotate_left
   ·rintro w' ⟨s0, s1⟩
    go_simp
    with_reducible rfl
   rotate_left
   ·simp only [Act.put, List.setIfInBounds_toArray, List.set_cons_zero, List.set_cons_succ, i64_w, i32_w]
    rfl
   refine pure_ (i := 2) (N := some 9) (v := ?_) (a' := ?_) #[true, true, true, false, true, false, false, false, false] rfl rfl (any_of HT_.out (by kernel_rfl)) (fun _ _ _ h => h) (Or.inl ⟨by rfl, ?_⟩) ?_ ?_
   rotate_left
   ·intro w'
    go_simp
    with_reducible rfl
   rotate_left
   ·simp only [Act.put, List.setIfInBounds_toArray, List.set_cons_zero, List.set_cons_succ, i64_w, i32_w]
    rfl
   refine take_ (i := 5) (N := some 12) (v := ?_) (a' := ?_) #[true, true, true, false, true, true, false, false, false] rfl rfl (take_ofW HT_.out HW_.out (by kernel_rfl)) (fun _ _ _ h => h) (Or.inl ⟨by rfl, ?_⟩) hHeld ?_ ?_
   rotate_left
   ·rintro w' ⟨s0, s1⟩
    go_simp
    with_reducible rfl
   rotate_left
   ·simp only [Act.put, List.setIfInBounds_toArray, List.set_cons_zero, List.set_cons_succ, i64_w, i32_w]
    rfl
   refine one_ (i := 3) (N := some 10) #[true, true, true, true, true, true, false, false, false] rfl rfl (one_of HT_.out (by kernel_rfl)) (by decide) (fun K hK => ?_)
   refine goes_ Try.func32 (by kernel_rfl) rfl #[.slice none 0 0, .int .u64 (IntKind.u64.wrap (a0_0))] (by rfl) rfl rfl (by (try simp only [List.map_toArray, List.map_cons, List.map_nil]); first | done | rfl | (simp only [List.length_drop, List.length_take]; rfl)) ?_
   refine (varint_Put.calls k _ _ ([] : List Int) (IntKind.u64.wrap (a0_0)) t225 _ ?side1 ?side2 A4.out).mono ?_
   (case side1 => exact Kd.C_nil _ _)
   (case side2 => exact Nat.le_refl _)
   rintro e w10 ⟨v226, rfl, ho0, hb⟩
   refine ⟨_, rfl, ?_⟩
   have n0_ := Aside0.mk (Kd.R_lower ho0 (below_size mZ))
   have n1_ := Aside0.mk (blk_below (mK BK223.out) hb)
   have n2_ := Aside0.mk (below_step mZ hb)
   clear BK223
   clear HB
   have HO227 := n0_
   have BK223 := n1_
   have HB := n2_
   clear n0_ n1_ n2_
   (try clear hb)
   (try clear hb2)
   (try clear hk)
   (try clear hi)
   (try clear ho0)
   refine hK.out _ _ ⟨(blk_cell BK223.out 0).trans rfl, (blk_cell BK223.out 1).trans rfl⟩ (fun hHeld => ?_)
   clear hK K
   refine norm_ (a' := ?_) ?_ ?_
   rotate_left
   ·show Act.put _ (some 10) _ = _
    simp only [Act.put, List.setIfInBounds_toArray, List.set_cons_zero, List.set_cons_succ, i64_w, i32_w]
    rfl
   refine one_ (i := 6) (N := some 13) #[true, true, true, true, true, true, true, false, false] rfl rfl (one_of HT_.out (by kernel_rfl)) (by decide) (fun K hK => ?_)
   refine Kd.R_append_rows_step (Kd.int .u8) (w0 := w) w.heap.size (by rfl) (.tmp 10) (.tmp 12) 24 5 (.int .u8 0) 1 rfl Try.underlying24 info5 rfl (by decide) (by omega) v226 t225 l0_1 _ _ _ (fun _ => True) (fun _ => False) rfl rfl ?aO ?aR (fun _ _ h => h) (fun _ h => h.elim) ?aF ?aB ?aS ?aL ?_
   (case aR => repeat (first | exact (Kd.C_below HR0_1.out HB.out) | (with_reducible refine Kd.C_alloc ?_ _) | (with_reducible refine Kd.C_drewN ?_ _) | (with_reducible refine Kd.C_drew ?_)))
   (case aB => exact mZ)
   (case aF => exact (fun _ _ => trivial))
   (case aO => exact (mR HO227.out))
   (case aS => exact (below_size mZ))
   (case aL => have := LMc5.out; omega)
   intro v229 w11 ho hb hg hat
   rw [← Ny228.out] at ho
   have n0_ := Aside0.mk (blk_grown (mK BK223.out) hg (Kd.R_ne HO227.out BK223.out (by decide)))
   have n1_ := Aside0.mk (hb)
   have n2_ := Aside0.mk (ho)
   clear BK223
   clear HB
   clear HO227
   have BK223 := n0_
   have HB := n1_
   have HO230 := n2_
   clear n0_ n1_ n2_
   clear ho hb hg hat
   refine hK.out _ _ ⟨(blk_cell BK223.out 0).trans rfl, (blk_cell BK223.out 1).trans rfl⟩ (fun hHeld => ?_)
   clear hK K
   refine norm_ (a' := ?_) ?_ ?_
   rotate_left
   ·show Act.put _ (some 13) _ = _
    simp only [Act.put, List.setIfInBounds_toArray, List.set_cons_zero, List.set_cons_succ, i64_w, i32_w]
    rfl
   refine pure_ (i := 7) (N := some 2) (v := ?_) (a' := ?_) #[true, true, true, true, true, true, true, true, false] rfl rfl (any_of HT_.out (by kernel_rfl)) (fun _ _ _ h => h) (Or.inl ⟨by rfl, ?_⟩) ?_ ?_
   rotate_left
   ·intro w'
    go_simp
    with_reducible rfl
   rotate_left
   ·simp only [Act.put, List.setIfInBounds_toArray, List.set_cons_zero, List.set_cons_succ, i64_w, i32_w]
    rfl
   refine pure_ (i := 8) (N := some 3) (v := ?_) (a' := ?_) #[true, true, true, true, true, true, true, true, true] rfl rfl (any_of HT_.out (by kernel_rfl)) (fun _ _ _ h => h) (Or.inl ⟨by rfl, ?_⟩) ?_ ?_
   rotate_left
   ·intro w'
    go_simp
    with_reducible rfl
   rotate_left
   ·simp only [Act.put, List.setIfInBounds_toArray, List.set_cons_zero, List.set_cons_succ, i64_w, i32_w]
    rfl
   refine done_ (done_of HT_.out (by kernel_rfl)) ?_
   try go_wp2
   go_ret2
   exact ⟨_, by first | rfl | (simp [errW_none, errW_some] <;> rfl) | (simp [*, errW_none, errW_some] <;> rfl), mR HO230.out, mZ⟩
  ·rw [if_neg c5] at H
   exact absurd H (by simp)
 ·replace c3 := Bool.eq_false_iff.mpr c3
  subst c3
  have H1 : (some (([] : List Int), 12)) = some (r1, r2) := by rw [if_neg (show ¬ (false = true) by decide)] at H; exact H
  clear H
  have H := H1
  clear H1
  simp only [Option.some.injEq, Prod.mk.injEq] at H
  obtain ⟨rfl, rfl⟩ := H
  go_enter Try.func16, Try.ntmps16
  go_wp2_with (first | ((with_reducible refine gate_dst (N := 1) rfl ?_); refine box_event ?hg (N := 1) ?hd (cs := #[.int .i64 a0_0, .slice A0_1 l0_1.length c0_1]) (t := 26) ?hr ?_; (case hd => rfl); (case hg => rfl); (case hr => first | (go_simp; done) | (go_simp; rfl)); intro gb223 hg w12 hbox hb; have n0_ := Aside0.mk (below_step (mB HB.out) hb); have n1_ := Aside0.mk (hbox); have n2_ := Aside0.mk ((by rw [hg]; exact (below_size (mB HB.out)) : w.heap.size ≤ gb223)); have n3_ := n2_; clear HB; have HB := n0_; have BK223 := n1_; have GW223 := n2_; have GE223 := n3_; clear n0_ n1_ n2_ n3_; clear hb hbox hg; obtain ⟨hcz13_0, hcz13_1, hfz13_0, hfz13_1⟩ := cells_2 BK223.out) | ((with_reducible refine gate_callee (f := 13) rfl ?_); refine goesL_ (some 5) rfl rfl Try.func13 (by kernel_rfl) rfl #[.agg #[.int .i64 a0_0, .slice A0_1 l0_1.length c0_1]] rfl (by (try simp only [List.map_toArray, List.map_cons, List.map_nil]); first | done | rfl | (simp only [List.length_drop, List.length_take]; rfl)) ?_; (with_reducible refine (bloom_Right.calls a0_0 _ _ l0_1 false _ ?side1 ?side2 A2.out).mono ?_); (case side1 => repeat (first | exact (Kd.C_below HR0_1.out HB.out) | (with_reducible refine Kd.C_alloc ?_ _) | (with_reducible refine Kd.C_drewN ?_ _) | (with_reducible refine Kd.C_drew ?_))); (case side2 => first | exact HC0_1.out | exact Kd.V_mono HC0_1.out (fun k_ hk_ => by grind)); rintro e w14 ⟨rfl, hb⟩; refine ⟨_, rfl, ?_⟩; have n0_ := Aside0.mk (blk_below (mK BK223.out) hb); have n1_ := Aside0.mk (below_step mZ hb); clear BK223; clear HB; have BK223 := n0_; have HB := n1_; clear n0_ n1_; (try clear hb); (try clear hb2); (try clear hk); (try clear hi)))
  go_ret2
  exact ⟨_, by first | rfl | (simp [errW_none, errW_some] <;> rfl) | (simp [*, errW_none, errW_some] <;> rfl), by first | exact Kd.R_nil _ _ _ _ _ | exact Kd.N_nil _ _ _ _ _ | exact Kd.V_nil _ _ _ _ _ | exact Kd.Q_nil _ _ _ _ _ | exact Kd.S_nil _ _ _ _ _, mZ⟩

/-! ### columbariumref9_Right: function 19 -/
def columbariumref9_Right.l0 : Nat → Int → Int → List Int → Option (Bool)
 | 0, _, _, _ => none
 | k + 1, x3, x232000, x232001 => if x3 ≤ 65536 then (if x232000 = x3 then (some ((x232001.length : Int) == (wrap64 (Int.tdiv x3 8)))) else (columbariumref9_Right.l0 k (wrap64 (2 * x3)) x232000 x232001)) else (some false)
def columbariumref9_Right.f (k : Nat) (a0_0 : Int) (l0_1 : List Int) : Option (Bool) := columbariumref9_Right.l0 k 64 a0_0 l0_1
theorem columbariumref9_Right.mono_l : ∀ k, (∀ y0 y1 y2, LeO (columbariumref9_Right.l0 k y0 y1 y2) (columbariumref9_Right.l0 (k + 1) y0 y1 y2))
 | 0 => fun _ _ _ r h => by simp [columbariumref9_Right.l0] at h
 | k + 1 => by
  have ih0 := columbariumref9_Right.mono_l k
  ·intro y0 y1 y2
   unfold columbariumref9_Right.l0
   repeat' first
   | (with_reducible exact ih0 _ _ _)
   | (with_reducible exact LeO.refl _)
   | (with_reducible exact LeO.none _)
   | (with_reducible refine LeO.ite ?_ ?_)
   | (with_reducible refine LeO.bind ?_ (fun _ => ?_))
   | exact ih0 _ _ _
   | exact LeO.none _
   | refine LeO.ite ?_ ?_
   | refine LeO.bind ?_ (fun _ => ?_)
theorem columbariumref9_Right.mono : ∀ a0 a1 k, LeO (columbariumref9_Right.f k a0 a1) (columbariumref9_Right.f (k + 1) a0 a1) := by
 intro a0 a1 k
 have ih0 := columbariumref9_Right.mono_l k
 unfold columbariumref9_Right.f
 repeat' first
   | (with_reducible exact ih0 _ _ _)
   | (with_reducible exact LeO.refl _)
   | (with_reducible exact LeO.none _)
   | (with_reducible refine LeO.ite ?_ ?_)
   | (with_reducible refine LeO.bind ?_ (fun _ => ?_))
   | exact ih0 _ _ _
   | exact LeO.none _
   | refine LeO.ite ?_ ?_
   | refine LeO.bind ?_ (fun _ => ?_)
set_option maxHeartbeats 8000000 in
set_option maxRecDepth 100000 in
theorem columbariumref9_Right.calls (k : Nat) (a0_0 : Int) (A0_1 : Option Addr) (c0_1 : Nat) (l0_1 : List Int) (r : Bool) (w : World) (hr0_1 : Kd.C (Kd.int .u8) w A0_1 l0_1.length l0_1) (hc0_1 : l0_1.length ≤ c0_1) (h : columbariumref9_Right.f k a0_0 l0_1 = some r) :
  Calls Try.prog 19 #[.agg #[.int .i64 a0_0, .slice A0_1 l0_1.length c0_1]] w fun e w' => e = .returned (.bool r) ∧ Below w.heap.size w w' := by
 have hu36 := Try.underlying36
 have HR0_1 := Aside0.mk hr0_1
 have HC0_1 := Aside0.mk hc0_1
 clear hr0_1 hc0_1
 have HB := Aside0.mk (Below.refl w.heap.size w)
 have H : (columbariumref9_Right.l0 k 64 a0_0 l0_1) = some r := h
 clear h
 have H' := Aside0.mk H
 clear H
 go_enter Try.func19, Try.ntmps19
 go_wp2_with (first | ((with_reducible refine gate_dst (N := 1) rfl ?_); refine box_event ?hg (N := 1) ?hd (cs := #[.int .i64 a0_0, .slice A0_1 l0_1.length c0_1]) (t := 36) ?hr ?_; (case hd => rfl); (case hg => rfl); (case hr => first | (go_simp; done) | (go_simp; rfl)); intro gb231 hg w2 hbox hb; have n0_ := Aside0.mk (below_step (mB HB.out) hb); have n1_ := Aside0.mk (hbox); have n2_ := Aside0.mk ((by rw [hg]; exact (below_size (mB HB.out)) : w.heap.size ≤ gb231)); have n3_ := n2_; clear HB; have HB := n0_; have BK231 := n1_; have GW231 := n2_; have GE231 := n3_; clear n0_ n1_ n2_ n3_; clear hb hbox hg))
 try simp only [Act.put, List.setIfInBounds_toArray, List.set_cons_zero, List.set_cons_succ]
 go_loopg [3] k (fun kq v3 w' => ∃ (x3_1 : Int), v3 = .int .i64 x3_1 ∧ Aside0 (columbariumref9_Right.l0 kq x3_1 a0_0 l0_1 = some r) ∧ Aside0 (kq ≤ k) ∧ Aside0 (w'.heap[gb231]? = some (.cells #[.int .i64 a0_0, (.slice A0_1 l0_1.length c0_1)] 36 (0, 0))) ∧ Aside0 (Below w.heap.size w w'))
 case atStart => exact ⟨(64), (by first | rfl | (simp; done) | (simp [*]; done)), H', ⟨Nat.le_refl _⟩, ⟨mK BK231.out⟩, ⟨mZ⟩⟩
 case round =>
  clear H'
  try clear BK231
  obtain ⟨x3_1, rfl, HA, HK1, BK231, HB⟩ := hrel
  cases gk with
  | zero => exact absurd HA.out (by simp [columbariumref9_Right.l0])
  | succ k1 =>
   have H := HA.out
   clear HA
   simp only [columbariumref9_Right.l0] at H
   by_cases c3 : x3_1 ≤ 65536
   ·rw [if_pos c3] at H
    have c3b0 : decide (x3_1 ≤ 65536) = true := decide_eq_true c3
    clear c3
    by_cases c4 : a0_0 = x3_1
    ·rw [if_pos c4] at H
     have c4b0 : (a0_0 == x3_1) = true := beq_iff_eq.mpr c4
     have c4b1 : (a0_0 != x3_1) = false := bne_eq_false_iff_eq.mpr c4
     clear c4
     obtain rfl := Option.some.inj H
     obtain ⟨hcz5_0, hcz5_1, hfz5_0, hfz5_1⟩ := cells_2 BK231.out
     go_wp2
     go_ret
     exact ⟨by first | rfl | (simp [errW_none, errW_some] <;> rfl) | (simp [*, errW_none, errW_some] <;> rfl), mZ⟩
    ·rw [if_neg c4] at H
     have c4b0 : (a0_0 == x3_1) = false := beq_eq_false_iff_ne.mpr c4
     have c4b1 : (a0_0 != x3_1) = true := bne_iff_ne.mpr c4
     have H' := Aside0.mk H
     clear H
     obtain ⟨hcz6_0, hcz6_1, hfz6_0, hfz6_1⟩ := cells_2 BK231.out
     go_wp2
     go_roundg k1
     case measure => have := HK1.out; omega
     case rel => exact ⟨(wrap64 (2 * x3_1)), (by first | rfl | (simp; done) | (simp [*]; done)), H', ⟨by have := HK1.out; omega⟩, ⟨mK BK231.out⟩, ⟨mZ⟩⟩
   ·rw [if_neg c3] at H
    have c3b0 : decide (x3_1 ≤ 65536) = false := decide_eq_false c3
    clear c3
    obtain rfl := Option.some.inj H
    go_wp2
    go_ret
    exact ⟨by first | rfl | (simp [errW_none, errW_some] <;> rfl) | (simp [*, errW_none, errW_some] <;> rfl), mZ⟩

/-! ### columbariumref1_Put: function 33 -/
def columbariumref1_Put.l0 : Nat → Int → List Int → Option (List Int)
 | 0, _, _ => none
 | k + 1, x1, x5 => if x1 ≥ 128 then (if x5.length < 140737488355328 then (columbariumref1_Put.l0 k (IntKind.u64.wrap (Int.tdiv x1 128)) (x5 ++ [((Int.tmod x1 128) + 128) % 256])) else (none)) else (if x5.length < 140737488355328 then (some (x5 ++ [(x1) % 256])) else (none))
def columbariumref1_Put.f (k : Nat) (l0 : List Int) (a1 : Int) : Option (List Int) := (some (([] : List Int) : List Int)).bind fun y232 => (if y232.length + l0.length < 140737488355328 then (columbariumref1_Put.l0 k a1 (y232 ++ l0)) else (none))
theorem columbariumref1_Put.mono_l : ∀ k, (∀ y0 y1, LeO (columbariumref1_Put.l0 k y0 y1) (columbariumref1_Put.l0 (k + 1) y0 y1))
 | 0 => fun _ _ r h => by simp [columbariumref1_Put.l0] at h
 | k + 1 => by
  have ih0 := columbariumref1_Put.mono_l k
  ·intro y0 y1
   unfold columbariumref1_Put.l0
   repeat' first
   | (with_reducible exact ih0 _ _)
   | (with_reducible exact LeO.refl _)
   | (with_reducible exact LeO.none _)
   | (with_reducible refine LeO.ite ?_ ?_)
   | (with_reducible refine LeO.bind ?_ (fun _ => ?_))
   | exact ih0 _ _
   | exact LeO.none _
   | refine LeO.ite ?_ ?_
   | refine LeO.bind ?_ (fun _ => ?_)
theorem columbariumref1_Put.mono : ∀ a0 a1 k, LeO (columbariumref1_Put.f k a0 a1) (columbariumref1_Put.f (k + 1) a0 a1) := by
 intro a0 a1 k
 have ih0 := columbariumref1_Put.mono_l k
 unfold columbariumref1_Put.f
 repeat' first
   | (with_reducible exact ih0 _ _)
   | (with_reducible exact LeO.refl _)
   | (with_reducible exact LeO.none _)
   | (with_reducible refine LeO.ite ?_ ?_)
   | (with_reducible refine LeO.bind ?_ (fun _ => ?_))
   | exact ih0 _ _
   | exact LeO.none _
   | refine LeO.ite ?_ ?_
   | refine LeO.bind ?_ (fun _ => ?_)
set_option maxHeartbeats 8000000 in
set_option maxRecDepth 100000 in
theorem columbariumref1_Put.calls (k : Nat) (A0 : Option Addr) (c0 : Nat) (l0 : List Int) (a1 : Int) (r : List Int) (w : World) (hr0 : Kd.C (Kd.int .u8) w A0 l0.length l0) (hc0 : l0.length ≤ c0) (h : columbariumref1_Put.f k l0 a1 = some r) :
  Calls Try.prog 33 #[.slice A0 l0.length c0, .int .u64 a1] w fun e w' => ∃ v0_ : Value, e = .returned (v0_) ∧ Kd.R (Kd.int .u8) 5 w' w.heap.size (fun _ => True) v0_ r ∧ Below w.heap.size w w' := by
 have HR0 := Aside0.mk hr0
 have HC0 := Aside0.mk hc0
 clear hr0 hc0
 have HB := Aside0.mk (Below.refl w.heap.size w)
 have H : ((some (([] : List Int) : List Int)).bind fun y232 => (if y232.length + l0.length < 140737488355328 then (columbariumref1_Put.l0 k a1 (y232 ++ l0)) else (none))) = some r := h
 clear h
 obtain ⟨y232, hy232⟩ : ∃ y_ : List Int, y_ = (([] : List Int)) := ⟨_, rfl⟩
 replace H : (if y232.length + l0.length < 140737488355328 then (columbariumref1_Put.l0 k a1 (y232 ++ l0)) else (none)) = some r := by first | (rw [hy232]; with_reducible exact H) | (have H2_ := (Option.bind_some _ _).symm.trans H; rw [hy232]; with_reducible exact H2_) | (have H2_ := (Option.bind_some _ _).symm.trans H; with_reducible exact H2_) | with_reducible exact H | (rw [hy232]; exact H) | exact H
 have Ny232 := Aside0.mk hy232
 clear hy232
 by_cases c3 : y232.length + l0.length < 140737488355328
 ·rw [if_pos c3] at H
  have LMc3 := Aside0.mk c3
  clear c3
  obtain ⟨y235, hy235⟩ : ∃ y_ : List Int, y_ = (y232 ++ l0) := ⟨_, rfl⟩
  replace H : (columbariumref1_Put.l0 k a1 y235) = some r := by first | (rw [hy235]; with_reducible exact H) | (have H2_ := (Option.bind_some _ _).symm.trans H; rw [hy235]; with_reducible exact H2_) | (have H2_ := (Option.bind_some _ _).symm.trans H; with_reducible exact H2_) | with_reducible exact H | (rw [hy235]; exact H) | exact H
  have Ny235 := Aside0.mk hy235
  clear hy235
  have H' := Aside0.mk H
  clear H
  go_enter Try.func33, Try.ntmps33
  go_wp2_with (first | ((with_reducible refine gate_dst (N := 6) rfl ?_); refine Kd.R_lit (Kd.int .u8) _ 5 ?hg (N := 6) ?hd (xs := ([] : List Int)) (inner := []) (ok := fun _ => True) (okp := fun _ => True) ?hr ?hp (fun _ hk => hk) trivial (Below.refl _ _) (Nat.le_refl _) (by simp) ?_; (case hd => rfl); (case hg => rfl); (case hr => first | (go_simp; done) | (go_simp; rfl)); (case hp => exact (Reps.none _ _)); intro v233 w4 ho5 hb hg_ hnew_; clear hg_ hnew_; (first | rw [← Ny232.out] at ho5 | (simp only [Int.reduceToNat] at ho5; rw [← Ny232.out] at ho5)); have n0_ := Aside0.mk (Kd.R_lower ho5 (below_size (mB HB.out))); have n1_ := Aside0.mk (below_step (mB HB.out) hb); clear HB; have HO234 := n0_; have HB := n1_; clear n0_ n1_; clear hb ho5) | ((with_reducible refine gate_builtin (b := .append) (xs := #[.tmp 6, .tmp 7]) rfl ?_); at_builtin; refine Kd.R_append_rows (Kd.int .u8) (w0 := w) w.heap.size rfl (.tmp 6) (.tmp 7) 24 5 (.int .u8 0) 1 rfl Try.underlying24 info5 rfl (by decide) (by omega) v233 y232 l0 _ _ _ (fun _ => True) (fun _ => False) rfl rfl ?aO ?aR (fun _ _ h => h) (fun _ h => h.elim) ?aF ?aB ?aS ?aL ?_; (case aR => repeat (first | exact (Kd.C_below HR0.out HB.out) | (with_reducible refine Kd.C_alloc ?_ _) | (with_reducible refine Kd.C_drewN ?_ _) | (with_reducible refine Kd.C_drew ?_))); (case aB => exact (mB HB.out)); (case aF => exact (fun _ _ => trivial)); (case aO => exact (mR HO234.out)); (case aS => exact (below_size (mB HB.out))); (case aL => have := LMc3.out; omega); intro v236 w6 ho hb hg hat; rw [← Ny235.out] at ho; have n0_ := Aside0.mk (hb); have n1_ := Aside0.mk (ho); clear HB; clear HO234; have HB := n0_; have HO237 := n1_; clear n0_ n1_; clear ho hb hg hat))
  try simp only [Act.put, List.setIfInBounds_toArray, List.set_cons_zero, List.set_cons_succ]
  go_loopg [1, 5] k (fun kq v1 v5 w' => ∃ (x1_1 : Int) (x5_1 : List Int), v1 = .int .u64 x1_1 ∧ Aside0 (columbariumref1_Put.l0 kq x1_1 x5_1 = some r) ∧ Aside0 (kq ≤ k) ∧ Aside0 (Kd.R (Kd.int .u8) 5 w' w.heap.size (fun _ => True) v5 x5_1) ∧ Aside0 (Below w.heap.size w w'))
  case atStart => exact ⟨(a1), (y235), (by first | rfl | (simp; done) | (simp [*]; done)), H', ⟨Nat.le_refl _⟩, ⟨mR HO237.out⟩, ⟨mB HB.out⟩⟩
  case round =>
   clear H'
   try clear c3
   obtain ⟨x1_1, x5_1, rfl, HA, HK1, HO_5, HB⟩ := hrel
   cases gk with
   | zero => exact absurd HA.out (by simp [columbariumref1_Put.l0])
   | succ k1 =>
    have H := HA.out
    clear HA
    simp only [columbariumref1_Put.l0] at H
    by_cases c7 : x1_1 ≥ 128
    ·rw [if_pos c7] at H
     have c7b0 : decide (128 ≤ x1_1) = true := decide_eq_true c7
     clear c7
     by_cases c8 : x5_1.length < 140737488355328
     ·rw [if_pos c8] at H
      have LMc8 := Aside0.mk c8
      clear c8
      obtain ⟨y238, hy238⟩ : ∃ y_ : List Int, y_ = (x5_1 ++ [((Int.tmod x1_1 128) + 128) % 256]) := ⟨_, rfl⟩
      replace H : (columbariumref1_Put.l0 k1 (IntKind.u64.wrap (Int.tdiv x1_1 128)) y238) = some r := by first | (rw [hy238]; with_reducible exact H) | (have H2_ := (Option.bind_some _ _).symm.trans H; rw [hy238]; with_reducible exact H2_) | (have H2_ := (Option.bind_some _ _).symm.trans H; with_reducible exact H2_) | with_reducible exact H | (rw [hy238]; exact H) | exact H
      have Ny238 := Aside0.mk hy238
      clear hy238
      have H' := Aside0.mk H
      clear H
      go_wp2_with (first | ((with_reducible refine gate_builtin (b := .append) (xs := #[.tmp 11, .tmp 16]) rfl ?_); at_builtin; refine Kd.R_append (Kd.int .u8) (w0 := w) w.heap.size rfl (.tmp 11) (.tmp 16) 24 5 (.int .u8 0) 1 rfl Try.underlying24 info5 rfl (by decide) (by omega) u5 x5_1 (((Int.tmod x1_1 128) + 128) % 256) [.int .u8 (((Int.tmod x1_1 128) + 128) % 256)] (fun _ => True) (fun _ => False) rfl rfl ?aP (fun _ hk => hk.elim) ?aF ?aO ?aB ?aS ?aL ?_; (case aP => exact rfl); (case aB => exact (mB HB.out)); (case aF => exact (fun _ _ => trivial)); (case aO => exact (mR HO_5.out)); (case aS => exact (below_size (mB HB.out))); (case aL => have := LMc8.out; omega); intro v239 w9 ho hb hg hat; rw [← Ny238.out] at ho; have n0_ := Aside0.mk (hb); have n1_ := Aside0.mk (ho); clear HB; clear HO_5; have HB := n0_; have HO240 := n1_; clear n0_ n1_; clear ho hb hg hat))
      go_roundg k1
      case measure => have := HK1.out; omega
      case rel => exact ⟨(IntKind.u64.wrap (Int.tdiv x1_1 128)), (y238), (by first | rfl | (simp; done) | (simp [*]; done)), H', ⟨by have := HK1.out; omega⟩, ⟨mR HO240.out⟩, ⟨mB HB.out⟩⟩
     ·rw [if_neg c8] at H
      exact absurd H (by simp)
    ·rw [if_neg c7] at H
     have c7b0 : decide (128 ≤ x1_1) = false := decide_eq_false c7
     clear c7
     by_cases c10 : x5_1.length < 140737488355328
     ·rw [if_pos c10] at H
      have LMc10 := Aside0.mk c10
      clear c10
      obtain ⟨y241, hy241⟩ : ∃ y_ : List Int, y_ = (x5_1 ++ [(x1_1) % 256]) := ⟨_, rfl⟩
      replace H : (some y241) = some r := by first | (rw [hy241]; with_reducible exact H) | (have H2_ := (Option.bind_some _ _).symm.trans H; rw [hy241]; with_reducible exact H2_) | (have H2_ := (Option.bind_some _ _).symm.trans H; with_reducible exact H2_) | with_reducible exact H | (rw [hy241]; exact H) | exact H
      have Ny241 := Aside0.mk hy241
      clear hy241
      obtain rfl := Option.some.inj H
      go_wp2_with (first | ((with_reducible refine gate_builtin (b := .append) (xs := #[.tmp 20, .tmp 23]) rfl ?_); at_builtin; refine Kd.R_append (Kd.int .u8) (w0 := w) w.heap.size rfl (.tmp 20) (.tmp 23) 24 5 (.int .u8 0) 1 rfl Try.underlying24 info5 rfl (by decide) (by omega) u5 x5_1 ((x1_1) % 256) [.int .u8 ((x1_1) % 256)] (fun _ => True) (fun _ => False) rfl rfl ?aP (fun _ hk => hk.elim) ?aF ?aO ?aB ?aS ?aL ?_; (case aP => exact rfl); (case aB => exact (mB HB.out)); (case aF => exact (fun _ _ => trivial)); (case aO => exact (mR HO_5.out)); (case aS => exact (below_size (mB HB.out))); (case aL => have := LMc10.out; omega); intro v242 w11 ho hb hg hat; rw [← Ny241.out] at ho; have n0_ := Aside0.mk (hb); have n1_ := Aside0.mk (ho); clear HB; clear HO_5; have HB := n0_; have HO243 := n1_; clear n0_ n1_; clear ho hb hg hat))
      go_ret
      exact ⟨_, by first | rfl | (simp [errW_none, errW_some] <;> rfl) | (simp [*, errW_none, errW_some] <;> rfl), mR HO243.out, mB HB.out⟩
     ·rw [if_neg c10] at H
      exact absurd H (by simp)
 ·rw [if_neg c3] at H
  exact absurd H (by simp)

end Go.Proofs.Ytifcocmmapgebaa.QBloomTells
