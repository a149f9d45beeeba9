/- Bytes put behind a file's: the walk of Append. -/
import Derived.Test.YtoninmgglcepmaaD5
import Derived.WideLaws
import Derived.Lib.Hide
namespace Go.Proofs.Ytoninmgglcepmaa.Dk
open RegD Go.RowKit Go.ChangeMaps Go.Proofs.YtoninmgglcepmaaW.PrintWords Go.Proofs.YtoninmgglcepmaaW.PrintLast Go.Proofs.YtoninmgglcepmaaW.PrintMore Mp
attribute [local go_sem] max2_int min2_int max_two min_two max_three min_three max_four min_four
set_option linter.unusedVariables false
set_option linter.unusedSimpArgs false
theorem info5 : (Try.prog.info? 5).map (fun i => (i.zero, i.size, i.bytes)) = some (some (.int .u8 0), 1, 1) := by kernel_rfl
theorem range_perm {w : World} {b r : Nat} {l left left2 : List (ByteArray × Value)} (h : RangeB w b r l left) (hp : left.Perm left2) : RangeB w b r l left2 := by
  obtain ⟨es, clock, since, seen, c0, h1, h2, h3, h4, h5, h6, h7, h8, h9⟩ := h
  exact ⟨es, clock, since, seen, c0, h1, h2, h3, h4, h5, h6, h7, h8, h9.trans (hp.map _)⟩
theorem ptrs_pick {L : List (ByteArray × Nat)} {s : ByteArray} {v : Value} {left : List (ByteArray × Value)} (h : (ptrs L).Perm ((s, v) :: left)) : ∃ g L', L.Perm ((s, g) :: L') ∧ v = pv (some g) ∧ left.Perm (ptrs L') := by
  have hm : (s, v) ∈ ptrs L := h.symm.subset (List.mem_cons_self ..)
  obtain ⟨⟨s', g⟩, hm', he⟩ := List.mem_map.1 hm
  simp only [Prod.mk.injEq] at he
  obtain ⟨rfl, rfl⟩ := he
  obtain ⟨A, B, rfl⟩ := List.append_of_mem hm'
  have hp : (A ++ (s', g) :: B).Perm ((s', g) :: (A ++ B)) := List.perm_middle
  refine ⟨g, A ++ B, hp, rfl, ?_⟩
  have h2 := h.symm.trans (hp.map fun p : ByteArray × Nat => (p.1, pv (some p.2)))
  exact (List.perm_cons _).1 h2
/-- How many bytes the file of a block has. -/
def lenOf (d : DSt) (g : Nat) : Nat := ((d.fs.find? fun f => decide (f.g = g)).map (·.bs.length)).getD 0
def sumL (d : DSt) (L : List (ByteArray × Nat)) : Nat := (L.map fun p => lenOf d p.2).sum
theorem sumL_perm {d : DSt} {L L' : List (ByteArray × Nat)} (h : L.Perm L') : sumL d L = sumL d L' := (h.map _).sum_nat
theorem lenOf_mem {w : World} {d : DSt} (h : DiskAt w d) {f : FS} (hf : f ∈ d.fs) : lenOf d f.g = f.bs.length := by
  unfold lenOf
  cases hx : d.fs.find? fun x => decide (x.g = f.g) with
  | none =>
    have := List.find?_eq_none.1 hx f hf
    simp at this
  | some x =>
    have h1 := List.find?_some hx
    have h2 := List.mem_of_find?_eq_some hx
    rw [h.hg x h2 f hf (by simpa using h1)]
    rfl
/-- Each name's file is there. -/
def Ok (d : DSt) : Prop := ∀ p ∈ d.dir, ∃ f ∈ d.fs, f.g = p.2
/-- A file's row has grown, and lies in the file's block. -/
theorem app_file {w w1 : World} {d : DSt} (h : DiskAt w d) {f : FS} (hf : f ∈ d.fs) {v1 : Value} {bs1 : List Int} (hr : Kd.R (Kd.int .u8) 5 w1 0 (fun _ => True) v1 bs1) (hg : w.grownBy w1 f.v.ownBlock) (hat : v1.ownBlock = f.v.ownBlock ∨ ∃ b, v1.ownBlock = some b ∧ w.heap.size ≤ b) :
    DiskAt (w1.setCell ⟨f.g, 0, none⟩ v1) { d with fs := updF d.fs f.g fun x => { x with v := v1, bs := bs1, safe := f.safe } } := by
  have hg2 := grown_set (Below.refl w1.heap.size w1) f.g 0 v1
  have hb1 := blk_grown (h.hf f hf).hb hg (fun he => h.f_v hf hf he.symm)
  refine h.upd hf (fun k h1 h2 h3 => (hg2.block k (Nat.lt_of_lt_of_le h1 hg.size) (fun he => h2 (by injection he))).trans (hg.block k h1 (fun he => h3 he.symm))) ⟨blk_put hb1 0 _ rfl, row_same rfl hr (fun k hk => hg2.block k (Kd.R_lt hr k hk) (fun he => ?_))⟩ (hat.elim .inl (fun h => .inr (.inr h)))
  injection he with he
  subst he
  obtain ⟨cs, hcs⟩ := Kd.R_typed hr _ hk
  exact blk_ne hb1 hcs (by decide) rfl
theorem C_same {k : IntKind} {w w' : World} {A : Option Addr} {n : Nat} {xs : List Int} (h : Kd.C (Kd.int k) w A n xs) (hA : 0 < n → ∀ ad, A = some ad → w'.heap[ad.block]? = w.heap[ad.block]?) : Kd.C (Kd.int k) w' A n xs := by
  obtain ⟨h1, h2, h3⟩ := h
  refine ⟨h1, h2, fun hp => ?_⟩
  obtain ⟨ad, e, h4⟩ := h3 hp
  refine ⟨ad, e, fun i p hip => ?_⟩
  obtain ⟨cs, k1, k2, k3⟩ := h4 i p hip
  refine ⟨cs, k1, k2, fun j u hu => ?_⟩
  rw [← k3 j u hu]
  exact World.cell?_of_block (by
    have : ∀ (a : Addr) (m : Nat), (a.add m).block = a.block := fun a m => by unfold Addr.add; split <;> rfl
    rw [this]
    exact hA hp ad e)
theorem foot_add {d : DSt} {g k : Nat} (h : ¬ Foot d k) (hg : k ≠ g) : ¬ Foot { d with fs := d.fs ++ [⟨g, .slice none 0 0, [], 0⟩] } k := by
  rintro (h1 | h1 | h1 | h1 | ⟨x, hx, h1⟩)
  · exact h (.inl h1)
  · exact h (.inr (.inl h1))
  · exact h (.inr (.inr (.inl h1)))
  · exact h (.inr (.inr (.inr (.inl h1))))
  · rcases List.mem_append.1 hx with hx | hx
    · exact h (.inr (.inr (.inr (.inr ⟨x, hx, h1⟩))))
    · obtain rfl := List.mem_singleton.1 hx
      rcases h1 with h1 | h1
      · exact hg h1
      · simp [Value.ownBlock] at h1
theorem foot_add' {w : World} {d : DSt} {g k : Nat} (h : Foot { d with fs := d.fs ++ [⟨g, .slice none 0 0, [], 0⟩] } k) (hs : w.heap.size ≤ g) : Foot d k ∨ w.heap.size ≤ k := by
  rcases h with h1 | h1 | h1 | h1 | ⟨x, hx, h1⟩
  · exact .inl (.inl h1)
  · exact .inl (.inr (.inl h1))
  · exact .inl (.inr (.inr (.inl h1)))
  · exact .inl (.inr (.inr (.inr (.inl h1))))
  · rcases List.mem_append.1 hx with hx | hx
    · exact .inl (.inr (.inr (.inr (.inr ⟨x, hx, h1⟩))))
    · obtain rfl := List.mem_singleton.1 hx
      rcases h1 with h1 | h1
      · exact .inr (by simp only at h1; omega)
      · simp [Value.ownBlock] at h1
theorem updF_last {fs : List FS} {x : FS} {u : FS → FS} (h : ∀ f ∈ fs, f.g ≠ x.g) : updF (fs ++ [x]) x.g u = fs ++ [u x] := by
  unfold updF
  rw [List.map_append]
  congr 1
  · conv => rhs; rw [← List.map_id fs]
    exact List.map_congr_left fun f hf => by rw [if_neg (h f hf)]; rfl
  · simp
theorem foot_new {w wn w5 : World} {d : DSt} {g : Nat} {v1 vc : Value} {dir : List (ByteArray × Nat)} {chg : List Chg} {b : List Int} {q : Int} (hat5 : vc.ownBlock = d.vch.ownBlock ∨ ∃ b, vc.ownBlock = some b ∧ wn.heap.size ≤ b) (hat3 : v1.ownBlock = (Value.slice none 0 0).ownBlock ∨ ∃ b, v1.ownBlock = some b ∧ w5.heap.size ≤ b) (hg : w.heap.size ≤ g) (hn : w.heap.size ≤ wn.heap.size) (h5 : w.heap.size ≤ w5.heap.size) (k : Nat)
    (hk : Foot { d with dir := dir, vch := vc, chg := chg, fs := d.fs ++ [⟨g, v1, b, 0⟩], quota := q } k) : Foot d k ∨ w.heap.size ≤ k := by
  rcases hk with h | h | h | h | ⟨x, hx, hk⟩
  · exact .inl (.inl h)
  · exact .inl (.inr (.inl h))
  · exact .inl (.inr (.inr (.inl h)))
  · rcases hat5 with h5 | ⟨b, h5, h6⟩
    · simp only at h
      rw [h5] at h
      exact .inl (.inr (.inr (.inr (.inl h))))
    · simp only at h
      rw [h5] at h
      injection h with h
      exact .inr (by omega)
  · rcases List.mem_append.1 hx with hx | hx
    · exact .inl (.inr (.inr (.inr (.inr ⟨x, hx, hk⟩))))
    · obtain rfl := List.mem_singleton.1 hx
      simp only at hk
      rcases hk with rfl | hk
      · exact .inr hg
      · rcases hat3 with h3 | ⟨b, h3, h6⟩
        · rw [h3] at hk
          simp [Value.ownBlock] at hk
        · rw [h3] at hk
          injection hk with hk
          exact .inr (by omega)
theorem foot_upd {w w1 : World} {d : DSt} {f : FS} {v1 : Value} {bs1 : List Int} {s1 q : Int} (hat : v1.ownBlock = f.v.ownBlock ∨ ∃ b, v1.ownBlock = some b ∧ w1.heap.size ≤ b) (hf : f ∈ d.fs) (hs : w.heap.size ≤ w1.heap.size) (k : Nat) (hk : Foot { d with fs := updF d.fs f.g (fun x => { x with v := v1, bs := bs1, safe := s1 }), quota := q } k) : Foot d k ∨ w.heap.size ≤ k := by
  rcases hk with h | h | h | h | ⟨x, hx, hk⟩
  · exact .inl (.inl h)
  · exact .inl (.inr (.inl h))
  · exact .inl (.inr (.inr (.inl h)))
  · exact .inl (.inr (.inr (.inr (.inl h))))
  · obtain ⟨f', hf', ⟨he, rfl⟩ | ⟨he, rfl⟩⟩ := mem_updF hx
    · rcases hk with hk | hk
      · exact .inl (.inr (.inr (.inr (.inr ⟨f', hf', .inl hk⟩))))
      · rcases hat with hat | ⟨b, hat, hb⟩
        · simp only at hk
          rw [hat] at hk
          exact .inl (.inr (.inr (.inr (.inr ⟨f, hf, .inr hk⟩))))
        · simp only at hk
          rw [hat] at hk
          injection hk with hk
          right
          omega
    · exact .inl (.inr (.inr (.inr (.inr ⟨_, hf', hk⟩))))
theorem mem_le_sum {l : List Nat} {x : Nat} (h : x ∈ l) : x ≤ l.sum := by
  induction l with
  | nil => cases h
  | cons a l ih =>
    rw [List.sum_cons]
    rcases List.mem_cons.1 h with rfl | h
    · omega
    · have := ih h; omega
theorem getM_mem {l : List (ByteArray × Nat)} {s : ByteArray} {g : Nat} (h : getM l s = some g) : (s, g) ∈ l := by
  induction l with
  | nil => cases h
  | cons p l ih =>
    unfold getM at h
    split at h
    · next hc =>
      obtain ⟨a, b⟩ := p
      injection h with h
      simp only at hc h
      subst hc h
      exact List.mem_cons_self ..
    · exact List.mem_cons_of_mem _ (ih h)
/-- Append's refusal. -/
def appE (d : DSt) (name : ByteArray) (n : Nat) : Int :=
  if badName name = true then 20 else if getM d.dir name = none ∧ 4096 ≤ d.dir.length then 4
  else if 16777216 < n + sumL d d.dir ∨ (0 ≤ d.quota ∧ d.quota < (n : Int)) then 13 else 0
def newQ (d : DSt) (n : Nat) : Int := if 0 ≤ d.quota then d.quota - (n : Int) else d.quota
/-- What Append leaves. -/
def AppOk (d : DSt) (name : ByteArray) (b : List Int) (d' : DSt) : Prop :=
  (∃ f v1, f ∈ d.fs ∧ getM d.dir name = some f.g ∧ d' = { d with fs := updF d.fs f.g fun x => { x with v := v1, bs := f.bs ++ b, safe := f.safe }, quota := newQ d b.length }) ∨
  (∃ g v1 vch1, getM d.dir name = none ∧ (∀ f ∈ d.fs, f.g ≠ g) ∧ d' = { d with dir := putM d.dir name g, vch := vch1, chg := d.chg ++ [⟨0, name, ⟨#[]⟩, some g⟩], fs := d.fs ++ [⟨g, v1, b, 0⟩], quota := newQ d b.length })
def AppPost (w : World) (d : DSt) (name : ByteArray) (b : List Int) (e : Ending) (w' : World) : Prop :=
  e = .returned (.int .i64 (appE d name b.length)) ∧
  ((appE d name b.length ≠ 0 ∧ DiskAt w' d ∧ Below w.heap.size w w') ∨
   (appE d name b.length = 0 ∧ ∃ d', AppOk d name b d' ∧ DiskAt w' d' ∧ Kept w w' (Foot d) ∧ ∀ k, Foot d' k → Foot d k ∨ w.heap.size ≤ k))
set_option maxHeartbeats 8000000 in
set_option maxRecDepth 100000 in
theorem appendC {w : World} {d : DSt} (h : DiskAt w d) (ho : Ok d) (name : ByteArray) (A : Option Addr) (cp : Nat) (b : List Int) (hr : Kd.C (Kd.int .u8) w A b.length b) (hsum : b.length + sumL d d.dir ≤ 1000000000000) (hch : d.chg.length ≤ 1000000000) (hdl : d.dir.length ≤ 1000000000) (hq : -9223372036854775808 ≤ d.quota ∧ d.quota ≤ 9223372036854775807) (hA : 0 < b.length → ∀ ad, A = some ad → ad.block < w.heap.size ∧ ¬ Foot d ad.block) :
    Calls Try.prog 13 #[.pointer (some ⟨d.gd, 0, none⟩), .string name, .slice A b.length cp] w (AppPost w d name b) := by
  have hc0 := blk_cell h.hd 0
  replace hc0 : w.cell? ⟨d.gd, 0, none⟩ = some (.map (some d.bd)) := hc0
  have hlk := look_dir h.hm name
  obtain ⟨oR, hrg, hRB⟩ := range_start (P := Try.prog) h.hm Try.underlying56
  have HF := Aside0.mk (fun k (hk : Foot d k) => h.foot hk)
  have HD1 := Aside0.mk (h.below (below_alloc (Below.refl _ _) oR))
  have HB1 := Aside0.mk (below_alloc (Below.refl w.heap.size w) oR)
  have HRB := Aside0.mk hRB
  have HR := Aside0.mk hr
  have HS := Aside0.mk hsum
  have HO := Aside0.mk ho
  have HDL := Aside0.mk hdl
  have HCH := Aside0.mk hch
  have HD0 := Aside0.mk h
  have HQB := Aside0.mk hq
  have HA0 := Aside0.mk hA
  generalize hpf : pv (getM d.dir name) = pf at hlk
  have HPF := Aside0.mk hpf
  clear h hRB hr hsum ho hch hdl hpf hq hA
  go_enter Try.func13, Try.ntmps13
  go_wp2
  go_loopg [8] (d.dir.length + 1) (fun kq v8 w' => ∃ (L : List (ByteArray × Nat)) (acc : Nat), v8 = .int .i64 (acc : Int) ∧ Aside0 (L.length + 1 ≤ kq) ∧ Aside0 (acc + sumL d L = b.length + sumL d d.dir) ∧ Aside0 (∀ p ∈ L, ∃ f ∈ d.fs, f.g = p.2) ∧ Aside0 (RangeB w' d.bd w.heap.size (ptrs d.dir) (ptrs L)) ∧ Aside0 (DiskAt w' d) ∧ Aside0 (Below w.heap.size w w'))
  case atStart => exact ⟨d.dir, b.length, rfl, ⟨by omega⟩, ⟨rfl⟩, HO, HRB, HD1, HB1⟩
  case round =>
    clear HD1 HB1 HRB
    obtain ⟨L, acc, rfl, HK, HSm, HOk, HRg, HD, HB⟩ := hrel
    cases gk with
    | zero => have := HK.out; omega
    | succ k1 =>
      rcases range_next (P := Try.prog) HRg.out 0 with ⟨h0, hrun⟩ | ⟨s, v, left', w1, o, hp, hw1, hnext, hR2, hent⟩
      · have hL : L = [] := by cases L with | nil => rfl | cons a l => simp [ptrs] at h0
        subst hL
        have hacc : acc = b.length + sumL d d.dir := by have := HSm.out; simpa [sumL] using this
        have HAC := Aside0.mk hacc
        have HDr := Aside0.mk (HD.out.below (below_alloc (Below.refl _ _) (.cells #[.string name] 9)))
        have HBr := Aside0.mk (below_alloc HB.out (.cells #[.string name] 9))
        clear h0 HSm HOk HRg HK hacc
        by_cases hb : badName name = true
        · have hn := names1 name wr (t := false) (by rw [hb]; rfl)
          have hE : appE d name b.length = 20 := by unfold appE; rw [if_pos hb]
          have HE := Aside0.mk hE
          clear hb hE
          go_wp2_with (go_at_call 36; refine hn.mono ?_; rintro e w2 ⟨rfl, rfl⟩)
          go_ret
          exact ⟨by rw [HE.out]; rfl, .inl ⟨by rw [HE.out]; decide, HDr.out, HBr.out⟩⟩
        have hb' : badName name = false := by simpa using hb
        obtain ⟨wn, hwn⟩ : ∃ x, x = wr.alloc (.cells #[.string name] 9) := ⟨_, rfl⟩
        have hn := (names1 name wr (t := true) (by rw [hb']; rfl)).mono fun e w' (hh : _ ∧ _) => (⟨hh.1, hwn.trans hh.2⟩ : e = .returned (.bool true) ∧ wn = w')
        rw [← hwn] at HDr HBr
        have HBN := Aside0.mk hb'
        clear hb hb' HD HB
        clear hwn
        have hcq : wn.cell? ⟨d.gd, 3, none⟩ = some (.int .i64 d.quota) := blk_cell HDr.out.hd 3
        have hcm : wn.cell? ⟨d.gd, 0, none⟩ = some (.map (some d.bd)) := blk_cell HDr.out.hd 0
        obtain ⟨es, clk, hes, hesz⟩ := map_size HDr.out.hm
        have hesz' : es.size = d.dir.length := by rw [hesz]; simp [ptrs]
        have hlm0 : (Builtin.len_ #[56] 3 #[.map (some d.bd)]).run Try.prog wn = .ok (.int .i64 (d.dir.length : Int)) wn := by have := run_len_map (P := Try.prog) wn 56 3 d.bd es clk Try.underlying56 hes; rw [hesz'] at this; exact this
        clear hes hesz hesz'
        have HBC := Aside0.mk (Kd.C_below HR.out HBr.out)
        cases hgm : getM d.dir name with
        | none =>
          rw [hgm] at HPF
          obtain rfl : Value.pointer none = pf := HPF.out
          have HGM := Aside0.mk hgm
          by_cases c4 : 4096 ≤ d.dir.length
          · have c4b : decide ((4096 : Int) ≤ (d.dir.length : Int)) = true := decide_eq_true (by omega)
            have hE : appE d name b.length = 4 := by unfold appE; rw [HBN.out, if_neg (by decide), if_pos ⟨HGM.out, c4⟩]
            clear c4 hgm
            have HE := Aside0.mk hE
            clear hE
            go_wp2_with (go_at_call 36; refine hn.mono ?_; rintro e w2 ⟨rfl, rfl⟩)
            go_ret
            exact ⟨by rw [HE.out]; rfl, .inl ⟨by rw [HE.out]; decide, HDr.out, HBr.out⟩⟩
          have c4b : decide ((4096 : Int) ≤ (d.dir.length : Int)) = false := decide_eq_false (by omega)
          have HM4 := Aside0.mk c4
          clear c4 hgm
          by_cases c13 : 16777216 < b.length + sumL d d.dir
          · have c1b : decide ((16777216 : Int) < (acc : Int)) = true := decide_eq_true (by have := HAC.out; omega)
            have hE : appE d name b.length = 13 := by unfold appE; rw [HBN.out, if_neg (by decide), if_neg (fun hh => HM4.out hh.2), if_pos (.inl c13)]
            clear c13
            have HE := Aside0.mk hE
            clear hE
            go_wp2_with (go_at_call 36; refine hn.mono ?_; rintro e w2 ⟨rfl, rfl⟩)
            go_ret
            exact ⟨by rw [HE.out]; rfl, .inl ⟨by rw [HE.out]; decide, HDr.out, HBr.out⟩⟩
          have c1b : decide ((16777216 : Int) < (acc : Int)) = false := decide_eq_false (by have := HAC.out; omega)
          by_cases cq : 0 ≤ d.quota
          · have c2b : decide (0 ≤ d.quota) = true := decide_eq_true cq
            by_cases cl : d.quota < (b.length : Int)
            · have c3b : decide (d.quota < (b.length : Int)) = true := decide_eq_true cl
              have hE : appE d name b.length = 13 := by unfold appE; rw [HBN.out, if_neg (by decide), if_neg (fun hh => HM4.out hh.2), if_pos (.inr ⟨cq, cl⟩)]
              clear c13 cq cl
              have HE := Aside0.mk hE
              clear hE
              go_wp2_with (go_at_call 36; refine hn.mono ?_; rintro e w2 ⟨rfl, rfl⟩)
              go_ret
              exact ⟨by rw [HE.out]; rfl, .inl ⟨by rw [HE.out]; decide, HDr.out, HBr.out⟩⟩
            · have c3b : decide (d.quota < (b.length : Int)) = false := decide_eq_false cl
              have hE : appE d name b.length = 0 := by unfold appE; rw [HBN.out, if_neg (by decide), if_neg (fun hh => HM4.out hh.2), if_neg (fun hh => hh.elim c13 (fun h2 => cl h2.2))]
              have HQ := Aside0.mk (show newQ d b.length = d.quota - (b.length : Int) from by unfold newQ; rw [if_pos cq])
              have hwq : IntKind.i64.wrap (d.quota - (b.length : Int)) = d.quota - (b.length : Int) := by have := HQB.out; rw [IntKind.wrap_i64]; omega
              clear c13 cq cl
              have HE := Aside0.mk hE
              clear hE
              have HDN := Aside0.mk HDr.out.add
              have hszn : wn.heap.size = wn.heap.size := rfl
              have HB6 := Aside0.mk (below_alloc HBr.out (.cells #[.slice none 0 0, .int .i64 0] 62))
              have HGF := Aside0.mk (show ∀ f ∈ d.fs, f.g ≠ wn.heap.size from fun f hf => Nat.ne_of_lt (blk_lt (HDr.out.hf f hf).hb))
              have HSZ := Aside0.mk HBr.out.size
              clear hszn
              have HT := Lib.hid (turnC HDN.out ⟨0, name, ⟨#[]⟩, some wn.heap.size⟩ (l2 := putM d.dir name wn.heap.size) rfl (by have := HCH.out; show (d.chg.length + 1) * 48 ≤ _; omega))
              generalize hgn : wn.heap.size = gN at HDN HGF HSZ HT
              go_wp2_with (first
                | (go_at_call 36; refine hn.mono ?_; rintro e w2 ⟨rfl, rfl⟩)
                | (go_at_call 37; (refine HT.out.mono ?_); rintro e w5 ⟨vc, rfl, hD5, hat5, hK5⟩; have HD5 := Aside0.mk hD5; have HAT5 := Aside0.mk hat5; have HK5 := Aside0.mk hK5; have HFm := Aside0.mk (show (⟨gN, .slice none 0 0, [], 0⟩ : FS) ∈ d.fs ++ [⟨gN, .slice none 0 0, [], 0⟩] from List.mem_append_right _ (List.mem_singleton.2 rfl)); have hcf : w5.cell? ⟨gN, 0, none⟩ = some (.slice none 0 0) := blk_cell (hD5.hf _ HFm.out).hb 0; have hff := blk_frozen (hD5.hf _ HFm.out).hb 0; have HBC5 := Aside0.mk (C_same (Kd.C_below HBC.out (below_alloc (Below.refl _ _) (.cells #[.slice none 0 0, .int .i64 0] 62))) (fun hp ad he => hK5.2 _ (Nat.lt_of_lt_of_le (HA0.out hp ad he).1 HB6.out.size) (foot_add (HA0.out hp ad he).2 (by have h1 := (HA0.out hp ad he).1; have h2 := HSZ.out; omega)))); clear hD5 hat5 hK5)
                | ((with_reducible refine gate_builtin (b := .append) (xs := #[.tmp 84, .tmp 85]) rfl ?_); at_builtin; refine Kd.R_append_rows (Kd.int .u8) (w0 := w5) 0 rfl (.tmp 84) (.tmp 85) 29 5 (.int .u8 0) 1 rfl Try.underlying29 info5 rfl (by decide) (by omega) (.slice none 0 0) ([] : List Int) b _ _ _ (fun _ => True) (fun _ => False) rfl rfl (Kd.R_nil _ _ _ _ _) HBC5.out (fun _ _ h => h) (fun _ h => h.elim) (fun _ _ => trivial) (Below.refl 0 w5) (Nat.zero_le _) (by have := HS.out; simp only [List.length_nil]; omega) ?_; intro v3 w3 ho3 hb3 hg3 hat3; clear hb3; replace ho3 : Kd.R (Kd.int .u8) 5 w3 0 (fun _ => True) v3 b := ho3; obtain ⟨A3, c3, e3⟩ := Kd.R_slice ho3; subst e3; have HO3 := Aside0.mk ho3; have HG3 := Aside0.mk hg3; have HA3 := Aside0.mk hat3; have hx1 := blk_grown (HD5.out.hf _ HFm.out).hb hg3 (fun he => by cases he); have hx2 := blk_grown HD5.out.hd hg3 (fun he => by cases he); have hcf3 : w3.cell? ⟨gN, 0, none⟩ = some (.slice none 0 0) := blk_cell hx1 0; have hff3 := blk_frozen hx1 0; have HN3 := Aside0.mk (app_file HD5.out HFm.out ho3 hg3 hat3); have hcq3 : w3.cell? ⟨d.gd, 3, none⟩ = some (.int .i64 d.quota) := blk_cell hx2 3; have hfq3 := blk_frozen hx2 3; clear ho3 hg3 hat3 hx1 hx2))
              have HN4 := Aside0.mk (HN3.out.put_quota (d.quota - (b.length : Int)))
              go_ret
              refine ⟨by rw [HE.out]; rfl, .inr ⟨HE.out, _, .inr ⟨gN, .slice A3 b.length c3, vc, HGM.out, HGF.out, rfl⟩, ?_, ?_, ?_⟩⟩
              · rw [HQ.out]
                have hx := HN4.out
                rw [show updF (d.fs ++ [⟨gN, .slice none 0 0, [], 0⟩]) gN (fun x => { x with v := .slice A3 b.length c3, bs := b, safe := 0 }) = d.fs ++ [⟨gN, .slice A3 b.length c3, b, 0⟩] from updF_last HGF.out] at hx
                exact hx
              · exact (Kept.of_grown (grown_set (Below.refl _ _) d.gd 3 _) (Kept.of_grown (grown_set (Below.refl w3.heap.size w3) gN 0 _) (Kept.of_grown HG3.out ((Kept.of_below HB6.out (Foot d)).then_ HK5.out (fun k hk => foot_add' hk HSZ.out)) (fun k hk => by cases hk)) (fun k hk => by injection hk with hk; exact .inr (by have := HSZ.out; omega))) (fun k hk => by injection hk with hk; exact .inl (.inl hk.symm)))
              · exact foot_new HAT5.out HA3.out HSZ.out HB6.out.size (Nat.le_trans HB6.out.size HK5.out.1)
          · have c2b : decide (0 ≤ d.quota) = false := decide_eq_false cq
            have hE : appE d name b.length = 0 := by unfold appE; rw [HBN.out, if_neg (by decide), if_neg (fun hh => HM4.out hh.2), if_neg (fun hh => hh.elim c13 (fun h2 => cq h2.1))]
            have HQ := Aside0.mk (show newQ d b.length = d.quota from by unfold newQ; rw [if_neg cq])
            clear c13 cq
            have HE := Aside0.mk hE
            clear hE
            have HDN := Aside0.mk HDr.out.add
            have hszn : wn.heap.size = wn.heap.size := rfl
            have HB6 := Aside0.mk (below_alloc HBr.out (.cells #[.slice none 0 0, .int .i64 0] 62))
            have HGF := Aside0.mk (show ∀ f ∈ d.fs, f.g ≠ wn.heap.size from fun f hf => Nat.ne_of_lt (blk_lt (HDr.out.hf f hf).hb))
            have HSZ := Aside0.mk HBr.out.size
            clear hszn
            have HT := Lib.hid (turnC HDN.out ⟨0, name, ⟨#[]⟩, some wn.heap.size⟩ (l2 := putM d.dir name wn.heap.size) rfl (by have := HCH.out; show (d.chg.length + 1) * 48 ≤ _; omega))
            generalize hgn : wn.heap.size = gN at HDN HGF HSZ HT
            go_wp2_with (first
              | (go_at_call 36; refine hn.mono ?_; rintro e w2 ⟨rfl, rfl⟩)
              | (go_at_call 37; (refine HT.out.mono ?_); rintro e w5 ⟨vc, rfl, hD5, hat5, hK5⟩; have HD5 := Aside0.mk hD5; have HAT5 := Aside0.mk hat5; have HK5 := Aside0.mk hK5; have HFm := Aside0.mk (show (⟨gN, .slice none 0 0, [], 0⟩ : FS) ∈ d.fs ++ [⟨gN, .slice none 0 0, [], 0⟩] from List.mem_append_right _ (List.mem_singleton.2 rfl)); have hcf : w5.cell? ⟨gN, 0, none⟩ = some (.slice none 0 0) := blk_cell (hD5.hf _ HFm.out).hb 0; have hff := blk_frozen (hD5.hf _ HFm.out).hb 0; have HBC5 := Aside0.mk (C_same (Kd.C_below HBC.out (below_alloc (Below.refl _ _) (.cells #[.slice none 0 0, .int .i64 0] 62))) (fun hp ad he => hK5.2 _ (Nat.lt_of_lt_of_le (HA0.out hp ad he).1 HB6.out.size) (foot_add (HA0.out hp ad he).2 (by have h1 := (HA0.out hp ad he).1; have h2 := HSZ.out; omega)))); clear hD5 hat5 hK5)
              | ((with_reducible refine gate_builtin (b := .append) (xs := #[.tmp 84, .tmp 85]) rfl ?_); at_builtin; refine Kd.R_append_rows (Kd.int .u8) (w0 := w5) 0 rfl (.tmp 84) (.tmp 85) 29 5 (.int .u8 0) 1 rfl Try.underlying29 info5 rfl (by decide) (by omega) (.slice none 0 0) ([] : List Int) b _ _ _ (fun _ => True) (fun _ => False) rfl rfl (Kd.R_nil _ _ _ _ _) HBC5.out (fun _ _ h => h) (fun _ h => h.elim) (fun _ _ => trivial) (Below.refl 0 w5) (Nat.zero_le _) (by have := HS.out; simp only [List.length_nil]; omega) ?_; intro v3 w3 ho3 hb3 hg3 hat3; clear hb3; replace ho3 : Kd.R (Kd.int .u8) 5 w3 0 (fun _ => True) v3 b := ho3; obtain ⟨A3, c3, e3⟩ := Kd.R_slice ho3; subst e3; have HO3 := Aside0.mk ho3; have HG3 := Aside0.mk hg3; have HA3 := Aside0.mk hat3; have hx1 := blk_grown (HD5.out.hf _ HFm.out).hb hg3 (fun he => by cases he); have hx2 := blk_grown HD5.out.hd hg3 (fun he => by cases he); have hcf3 : w3.cell? ⟨gN, 0, none⟩ = some (.slice none 0 0) := blk_cell hx1 0; have hff3 := blk_frozen hx1 0; have HN3 := Aside0.mk (app_file HD5.out HFm.out ho3 hg3 hat3); have hcq3 : w3.cell? ⟨d.gd, 3, none⟩ = some (.int .i64 d.quota) := blk_cell hx2 3; have hfq3 := blk_frozen hx2 3; clear ho3 hg3 hat3 hx1 hx2))
            go_ret
            refine ⟨by rw [HE.out]; rfl, .inr ⟨HE.out, _, .inr ⟨gN, .slice A3 b.length c3, vc, HGM.out, HGF.out, rfl⟩, ?_, ?_, ?_⟩⟩
            · rw [HQ.out]
              have hx := HN3.out
              rw [show updF (d.fs ++ [⟨gN, .slice none 0 0, [], 0⟩]) gN (fun x => { x with v := .slice A3 b.length c3, bs := b, safe := 0 }) = d.fs ++ [⟨gN, .slice A3 b.length c3, b, 0⟩] from updF_last HGF.out] at hx
              exact hx
            · exact (Kept.of_grown (grown_set (Below.refl w3.heap.size w3) gN 0 _) (Kept.of_grown HG3.out ((Kept.of_below HB6.out (Foot d)).then_ HK5.out (fun k hk => foot_add' hk HSZ.out)) (fun k hk => by cases hk)) (fun k hk => by injection hk with hk; exact .inr (by have := HSZ.out; omega)))
            · exact foot_new HAT5.out HA3.out HSZ.out HB6.out.size (Nat.le_trans HB6.out.size HK5.out.1)
        | some g =>
          rw [hgm] at HPF
          obtain rfl : Value.pointer (some ⟨g, 0, none⟩) = pf := HPF.out
          have HGM := Aside0.mk hgm
          clear hgm
          by_cases c13 : 16777216 < b.length + sumL d d.dir
          · have c1b : decide ((16777216 : Int) < (acc : Int)) = true := decide_eq_true (by have := HAC.out; omega)
            have hE : appE d name b.length = 13 := by unfold appE; rw [HBN.out, if_neg (by decide), if_neg (fun hh => by have := HGM.out; rw [this] at hh; exact absurd hh.1 (by simp)), if_pos (.inl c13)]
            clear c13
            have HE := Aside0.mk hE
            clear hE
            go_wp2_with (go_at_call 36; refine hn.mono ?_; rintro e w2 ⟨rfl, rfl⟩)
            go_ret
            exact ⟨by rw [HE.out]; rfl, .inl ⟨by rw [HE.out]; decide, HDr.out, HBr.out⟩⟩
          have c1b : decide ((16777216 : Int) < (acc : Int)) = false := decide_eq_false (by have := HAC.out; omega)
          by_cases cq : 0 ≤ d.quota
          · have c2b : decide (0 ≤ d.quota) = true := decide_eq_true cq
            by_cases cl : d.quota < (b.length : Int)
            · have c3b : decide (d.quota < (b.length : Int)) = true := decide_eq_true cl
              have hE : appE d name b.length = 13 := by unfold appE; rw [HBN.out, if_neg (by decide), if_neg (fun hh => by have := HGM.out; rw [this] at hh; exact absurd hh.1 (by simp)), if_pos (.inr ⟨cq, cl⟩)]
              clear c13 cq cl
              have HE := Aside0.mk hE
              clear hE
              go_wp2_with (go_at_call 36; refine hn.mono ?_; rintro e w2 ⟨rfl, rfl⟩)
              go_ret
              exact ⟨by rw [HE.out]; rfl, .inl ⟨by rw [HE.out]; decide, HDr.out, HBr.out⟩⟩
            · have c3b : decide (d.quota < (b.length : Int)) = false := decide_eq_false cl
              have hE : appE d name b.length = 0 := by unfold appE; rw [HBN.out, if_neg (by decide), if_neg (fun hh => by have := HGM.out; rw [this] at hh; exact absurd hh.1 (by simp)), if_neg (fun hh => hh.elim c13 (fun h2 => cl h2.2))]
              have HQ := Aside0.mk (show newQ d b.length = d.quota - (b.length : Int) from by unfold newQ; rw [if_pos cq])
              have hwq : IntKind.i64.wrap (d.quota - (b.length : Int)) = d.quota - (b.length : Int) := by have := HQB.out; rw [IntKind.wrap_i64]; omega
              clear c13 cq cl
              have HE := Aside0.mk hE
              clear hE
              obtain ⟨⟨gF, vF, bF, sF⟩, hf, hfg⟩ := HO.out _ (getM_mem HGM.out)
              simp only at hfg
              subst hfg
              obtain ⟨Af, cf, ef⟩ := Kd.R_slice (HDr.out.hf _ hf).hr
              simp only at ef
              subst ef
              have HFm := Aside0.mk hf
              have hcf : wn.cell? ⟨gF, 0, none⟩ = some (.slice Af bF.length cf) := blk_cell (HDr.out.hf _ hf).hb 0
              have hff := blk_frozen (HDr.out.hf _ hf).hb 0
              have HRf := Aside0.mk (HDr.out.hf _ hf).hr
              have HGn := Aside0.mk (fun (w3 : World) (hg : wn.grownBy w3 (Value.slice Af bF.length cf).ownBlock) => (⟨blk_grown (HDr.out.hf _ hf).hb hg (fun he => HDr.out.f_v hf hf he.symm), blk_grown HDr.out.hd hg (fun he => HDr.out.gd_v hf he.symm)⟩ : w3.heap[gF]? = some (.cells #[.slice Af bF.length cf, .int .i64 sF] 62 (0, 0)) ∧ w3.heap[d.gd]? = _))
              have hlm : bF.length + b.length ≤ 1000000000000 := by have h1 := lenOf_mem HDr.out hf; have h2 := HS.out; have h3 : lenOf d gF ≤ sumL d d.dir := mem_le_sum (List.mem_map.2 ⟨_, getM_mem HGM.out, rfl⟩); simp only at h1; omega
              have HLM := Aside0.mk hlm
              clear hf hlm
              go_wp2_with (first
                | (go_at_call 36; refine hn.mono ?_; rintro e w2 ⟨rfl, rfl⟩)
                | ((with_reducible refine gate_builtin (b := .append) (xs := #[.tmp 84, .tmp 85]) rfl ?_); at_builtin; refine Kd.R_append_rows (Kd.int .u8) (w0 := wn) 0 rfl (.tmp 84) (.tmp 85) 29 5 (.int .u8 0) 1 rfl Try.underlying29 info5 rfl (by decide) (by omega) (.slice Af bF.length cf) bF b _ _ _ (fun _ => True) (fun _ => False) rfl rfl HRf.out HBC.out (fun _ _ h => h) (fun _ h => h.elim) (fun _ _ => trivial) (Below.refl 0 wn) (Nat.zero_le _) (by have := HLM.out; omega) ?_; intro v3 w3 ho3 hb3 hg3 hat3; clear hb3; obtain ⟨A3, c3, e3⟩ := Kd.R_slice ho3; subst e3; have HO3 := Aside0.mk ho3; have HG3 := Aside0.mk hg3; have HA3 := Aside0.mk hat3; obtain ⟨hx1, hx2⟩ := HGn.out _ hg3; have hcf3 : w3.cell? ⟨gF, 0, none⟩ = some (.slice Af bF.length cf) := blk_cell hx1 0; have hff3 := blk_frozen hx1 0; have HN3 := Aside0.mk (app_file HDr.out HFm.out ho3 hg3 hat3); have hcq3 : w3.cell? ⟨d.gd, 3, none⟩ = some (.int .i64 d.quota) := blk_cell hx2 3; have hfq3 := blk_frozen hx2 3; rw [List.length_append] at HN3 HA3; clear ho3 hg3 hat3 hx1 hx2))
              have HN4 := Aside0.mk (HN3.out.put_quota (d.quota - (b.length : Int)))
              go_ret
              refine ⟨by rw [HE.out]; rfl, .inr ⟨HE.out, _, .inl ⟨⟨gF, .slice Af bF.length cf, bF, sF⟩, .slice A3 (bF.length + b.length) c3, HFm.out, HGM.out, rfl⟩, ?_, ?_, ?_⟩⟩
              · rw [HQ.out]
                exact HN4.out
              · exact (Kept.of_grown (grown_set (Below.refl _ _) d.gd 3 _) (Kept.of_grown (grown_set (Below.refl w3.heap.size w3) gF 0 _) (Kept.of_grown HG3.out (Kept.of_below HBr.out _) (fun k hk => .inl (.inr (.inr (.inr (.inr ⟨_, HFm.out, .inr hk⟩)))))) (fun k hk => by injection hk with hk; exact .inl (.inr (.inr (.inr (.inr ⟨_, HFm.out, .inl hk.symm⟩)))))) (fun k hk => by injection hk with hk; exact .inl (.inl hk.symm)))
              · exact foot_upd HA3.out HFm.out HBr.out.size
          · have c2b : decide (0 ≤ d.quota) = false := decide_eq_false cq
            have hE : appE d name b.length = 0 := by unfold appE; rw [HBN.out, if_neg (by decide), if_neg (fun hh => by have := HGM.out; rw [this] at hh; exact absurd hh.1 (by simp)), if_neg (fun hh => hh.elim c13 (fun h2 => cq h2.1))]
            have HQ := Aside0.mk (show newQ d b.length = d.quota from by unfold newQ; rw [if_neg cq])
            clear c13 cq
            have HE := Aside0.mk hE
            clear hE
            obtain ⟨⟨gF, vF, bF, sF⟩, hf, hfg⟩ := HO.out _ (getM_mem HGM.out)
            simp only at hfg
            subst hfg
            obtain ⟨Af, cf, ef⟩ := Kd.R_slice (HDr.out.hf _ hf).hr
            simp only at ef
            subst ef
            have HFm := Aside0.mk hf
            have hcf : wn.cell? ⟨gF, 0, none⟩ = some (.slice Af bF.length cf) := blk_cell (HDr.out.hf _ hf).hb 0
            have hff := blk_frozen (HDr.out.hf _ hf).hb 0
            have HRf := Aside0.mk (HDr.out.hf _ hf).hr
            have HGn := Aside0.mk (fun (w3 : World) (hg : wn.grownBy w3 (Value.slice Af bF.length cf).ownBlock) => (⟨blk_grown (HDr.out.hf _ hf).hb hg (fun he => HDr.out.f_v hf hf he.symm), blk_grown HDr.out.hd hg (fun he => HDr.out.gd_v hf he.symm)⟩ : w3.heap[gF]? = some (.cells #[.slice Af bF.length cf, .int .i64 sF] 62 (0, 0)) ∧ w3.heap[d.gd]? = _))
            have hlm : bF.length + b.length ≤ 1000000000000 := by have h1 := lenOf_mem HDr.out hf; have h2 := HS.out; have h3 : lenOf d gF ≤ sumL d d.dir := mem_le_sum (List.mem_map.2 ⟨_, getM_mem HGM.out, rfl⟩); simp only at h1; omega
            have HLM := Aside0.mk hlm
            clear hf hlm
            go_wp2_with (first
              | (go_at_call 36; refine hn.mono ?_; rintro e w2 ⟨rfl, rfl⟩)
              | ((with_reducible refine gate_builtin (b := .append) (xs := #[.tmp 84, .tmp 85]) rfl ?_); at_builtin; refine Kd.R_append_rows (Kd.int .u8) (w0 := wn) 0 rfl (.tmp 84) (.tmp 85) 29 5 (.int .u8 0) 1 rfl Try.underlying29 info5 rfl (by decide) (by omega) (.slice Af bF.length cf) bF b _ _ _ (fun _ => True) (fun _ => False) rfl rfl HRf.out HBC.out (fun _ _ h => h) (fun _ h => h.elim) (fun _ _ => trivial) (Below.refl 0 wn) (Nat.zero_le _) (by have := HLM.out; omega) ?_; intro v3 w3 ho3 hb3 hg3 hat3; clear hb3; obtain ⟨A3, c3, e3⟩ := Kd.R_slice ho3; subst e3; have HO3 := Aside0.mk ho3; have HG3 := Aside0.mk hg3; have HA3 := Aside0.mk hat3; obtain ⟨hx1, hx2⟩ := HGn.out _ hg3; have hcf3 : w3.cell? ⟨gF, 0, none⟩ = some (.slice Af bF.length cf) := blk_cell hx1 0; have hff3 := blk_frozen hx1 0; have HN3 := Aside0.mk (app_file HDr.out HFm.out ho3 hg3 hat3); have hcq3 : w3.cell? ⟨d.gd, 3, none⟩ = some (.int .i64 d.quota) := blk_cell hx2 3; have hfq3 := blk_frozen hx2 3; rw [List.length_append] at HN3 HA3; clear ho3 hg3 hat3 hx1 hx2))
            go_ret
            refine ⟨by rw [HE.out]; rfl, .inr ⟨HE.out, _, .inl ⟨⟨gF, .slice Af bF.length cf, bF, sF⟩, .slice A3 (bF.length + b.length) c3, HFm.out, HGM.out, rfl⟩, ?_, ?_, ?_⟩⟩
            · rw [HQ.out]
              exact HN3.out
            · exact (Kept.of_grown (grown_set (Below.refl w3.heap.size w3) gF 0 _) (Kept.of_grown HG3.out (Kept.of_below HBr.out _) (fun k hk => .inl (.inr (.inr (.inr (.inr ⟨_, HFm.out, .inr hk⟩)))))) (fun k hk => by injection hk with hk; exact .inl (.inr (.inr (.inr (.inr ⟨_, HFm.out, .inl hk.symm⟩))))))
            · exact foot_upd HA3.out HFm.out HBr.out.size
      · obtain ⟨g, L', hL, rfl, hp2⟩ := ptrs_pick hp
        obtain ⟨f, hf, rfl⟩ := HOk.out (s, g) (hL.symm.subset (List.mem_cons_self ..))
        have hB1 : Below w.heap.size w w1 := by rcases hw1 with rfl | rfl <;> first | exact HB.out | exact HB.out.drew
        have hD1 : DiskAt w1 d := by rcases hw1 with rfl | rfl <;> first | exact HD.out | exact HD.out.drew
        have hB2 : Below w.heap.size w (setBlock w1 w.heap.size o) := ⟨hB1.os, hB1.tape, hB1.output, Nat.le_trans hB1.size (grown_block (w := w1) (b := w.heap.size) (o := o)).size, fun k hk => ((grown_block (w := w1) (b := w.heap.size) (o := o)).block k (Nat.lt_of_lt_of_le hk hB1.size) (fun he => by injection he with he; omega)).trans (hB1.block k hk)⟩
        have hD2 : DiskAt (setBlock w1 w.heap.size o) d := hD1.off grown_block (fun k hk hF => by injection hk with hk; have := HF.out k hF; omega)
        have hR3 := range_perm hR2 hp2
        generalize setBlock w1 w.heap.size o = w2 at *
        obtain ⟨Af, cf, ef⟩ := Kd.R_slice (hD2.hf f hf).hr
        have hcf := blk_cell (hD2.hf f hf).hb 0
        replace hcf : w2.cell? ⟨f.g, 0, none⟩ = some f.v := hcf
        rw [ef] at hcf
        have hln := lenOf_mem hD2 hf
        have hsm := sumL_perm (d := d) hL
        have hsm2 : sumL d ((s, f.g) :: L') = f.bs.length + sumL d L' := by simp [sumL, hln]
        have hw' : IntKind.i64.wrap ((acc : Int) + (f.bs.length : Int)) = ((acc + f.bs.length : Nat) : Int) := by have := HS.out; have := HSm.out; rw [IntKind.wrap_i64]; omega
        have hrel2 : Aside0 (L'.length + 1 ≤ k1) := ⟨by have := HK.out; have := hL.length_eq; simp at this; omega⟩
        have hrel3 : Aside0 (acc + f.bs.length + sumL d L' = b.length + sumL d d.dir) := ⟨by have := HSm.out; omega⟩
        have hrel4 : Aside0 (∀ p ∈ L', ∃ f ∈ d.fs, f.g = p.2) := ⟨fun p hp => HOk.out p (hL.symm.subset (List.mem_cons_of_mem _ hp))⟩
        have HR3 := Aside0.mk hR3
        have HD2 := Aside0.mk hD2
        have HB2 := Aside0.mk hB2
        clear hR2 hR3 hD2 hB2 hB1 hD1 hsm hsm2 hln hL hp hp2 hw1 HK HSm HOk HRg HD HB ef hf
        unfold pv at *
        dsimp only [Option.map] at hnext hent
        go_wp2
        go_roundg k1
        case measure => omega
        case rel => exact ⟨L', acc + f.bs.length, by first | rfl | (rw [hw']; done) | (simp [hw']; done), hrel2, hrel3, hrel4, HR3, HD2, HB2⟩
end Go.Proofs.Ytoninmgglcepmaa.Dk
