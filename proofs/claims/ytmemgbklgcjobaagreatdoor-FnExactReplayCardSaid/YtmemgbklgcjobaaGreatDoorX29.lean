/-
  Parts of the proofs over mills, of: CoilB, PlainLaw, CutN, RunP, HelpN, Facts, CardD. Conditions: each theorem states its own.
-/
import Derived.Test.YtmemgbklgcjobaaGreatDoorCards
import Derived.Test.YtmemgbklgcjobaaGreatDoorTie
import Derived.Deep.DeepHandedRow
import Derived.LaidMore
import Derived.Test.YtmemgbklgcjobaaGreatDoorX26
import Derived.Test.YtmemgbklgcjobaaGreatDoorX28
set_option linter.unusedSimpArgs false
set_option linter.unusedVariables false
set_option maxRecDepth 10000
namespace Go.Proofs.YtmemgbklgcjobaaGreatDoor
open Go.RowKit
theorem lib_idx (xs : List Int) (x : Int) : Lib.idxOf xs x = if hasI xs x then ((xs.idxOf x : Nat) : Int) else -1 := by
  split
  · rename_i h
    have hm := hasI_iff.1 h
    obtain ⟨h1, h2⟩ := idx_get hm
    have := Lib.idxOf_hit xs xs.length (xs.idxOf x) x h1 (Nat.le_refl _) h2 (fun j hj e => by
      have hjl : j < xs.length := by omega
      have hp := List.not_of_lt_findIdx (p := (· == x)) (xs := xs) (i := j) hj
      rw [List.getD_eq_getElem?_getD, List.getElem?_eq_getElem hjl] at e
      simp at e hp
      exact hp e)
    rwa [List.take_of_length_le (Nat.le_refl _)] at this
  · rename_i h
    have hm : x ∉ xs := fun hm => h (hasI_iff.2 hm)
    have := Lib.idxOf_miss xs xs.length x (fun j hj e => by
      rw [List.getD_eq_getElem?_getD, List.getElem?_eq_getElem hj] at e
      simp at e
      exact hm (by rw [← e]; exact List.getElem_mem _))
    rwa [List.take_of_length_le (Nat.le_refl _)] at this
theorem index_any (v : Value) (xs : List Int) (lo hi : Nat) (n : Int) (w : World) (h : IntsAt lo hi w v xs) :
    Calls Tryz.prog 185 #[v, .int .i64 n] w fun e w' => e = .returned (.int .i64 (if hasI xs n then ((xs.idxOf n : Nat) : Int) else -1)) ∧ w = w' := by
  have hlen := h.len
  obtain ⟨ao, cap, rfl, a1, a2, a3, a4⟩ := h
  rw [← lib_idx]
  rcases Nat.eq_zero_or_pos xs.length with h0 | h0
  · obtain rfl : xs = [] := List.eq_nil_of_length_eq_zero h0
    exact (Tryz.slices_Index_int_empty ao cap n w).mono fun e w' ⟨he, hw⟩ => ⟨he, hw.symm⟩
  · obtain ⟨b, o, rfl, hb1, hb2, hc⟩ := a4 h0
    have := Tryz.slices_Index_int b o xs.length cap xs n w (Nat.le_refl _) (by omega) (fun j hj => by rw [(hc j hj).1, getD_eq hj])
    rw [List.take_of_length_le (Nat.le_refl _)] at this
    exact this.mono fun e w' ⟨he, hw⟩ => ⟨he, hw.symm⟩
set_option maxHeartbeats 800000 in
theorem find_impl (l h : Value) (lo hi : List Int) (id : Int) (w : World) (Hl : IntsAt 0 w.heap.size w l lo) (Hh : IntsAt 0 w.heap.size w h hi) :
    Calls Tryz.prog 168 #[pileV l h, .int .i64 id] w fun e w' => e = .returned (findV (findR lo hi id)) ∧ Below w.heap.size w w' := by
  have HL := hide Hl
  have HH := hide Hh
  have hp := fun W => pile_impl l h lo hi W
  unfold pileV at hp ⊢
  have HP := hide hp
  clear hp Hl Hh
  go_enter Tryz.func168, Tryz.ntmps168
  go_wp2_with fail

  refine calls_at fun wx hwx => ?_
  have A_0 : RowL wx (w.heap.size) 29 [l, h] := by rw [hwx]; exact ((RowL.new _ 29 [l, h]).alloc _)
  have R_0 : RowL wx (w.heap.size + 1) 128 [.bool false, .int .i64 0] := by rw [hwx]; simpa using (RowL.new (World.alloc _ _) 128 [.bool false, .int .i64 0])
  have B_0 : Below w.heap.size w wx := by rw [hwx]; go_grown
  clear hwx
  have hL0 := R_0.lt
  have VL_0 := hide (HL.out.below B_0)
  have VH_0 := hide (HH.out.below B_0)
  have k_c1 := HP.out wx ((VL_0.out).mono (Nat.le_refl _) (VL_0.out).lt (Nat.le_refl _)) ((VH_0.out).mono (Nat.le_refl _) (VH_0.out).lt (Nat.le_refl _))
  cases c1 : pileB lo hi with
  | false =>
    rw [c1] at k_c1
    have Hc1 := hide (show findR lo hi id = none from find_bad c1)
    clear c1
    refine (k_c1).mono ?_
    rintro e w1 ⟨rfl, hb⟩
    have A_1 := A_0.below hb A_0.lt
    have R_1 := R_0.below hb R_0.lt
    have VL_1 := hide (VL_0.out.below hb)
    have VH_1 := hide (VH_0.out.below hb)
    have B_1 := hide (Below.step B_0 hb (Nat.le_refl _))
    have hz1 := hb.size
    clear hb
    have cR0 := R_1.c 0 rfl
    have cR1 := R_1.c 1 rfl
    have fR0 := R_1.frozen 0
    have fR1 := R_1.frozen 1
    clear k_c1
    go_wp2_with fail
    refine bodyPost_ret (by simp [results, Tryz.results168, go_sem, cR0, cR1]; try rfl) rfl ?_
    exact ⟨by rw [Hc1.out]; rfl, ((B_1.out).setCell (by simp) _).setCell (by simp) _⟩
  | true =>
    rw [c1] at k_c1
    have Kc1 := hide c1
    clear c1
    refine (k_c1).mono ?_
    rintro e w1 ⟨rfl, hb⟩
    have A_1 := A_0.below hb A_0.lt
    have R_1 := R_0.below hb R_0.lt
    have VL_1 := hide (VL_0.out.below hb)
    have VH_1 := hide (VH_0.out.below hb)
    have B_1 := hide (Below.step B_0 hb (Nat.le_refl _))
    have hz1 := hb.size
    clear hb
    have cA0 := A_1.c 0 rfl
    have cA1 := A_1.c 1 rfl
    have cR0 := R_1.c 0 rfl
    have cR1 := R_1.c 1 rfl
    have fR0 := R_1.frozen 0
    have fR1 := R_1.frozen 1
    clear k_c1
    by_cases hid : id < 1
    · have HF := hide (find_low (lo := lo) (hi := hi) (show id ≤ 0 by omega))
      go_wp2_with fail
      refine bodyPost_ret (by simp [results, Tryz.results168, go_sem, cR0, cR1]; try rfl) rfl ?_
      exact ⟨by rw [HF.out]; rfl, ((B_1.out).setCell (by simp) _).setCell (by simp) _⟩
    have hF : findR lo hi id = if hasI lo id then some (false, ((lo.idxOf id : Nat) : Int)) else if hasI hi id then some (true, ((hi.idxOf id : Nat) : Int)) else none := by
      unfold findR
      rw [if_pos (by rw [Kc1.out]; simp; omega)]
    have HF := hide hF
    clear hF
    have k_i := index_any l lo _ _ id w1 VL_1.out
    cases c2 : hasI lo id with
    | true =>
      rw [c2] at k_i HF
      simp only [if_true] at k_i HF
      obtain ⟨j, hj⟩ : ∃ j, lo.idxOf id = j := ⟨_, rfl⟩
      rw [hj] at k_i HF
      have hj0 : (0 : Int) ≤ (j : Int) := by omega
      clear hj c2
      go_wp2_with fail
      refine k_i.mono ?_
      rintro e wq ⟨rfl, rfl⟩
      clear k_i
      go_wp2_with fail
      refine bodyPost_ret (by simp [results, Tryz.results168, go_sem, cR0, cR1]; try rfl) rfl ?_
      exact ⟨by rw [HF.out]; rfl, ((B_1.out).setCell (by simp) _).setCell (by simp) _⟩
    | false =>
      rw [c2] at k_i HF
      simp only [Bool.false_eq_true, if_false] at k_i HF
      clear c2
      go_wp2_with fail
      refine k_i.mono ?_
      rintro e wq ⟨rfl, rfl⟩
      clear k_i
      go_wp2_with fail
      have k_i := index_any h hi _ _ id w1 VH_1.out
      cases c3 : hasI hi id with
      | true =>
        rw [c3] at k_i HF
        simp only [if_true] at k_i HF
        obtain ⟨j, hj⟩ : ∃ j, hi.idxOf id = j := ⟨_, rfl⟩
        rw [hj] at k_i HF
        have hj0 : (0 : Int) ≤ (j : Int) := by omega
        clear hj c3
        refine k_i.mono ?_
        rintro e wq ⟨rfl, rfl⟩
        clear k_i
        go_wp2_with fail
        refine bodyPost_ret (by simp [results, Tryz.results168, go_sem, cR0, cR1]; try rfl) rfl ?_
        exact ⟨by rw [HF.out]; rfl, ((B_1.out).setCell (by simp) _).setCell (by simp) _⟩
      | false =>
        rw [c3] at k_i HF
        simp only [Bool.false_eq_true, if_false] at k_i HF
        clear c3
        refine k_i.mono ?_
        rintro e wq ⟨rfl, rfl⟩
        clear k_i
        go_wp2_with fail
        refine bodyPost_ret (by simp [results, Tryz.results168, go_sem, cR0, cR1]; try rfl) rfl ?_
        exact ⟨by rw [HF.out]; rfl, ((B_1.out).setCell (by simp) _).setCell (by simp) _⟩
theorem do_bad {m : Mi} (hv : millB m = false) (d : J) : doR m d = (mi0, false) := by
  unfold doR
  rw [if_neg (by simp [hv])]
theorem run_bad {m : Mi} {l : List J} (h : millB m = false ∨ 99 < l.length) : runR m l = (mi0, 0) := by
  unfold runR
  rw [if_neg]
  rw [Bool.and_eq_true, decide_eq_true_iff]
  rintro ⟨h1, h2⟩
  rcases h with h | h
  · rw [h] at h1; cases h1
  · omega
theorem run_good {m : Mi} {l : List J} (h : millB m = true) (hl : l.length ≤ 99) : runR m l = runTo m l := by
  unfold runR
  rw [if_pos]
  simp [h, hl]
theorem run_valid {m : Mi} {l : List J} (h : millB m = true) (hl : l.length ≤ 99) : millB (runR m l).1 = true ∧ massR (runR m l).1 = massR m := by
  rw [run_good h hl]
  obtain ⟨h1, h2, -⟩ := run_v l (m, 0) (millB_iff.1 h)
  have h3 := millB_iff.2 h1
  refine ⟨h3, ?_⟩
  unfold massR
  rw [if_pos h, if_pos (show millB (runTo m l).1 = true from h3)]
  exact h2
theorem cutBest_no (v : Value) (a b : Int) (lo hi L : Nat) (hL : L ≤ 60) (hv : lensB a b = false) (w : World) (H : IntsAt lo hi w v [a, b]) :
    Calls Tryz.prog 172 #[.int .i64 (L : Int), v] w fun e w' => ∃ g, e = .returned (.slice (some ⟨g, 0, none⟩) 0 0) ∧ Below w.heap.size w w' := by
  have HC := hide (cutLeast_spec v a b lo hi L hL w H)
  obtain ⟨b0, o0, cap, rfl, h1, h2, -, -⟩ := two_at H
  clear H
  go_enter Tryz.func172, Tryz.ntmps172
  go_wp2_with fail
  refine HC.out.mono ?_
  rintro e w0 ⟨x, rfl, hx, -, hb0⟩
  obtain rfl := hx hv
  have HB := hide hb0
  clear hb0
  go_wp2_with fail
  go_ret
  exact ⟨_, rfl, by have := HB.out; first | exact this.alloc this.size _ | go_grown⟩
def jz : J := ⟨0, 0, 0⟩
theorem jb_at {lo hi : Nat} {w : World} {v : Value} {xs : List J} (h : JobsAt lo hi w v xs) {k : Nat} (hk : k < xs.length) :
    ∃ b o cap, v = .slice (some ⟨b, o, none⟩) xs.length cap ∧ lo ≤ b ∧ b < hi ∧
      (w.cell? ⟨b, o + k * 3, none⟩ = some (.int .i64 (xs.getD k jz).s) ∧ w.cell? ⟨b, o + k * 3 + 1, none⟩ = some (.int .i64 (xs.getD k jz).d) ∧ w.cell? ⟨b, o + k * 3 + 2, none⟩ = some (.int .i64 (xs.getD k jz).g)) := by
  obtain ⟨ao, cap, rfl, h1, h2, h3, h4⟩ := h
  obtain ⟨b, o, rfl, b1, b2, hc⟩ := h4 (by omega)
  have hg : xs.getD k jz = xs[k] := by simp [hk]
  rw [hg]
  exact ⟨b, o, cap, rfl, b1, b2, (hc k hk).1⟩
theorem run_take (m : Mi) {js : List J} {k : Nat} (h : k < js.length) : runTo m (js.take (k + 1)) = runS (runTo m (js.take k)) (js.getD k jz) := by
  unfold runTo
  rw [List.take_succ_eq_append_getElem h, List.foldl_append]
  simp [h]
theorem runS_no {x : Mi} {n : Int} {d : J} {y : Mi} (h : doR x d = (y, false)) : runS (x, n) d = (x, n) := by unfold runS; simp [h]
theorem runS_yes {x : Mi} {n : Int} {d : J} {y : Mi} (h : doR x d = (y, true)) : runS (x, n) d = (y, n + 1) := by unfold runS; simp [h]
def BoxM (base : Nat) (w : World) (y : Mi) (bx : Value) : Prop := ∃ G s p l h, bx = .pointer (some ⟨G, 0, none⟩) ∧ base ≤ G ∧ RowL w G 31 (millC s p l h y) ∧ MillGot base w s p l h y
theorem boxM_new {base b : Nat} {w : World} {s p l h : Value} {y : Mi} (G : MillGot b w s p l h y) (hb : base ≤ b) (hz : base ≤ w.heap.size) :
    BoxM base (w.alloc (.cells (millC s p l h y).toArray 31)) y (.pointer (some ⟨w.heap.size, 0, none⟩)) :=
  ⟨_, s, p, l, h, rfl, hz, RowL.new _ _ _, (G.below ((Below.refl _ _).alloc (Nat.le_refl _) _)).mono hb⟩
theorem boxM_old {base b C : Nat} {w : World} {s p l h : Value} {y : Mi} {us : List Value} (r : RowL w C 31 us) (hl : us.length = 12) (G : MillGot b w s p l h y) (hC : base ≤ C) (hb : base ≤ b) :
    BoxM base (((((((((((((w).setCell ⟨C, 0, none⟩ s).setCell ⟨C, 1, none⟩ (.int .i64 y.rule.lc)).setCell ⟨C, 2, none⟩ (.int .i64 y.rule.hc)).setCell ⟨C, 3, none⟩ (.int .i64 y.rule.lm)).setCell ⟨C, 4, none⟩ (.int .i64 y.rule.hm)).setCell ⟨C, 5, none⟩ (.int .i64 y.rule.ls)).setCell ⟨C, 6, none⟩ (.int .i64 y.rule.hs)).setCell ⟨C, 7, none⟩ (.int .i64 y.strand)).setCell ⟨C, 8, none⟩ p).setCell ⟨C, 9, none⟩ l).setCell ⟨C, 10, none⟩ h).setCell ⟨C, 11, none⟩ (.int .i64 y.scrap)) y (.pointer (some ⟨C, 0, none⟩)) :=
  ⟨_, s, p, l, h, rfl, hC, row12 r hl _ _ _ _ _ _ _ _ _ _ _ _, (G.past r (other12 _ _ _ _ _ _ _ _ _ _ _ _ _ _)).mono hb⟩
set_option maxHeartbeats 400000 in
theorem eqIntS_any (v v' : Value) (xs ys : List Int) (lo hi lo' hi' : Nat) (w : World) (h : IntsAt lo hi w v xs) (h' : IntsAt lo' hi' w v' ys) :
    Calls Tryz.prog 153 #[v, v'] w fun e w' => e = .returned (.bool (decide (xs = ys))) ∧ Below w.heap.size w w' := by
  obtain ⟨ao, cap, rfl, hlc, hcap, hhi, hc⟩ := h
  obtain ⟨ao', cap', rfl, hlc', hcap', hhi', hc'⟩ := h'
  have Hc := hide hc
  have Hc' := hide hc'
  clear hc hc'
  by_cases hl : xs.length = ys.length
  · have HL := hide hl
    have hlB : ((xs.length : Int) != (ys.length : Int)) = false := by simp [hl]
    clear hl
    go_enter Tryz.func153, Tryz.ntmps153
    go_wp2_with fail
    go_loopw [5] (fun i wr => ∃ k : Nat, k ≤ xs.length ∧ i = .int .i64 k ∧ Below w.heap.size w wr ∧ xs.take k = ys.take k) (fun i _ => xs.length - (intOf i).toNat)
    case atStart => exact ⟨0, Nat.zero_le _, rfl, Below.refl _ _, rfl⟩
    case round =>
      obtain ⟨k, hk, rfl, hb, hall⟩ := hrel
      have Ha := hide hall
      clear hall
      by_cases hlt : k < xs.length
      · have hlt' : k < ys.length := by have := HL.out; omega
        obtain ⟨b, o, rfl, hb1, hb2, hcs⟩ := Hc.out (by omega)
        obtain ⟨b', o', rfl, hb1', hb2', hcs'⟩ := Hc'.out (by omega)
        obtain ⟨h1, -⟩ := hcs k hlt
        obtain ⟨h1', -⟩ := hcs' k hlt'
        rw [← hb.cell (p := ⟨_, _, none⟩) (by simpa using by omega)] at h1 h1'
        clear hcs hcs'
        have hi1 : (k : Int) < (xs.length : Int) := by omega
        have hi2 : (k : Int) < (ys.length : Int) := by omega
        by_cases hq : xs[k] = ys[k]
        · have hqB : (xs[k] != ys[k]) = false := by simp [hq]
          have hall' : xs.take (k + 1) = ys.take (k + 1) := by
            rw [List.take_succ_eq_append_getElem hlt, List.take_succ_eq_append_getElem hlt', Ha.out, hq]
          have Ha' := hide hall'
          clear hq hall'
          go_wp2_with fail
          go_quiet (fail)
          go_wp2_with fail
          go_roundw
          case rel => exact ⟨k + 1, by omega, by go_num, below_drewN hb _, Ha'.out⟩
          case measure => simp [intOf]; omega
        · have hqB : (xs[k] != ys[k]) = true := by simp [hq]
          have HQ := hide hq
          clear hq
          go_wp2_with fail
          go_quiet (fail)
          go_wp2_with fail
          go_ret
          refine ⟨?_, below_drewN hb _⟩
          have hne : xs ≠ ys := by
            intro e
            subst e
            exact HQ.out rfl
          simp [hne]
      · go_wp2_with fail
        go_ret
        refine ⟨?_, hb⟩
        have e : xs = ys := by
          have := Ha.out
          rw [List.take_of_length_le (by omega), List.take_of_length_le (by have := HL.out; omega)] at this
          exact this
        simp [e]
  · have hlB : ((xs.length : Int) != (ys.length : Int)) = true := by simp; omega
    go_enter Tryz.func153, Tryz.ntmps153
    go_wp2_with fail
    go_ret
    exact ⟨by simp; intro h; exact hl (by rw [h]), Below.refl _ _⟩
theorem eqPile_same (l h l' h' : Value) (lo hi : List Int) (w : World) (Hl : IntsAt 0 w.heap.size w l lo) (Hh : IntsAt 0 w.heap.size w h hi) (Hl' : IntsAt 0 w.heap.size w l' lo) (Hh' : IntsAt 0 w.heap.size w h' hi) :
    Calls Tryz.prog 97 #[pileV l h, pileV l' h'] w fun e w' => e = .returned (.bool true) ∧ Below w.heap.size w w' := by
  have HL := hide Hl
  have HH := hide Hh
  have HL' := hide Hl'
  have HH' := hide Hh'
  unfold pileV
  clear Hl Hh Hl' Hh'
  go_enter Tryz.func97, Tryz.ntmps97
  go_wp2_with fail
  refine calls_at fun wx hwx => ?_
  have R1 : RowL wx w.heap.size 29 [l, h] := by rw [hwx]; exact (RowL.new _ _ _).alloc _
  have R2 : RowL wx (w.heap.size + 1) 29 [l', h'] := by rw [hwx]; simpa using RowL.new (w.alloc _) 29 [l', h']
  have hb0 : Below w.heap.size w wx := by rw [hwx]; go_grown
  clear hwx
  refine (eqIntS_any l l' lo lo _ _ _ _ _ (HL.out.below hb0) (HL'.out.below hb0)).mono ?_
  rintro e w1 ⟨rfl, hb1⟩
  have hdec : decide (lo = lo) = true := by simp
  rw [hdec]
  have R1b := R1.below hb1 R1.lt
  have R2b := R2.below hb1 R2.lt
  have HB1 := hide (Below.step hb0 hb1 (Nat.le_refl _))
  have c1 : w1.cell? ⟨w.heap.size, 1, none⟩ = some h := R1b.cell 1 (by simp)
  have c2 : w1.cell? ⟨w.heap.size + 1, 1, none⟩ = some h' := R2b.cell 1 (by simp)
  clear hb1 hdec
  go_wp2_with fail
  refine (eqIntS_any h h' hi hi _ _ _ _ _ (HH.out.below HB1.out) (HH'.out.below HB1.out)).mono ?_
  rintro e w2 ⟨rfl, hb2⟩
  have hdec : decide (hi = hi) = true := by simp
  rw [hdec]
  have HB2 := hide (Below.step HB1.out hb2 (Nat.le_refl _))
  clear hb2 hdec c1 c2
  go_wp2_with fail
  go_ret
  exact ⟨rfl, HB2.out⟩
theorem szIntS_any (v : Value) (xs : List Int) (lo hi : Nat) (left : Int) (w : World) (h : IntsAt lo hi w v xs) (h1 : 0 ≤ left) (h2 : left ≤ 1048576) :
    Calls Tryz.prog 147 #[v, .int .i64 left] w fun e w' => e = .returned (.int .i64 (szI left xs.length)) ∧ w = w' := by
  have hl := h.len
  obtain ⟨ao, cap, rfl, hlc, hcap, hhi, hc⟩ := h
  have Hc := hide hc
  clear hc
  go_enter Tryz.func147, Tryz.ntmps147
  go_wp2
  all_goals
    go_ret
    refine ⟨?_, rfl⟩
    unfold szI
    first | (rw [if_pos (by omega)]; rfl) | (rw [if_neg (by omega)]; rfl)
theorem szI_no {left : Int} {n : Nat} (h : left < (n : Int)) : szI left n = -1 := by unfold szI; rw [if_pos (by omega)]
theorem szI_yes {left : Int} {n : Nat} (h : (n : Int) ≤ left) : szI left n = left - n := by unfold szI; rw [if_neg (by omega)]
theorem szPile_any (l h : Value) (lo hi : List Int) (left : Int) (w : World) (Hl : IntsAt 0 w.heap.size w l lo) (Hh : IntsAt 0 w.heap.size w h hi) (h1 : 0 ≤ left) (h2 : left ≤ 1048576) :
    Calls Tryz.prog 89 #[pileV l h, .int .i64 left] w fun e w' => e = .returned (.int .i64 (szI left (lo.length + hi.length))) ∧ Below w.heap.size w w' := by
  have HL := hide Hl
  have HH := hide Hh
  unfold pileV
  clear Hl Hh
  by_cases g1 : (lo.length : Int) ≤ left
  · by_cases g2 : ((lo.length + hi.length : Nat) : Int) ≤ left
    · rw [szI_yes g2]
      go_enter Tryz.func89, Tryz.ntmps89
      go_wp2_with fail
      refine (szIntS_any l lo _ _ left _ (HL.out.below ((Below.refl _ _).alloc (Nat.le_refl _) _)) h1 h2).mono ?_
      rw [szI_yes g1]
      rintro e w1 ⟨rfl, rfl⟩
      go_wp2_with fail
      refine (szIntS_any h hi _ _ (left - lo.length) _ (HH.out.below ((Below.refl _ _).alloc (Nat.le_refl _) _)) (by omega) (by omega)).mono ?_
      rw [szI_yes (show (hi.length : Int) ≤ left - lo.length by omega)]
      rintro e w1 ⟨rfl, rfl⟩
      go_wp2_with fail
      go_ret
      exact ⟨by rw [Int.natCast_add, ← Int.sub_sub]; rfl, by go_grown⟩
    · rw [szI_no (by omega)]
      go_enter Tryz.func89, Tryz.ntmps89
      go_wp2_with fail
      refine (szIntS_any l lo _ _ left _ (HL.out.below ((Below.refl _ _).alloc (Nat.le_refl _) _)) h1 h2).mono ?_
      rw [szI_yes g1]
      rintro e w1 ⟨rfl, rfl⟩
      go_wp2_with fail
      refine (szIntS_any h hi _ _ (left - lo.length) _ (HH.out.below ((Below.refl _ _).alloc (Nat.le_refl _) _)) (by omega) (by omega)).mono ?_
      rw [szI_no (by omega)]
      rintro e w1 ⟨rfl, rfl⟩
      go_wp2_with fail
      go_ret
      exact ⟨rfl, by go_grown⟩
  · rw [szI_no (by omega)]
    go_enter Tryz.func89, Tryz.ntmps89
    go_wp2_with fail
    refine (szIntS_any l lo _ _ left _ (HL.out.below ((Below.refl _ _).alloc (Nat.le_refl _) _)) h1 h2).mono ?_
    rw [szI_no (by omega)]
    rintro e w1 ⟨rfl, rfl⟩
    go_wp2_with fail
    go_ret
    exact ⟨rfl, by go_grown⟩
def sizeM (m : Mi) : Nat := m.store.length + m.pieces.length + (m.low.length + m.high.length)
theorem szMill_any (s p l h : Value) (m : Mi) (left : Int) (w : World) (H : MillIn 0 w.heap.size w s p l h m) (h1 : 0 ≤ left) (h2 : left ≤ 1048576) :
    Calls Tryz.prog 30 #[millV s p l h m, .int .i64 left] w fun e w' => e = .returned (.int .i64 (szI left (sizeM m))) ∧ Below w.heap.size w w' := by
  have VS := hide H.store
  have VP := hide H.pieces
  have VL := hide H.low
  have VH := hide H.high
  clear H
  unfold millV
  have hc : (¬ (m.store.length : Int) ≤ left) ∨ ((m.store.length : Int) ≤ left ∧ ¬ (m.pieces.length : Int) ≤ left - m.store.length) ∨ ((m.store.length : Int) ≤ left ∧ (m.pieces.length : Int) ≤ left - m.store.length ∧ ¬ ((m.low.length + m.high.length : Nat) : Int) ≤ left - m.store.length - m.pieces.length) ∨
      ((m.store.length : Int) ≤ left ∧ (m.pieces.length : Int) ≤ left - m.store.length ∧ ((m.low.length + m.high.length : Nat) : Int) ≤ left - m.store.length - m.pieces.length) := by omega
  have e : szI left (sizeM m) = if (m.store.length : Int) ≤ left ∧ (m.pieces.length : Int) ≤ left - m.store.length ∧ ((m.low.length + m.high.length : Nat) : Int) ≤ left - m.store.length - m.pieces.length then left - m.store.length - m.pieces.length - (m.low.length + m.high.length : Nat) else -1 := by
    unfold szI sizeM
    split <;> split <;> omega
  rw [e]
  rcases hc with g1 | ⟨g1, g2⟩ | ⟨g1, g2, g3⟩ | ⟨g1, g2, g3⟩
  · rw [if_neg (fun h => g1 h.1)]
    go_enter Tryz.func30, Tryz.ntmps30
    go_wp2_with fail
    refine (szStuffS_any s m.store _ _ left _ (VS.out.below ((Below.refl _ _).alloc (Nat.le_refl _) _)) h1 h2).mono ?_
    rw [szI_no (by omega)]
    rintro e w1 ⟨rfl, rfl⟩
    go_wp2_with fail
    go_ret
    exact ⟨rfl, by go_grown⟩
  · rw [if_neg (fun h => g2 h.2.1)]
    go_enter Tryz.func30, Tryz.ntmps30
    go_wp2_with fail
    refine (szStuffS_any s m.store _ _ left _ (VS.out.below ((Below.refl _ _).alloc (Nat.le_refl _) _)) h1 h2).mono ?_
    rw [szI_yes g1]
    rintro e w1 ⟨rfl, rfl⟩
    go_wp2_with fail
    refine (szPieceS_any p m.pieces _ _ (left - m.store.length) _ (VP.out.below ((Below.refl _ _).alloc (Nat.le_refl _) _)) (by omega) (by omega)).mono ?_
    rw [szI_no (by omega)]
    rintro e w1 ⟨rfl, rfl⟩
    go_wp2_with fail
    go_ret
    exact ⟨rfl, by go_grown⟩
  · rw [if_neg (fun h => g3 h.2.2)]
    go_enter Tryz.func30, Tryz.ntmps30
    go_wp2_with fail
    refine (szStuffS_any s m.store _ _ left _ (VS.out.below ((Below.refl _ _).alloc (Nat.le_refl _) _)) h1 h2).mono ?_
    rw [szI_yes g1]
    rintro e w1 ⟨rfl, rfl⟩
    go_wp2_with fail
    refine (szPieceS_any p m.pieces _ _ (left - m.store.length) _ (VP.out.below ((Below.refl _ _).alloc (Nat.le_refl _) _)) (by omega) (by omega)).mono ?_
    rw [szI_yes g2]
    rintro e w1 ⟨rfl, rfl⟩
    go_wp2_with fail
    refine calls_at fun wx hwx => ?_
    have hb0 : Below w.heap.size w wx := by rw [hwx]; go_grown
    clear hwx
    refine (szPile_any l h m.low m.high (left - m.store.length - m.pieces.length) _ ((VL.out.below hb0).mono (Nat.le_refl _) hb0.size (Nat.le_refl _)) ((VH.out.below hb0).mono (Nat.le_refl _) hb0.size (Nat.le_refl _)) (by omega) (by omega)).mono ?_
    rw [szI_no (by omega)]
    rintro e w1 ⟨rfl, hb1⟩
    have HB1 := hide (Below.step hb0 hb1 (Nat.le_refl _))
    clear hb1
    go_wp2_with fail
    go_ret
    exact ⟨rfl, HB1.out⟩
  · rw [if_pos ⟨g1, g2, g3⟩]
    go_enter Tryz.func30, Tryz.ntmps30
    go_wp2_with fail
    refine (szStuffS_any s m.store _ _ left _ (VS.out.below ((Below.refl _ _).alloc (Nat.le_refl _) _)) h1 h2).mono ?_
    rw [szI_yes g1]
    rintro e w1 ⟨rfl, rfl⟩
    go_wp2_with fail
    refine (szPieceS_any p m.pieces _ _ (left - m.store.length) _ (VP.out.below ((Below.refl _ _).alloc (Nat.le_refl _) _)) (by omega) (by omega)).mono ?_
    rw [szI_yes g2]
    rintro e w1 ⟨rfl, rfl⟩
    go_wp2_with fail
    refine calls_at fun wx hwx => ?_
    have hb0 : Below w.heap.size w wx := by rw [hwx]; go_grown
    clear hwx
    refine (szPile_any l h m.low m.high (left - m.store.length - m.pieces.length) _ ((VL.out.below hb0).mono (Nat.le_refl _) hb0.size (Nat.le_refl _)) ((VH.out.below hb0).mono (Nat.le_refl _) hb0.size (Nat.le_refl _)) (by omega) (by omega)).mono ?_
    rw [szI_yes g3]
    rintro e w1 ⟨rfl, hb1⟩
    have HB1 := hide (Below.step hb0 hb1 (Nat.le_refl _))
    have hr : 0 ≤ left - m.store.length - m.pieces.length - (m.low.length + m.high.length : Nat) := by omega
    clear hb1
    go_wp2_with fail
    go_ret
    exact ⟨rfl, HB1.out⟩
end Go.Proofs.YtmemgbklgcjobaaGreatDoor
namespace Go.Proofs.YtmemgbklgcjobaaGreatDoor
theorem own : ownKnob Tryz.prog.godebug = none := by kernel_rfl
theorem laidOut : laidOutB Tryz.prog = true := by kernel_rfl
theorem may_ok : Tryz.pinned.checked.prog.mayEnter = true := by kernel_rfl
theorem lifts_ok : (Rows.fnMillValidRow.lifted == Tryz.pinned.checked.prog.liftsFinal) = true := by kernel_rfl
theorem make_ok : (Tryz.pinned.checked.prog.make == some Rows.fnMillValidRow.make) = true := by kernel_rfl
end Go.Proofs.YtmemgbklgcjobaaGreatDoor
namespace Go.Proofs.YtmemgbklgcjobaaGreatDoor
open Go.ChangeShapes Go.WideShapes Go.Deep Go.RowKit Go.ChangeAt
theorem looks_off : false = Tryz.pinned.checked.prog.looks [] := by kernel_rfl
end Go.Proofs.YtmemgbklgcjobaaGreatDoor
