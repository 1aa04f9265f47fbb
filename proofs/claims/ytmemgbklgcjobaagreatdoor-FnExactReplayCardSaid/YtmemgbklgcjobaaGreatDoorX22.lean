/-
  Parts of the proofs over mills, of: MethA, CoilPI, PileE. Conditions: each theorem states its own.
-/
import Derived.Test.YtmemgbklgcjobaaGreatDoorX17
import Derived.Test.YtmemgbklgcjobaaGreatDoorX19
set_option linter.unusedSimpArgs false
set_option linter.unusedVariables false
set_option maxRecDepth 10000
namespace Go.Proofs.YtmemgbklgcjobaaGreatDoor
open Go.RowKit
def SpecGot (base : Nat) (p : Value) (x : Mi × Bool) (w : World) (e : Ending) (w' : World) : Prop :=
  DoGot base x w e w' ∧ ∀ B T vs, RowL w B T vs → p.ownBlock ≠ some B → RowL w' B T vs
def orOld (m : Mi) (o : Option Mi) : Mi × Bool := match o with | none => (m, false) | some x => (x, true)
theorem melt_no1 {m : Mi} {t : Int} (h : m.strand ≠ 0) : meltD m t = none := by simp [meltD, h]
theorem melt_no2 {m : Mi} {t : Int} (h : mixBest m.store m.rule t = none) : meltD m t = none := by simp [meltD, h]
theorem melt_yes {m : Mi} {t : Int} {mix : List Int} (h1 : m.strand = 0) (h2 : mixBest m.store m.rule t = some mix) : meltD m t = some { m with store := takeM m.store mix, strand := 4 * t } := by simp [meltD, h1, h2]
set_option maxHeartbeats 1600000 in
theorem melt_impl {base B : Nat} {w : World} {s p l h : Value} {m : Mi} (tons : Int) (H : MillBox base B w s p l h m) :
    Calls Tryz.prog 107 #[.pointer (some ⟨B, 0, none⟩), .int .i64 tons] w (Meth base B (meltD m tons) w) := by
  have HH := hide H
  have hr := H.row
  have hlt := hr.lt
  have hS := H.got.all.store
  have HS := hide hS
  have hbz := H.got.hb
  have c0 : w.cell? ⟨B, 0, none⟩ = some s := hr.cell 0 (by simp [millC])
  have c1 := hr.c 1 rfl
  have c2 := hr.c 2 rfl
  have c3 := hr.c 3 rfl
  have c4 := hr.c 4 rfl
  have c5 := hr.c 5 rfl
  have c6 := hr.c 6 rfl
  have c7 := hr.c 7 rfl
  obtain ⟨ao, cap, rfl, -, -⟩ := H.got.so.form
  have hbest := fun W (K : StAt 0 W.heap.size W (.slice ao m.store.length cap) m.store) => best_impl (.slice ao m.store.length cap) m.store m.rule tons W K
  unfold grV at hbest
  have HBT := hide hbest
  clear hbest hr hS H
  by_cases hs : m.strand = 0
  · have hsB : (m.strand != 0) = false := by simp [hs]
    have HZ := hide hs
    clear hs
    go_enter Tryz.func107, Tryz.ntmps107
    go_wp2_with fail
    have hI : w.drew.cell? ⟨B, 0, none⟩ = some (.slice ao m.store.length cap) ∧ w.drew.cell? ⟨B, 1, none⟩ = some (.int .i64 m.rule.lc) ∧ w.drew.cell? ⟨B, 2, none⟩ = some (.int .i64 m.rule.hc) ∧ w.drew.cell? ⟨B, 3, none⟩ = some (.int .i64 m.rule.lm) ∧ w.drew.cell? ⟨B, 4, none⟩ = some (.int .i64 m.rule.hm) ∧ w.drew.cell? ⟨B, 5, none⟩ = some (.int .i64 m.rule.ls) ∧ w.drew.cell? ⟨B, 6, none⟩ = some (.int .i64 m.rule.hs) := ⟨c0, c1, c2, c3, c4, c5, c6⟩
    have HB1 := hide (HBT.out w.drew HS.out)
    go_region_held (fun W => W.cell? ⟨B, 0, none⟩ = some (.slice ao m.store.length cap) ∧ W.cell? ⟨B, 1, none⟩ = some (.int .i64 m.rule.lc) ∧ W.cell? ⟨B, 2, none⟩ = some (.int .i64 m.rule.hc) ∧ W.cell? ⟨B, 3, none⟩ = some (.int .i64 m.rule.lm) ∧ W.cell? ⟨B, 4, none⟩ = some (.int .i64 m.rule.hm) ∧ W.cell? ⟨B, 5, none⟩ = some (.int .i64 m.rule.ls) ∧ W.cell? ⟨B, 6, none⟩ = some (.int .i64 m.rule.hs)) (first | exact hI | exact hS1) (first
      | (go_at_call 159; (with_reducible refine HB1.out.mono ?_); rintro e w1 ⟨ao1, n1, cap1, rfl, hmix, hb⟩; have B_1 := hide (((Below.refl w.heap.size w).drew).trans hb); have hS1 : w1.cell? ⟨B, 0, none⟩ = some (.slice ao m.store.length cap) ∧ w1.cell? ⟨B, 1, none⟩ = some (.int .i64 m.rule.lc) ∧ w1.cell? ⟨B, 2, none⟩ = some (.int .i64 m.rule.hc) ∧ w1.cell? ⟨B, 3, none⟩ = some (.int .i64 m.rule.lm) ∧ w1.cell? ⟨B, 4, none⟩ = some (.int .i64 m.rule.hm) ∧ w1.cell? ⟨B, 5, none⟩ = some (.int .i64 m.rule.ls) ∧ w1.cell? ⟨B, 6, none⟩ = some (.int .i64 m.rule.hs) := by (have R1 := HH.out.row.below B_1.out hlt; exact ⟨R1.cell 0 (by simp [millC]), R1.cell 1 (by simp [millC]), R1.cell 2 (by simp [millC]), R1.cell 3 (by simp [millC]), R1.cell 4 (by simp [millC]), R1.cell 5 (by simp [millC]), R1.cell 6 (by simp [millC])⟩)))
    clear hb hS1 hI HB1
    cases hm : mixBest m.store m.rule tons with
    | none =>
      have HN := hide (melt_no2 hm)
      clear hmix
      go_wp2_with fail
      go_ret
      rw [HN.out]
      exact Meth.no (B_1.out.mono hbz)
    | some mix =>
      have HM := hide hm
      obtain ⟨hmb, -, ht1, ht2⟩ := best_ok hm
      have HMB := hide hmb
      have HI := hide (hmix mix hm)
      have hw4 : IntKind.i64.wrap (4 * tons) = 4 * tons := IntWalk.i64_in _ (by omega)
      have R_1 := HH.out.row.below B_1.out hlt
      have d0 := R_1.c 0 rfl
      have hz1 := B_1.out.size
      have hlt1 := R_1.lt
      clear hmix hmb c0 c1 c2 c3 c4 c5 c6 c7 R_1
      go_wp2_with fail
      refine (take_impl (.slice ao m.store.length cap) (.slice ao1 n1 cap1) m.store mix w1 ((HS.out.below B_1.out).mono (Nat.le_refl _) hz1 (Nat.le_refl _)) (HI.out.mono (Nat.zero_le _) (Nat.le_refl _) (Nat.le_refl _)) HMB.out).mono ?_
      rintro e w2 ⟨v, rfl, own, hb2⟩
      have B_2 := hide (B_1.out.trans (hb2.mono hz1))
      have R_2 := HH.out.row.below B_2.out hlt
      have G_2 := hide (HH.out.got.store B_2.out hz1 (OwnE.own own) (4 * tons))
      have O_2 := hide (notIn_store HH.out.off (show B < w1.heap.size by omega) (OwnE.own own))
      obtain ⟨av, cv, rfl, -, -⟩ := own_slice own
      have HR2 := hide R_2
      have e0 := R_2.c 0 rfl
      have e7 := R_2.c 7 rfl
      have f0 := R_2.frozen 0
      have f7 := R_2.frozen 7
      clear own hb2 R_2 d0
      go_wp2_with fail
      go_ret
      rw [melt_yes HZ.out HM.out]
      obtain ⟨r1, g1, b1⟩ := box_set HR2.out G_2.out O_2.out HH.out.hB (j := 0) (by simp [millC]) (.slice av (takeM m.store mix).length cv)
      obtain ⟨r2, g2, b2⟩ := box_set r1 g1 O_2.out HH.out.hB (j := 7) (by simp [millC]) (.int .i64 (4 * tons))
      refine ⟨rfl, ((B_2.out.mono hbz).trans b1).trans b2, fun x hx => ?_⟩
      obtain rfl := Option.some.inj hx
      exact ⟨_, _, _, _, r2, g2⟩
  · have hsB : (m.strand != 0) = true := by simp [hs]
    have HN := hide (melt_no1 (t := tons) hs)
    clear hs
    go_enter Tryz.func107, Tryz.ntmps107
    go_wp2_with fail
    go_ret
    rw [HN.out]
    exact Meth.no (Below.refl _ _)
set_option maxHeartbeats 3200000 in
theorem put_impl (l h : Value) (lo hi : List Int) (t : Bool) (p id : Int) (w : World) (Hl : IntsAt 0 w.heap.size w l lo) (Hh : IntsAt 0 w.heap.size w h hi) :
    Calls Tryz.prog 165 #[pileV l h, .agg #[.bool t, .int .i64 p], .int .i64 id] w (PileGot2 w.heap.size (putR lo hi t p id).1 (.bool (putR lo hi t p id).2) w) := by
  have HL := hide Hl
  have HH := hide Hh
  clear Hl Hh
  have hp := fun W => pile_impl l h lo hi W
  have hq := fun W => at_impl l h lo hi t p W
  have hc := fun W H1 H2 n1 n2 => copyPile_any l h lo hi W H1 H2 n1 n2
  unfold pileV at hp hq hc ⊢
  have HP := hide hp
  have HQ := hide hq
  have HC := hide hc
  clear hp hq hc
  go_enter Tryz.func165, Tryz.ntmps165
  go_wp2_with fail
  refine calls_at fun wx hwx => ?_
  have A_0 : RowL wx (w.heap.size) 29 [l, h] := by rw [hwx]; exact (((RowL.new _ 29 [l, h]).alloc _).alloc _)
  have S_0 : RowL wx (w.heap.size + 1) 128 [.bool t, .int .i64 p] := by rw [hwx]; simpa using ((RowL.new (World.alloc _ _) 128 [.bool t, .int .i64 p]).alloc _)
  have R_0 : RowL wx (w.heap.size + 1 + 1) 29 [.slice none 0 0, .slice none 0 0] := by rw [hwx]; simpa using (RowL.new (World.alloc (World.alloc _ _) _) 29 [.slice none 0 0, .slice none 0 0])
  have B_0 : Below w.heap.size w wx := by rw [hwx]; go_grown
  clear hwx
  have hL0 := R_0.lt
  have VL_0 := hide (HL.out.below B_0)
  have VH_0 := hide (HH.out.below B_0)
  have k1 := HP.out wx ((VL_0.out).mono (Nat.le_refl _) (VL_0.out).lt (Nat.le_refl _)) ((VH_0.out).mono (Nat.le_refl _) (VH_0.out).lt (Nat.le_refl _))
  cases c1 : pileB lo hi with
  | false =>
    rw [c1] at k1
    have HZ := hide (put_bad (t := t) (p := p) (id := id) c1)
    clear c1
    refine (k1).mono ?_
    rintro e w1 ⟨rfl, hb⟩
    have A_1 := A_0.below hb A_0.lt
    have S_1 := S_0.below hb S_0.lt
    have R_1 := R_0.below hb R_0.lt
    have VL_1 := hide (VL_0.out.below hb)
    have VH_1 := hide (VH_0.out.below hb)
    have B_1 := hide (Below.step B_0 hb (Nat.le_refl _))
    have hz1 := hb.size
    clear hb
    have cR0 := R_1.c 0 rfl
    have cR1 := R_1.c 1 rfl
    have fR0 := R_1.frozen 0
    have fR1 := R_1.frozen 1
    clear k1
    go_wp2_with fail
    refine bodyPost_ret (by simp [results, Tryz.results165, go_sem, cR0, cR1]; try rfl) rfl ?_
    rw [HZ.out]
    exact ⟨_, _, rfl, pileOwn_nil (by have := (B_1.out).size; simpa [World.setCell] using this), ((B_1.out).setCell (by simp; omega) _).setCell (by simp; omega) _⟩
  | true =>
    rw [c1] at k1
    obtain ⟨n1, n2⟩ := pile_lens c1
    have C1 := hide c1
    clear c1
    refine (k1).mono ?_
    rintro e w1 ⟨rfl, hb⟩
    have A_1 := A_0.below hb A_0.lt
    have S_1 := S_0.below hb S_0.lt
    have R_1 := R_0.below hb R_0.lt
    have VL_1 := hide (VL_0.out.below hb)
    have VH_1 := hide (VH_0.out.below hb)
    have B_1 := hide (Below.step B_0 hb (Nat.le_refl _))
    have hz1 := hb.size
    clear hb
    have cA0 := A_1.c 0 rfl
    have cA1 := A_1.c 1 rfl
    have cS0 := S_1.c 0 rfl
    have cS1 := S_1.c 1 rfl
    clear k1
    by_cases hid : id < 1
    · have HZ := hide (put_low (t := t) (p := p) C1.out hid)
      go_wp2_with fail
      have hzR := R_1.lt
      refine (HC.out w1 ((VL_1.out).mono (Nat.le_refl _) (VL_1.out).lt (Nat.le_refl _)) ((VH_1.out).mono (Nat.le_refl _) (VH_1.out).lt (Nat.le_refl _)) n1 n2).mono ?_
      rintro e w2 ⟨la, ha, rfl, own, hb⟩
      have A_2 := A_1.below hb A_1.lt
      have S_2 := S_1.below hb S_1.lt
      have R_2 := R_1.below hb R_1.lt
      have VL_2 := hide (VL_1.out.below hb)
      have VH_2 := hide (VH_1.out.below hb)
      have B_2 := hide (Below.step B_1.out hb (Nat.le_refl _))
      have hz2 := hb.size
      clear hb
      have cA0 := A_2.c 0 rfl
      have cA1 := A_2.c 1 rfl
      have cS0 := S_2.c 0 rfl
      have cS1 := S_2.c 1 rfl
      have cR0 := R_2.c 0 rfl
      have cR1 := R_2.c 1 rfl
      have fR0 := R_2.frozen 0
      have fR1 := R_2.frozen 1
      simp only [pileV]
      have O_a := hide own
      obtain ⟨ala, cla, rfl, -, -⟩ := own.lo.form
      obtain ⟨aha, cha, rfl, -, -⟩ := own.ho.form
      clear own
      have hzca : w.heap.size + 1 + 1 + 1 ≤ w1.heap.size := hzR
      go_wp2_with fail
      refine bodyPost_ret (by simp [results, Tryz.results165, go_sem, cR0, cR1]; try rfl) rfl ?_
      rw [HZ.out]
      exact ⟨_, _, rfl, (O_a.out.other (((Other.refl (w.heap.size + 1 + 1) (w.heap.size + 1 + 1 + 1) w2).setCell (p := ⟨w.heap.size + 1 + 1, 0, none⟩) (Nat.le_refl _) (Nat.lt_succ_self _) _).setCell (p := ⟨w.heap.size + 1 + 1, 1, none⟩) (Nat.le_refl _) (Nat.lt_succ_self _) _) (by omega)).mono (by omega), ((B_2.out).setCell (by simp; omega) _).setCell (by simp; omega) _⟩
    go_wp2_with fail
    refine (HQ.out w1 ((VL_1.out).mono (Nat.le_refl _) (VL_1.out).lt (Nat.le_refl _)) ((VH_1.out).mono (Nat.le_refl _) (VH_1.out).lt (Nat.le_refl _))).mono ?_
    rintro e w2 ⟨rfl, hb⟩
    have A_2 := A_1.below hb A_1.lt
    have S_2 := S_1.below hb S_1.lt
    have R_2 := R_1.below hb R_1.lt
    have VL_2 := hide (VL_1.out.below hb)
    have VH_2 := hide (VH_1.out.below hb)
    have B_2 := hide (Below.step B_1.out hb (Nat.le_refl _))
    have hz2 := hb.size
    clear hb
    have cA0 := A_2.c 0 rfl
    have cA1 := A_2.c 1 rfl
    have cS0 := S_2.c 0 rfl
    have cS1 := S_2.c 1 rfl
    by_cases hat : atR lo hi t p = 0
    rotate_left
    · have HZ := hide (put_full (id := id) C1.out hat)
      obtain ⟨a, ha⟩ : ∃ a, atR lo hi t p = a := ⟨_, rfl⟩
      rw [ha] at hat ⊢
      have hatB : (a != 0) = true := by simpa using hat
      clear ha hat
      go_wp2_with fail
      have hzR := R_2.lt
      refine (HC.out w2 ((VL_2.out).mono (Nat.le_refl _) (VL_2.out).lt (Nat.le_refl _)) ((VH_2.out).mono (Nat.le_refl _) (VH_2.out).lt (Nat.le_refl _)) n1 n2).mono ?_
      rintro e w3 ⟨lb, hb, rfl, own, hb⟩
      have A_3 := A_2.below hb A_2.lt
      have S_3 := S_2.below hb S_2.lt
      have R_3 := R_2.below hb R_2.lt
      have VL_3 := hide (VL_2.out.below hb)
      have VH_3 := hide (VH_2.out.below hb)
      have B_3 := hide (Below.step B_2.out hb (Nat.le_refl _))
      have hz3 := hb.size
      clear hb
      have cA0 := A_3.c 0 rfl
      have cA1 := A_3.c 1 rfl
      have cS0 := S_3.c 0 rfl
      have cS1 := S_3.c 1 rfl
      have cR0 := R_3.c 0 rfl
      have cR1 := R_3.c 1 rfl
      have fR0 := R_3.frozen 0
      have fR1 := R_3.frozen 1
      simp only [pileV]
      have O_b := hide own
      obtain ⟨alb, clb, rfl, -, -⟩ := own.lo.form
      obtain ⟨ahb, chb, rfl, -, -⟩ := own.ho.form
      clear own
      have hzcb : w.heap.size + 1 + 1 + 1 ≤ w2.heap.size := hzR
      go_wp2_with fail
      refine bodyPost_ret (by simp [results, Tryz.results165, go_sem, cR0, cR1]; try rfl) rfl ?_
      rw [HZ.out]
      exact ⟨_, _, rfl, (O_b.out.other (((Other.refl (w.heap.size + 1 + 1) (w.heap.size + 1 + 1 + 1) w3).setCell (p := ⟨w.heap.size + 1 + 1, 0, none⟩) (Nat.le_refl _) (Nat.lt_succ_self _) _).setCell (p := ⟨w.heap.size + 1 + 1, 1, none⟩) (Nat.le_refl _) (Nat.lt_succ_self _) _) (by omega)).mono (by omega), ((B_3.out).setCell (by simp; omega) _).setCell (by simp; omega) _⟩
    have HAT := hide hat
    rw [hat]
    obtain ⟨-, j, rfl, hjl, -⟩ := at_row (show 0 ≤ atR lo hi t p by omega)
    clear hat
    have hzR := R_2.lt
    go_wp2_with fail
    refine (HC.out w2 ((VL_2.out).mono (Nat.le_refl _) (VL_2.out).lt (Nat.le_refl _)) ((VH_2.out).mono (Nat.le_refl _) (VH_2.out).lt (Nat.le_refl _)) n1 n2).mono ?_
    rintro e w3 ⟨lc, hc, rfl, own, hb⟩
    have A_3 := A_2.below hb A_2.lt
    have S_3 := S_2.below hb S_2.lt
    have R_3 := R_2.below hb R_2.lt
    have VL_3 := hide (VL_2.out.below hb)
    have VH_3 := hide (VH_2.out.below hb)
    have B_3 := hide (Below.step B_2.out hb (Nat.le_refl _))
    have hz3 := hb.size
    clear hb
    have cA0 := A_3.c 0 rfl
    have cA1 := A_3.c 1 rfl
    have cS0 := S_3.c 0 rfl
    have cS1 := S_3.c 1 rfl
    have cR0 := R_3.c 0 rfl
    have cR1 := R_3.c 1 rfl
    have fR0 := R_3.frozen 0
    have fR1 := R_3.frozen 1
    simp only [pileV]
    have O_c := hide own
    obtain ⟨alc, clc, rfl, -, -⟩ := own.lo.form
    obtain ⟨ahc, chc, rfl, -, -⟩ := own.ho.form
    clear own
    have hzcc : w.heap.size + 1 + 1 + 1 ≤ w2.heap.size := hzR
    go_wp2_with fail
    obtain ⟨w4, hw4⟩ : ∃ w4, w4 = w3.alloc (.cells #[.slice alc lo.length clc, .slice ahc hi.length chc] 29) := ⟨_, rfl⟩
    rw [← hw4]
    have T_4 : RowL w4 w3.heap.size 29 [.slice alc lo.length clc, .slice ahc hi.length chc] := by rw [hw4]; exact RowL.new _ _ _
    have hb4 : Below w3.heap.size w3 w4 := by rw [hw4]; exact (Below.refl _ _).alloc (Nat.le_refl _) _
    have A_4 := A_3.below hb4 A_3.lt
    have S_4 := S_3.below hb4 S_3.lt
    have R_4 := R_3.below hb4 R_3.lt
    have VL_4 := hide (VL_3.out.below hb4)
    have VH_4 := hide (VH_3.out.below hb4)
    have B_4 := hide (Below.step B_3.out hb4 (Nat.le_refl _))
    have O_4 := O_c.out.below hb4 (Nat.le_refl _)
    clear hw4 hb4 cA0 cA1 cS0 cS1 cR0 cR1 fR0 fR1
    obtain ⟨gg, cg, er⟩ := O_4.form t hjl
    obtain ⟨n, hn⟩ : ∃ n, (rowR t lo hi).length = n := ⟨_, rfl⟩
    rw [hn] at er
    have hjI : (j : Int) < (n : Int) := by omega
    have hj0 : (0 : Int) ≤ (j : Int) := by omega
    have HRW := hide (fun W => calls_val (row_any (.slice alc lo.length clc) (.slice ahc hi.length chc) t (j : Int) W) er)
    unfold pileV at HRW
    have HN := hide hn
    have HER := hide er
    clear hn er
    have hg4 := O_4.cellAt HER.out hjl
    have hgT : gg < w3.heap.size := (O_c.out.cellAt HER.out hjl).2.2.2
    have HO4 := hide O_4
    clear O_4
    have hI : (((World.drew w4).cell? ⟨w3.heap.size, 0, none⟩ = some (.slice alc lo.length clc) ∧ (World.drew w4).cell? ⟨w3.heap.size, 1, none⟩ = some (.slice ahc hi.length chc)) ∧ ((World.drew w4).cell? ⟨w.heap.size + 1, 0, none⟩ = some (.bool t) ∧ (World.drew w4).cell? ⟨w.heap.size + 1, 1, none⟩ = some (.int .i64 (j : Int)))) ∧ (((World.drew w4).cell? ⟨gg, j, none⟩).isSome = true ∧ (World.drew w4).frozen? ⟨gg, j, none⟩ = false) := ⟨⟨⟨T_4.cell 0 (by simp), T_4.cell 1 (by simp)⟩, ⟨S_4.cell 0 (by simp), S_4.cell 1 (by simp)⟩⟩, ⟨by rw [show (World.drew w4).cell? ⟨gg, j, none⟩ = _ from hg4.1]; rfl, hg4.2.1⟩⟩
    go_region_held (fun w' => ((w'.cell? ⟨w3.heap.size, 0, none⟩ = some (.slice alc lo.length clc) ∧ w'.cell? ⟨w3.heap.size, 1, none⟩ = some (.slice ahc hi.length chc)) ∧ (w'.cell? ⟨w.heap.size + 1, 0, none⟩ = some (.bool t) ∧ w'.cell? ⟨w.heap.size + 1, 1, none⟩ = some (.int .i64 (j : Int)))) ∧ ((w'.cell? ⟨gg, j, none⟩).isSome = true ∧ w'.frozen? ⟨gg, j, none⟩ = false)) (first | exact hI | exact hS5 | exact spot_put hS5 (by omega) (by omega) _) (first
      | (go_at_call 201; (with_reducible refine (HRW.out _).mono ?_); rintro e w5 ⟨rfl, hb0⟩; have hb := (Below.refl w4.heap.size w4).drew.trans hb0; have S_5 := S_4.below hb S_4.lt; have T_5 := T_4.below hb T_4.lt; have A_5 := A_4.below hb A_4.lt; have R_5 := R_4.below hb R_4.lt; have O_5 := HO4.out.below hb (Nat.le_refl _); obtain ⟨cg0, fg0, hgb, hgl⟩ := O_5.cellAt HER.out hjl; have hS5 : ((w5.cell? ⟨w3.heap.size, 0, none⟩ = some (.slice alc lo.length clc) ∧ w5.cell? ⟨w3.heap.size, 1, none⟩ = some (.slice ahc hi.length chc)) ∧ (w5.cell? ⟨w.heap.size + 1, 0, none⟩ = some (.bool t) ∧ w5.cell? ⟨w.heap.size + 1, 1, none⟩ = some (.int .i64 (j : Int)))) ∧ ((w5.cell? ⟨gg, j, none⟩).isSome = true ∧ w5.frozen? ⟨gg, j, none⟩ = false) := ⟨⟨⟨T_5.cell 0 (by simp), T_5.cell 1 (by simp)⟩, ⟨S_5.cell 0 (by simp), S_5.cell 1 (by simp)⟩⟩, ⟨by rw [cg0]; rfl, fg0⟩⟩))
    have VL_5 := hide (VL_4.out.below hb)
    have VH_5 := hide (VH_4.out.below hb)
    have B_5 := hide (Below.step B_4.out hb (Nat.le_refl _))
    have HO5 := hide O_5
    clear hb hb0 O_5 hg4 hI hS5
    have cT0 := T_5.c 0 rfl
    have cT1 := T_5.c 1 rfl
    go_wp2_with fail
    refine calls_at fun w6 hw6 => ?_
    obtain ⟨q1, ho6⟩ := HO5.out.set HER.out hjl id
    rw [← hw6] at q1 ho6
    have O_6 := hide q1
    clear q1 hw6 cg0 fg0
    have A_6 := A_5.other ho6 (by omega)
    have S_6 := S_5.other ho6 (by omega)
    have R_6 := R_5.other ho6 (by omega)
    have T_6 := T_5.other ho6 (by omega)
    have VL_6 := hide (VL_5.out.other ho6 (.inl (by omega)))
    have VH_6 := hide (VH_5.out.other ho6 (.inl (by omega)))
    have B_6 := hide (B_5.out.trans (ho6.below (B := w.heap.size) (by omega) B_5.out.size))
    clear ho6 cT0 cT1
    have k3 := pile_impl (.slice alc lo.length clc) (.slice ahc hi.length chc) _ _ w6 O_6.out.low0 O_6.out.high0
    unfold pileV at k3
    cases c3 : pileB (setR t lo hi (j : Int) id).1 (setR t lo hi (j : Int) id).2 with
    | false =>
      rw [c3] at k3
      have HZ := hide (put_not C1.out HAT.out c3)
      clear c3
      refine (k3).mono ?_
      rintro e w7 ⟨rfl, hb⟩
      have A_7 := A_6.below hb A_6.lt
      have S_7 := S_6.below hb S_6.lt
      have R_7 := R_6.below hb R_6.lt
      have T_7 := T_6.below hb T_6.lt
      have VL_7 := hide (VL_6.out.below hb)
      have VH_7 := hide (VH_6.out.below hb)
      have B_7 := hide (Below.step B_6.out hb (Nat.le_refl _))
      have hz7 := hb.size
      clear hb
      have cA0 := A_7.c 0 rfl
      have cA1 := A_7.c 1 rfl
      clear k3
      go_wp2_with fail
      have hzR := R_7.lt
      refine (HC.out w7 ((VL_7.out).mono (Nat.le_refl _) (VL_7.out).lt (Nat.le_refl _)) ((VH_7.out).mono (Nat.le_refl _) (VH_7.out).lt (Nat.le_refl _)) n1 n2).mono ?_
      rintro e w8 ⟨ld, hd, rfl, own, hb⟩
      have A_8 := A_7.below hb A_7.lt
      have S_8 := S_7.below hb S_7.lt
      have R_8 := R_7.below hb R_7.lt
      have T_8 := T_7.below hb T_7.lt
      have VL_8 := hide (VL_7.out.below hb)
      have VH_8 := hide (VH_7.out.below hb)
      have B_8 := hide (Below.step B_7.out hb (Nat.le_refl _))
      have hz8 := hb.size
      clear hb
      have cA0 := A_8.c 0 rfl
      have cA1 := A_8.c 1 rfl
      have cS0 := S_8.c 0 rfl
      have cS1 := S_8.c 1 rfl
      have cR0 := R_8.c 0 rfl
      have cR1 := R_8.c 1 rfl
      have fR0 := R_8.frozen 0
      have fR1 := R_8.frozen 1
      simp only [pileV]
      have O_d := hide own
      obtain ⟨ald, cld, rfl, -, -⟩ := own.lo.form
      obtain ⟨ahd, chd, rfl, -, -⟩ := own.ho.form
      clear own
      have hzcd : w.heap.size + 1 + 1 + 1 ≤ w7.heap.size := hzR
      go_wp2_with fail
      refine bodyPost_ret (by simp [results, Tryz.results165, go_sem, cR0, cR1]; try rfl) rfl ?_
      rw [HZ.out]
      exact ⟨_, _, rfl, (O_d.out.other (((Other.refl (w.heap.size + 1 + 1) (w.heap.size + 1 + 1 + 1) w8).setCell (p := ⟨w.heap.size + 1 + 1, 0, none⟩) (Nat.le_refl _) (Nat.lt_succ_self _) _).setCell (p := ⟨w.heap.size + 1 + 1, 1, none⟩) (Nat.le_refl _) (Nat.lt_succ_self _) _) (by omega)).mono (by omega), ((B_8.out).setCell (by simp; omega) _).setCell (by simp; omega) _⟩
    | true =>
      rw [c3] at k3
      have HZ := hide (put_yes C1.out (by omega) HAT.out c3)
      clear c3
      refine (k3).mono ?_
      rintro e w7 ⟨rfl, hb⟩
      have O_7 := hide (O_6.out.below hb (Nat.le_refl _))
      have A_7 := A_6.below hb A_6.lt
      have S_7 := S_6.below hb S_6.lt
      have R_7 := R_6.below hb R_6.lt
      have T_7 := T_6.below hb T_6.lt
      have VL_7 := hide (VL_6.out.below hb)
      have VH_7 := hide (VH_6.out.below hb)
      have B_7 := hide (Below.step B_6.out hb (Nat.le_refl _))
      have hz7 := hb.size
      clear hb
      have cT0 := T_7.c 0 rfl
      have cT1 := T_7.c 1 rfl
      have cR0 := R_7.c 0 rfl
      have cR1 := R_7.c 1 rfl
      have fR0 := R_7.frozen 0
      have fR1 := R_7.frozen 1
      clear k3
      go_wp2_with fail
      refine bodyPost_ret (by simp [results, Tryz.results165, go_sem, cR0, cR1]; try rfl) rfl ?_
      rw [HZ.out]
      exact ⟨_, _, rfl, (O_7.out.other (((Other.refl (w.heap.size + 1 + 1) (w.heap.size + 1 + 1 + 1) w7).setCell (p := ⟨w.heap.size + 1 + 1, 0, none⟩) (Nat.le_refl _) (Nat.lt_succ_self _) _).setCell (p := ⟨w.heap.size + 1 + 1, 1, none⟩) (Nat.le_refl _) (Nat.lt_succ_self _) _) (by omega)).mono (by omega), ((B_7.out).setCell (by simp; omega) _).setCell (by simp; omega) _⟩
def coilTo (lo hi : List Int) : Nat → List Int
  | 0 => []
  | k + 1 => if (findR lo hi ((k : Int) + 1)).isSome then coilTo lo hi k ++ [(k : Int) + 1] else coilTo lo hi k
theorem coilTo_len (lo hi : List Int) : ∀ k, (coilTo lo hi k).length ≤ k
  | 0 => Nat.le_refl _
  | k + 1 => by
    have := coilTo_len lo hi k
    unfold coilTo
    split
    · simp; omega
    · omega
theorem coilTo_mem {lo hi : List Int} : ∀ {k : Nat} {x : Int}, x ∈ coilTo lo hi k ↔ 1 ≤ x ∧ x ≤ k ∧ (findR lo hi x).isSome = true
  | 0, x => by simp [coilTo]; omega
  | k + 1, x => by
    unfold coilTo
    split
    · rename_i h
      rw [List.mem_append, coilTo_mem, List.mem_singleton]
      constructor
      · rintro (⟨h1, h2, h3⟩ | rfl)
        · exact ⟨h1, by omega, h3⟩
        · exact ⟨by omega, by omega, h⟩
      · rintro ⟨h1, h2, h3⟩
        by_cases e : x = (k : Int) + 1
        · exact .inr e
        · exact .inl ⟨h1, by omega, h3⟩
    · rename_i h
      rw [coilTo_mem]
      constructor
      · rintro ⟨h1, h2, h3⟩; exact ⟨h1, by omega, h3⟩
      · rintro ⟨h1, h2, h3⟩
        refine ⟨h1, ?_, h3⟩
        by_cases e : x = (k : Int) + 1
        · rw [e] at h3; exact absurd h3 h
        · omega
theorem coilTo_lt (lo hi : List Int) : ∀ k, (coilTo lo hi k).Pairwise (· < ·)
  | 0 => List.Pairwise.nil
  | k + 1 => by
    unfold coilTo
    split
    · rw [List.pairwise_append]
      refine ⟨coilTo_lt lo hi k, by simp, fun a ha b hb => ?_⟩
      have := coilTo_mem.1 ha
      simp only [List.mem_singleton] at hb
      omega
    · exact coilTo_lt lo hi k
theorem coilTo_all (lo hi : List Int) : coilTo lo hi 99 = coilR lo hi := by
  refine lt_unique (coilTo_lt _ _ _) (coil_lt _ _) fun x => ?_
  rw [coilTo_mem]
  cases hv : pileB lo hi with
  | false => simp [coilR, hv, find_bad hv]
  | true =>
    have hV := pileB_iff.1 hv
    rw [mem_coil hV]
    constructor
    · rintro ⟨h1, h2, h3⟩
      apply Classical.byContradiction
      intro hn
      have : findR lo hi x = none := by
        cases hf : findR lo hi x with
        | none => rfl
        | some r =>
          obtain ⟨t, p⟩ := r
          obtain ⟨_, _, k, _, hk, e⟩ := find_at hf
          exact absurd (mem_nz.2 ⟨by rw [← e]; exact row_mem (getD_mem hk), by omega⟩) hn
      rw [this] at h3; cases h3
    · intro h
      obtain ⟨t, p, e⟩ := find_some hV h
      have := hV.rng x (mem_nz.1 h).1
      have := (mem_nz.1 h).2
      exact ⟨by omega, by omega, by rw [e]; rfl⟩
set_option maxHeartbeats 1600000 in
theorem coils_spec (l h : Value) (lo hi : List Int) (w : World) (Hl : IntsAt 0 w.heap.size w l lo) (Hh : IntsAt 0 w.heap.size w h hi) :
    Calls Tryz.prog 70 #[pileV l h] w (IntsNew w.heap.size (coilR lo hi) w) := by
  have HL := hide Hl
  have HH := hide Hh
  have hP := fun id W H1 H2 => find_spec l h lo hi id W H1 H2
  unfold pileV at hP ⊢
  have HP := hide hP
  obtain ⟨i0, hi0, hz0, hi1, hi2⟩ := info_parts info_int
  clear hP Hl Hh
  go_enter Tryz.func70, Tryz.ntmps70
  go_wp2_with fail
  go_loopw [3, 4, 5, 6] (fun o i _ _ wr => ∃ k : Nat, k ≤ 99 ∧ i = .int .i64 ((k : Int) + 1) ∧ Below w.heap.size w wr ∧ RowL wr w.heap.size 29 [l, h] ∧ wr.ownsRow (w.heap.size + 1) 3 1 o (coilTo lo hi k).length (flatI (coilTo lo hi k))) (fun _ i _ _ _ => 100 - (intOf i).toNat)
  case atStart =>
    refine ⟨0, by omega, rfl, by go_grown, (RowL.new _ _ _).alloc _, ?_⟩
    simpa [coilTo, flatI] using World.ownsRow_lit (e := 3) (size := 1) (base := w.heap.size + 1) (w.alloc (.cells #[l, h] 29)) #[] 0 (by simp) (by unfold maxLen; omega) (by simp)
  case round =>
    obtain ⟨k, hk, rfl, hb, hr, hown⟩ := hrel
    have HB := hide hb
    have HR := hide hr
    have HO := hide hown
    have hz := hr.lt
    have hp0 := hr.cell 0 (by simp)
    have hp1 := hr.cell 1 (by simp)
    simp only [List.getD_cons_zero, List.getD_cons_succ] at hp0 hp1
    obtain ⟨aov, capv, rfl, hc1, hc2⟩ := own_slice hown
    clear hb hr hown
    by_cases hlt : k < 99
    · have HLr := hide ((HL.out.below HB.out).mono (Nat.le_refl _) HB.out.size (Nat.le_refl _))
      have HHr := hide ((HH.out.below HB.out).mono (Nat.le_refl _) HB.out.size (Nat.le_refl _))
      have hlen := coilTo_len lo hi k
      have hsz := HB.out.size
      cases hf : findR lo hi ((k : Int) + 1) with
      | none =>
        have HN := hide (show coilTo lo hi (k + 1) = coilTo lo hi k by simp [coilTo, hf])
        go_wp2_with fail
        refine (HP.out ((k : Int) + 1) wr HLr.out HHr.out).mono ?_
        rw [hf]
        unfold findV
        rintro e w1 ⟨rfl, hb1⟩
        have HB2 := hide (Below.step HB.out hb1 (Nat.le_refl _))
        have HR2 := hide (HR.out.below hb1 HR.out.lt)
        have HO2 := hide (ownsRow_below HO.out hb1 (Nat.le_refl _))
        have hz1 := HB2.out.size
        clear hb1 hp0 hp1 hf
        go_wp2_with fail
        go_roundw
        case rel => exact ⟨k + 1, by omega, by go_num, HB2.out.alloc hz1 _, HR2.out.alloc _, by rw [HN.out]; exact HO2.out.alloc _⟩
        case measure => simp [intOf]; omega
      | some r =>
        obtain ⟨t, p⟩ := r
        have HN := hide (show coilTo lo hi (k + 1) = coilTo lo hi k ++ [(k : Int) + 1] by simp [coilTo, hf])
        go_wp2_with fail
        refine (HP.out ((k : Int) + 1) wr HLr.out HHr.out).mono ?_
        rw [hf]
        unfold findV
        rintro e w1 ⟨rfl, hb1⟩
        have HB2 := hide (Below.step HB.out hb1 (Nat.le_refl _))
        have HR2 := hide (HR.out.below hb1 HR.out.lt)
        have HO2 := hide (ownsRow_below HO.out hb1 (Nat.le_refl _))
        have hz1 := HB2.out.size
        clear hb1 hp0 hp1 hf
        go_wp2_with (at_builtin; refine wpList_append_view rfl _ _ 27 rfl (w.heap.size + 1) 3 i0 (.int .i64 0) 1 8 Tryz.underlying27 hi0 hz0 hi1 hi2 rfl (by decide) _ _ _ rfl ((HO2.out.alloc _).alloc _) (.slice (some ⟨w1.heap.size + 1, 0, none⟩) 1 1) 1 [.int .i64 ((k : Int) + 1)] rfl ?c0 ?c1 ?c2 ?c3 ?_)
        case c0 => simpa using Source.lit (World.alloc w1 _) [.int .i64 ((k : Int) + 1)] 1 3 1 rfl (fun u hu => by simp at hu; subst hu; rfl) 1
        case c1 => unfold maxLen; omega
        case c2 => omega
        case c3 => simp; omega
        intro v2 w2 hown2 hgrow2 _
        have hlt2 := HR2.out.lt
        have hgB : Below (w.heap.size + 1) w1 w2 := (((Below.refl _ _).alloc (by omega) _).alloc (by simp; omega) _).trans (Below.grow hgrow2 ((HO2.out.alloc _).alloc _) (Nat.le_refl _) (by simp; omega))
        have HB3 := hide (HB2.out.trans (hgB.mono (by omega)))
        have HR3 := hide (HR2.out.below hgB (Nat.lt_succ_self _))
        have HO3 := hide (show w2.ownsRow (w.heap.size + 1) 3 1 v2 (coilTo lo hi (k + 1)).length (flatI (coilTo lo hi (k + 1))) by rw [HN.out]; simpa [flatI] using hown2)
        clear hown2 hgrow2 hgB
        go_wp2_with fail
        go_roundw
        case rel => exact ⟨k + 1, by omega, by go_num, HB3.out, HR3.out, HO3.out⟩
        case measure => simp [intOf]; omega
    · obtain rfl : k = 99 := by omega
      go_wp2_with fail
      go_ret
      exact ⟨_, rfl, by rw [← coilTo_all]; exact ownsRow_mono HO.out (by omega), HB.out⟩
end Go.Proofs.YtmemgbklgcjobaaGreatDoor
