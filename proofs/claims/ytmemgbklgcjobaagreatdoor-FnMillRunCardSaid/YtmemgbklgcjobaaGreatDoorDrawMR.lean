/-
  The draw of the law over a mill and deeds.
-/
import Derived.Test.YtmemgbklgcjobaaGreatDoorDrawMZ
import Derived.Test.YtmemgbklgcjobaaGreatDoorDrawMI
import Derived.Deep.RegionHeld
import Derived.Deep.CutRange
namespace Go.Proofs.YtmemgbklgcjobaaGreatDoor
open Go.RowKit

set_option linter.unusedVariables false in
set_option linter.unusedSimpArgs false in
set_option maxRecDepth 10000 in
set_option maxHeartbeats 3200000 in
theorem drawMillRun (v : Value) (n : Nat) (w : World) (hv : BytesAt 0 w.heap.size w v n) :
    Calls Tryz.prog 50 #[v] w fun e w' => ∃ s p l h m g cap js, e = .returned (.tuple #[millV s p l h m, .slice (some ⟨g, 0, none⟩) (List.length (α := J) js) cap]) ∧ js.length ≤ 100 ∧ (∀ j ∈ js, J.d j ≤ 9223372036854775807 ∧ J.g j ≤ 9223372036854775807) ∧ JobsAt w.heap.size w'.heap.size w' (.slice (some ⟨g, 0, none⟩) js.length cap) js ∧ MillGot w.heap.size w' s p l h m ∧ Few m ∧ Below w.heap.size w w' := by
  have HB0 := hide hv
  clear hv
  go_enter Tryz.func50, Tryz.ntmps50
  go_wp2_with fail
  refine calls_at fun wx hwx => ?_
  have Z_0 : RowL wx w.heap.size 31 [.slice none 0 0, .int .i64 0, .int .i64 0, .int .i64 0, .int .i64 0, .int .i64 0, .int .i64 0, .int .i64 0, .slice none 0 0, .slice none 0 0, .slice none 0 0, .int .i64 0] := by rw [hwx]; exact RowL.new _ _ _
  have hb : Below w.heap.size w wx := by rw [hwx]; exact (Below.refl _ _).alloc (Nat.le_refl _) _
  have HBx := hide ((HB0.out.below hb (Nat.le_refl _)).mono hb.size (Nat.le_refl _))
  have B_0 := hide hb
  have hz0 := Z_0.lt
  clear hwx hb
  refine (open_any v n wx HBx.out).mono ?_
  rintro e w1 ⟨R, rfl, hR, hb, hr⟩
  have Z_1 := Z_0.below hb Z_0.lt
  have B_1 := hide (Below.step B_0.out hb (Nat.le_refl _))
  have HR1 := hide hr
  have hRl := hr.lt
  have hz1 := hb.size
  clear hb hr
  go_wp2_with fail
  refine (l20Mill_any R _ 12 w1 HR1.out (by omega) (by omega) (by omega)).mono ?_
  rintro e w2 ⟨s, p, l, h, m, rfl, G, hf, ho, hr⟩
  obtain ⟨aS0, cs0, rfl, -, -⟩ := G.so.form
  obtain ⟨ap0, cp0, rfl, -, -⟩ := G.po.form
  obtain ⟨al0, cl0, rfl, -, -⟩ := G.lo.form
  obtain ⟨ah0, ch0, rfl, -, -⟩ := G.ho.form
  have G_2 := hide G
  have Z_2 := Z_1.other ho (by omega)
  have B_2 := hide (B_1.out.trans (ho.below (by omega) B_1.out.size))
  have HR2 := hide hr
  have hz2 := ho.size
  clear ho hr G
  unfold millV
  go_wp2_with fail
  refine calls_at fun wm hwm => ?_
  have M_m : RowL wm w2.heap.size 31 [.slice aS0 m.store.length cs0, .int .i64 m.rule.lc, .int .i64 m.rule.hc, .int .i64 m.rule.lm, .int .i64 m.rule.hm, .int .i64 m.rule.ls, .int .i64 m.rule.hs, .int .i64 m.strand, .slice ap0 m.pieces.length cp0, .slice al0 m.low.length cl0, .slice ah0 m.high.length ch0, .int .i64 m.scrap] := by rw [hwm]; exact RowL.new _ _ _
  have hb : Below w2.heap.size w2 wm := by rw [hwm]; exact (Below.refl _ _).alloc (Nat.le_refl _) _
  have Z_m := Z_2.below hb Z_2.lt
  have G_m := hide (G_2.out.below hb)
  have B_m := hide (Below.step B_2.out hb (Nat.le_refl _))
  have HRm := hide (HR2.out.keep hb HR2.out.lt)
  have hzm := hb.size
  have hlM := M_m.lt
  clear hwm hb
  refine (odd_any R _ 30 wm HRm.out (by omega) (by omega) (by omega)).mono ?_
  rintro e w3 ⟨b, rfl, ho, hr⟩
  have Z_3 := Z_m.other ho (by omega)
  have M_3 := M_m.other ho (by omega)
  have G_3 := hide (G_m.out.other ho (by omega))
  have B_3 := hide (B_m.out.trans (ho.below (by omega) B_m.out.size))
  have HR3 := hide hr
  have hz3 := ho.size
  clear ho hr
  have hlM3 := M_3.lt
  cases b with
  | true =>
    obtain ⟨zs, hzl, hzb⟩ : ∃ zs : List J, zs.length = 100 ∧ zs = List.replicate 100 ⟨0, 0, 0⟩ := ⟨_, by simp, rfl⟩
    obtain ⟨i9, hi9, hz9, hi91, hi92⟩ := info_parts info_J
    have hmc : madeCells (Value.agg #[.int .i64 0, .int .i64 0, .int .i64 0]).cells 300 = (flatD (List.replicate 100 (⟨0, 0, 0⟩ : J))).toArray := by kernel_rfl
    have hmk : ∀ W : World, (Instr.makeSlice 39 (.int .i64 100) (.int .i64 100)).run Tryz.prog W = .ok (.slice (some ⟨W.heap.size, 0, none⟩) 100 100) (W.alloc (.cells (flatD zs).toArray 48)) := fun W => by
      have h := run_makeSlice (P := Tryz.prog) W 39 _ i9 _ Tryz.underlying39 hi9 hz9 .i64 .i64 100 100 (by omega) (by omega) (by rw [hi91]; decide) (by rw [hi92]; decide) (by omega)
      rw [hi91, show (100 : Int).toNat * 3 = 300 from rfl, hmc, ← hzb] at h
      exact h
    clear hmc
    have hzj : ∀ j ∈ zs, J.d j ≤ 9223372036854775807 ∧ J.g j ≤ 9223372036854775807 := fun j hj => by
      rw [hzb] at hj
      rw [List.eq_of_mem_replicate hj]
      exact ⟨by decide, by decide⟩
    have HZJ := hide hzj
    clear hzb hzj
    go_wp2_with fail
    have cM0 : w3.cell? ⟨w2.heap.size, 0, none⟩ = some (.slice aS0 m.store.length cs0) := M_3.c 0 rfl
    have cM1 : w3.cell? ⟨w2.heap.size, 1, none⟩ = some (.int .i64 m.rule.lc) := M_3.c 1 rfl
    have cM2 : w3.cell? ⟨w2.heap.size, 2, none⟩ = some (.int .i64 m.rule.hc) := M_3.c 2 rfl
    have cM3 : w3.cell? ⟨w2.heap.size, 3, none⟩ = some (.int .i64 m.rule.lm) := M_3.c 3 rfl
    have cM4 : w3.cell? ⟨w2.heap.size, 4, none⟩ = some (.int .i64 m.rule.hm) := M_3.c 4 rfl
    have cM5 : w3.cell? ⟨w2.heap.size, 5, none⟩ = some (.int .i64 m.rule.ls) := M_3.c 5 rfl
    have cM6 : w3.cell? ⟨w2.heap.size, 6, none⟩ = some (.int .i64 m.rule.hs) := M_3.c 6 rfl
    have cM7 : w3.cell? ⟨w2.heap.size, 7, none⟩ = some (.int .i64 m.strand) := M_3.c 7 rfl
    have cM8 : w3.cell? ⟨w2.heap.size, 8, none⟩ = some (.slice ap0 m.pieces.length cp0) := M_3.c 8 rfl
    have cM9 : w3.cell? ⟨w2.heap.size, 9, none⟩ = some (.slice al0 m.low.length cl0) := M_3.c 9 rfl
    have cM10 : w3.cell? ⟨w2.heap.size, 10, none⟩ = some (.slice ah0 m.high.length ch0) := M_3.c 10 rfl
    have cM11 : w3.cell? ⟨w2.heap.size, 11, none⟩ = some (.int .i64 m.scrap) := M_3.c 11 rfl
    obtain ⟨yc0, yc1, yc2, yc3, yc4, yc5, yc6, yc7, yc8, yc9, yc10, yc11⟩ := row12_c Z_3
    have hlZ := Z_3.lt
    obtain ⟨yf0, yf1, yf2, yf3, yf4, yf5, yf6, yf7, yf8, yf9, yf10, yf11⟩ := row12_f Z_3
    have KJ := hide (fun W : World => jobs_new W zs (by omega))
    have hlm3 : zs.length ≤ 100 := by omega
    go_cut [3] from 12 to 13 (fun x W => MillDeedsAt w.heap.size w.heap.size w (.slice aS0 m.store.length cs0) (.slice ap0 m.pieces.length cp0) (.slice al0 m.low.length cl0) (.slice ah0 m.high.length ch0) m x W)
    case first =>
      go_region
      all_goals
        go_wp2_with fail
        go_meet
        obtain ⟨ws, hws⟩ : ∃ q : World, q = ((((((((((((w3).setCell ⟨w.heap.size, 0, none⟩ (.slice aS0 m.store.length cs0)).setCell ⟨w.heap.size, 1, none⟩ (.int .i64 m.rule.lc)).setCell ⟨w.heap.size, 2, none⟩ (.int .i64 m.rule.hc)).setCell ⟨w.heap.size, 3, none⟩ (.int .i64 m.rule.lm)).setCell ⟨w.heap.size, 4, none⟩ (.int .i64 m.rule.hm)).setCell ⟨w.heap.size, 5, none⟩ (.int .i64 m.rule.ls)).setCell ⟨w.heap.size, 6, none⟩ (.int .i64 m.rule.hs)).setCell ⟨w.heap.size, 7, none⟩ (.int .i64 m.strand)).setCell ⟨w.heap.size, 8, none⟩ (.slice ap0 m.pieces.length cp0)).setCell ⟨w.heap.size, 9, none⟩ (.slice al0 m.low.length cl0)).setCell ⟨w.heap.size, 10, none⟩ (.slice ah0 m.high.length ch0)).setCell ⟨w.heap.size, 11, none⟩ (.int .i64 m.scrap) := ⟨_, rfl⟩
        rw [← hws]
        have T : Other w.heap.size (w.heap.size + 1) w3 ws := by rw [hws]; exact other12 _ _ _ _ _ _ _ _ _ _ _ _ _ _
        have Zs : RowL ws w.heap.size 31 [.slice aS0 m.store.length cs0, .int .i64 m.rule.lc, .int .i64 m.rule.hc, .int .i64 m.rule.lm, .int .i64 m.rule.hm, .int .i64 m.rule.ls, .int .i64 m.rule.hs, .int .i64 m.strand, .slice ap0 m.pieces.length cp0, .slice al0 m.low.length cl0, .slice ah0 m.high.length ch0, .int .i64 m.scrap] := by rw [hws]; exact row12 Z_3 rfl _ _ _ _ _ _ _ _ _ _ _ _
        have hsz : ws.heap.size = w3.heap.size := by rw [hws]; simp [World.setCell]
        clear hws
        have Gs := G_3.out.past Z_3 T
        have Bs := B_3.out.trans (T.below (B := w.heap.size) (Nat.le_refl _) B_3.out.size)
        have J := KJ.out ws
        rw [hsz] at J
        have hA : Below ws.heap.size ws (ws.alloc (.cells (flatD zs).toArray 48)) := (Below.refl _ _).alloc (Nat.le_refl _) _
        have hx := mds_0 (b := w.heap.size) HZJ.out hlm3 J (by omega) (Zs.below hA Zs.lt) (Gs.below hA) (Below.step Bs hA (Nat.le_refl _)) (by omega)
        rw [hzl] at hx
        exact mds_drew hx
    obtain ⟨js, ao, cap, rfl, hjl, hjs, Hj, Z_f, G, hB⟩ := hcut
    have Z_f : RowL wc w.heap.size 31 [.slice aS0 m.store.length cs0, .int .i64 m.rule.lc, .int .i64 m.rule.hc, .int .i64 m.rule.lm, .int .i64 m.rule.hm, .int .i64 m.rule.ls, .int .i64 m.rule.hs, .int .i64 m.strand, .slice ap0 m.pieces.length cp0, .slice al0 m.low.length cl0, .slice ah0 m.high.length ch0, .int .i64 m.scrap] := Z_f
    have cZ0 : wc.cell? ⟨w.heap.size, 0, none⟩ = some (.slice aS0 m.store.length cs0) := Z_f.c 0 rfl
    have cZ1 : wc.cell? ⟨w.heap.size, 1, none⟩ = some (.int .i64 m.rule.lc) := Z_f.c 1 rfl
    have cZ2 : wc.cell? ⟨w.heap.size, 2, none⟩ = some (.int .i64 m.rule.hc) := Z_f.c 2 rfl
    have cZ3 : wc.cell? ⟨w.heap.size, 3, none⟩ = some (.int .i64 m.rule.lm) := Z_f.c 3 rfl
    have cZ4 : wc.cell? ⟨w.heap.size, 4, none⟩ = some (.int .i64 m.rule.hm) := Z_f.c 4 rfl
    have cZ5 : wc.cell? ⟨w.heap.size, 5, none⟩ = some (.int .i64 m.rule.ls) := Z_f.c 5 rfl
    have cZ6 : wc.cell? ⟨w.heap.size, 6, none⟩ = some (.int .i64 m.rule.hs) := Z_f.c 6 rfl
    have cZ7 : wc.cell? ⟨w.heap.size, 7, none⟩ = some (.int .i64 m.strand) := Z_f.c 7 rfl
    have cZ8 : wc.cell? ⟨w.heap.size, 8, none⟩ = some (.slice ap0 m.pieces.length cp0) := Z_f.c 8 rfl
    have cZ9 : wc.cell? ⟨w.heap.size, 9, none⟩ = some (.slice al0 m.low.length cl0) := Z_f.c 9 rfl
    have cZ10 : wc.cell? ⟨w.heap.size, 10, none⟩ = some (.slice ah0 m.high.length ch0) := Z_f.c 10 rfl
    have cZ11 : wc.cell? ⟨w.heap.size, 11, none⟩ = some (.int .i64 m.scrap) := Z_f.c 11 rfl
    go_wp2_with fail
    refine bodyPost_ret (by simp [results, Tryz.results50, go_sem, cZ0, cZ1, cZ2, cZ3, cZ4, cZ5, cZ6, cZ7, cZ8, cZ9, cZ10, cZ11]; try rfl) rfl ?_
    exact ⟨_, _, _, _, m, _, _, js, rfl, hjl, hjs, Hj, G, hf, hB⟩
  | false =>
    go_wp2_with fail
    have hI : (World.drew w3).cell? ⟨w2.heap.size, 0, none⟩ = some (.slice aS0 m.store.length cs0) ∧ (World.drew w3).cell? ⟨w2.heap.size, 1, none⟩ = some (.int .i64 m.rule.lc) ∧ (World.drew w3).cell? ⟨w2.heap.size, 2, none⟩ = some (.int .i64 m.rule.hc) ∧ (World.drew w3).cell? ⟨w2.heap.size, 3, none⟩ = some (.int .i64 m.rule.lm) ∧ (World.drew w3).cell? ⟨w2.heap.size, 4, none⟩ = some (.int .i64 m.rule.hm) ∧ (World.drew w3).cell? ⟨w2.heap.size, 5, none⟩ = some (.int .i64 m.rule.ls) ∧ (World.drew w3).cell? ⟨w2.heap.size, 6, none⟩ = some (.int .i64 m.rule.hs) ∧ (World.drew w3).cell? ⟨w2.heap.size, 7, none⟩ = some (.int .i64 m.strand) ∧ (World.drew w3).cell? ⟨w2.heap.size, 8, none⟩ = some (.slice ap0 m.pieces.length cp0) ∧ (World.drew w3).cell? ⟨w2.heap.size, 9, none⟩ = some (.slice al0 m.low.length cl0) ∧ (World.drew w3).cell? ⟨w2.heap.size, 10, none⟩ = some (.slice ah0 m.high.length ch0) ∧ (World.drew w3).cell? ⟨w2.heap.size, 11, none⟩ = some (.int .i64 m.scrap) := row12_all M_3.drew
    have hbd : Below w3.heap.size w3 (World.drew w3) := (Below.refl _ _).drew
    have Z_d := Z_3.drew
    have M_d := M_3.drew
    have G_d := hide (G_3.out.below hbd)
    have HRd := hide (show Rd R _ (World.drew w3) from HR3.out.keep hbd HR3.out.lt)
    have B_d := hide (Below.step B_3.out hbd (Nat.le_refl _))
    have hzd : (World.drew w3).heap.size = w3.heap.size := rfl
    have hlM_d := M_d.lt
    have T0 := other12 w.heap.size (World.drew w3) (.slice aS0 m.store.length cs0) (.int .i64 m.rule.lc) (.int .i64 m.rule.hc) (.int .i64 m.rule.lm) (.int .i64 m.rule.hm) (.int .i64 m.rule.ls) (.int .i64 m.rule.hs) (.int .i64 m.strand) (.slice ap0 m.pieces.length cp0) (.slice al0 m.low.length cl0) (.slice ah0 m.high.length ch0) (.int .i64 m.scrap)
    have Z_s := row12 Z_d rfl (.slice aS0 m.store.length cs0) (.int .i64 m.rule.lc) (.int .i64 m.rule.hc) (.int .i64 m.rule.lm) (.int .i64 m.rule.hm) (.int .i64 m.rule.ls) (.int .i64 m.rule.hs) (.int .i64 m.strand) (.slice ap0 m.pieces.length cp0) (.slice al0 m.low.length cl0) (.slice ah0 m.high.length ch0) (.int .i64 m.scrap)
    have M_s := M_d.other T0 (by omega)
    have G_s := hide (G_d.out.past Z_d T0)
    have HRs := hide (HRd.out.past Z_d (by omega) no8_zero T0)
    have B_s := hide (B_d.out.trans (T0.below (Nat.le_refl _) B_d.out.size))
    have hIs : ((((((((((((((World.drew w3)).setCell ⟨w.heap.size, 0, none⟩ (.slice aS0 m.store.length cs0)).setCell ⟨w.heap.size, 1, none⟩ (.int .i64 m.rule.lc)).setCell ⟨w.heap.size, 2, none⟩ (.int .i64 m.rule.hc)).setCell ⟨w.heap.size, 3, none⟩ (.int .i64 m.rule.lm)).setCell ⟨w.heap.size, 4, none⟩ (.int .i64 m.rule.hm)).setCell ⟨w.heap.size, 5, none⟩ (.int .i64 m.rule.ls)).setCell ⟨w.heap.size, 6, none⟩ (.int .i64 m.rule.hs)).setCell ⟨w.heap.size, 7, none⟩ (.int .i64 m.strand)).setCell ⟨w.heap.size, 8, none⟩ (.slice ap0 m.pieces.length cp0)).setCell ⟨w.heap.size, 9, none⟩ (.slice al0 m.low.length cl0)).setCell ⟨w.heap.size, 10, none⟩ (.slice ah0 m.high.length ch0)).setCell ⟨w.heap.size, 11, none⟩ (.int .i64 m.scrap)).cell? ⟨w2.heap.size, 0, none⟩ = some (.slice aS0 m.store.length cs0) ∧ ((((((((((((((World.drew w3)).setCell ⟨w.heap.size, 0, none⟩ (.slice aS0 m.store.length cs0)).setCell ⟨w.heap.size, 1, none⟩ (.int .i64 m.rule.lc)).setCell ⟨w.heap.size, 2, none⟩ (.int .i64 m.rule.hc)).setCell ⟨w.heap.size, 3, none⟩ (.int .i64 m.rule.lm)).setCell ⟨w.heap.size, 4, none⟩ (.int .i64 m.rule.hm)).setCell ⟨w.heap.size, 5, none⟩ (.int .i64 m.rule.ls)).setCell ⟨w.heap.size, 6, none⟩ (.int .i64 m.rule.hs)).setCell ⟨w.heap.size, 7, none⟩ (.int .i64 m.strand)).setCell ⟨w.heap.size, 8, none⟩ (.slice ap0 m.pieces.length cp0)).setCell ⟨w.heap.size, 9, none⟩ (.slice al0 m.low.length cl0)).setCell ⟨w.heap.size, 10, none⟩ (.slice ah0 m.high.length ch0)).setCell ⟨w.heap.size, 11, none⟩ (.int .i64 m.scrap)).cell? ⟨w2.heap.size, 1, none⟩ = some (.int .i64 m.rule.lc) ∧ ((((((((((((((World.drew w3)).setCell ⟨w.heap.size, 0, none⟩ (.slice aS0 m.store.length cs0)).setCell ⟨w.heap.size, 1, none⟩ (.int .i64 m.rule.lc)).setCell ⟨w.heap.size, 2, none⟩ (.int .i64 m.rule.hc)).setCell ⟨w.heap.size, 3, none⟩ (.int .i64 m.rule.lm)).setCell ⟨w.heap.size, 4, none⟩ (.int .i64 m.rule.hm)).setCell ⟨w.heap.size, 5, none⟩ (.int .i64 m.rule.ls)).setCell ⟨w.heap.size, 6, none⟩ (.int .i64 m.rule.hs)).setCell ⟨w.heap.size, 7, none⟩ (.int .i64 m.strand)).setCell ⟨w.heap.size, 8, none⟩ (.slice ap0 m.pieces.length cp0)).setCell ⟨w.heap.size, 9, none⟩ (.slice al0 m.low.length cl0)).setCell ⟨w.heap.size, 10, none⟩ (.slice ah0 m.high.length ch0)).setCell ⟨w.heap.size, 11, none⟩ (.int .i64 m.scrap)).cell? ⟨w2.heap.size, 2, none⟩ = some (.int .i64 m.rule.hc) ∧ ((((((((((((((World.drew w3)).setCell ⟨w.heap.size, 0, none⟩ (.slice aS0 m.store.length cs0)).setCell ⟨w.heap.size, 1, none⟩ (.int .i64 m.rule.lc)).setCell ⟨w.heap.size, 2, none⟩ (.int .i64 m.rule.hc)).setCell ⟨w.heap.size, 3, none⟩ (.int .i64 m.rule.lm)).setCell ⟨w.heap.size, 4, none⟩ (.int .i64 m.rule.hm)).setCell ⟨w.heap.size, 5, none⟩ (.int .i64 m.rule.ls)).setCell ⟨w.heap.size, 6, none⟩ (.int .i64 m.rule.hs)).setCell ⟨w.heap.size, 7, none⟩ (.int .i64 m.strand)).setCell ⟨w.heap.size, 8, none⟩ (.slice ap0 m.pieces.length cp0)).setCell ⟨w.heap.size, 9, none⟩ (.slice al0 m.low.length cl0)).setCell ⟨w.heap.size, 10, none⟩ (.slice ah0 m.high.length ch0)).setCell ⟨w.heap.size, 11, none⟩ (.int .i64 m.scrap)).cell? ⟨w2.heap.size, 3, none⟩ = some (.int .i64 m.rule.lm) ∧ ((((((((((((((World.drew w3)).setCell ⟨w.heap.size, 0, none⟩ (.slice aS0 m.store.length cs0)).setCell ⟨w.heap.size, 1, none⟩ (.int .i64 m.rule.lc)).setCell ⟨w.heap.size, 2, none⟩ (.int .i64 m.rule.hc)).setCell ⟨w.heap.size, 3, none⟩ (.int .i64 m.rule.lm)).setCell ⟨w.heap.size, 4, none⟩ (.int .i64 m.rule.hm)).setCell ⟨w.heap.size, 5, none⟩ (.int .i64 m.rule.ls)).setCell ⟨w.heap.size, 6, none⟩ (.int .i64 m.rule.hs)).setCell ⟨w.heap.size, 7, none⟩ (.int .i64 m.strand)).setCell ⟨w.heap.size, 8, none⟩ (.slice ap0 m.pieces.length cp0)).setCell ⟨w.heap.size, 9, none⟩ (.slice al0 m.low.length cl0)).setCell ⟨w.heap.size, 10, none⟩ (.slice ah0 m.high.length ch0)).setCell ⟨w.heap.size, 11, none⟩ (.int .i64 m.scrap)).cell? ⟨w2.heap.size, 4, none⟩ = some (.int .i64 m.rule.hm) ∧ ((((((((((((((World.drew w3)).setCell ⟨w.heap.size, 0, none⟩ (.slice aS0 m.store.length cs0)).setCell ⟨w.heap.size, 1, none⟩ (.int .i64 m.rule.lc)).setCell ⟨w.heap.size, 2, none⟩ (.int .i64 m.rule.hc)).setCell ⟨w.heap.size, 3, none⟩ (.int .i64 m.rule.lm)).setCell ⟨w.heap.size, 4, none⟩ (.int .i64 m.rule.hm)).setCell ⟨w.heap.size, 5, none⟩ (.int .i64 m.rule.ls)).setCell ⟨w.heap.size, 6, none⟩ (.int .i64 m.rule.hs)).setCell ⟨w.heap.size, 7, none⟩ (.int .i64 m.strand)).setCell ⟨w.heap.size, 8, none⟩ (.slice ap0 m.pieces.length cp0)).setCell ⟨w.heap.size, 9, none⟩ (.slice al0 m.low.length cl0)).setCell ⟨w.heap.size, 10, none⟩ (.slice ah0 m.high.length ch0)).setCell ⟨w.heap.size, 11, none⟩ (.int .i64 m.scrap)).cell? ⟨w2.heap.size, 5, none⟩ = some (.int .i64 m.rule.ls) ∧ ((((((((((((((World.drew w3)).setCell ⟨w.heap.size, 0, none⟩ (.slice aS0 m.store.length cs0)).setCell ⟨w.heap.size, 1, none⟩ (.int .i64 m.rule.lc)).setCell ⟨w.heap.size, 2, none⟩ (.int .i64 m.rule.hc)).setCell ⟨w.heap.size, 3, none⟩ (.int .i64 m.rule.lm)).setCell ⟨w.heap.size, 4, none⟩ (.int .i64 m.rule.hm)).setCell ⟨w.heap.size, 5, none⟩ (.int .i64 m.rule.ls)).setCell ⟨w.heap.size, 6, none⟩ (.int .i64 m.rule.hs)).setCell ⟨w.heap.size, 7, none⟩ (.int .i64 m.strand)).setCell ⟨w.heap.size, 8, none⟩ (.slice ap0 m.pieces.length cp0)).setCell ⟨w.heap.size, 9, none⟩ (.slice al0 m.low.length cl0)).setCell ⟨w.heap.size, 10, none⟩ (.slice ah0 m.high.length ch0)).setCell ⟨w.heap.size, 11, none⟩ (.int .i64 m.scrap)).cell? ⟨w2.heap.size, 6, none⟩ = some (.int .i64 m.rule.hs) ∧ ((((((((((((((World.drew w3)).setCell ⟨w.heap.size, 0, none⟩ (.slice aS0 m.store.length cs0)).setCell ⟨w.heap.size, 1, none⟩ (.int .i64 m.rule.lc)).setCell ⟨w.heap.size, 2, none⟩ (.int .i64 m.rule.hc)).setCell ⟨w.heap.size, 3, none⟩ (.int .i64 m.rule.lm)).setCell ⟨w.heap.size, 4, none⟩ (.int .i64 m.rule.hm)).setCell ⟨w.heap.size, 5, none⟩ (.int .i64 m.rule.ls)).setCell ⟨w.heap.size, 6, none⟩ (.int .i64 m.rule.hs)).setCell ⟨w.heap.size, 7, none⟩ (.int .i64 m.strand)).setCell ⟨w.heap.size, 8, none⟩ (.slice ap0 m.pieces.length cp0)).setCell ⟨w.heap.size, 9, none⟩ (.slice al0 m.low.length cl0)).setCell ⟨w.heap.size, 10, none⟩ (.slice ah0 m.high.length ch0)).setCell ⟨w.heap.size, 11, none⟩ (.int .i64 m.scrap)).cell? ⟨w2.heap.size, 7, none⟩ = some (.int .i64 m.strand) ∧ ((((((((((((((World.drew w3)).setCell ⟨w.heap.size, 0, none⟩ (.slice aS0 m.store.length cs0)).setCell ⟨w.heap.size, 1, none⟩ (.int .i64 m.rule.lc)).setCell ⟨w.heap.size, 2, none⟩ (.int .i64 m.rule.hc)).setCell ⟨w.heap.size, 3, none⟩ (.int .i64 m.rule.lm)).setCell ⟨w.heap.size, 4, none⟩ (.int .i64 m.rule.hm)).setCell ⟨w.heap.size, 5, none⟩ (.int .i64 m.rule.ls)).setCell ⟨w.heap.size, 6, none⟩ (.int .i64 m.rule.hs)).setCell ⟨w.heap.size, 7, none⟩ (.int .i64 m.strand)).setCell ⟨w.heap.size, 8, none⟩ (.slice ap0 m.pieces.length cp0)).setCell ⟨w.heap.size, 9, none⟩ (.slice al0 m.low.length cl0)).setCell ⟨w.heap.size, 10, none⟩ (.slice ah0 m.high.length ch0)).setCell ⟨w.heap.size, 11, none⟩ (.int .i64 m.scrap)).cell? ⟨w2.heap.size, 8, none⟩ = some (.slice ap0 m.pieces.length cp0) ∧ ((((((((((((((World.drew w3)).setCell ⟨w.heap.size, 0, none⟩ (.slice aS0 m.store.length cs0)).setCell ⟨w.heap.size, 1, none⟩ (.int .i64 m.rule.lc)).setCell ⟨w.heap.size, 2, none⟩ (.int .i64 m.rule.hc)).setCell ⟨w.heap.size, 3, none⟩ (.int .i64 m.rule.lm)).setCell ⟨w.heap.size, 4, none⟩ (.int .i64 m.rule.hm)).setCell ⟨w.heap.size, 5, none⟩ (.int .i64 m.rule.ls)).setCell ⟨w.heap.size, 6, none⟩ (.int .i64 m.rule.hs)).setCell ⟨w.heap.size, 7, none⟩ (.int .i64 m.strand)).setCell ⟨w.heap.size, 8, none⟩ (.slice ap0 m.pieces.length cp0)).setCell ⟨w.heap.size, 9, none⟩ (.slice al0 m.low.length cl0)).setCell ⟨w.heap.size, 10, none⟩ (.slice ah0 m.high.length ch0)).setCell ⟨w.heap.size, 11, none⟩ (.int .i64 m.scrap)).cell? ⟨w2.heap.size, 9, none⟩ = some (.slice al0 m.low.length cl0) ∧ ((((((((((((((World.drew w3)).setCell ⟨w.heap.size, 0, none⟩ (.slice aS0 m.store.length cs0)).setCell ⟨w.heap.size, 1, none⟩ (.int .i64 m.rule.lc)).setCell ⟨w.heap.size, 2, none⟩ (.int .i64 m.rule.hc)).setCell ⟨w.heap.size, 3, none⟩ (.int .i64 m.rule.lm)).setCell ⟨w.heap.size, 4, none⟩ (.int .i64 m.rule.hm)).setCell ⟨w.heap.size, 5, none⟩ (.int .i64 m.rule.ls)).setCell ⟨w.heap.size, 6, none⟩ (.int .i64 m.rule.hs)).setCell ⟨w.heap.size, 7, none⟩ (.int .i64 m.strand)).setCell ⟨w.heap.size, 8, none⟩ (.slice ap0 m.pieces.length cp0)).setCell ⟨w.heap.size, 9, none⟩ (.slice al0 m.low.length cl0)).setCell ⟨w.heap.size, 10, none⟩ (.slice ah0 m.high.length ch0)).setCell ⟨w.heap.size, 11, none⟩ (.int .i64 m.scrap)).cell? ⟨w2.heap.size, 10, none⟩ = some (.slice ah0 m.high.length ch0) ∧ ((((((((((((((World.drew w3)).setCell ⟨w.heap.size, 0, none⟩ (.slice aS0 m.store.length cs0)).setCell ⟨w.heap.size, 1, none⟩ (.int .i64 m.rule.lc)).setCell ⟨w.heap.size, 2, none⟩ (.int .i64 m.rule.hc)).setCell ⟨w.heap.size, 3, none⟩ (.int .i64 m.rule.lm)).setCell ⟨w.heap.size, 4, none⟩ (.int .i64 m.rule.hm)).setCell ⟨w.heap.size, 5, none⟩ (.int .i64 m.rule.ls)).setCell ⟨w.heap.size, 6, none⟩ (.int .i64 m.rule.hs)).setCell ⟨w.heap.size, 7, none⟩ (.int .i64 m.strand)).setCell ⟨w.heap.size, 8, none⟩ (.slice ap0 m.pieces.length cp0)).setCell ⟨w.heap.size, 9, none⟩ (.slice al0 m.low.length cl0)).setCell ⟨w.heap.size, 10, none⟩ (.slice ah0 m.high.length ch0)).setCell ⟨w.heap.size, 11, none⟩ (.int .i64 m.scrap)).cell? ⟨w2.heap.size, 11, none⟩ = some (.int .i64 m.scrap) := row12_all M_s
    have hzs := T0.size
    obtain ⟨zc0, zc1, zc2, zc3, zc4, zc5, zc6, zc7, zc8, zc9, zc10, zc11⟩ := row12_c Z_d
    obtain ⟨zf0, zf1, zf2, zf3, zf4, zf5, zf6, zf7, zf8, zf9, zf10, zf11⟩ := row12_f Z_d
    clear hbd T0
    go_cut [3] from 14 to 17 (fun x W => MillDeedsAt w.heap.size w.heap.size w (.slice aS0 m.store.length cs0) (.slice ap0 m.pieces.length cp0) (.slice al0 m.low.length cl0) (.slice ah0 m.high.length ch0) m x W)
    case first =>
      go_region_held (fun W => W.cell? ⟨w2.heap.size, 0, none⟩ = some (.slice aS0 m.store.length cs0) ∧ W.cell? ⟨w2.heap.size, 1, none⟩ = some (.int .i64 m.rule.lc) ∧ W.cell? ⟨w2.heap.size, 2, none⟩ = some (.int .i64 m.rule.hc) ∧ W.cell? ⟨w2.heap.size, 3, none⟩ = some (.int .i64 m.rule.lm) ∧ W.cell? ⟨w2.heap.size, 4, none⟩ = some (.int .i64 m.rule.hm) ∧ W.cell? ⟨w2.heap.size, 5, none⟩ = some (.int .i64 m.rule.ls) ∧ W.cell? ⟨w2.heap.size, 6, none⟩ = some (.int .i64 m.rule.hs) ∧ W.cell? ⟨w2.heap.size, 7, none⟩ = some (.int .i64 m.strand) ∧ W.cell? ⟨w2.heap.size, 8, none⟩ = some (.slice ap0 m.pieces.length cp0) ∧ W.cell? ⟨w2.heap.size, 9, none⟩ = some (.slice al0 m.low.length cl0) ∧ W.cell? ⟨w2.heap.size, 10, none⟩ = some (.slice ah0 m.high.length ch0) ∧ W.cell? ⟨w2.heap.size, 11, none⟩ = some (.int .i64 m.scrap)) (first | (with_reducible exact hI) | (with_reducible exact hIs) | (with_reducible exact hS6) | (with_reducible exact K1)) (first
        | (go_at_call 58; first | ((have hd := l20MillDeeds_any R _ w1.heap.size (.slice aS0 m.store.length cs0) (.slice ap0 m.pieces.length cp0) (.slice al0 m.low.length cl0) (.slice ah0 m.high.length ch0) m _ HRd.out (by omega) G_d.out (by omega) hf; (try unfold millV at hd); (with_reducible refine hd.mono ?_)); clear hd; rintro e w6 ⟨v6, js, rfl, hj13, hjs, own6, ho, hr, g6, hg6⟩; (have M_6 := M_d.other ho (by omega); have Z_6 := Z_d.other ho (by omega); have G_6 := hide (G_d.out.other ho (by omega)); have B_6 := hide (B_d.out.trans (ho.below (by omega) B_d.out.size))); have hS6 : w6.cell? ⟨w2.heap.size, 0, none⟩ = some (.slice aS0 m.store.length cs0) ∧ w6.cell? ⟨w2.heap.size, 1, none⟩ = some (.int .i64 m.rule.lc) ∧ w6.cell? ⟨w2.heap.size, 2, none⟩ = some (.int .i64 m.rule.hc) ∧ w6.cell? ⟨w2.heap.size, 3, none⟩ = some (.int .i64 m.rule.lm) ∧ w6.cell? ⟨w2.heap.size, 4, none⟩ = some (.int .i64 m.rule.hm) ∧ w6.cell? ⟨w2.heap.size, 5, none⟩ = some (.int .i64 m.rule.ls) ∧ w6.cell? ⟨w2.heap.size, 6, none⟩ = some (.int .i64 m.rule.hs) ∧ w6.cell? ⟨w2.heap.size, 7, none⟩ = some (.int .i64 m.strand) ∧ w6.cell? ⟨w2.heap.size, 8, none⟩ = some (.slice ap0 m.pieces.length cp0) ∧ w6.cell? ⟨w2.heap.size, 9, none⟩ = some (.slice al0 m.low.length cl0) ∧ w6.cell? ⟨w2.heap.size, 10, none⟩ = some (.slice ah0 m.high.length ch0) ∧ w6.cell? ⟨w2.heap.size, 11, none⟩ = some (.int .i64 m.scrap) := row12_all M_6; have hz6 := ho.size; have hj100 : js.length ≤ 100 := (by omega); have J_6 := hide (ownD_at own6 rfl ho.size); obtain ⟨ci6, hv6⟩ := own_some own6 hg6; clear hg6; subst hv6; have hlo6 : w.heap.size ≤ (World.drew w3).heap.size := (by omega); obtain ⟨zc0, zc1, zc2, zc3, zc4, zc5, zc6, zc7, zc8, zc9, zc10, zc11⟩ := row12_c Z_6; obtain ⟨zf0, zf1, zf2, zf3, zf4, zf5, zf6, zf7, zf8, zf9, zf10, zf11⟩ := row12_f Z_6; have K1 := row12_all (M_6.other (other12 w.heap.size w6 (.slice aS0 m.store.length cs0) (.int .i64 m.rule.lc) (.int .i64 m.rule.hc) (.int .i64 m.rule.lm) (.int .i64 m.rule.hm) (.int .i64 m.rule.ls) (.int .i64 m.rule.hs) (.int .i64 m.strand) (.slice ap0 m.pieces.length cp0) (.slice al0 m.low.length cl0) (.slice ah0 m.high.length ch0) (.int .i64 m.scrap)) (by omega)); clear ho hr own6) | ((have hd := l20MillDeeds_any R _ w1.heap.size (.slice aS0 m.store.length cs0) (.slice ap0 m.pieces.length cp0) (.slice al0 m.low.length cl0) (.slice ah0 m.high.length ch0) m _ HRs.out (by omega) G_s.out (by omega) hf; (try unfold millV at hd); (with_reducible refine hd.mono ?_)); clear hd; rintro e w6 ⟨v6, js, rfl, hj13, hjs, own6, ho, hr, g6, hg6⟩; (have M_6 := M_s.other ho (by omega); have Z_6 := Z_s.other ho (by omega); have G_6 := hide (G_s.out.other ho (by omega)); have B_6 := hide (B_s.out.trans (ho.below (by omega) B_s.out.size))); have hS6 : w6.cell? ⟨w2.heap.size, 0, none⟩ = some (.slice aS0 m.store.length cs0) ∧ w6.cell? ⟨w2.heap.size, 1, none⟩ = some (.int .i64 m.rule.lc) ∧ w6.cell? ⟨w2.heap.size, 2, none⟩ = some (.int .i64 m.rule.hc) ∧ w6.cell? ⟨w2.heap.size, 3, none⟩ = some (.int .i64 m.rule.lm) ∧ w6.cell? ⟨w2.heap.size, 4, none⟩ = some (.int .i64 m.rule.hm) ∧ w6.cell? ⟨w2.heap.size, 5, none⟩ = some (.int .i64 m.rule.ls) ∧ w6.cell? ⟨w2.heap.size, 6, none⟩ = some (.int .i64 m.rule.hs) ∧ w6.cell? ⟨w2.heap.size, 7, none⟩ = some (.int .i64 m.strand) ∧ w6.cell? ⟨w2.heap.size, 8, none⟩ = some (.slice ap0 m.pieces.length cp0) ∧ w6.cell? ⟨w2.heap.size, 9, none⟩ = some (.slice al0 m.low.length cl0) ∧ w6.cell? ⟨w2.heap.size, 10, none⟩ = some (.slice ah0 m.high.length ch0) ∧ w6.cell? ⟨w2.heap.size, 11, none⟩ = some (.int .i64 m.scrap) := row12_all M_6; have hz6 := ho.size; have hj100 : js.length ≤ 100 := (by omega); have J_6 := hide (ownD_at own6 rfl ho.size); obtain ⟨ci6, hv6⟩ := own_some own6 hg6; clear hg6; subst hv6; have hlo6 : w.heap.size ≤ (World.drew w3).heap.size := (by omega); obtain ⟨zc0, zc1, zc2, zc3, zc4, zc5, zc6, zc7, zc8, zc9, zc10, zc11⟩ := row12_c Z_6; obtain ⟨zf0, zf1, zf2, zf3, zf4, zf5, zf6, zf7, zf8, zf9, zf10, zf11⟩ := row12_f Z_6; have K1 := row12_all (M_6.other (other12 w.heap.size w6 (.slice aS0 m.store.length cs0) (.int .i64 m.rule.lc) (.int .i64 m.rule.hc) (.int .i64 m.rule.lm) (.int .i64 m.rule.hm) (.int .i64 m.rule.ls) (.int .i64 m.rule.hs) (.int .i64 m.strand) (.slice ap0 m.pieces.length cp0) (.slice al0 m.low.length cl0) (.slice ah0 m.high.length ch0) (.int .i64 m.scrap)) (by omega)); clear ho hr own6)))
      all_goals
        go_wp2_with fail
        go_meet
        first
          | (have hx := mds_z (b := w.heap.size) hjs hj100 J_6.out (.inr (by omega)) (by omega) Z_6 rfl G_6.out B_6.out (by omega) (Nat.le_refl _) (Nat.le_refl _)
             with_reducible exact hx)
          | (have hx := mds_0 (b := w.heap.size) hjs hj100 J_6.out (by first | omega | (simp; omega)) Z_6 G_6.out B_6.out (by omega)
             with_reducible exact hx)
    clear hI hIs
    obtain ⟨js, ao, cap, rfl, hjl, hjs, Hj, Z_f, G, hB⟩ := hcut
    have Z_f : RowL wc w.heap.size 31 [.slice aS0 m.store.length cs0, .int .i64 m.rule.lc, .int .i64 m.rule.hc, .int .i64 m.rule.lm, .int .i64 m.rule.hm, .int .i64 m.rule.ls, .int .i64 m.rule.hs, .int .i64 m.strand, .slice ap0 m.pieces.length cp0, .slice al0 m.low.length cl0, .slice ah0 m.high.length ch0, .int .i64 m.scrap] := Z_f
    have cZ0 : wc.cell? ⟨w.heap.size, 0, none⟩ = some (.slice aS0 m.store.length cs0) := Z_f.c 0 rfl
    have cZ1 : wc.cell? ⟨w.heap.size, 1, none⟩ = some (.int .i64 m.rule.lc) := Z_f.c 1 rfl
    have cZ2 : wc.cell? ⟨w.heap.size, 2, none⟩ = some (.int .i64 m.rule.hc) := Z_f.c 2 rfl
    have cZ3 : wc.cell? ⟨w.heap.size, 3, none⟩ = some (.int .i64 m.rule.lm) := Z_f.c 3 rfl
    have cZ4 : wc.cell? ⟨w.heap.size, 4, none⟩ = some (.int .i64 m.rule.hm) := Z_f.c 4 rfl
    have cZ5 : wc.cell? ⟨w.heap.size, 5, none⟩ = some (.int .i64 m.rule.ls) := Z_f.c 5 rfl
    have cZ6 : wc.cell? ⟨w.heap.size, 6, none⟩ = some (.int .i64 m.rule.hs) := Z_f.c 6 rfl
    have cZ7 : wc.cell? ⟨w.heap.size, 7, none⟩ = some (.int .i64 m.strand) := Z_f.c 7 rfl
    have cZ8 : wc.cell? ⟨w.heap.size, 8, none⟩ = some (.slice ap0 m.pieces.length cp0) := Z_f.c 8 rfl
    have cZ9 : wc.cell? ⟨w.heap.size, 9, none⟩ = some (.slice al0 m.low.length cl0) := Z_f.c 9 rfl
    have cZ10 : wc.cell? ⟨w.heap.size, 10, none⟩ = some (.slice ah0 m.high.length ch0) := Z_f.c 10 rfl
    have cZ11 : wc.cell? ⟨w.heap.size, 11, none⟩ = some (.int .i64 m.scrap) := Z_f.c 11 rfl
    go_wp2_with fail
    refine bodyPost_ret (by simp [results, Tryz.results50, go_sem, cZ0, cZ1, cZ2, cZ3, cZ4, cZ5, cZ6, cZ7, cZ8, cZ9, cZ10, cZ11]; try rfl) rfl ?_
    exact ⟨_, _, _, _, m, _, _, js, rfl, hjl, hjs, Hj, G, hf, hB⟩
end Go.Proofs.YtmemgbklgcjobaaGreatDoor
