/-
  The walk over the law FnExactMillDo: it answers true, whatever the arguments, and leaves all old memory alone.
-/
import Derived.Test.YtajjnciookhamaaGreatM36
import Derived.Test.YtajjnciookhamaaGreatM44
import Derived.Test.YtajjnciookhamaaGreatM08
import Derived.Test.YtajjnciookhamaaGreatM34
import Derived.Deep.RegionWith
import Derived.Deep.RegionHeld
import Derived.Deep.CutRange
namespace Go.Proofs.YtajjnciookhamaaGreat
open Go.RowKit

set_option linter.unusedVariables false in
set_option linter.unusedSimpArgs false in
set_option maxRecDepth 10000 in
set_option maxHeartbeats 16000000 in
theorem law_ExactMillDo (s p l h : Value) (m : Mi) (d : J) (w : World) (H : MillIn 0 w.heap.size w s p l h m) (hr : d.d ≤ 9223372036854775807 ∧ d.g ≤ 9223372036854775807) :
    Calls Tryz.prog 3 #[millV s p l h m, .agg #[.int .i64 d.s, .int .i64 d.d, .int .i64 d.g]] w fun e w' => e = .returned (.bool true) ∧ Below w.heap.size w w' := by
  obtain ⟨ao1, cap1, rfl, -, -, -, -⟩ := id H.store
  obtain ⟨ao2, cap2, rfl, -, -, -, -⟩ := id H.pieces
  obtain ⟨ao3, cap3, rfl, -, -, -, -⟩ := id H.low
  obtain ⟨ao4, cap4, rfl, -, -, -, -⟩ := id H.high
  have hys := small_do m d
  obtain ⟨⟨y, n⟩, hy⟩ : ∃ z, doR m d = z := ⟨_, rfl⟩
  have KS : ∀ s p l h w, MillIn 0 w.heap.size w s p l h m → Calls Tryz.prog 6 #[millV s p l h m, .agg #[.int .i64 d.s, .int .i64 d.d, .int .i64 d.g]] w fun e w' => ∃ s' p' l' h', e = .returned (.tuple #[millV s' p' l' h' y, .bool n]) ∧ MillSep w.heap.size w'.heap.size w' s' p' l' h' y ∧ Below w.heap.size w w' := fun s p l h w H => (do_spec s p l h m d w H hr.1 hr.2).mono fun e w' ⟨s', p', l', h', he, G, hb⟩ => by
    rw [hy] at he G
    exact ⟨s', p', l', h', he, G.sep, hb⟩
  have KS := hide KS
  have KI : ∀ s p l h w, MillIn 0 w.heap.size w s p l h m → Calls Tryz.prog 9 #[millV s p l h m, .agg #[.int .i64 d.s, .int .i64 d.d, .int .i64 d.g]] w fun e w' => ∃ s' p' l' h', e = .returned (.tuple #[millV s' p' l' h' y, .bool n]) ∧ MillSep w.heap.size w'.heap.size w' s' p' l' h' y ∧ Below w.heap.size w w' := fun s p l h w H => (do_impl s p l h m d w H hr.1 hr.2).mono fun e w' ⟨s', p', l', h', he, G, hb⟩ => by
    rw [hy] at he G
    exact ⟨s', p', l', h', he, G.sep, hb⟩
  have KI := hide KI
  rw [hy] at hys
  have hys : sizeM y ≤ 1000 := hys
  clear hy
  obtain ⟨ky, hky, hky0⟩ : ∃ k : Int, 1 + marksM y = k ∧ 0 ≤ k := ⟨_, rfl, by have := marks_bd (m := y) (by omega); omega⟩
  have KMY : ∀ (s p l h : Value) (lo hi : Nat) (w : World), MillSep lo hi w s p l h y → Calls Tryz.prog 11 #[millV s p l h y, .int .i64 1] w fun e w' => e = .returned (.int .i64 ky) ∧ Other lo hi w w' ∧ MillSep lo hi w' s p l h (markedM 1 y) := fun s p l h lo hi w H => (markMill_any s p l h y lo hi w H (by omega)).mono fun e w' ⟨h1, h2, h3⟩ => ⟨by rw [h1, hky], h2, h3⟩
  have KHY : ∀ (s p l h : Value) (w : World), MillIn 0 w.heap.size w s p l h (markedM 1 y) → Calls Tryz.prog 12 #[millV s p l h y, .int .i64 1] w fun e w' => e = .returned (.int .i64 ky) ∧ Below w.heap.size w w' := fun s p l h w H => (heldMill_any s p l h y w H (by omega)).mono fun e w' ⟨h1, h2⟩ => ⟨by rw [h1, hky], h2⟩
  have KEY : ∀ (s p l h s' p' l' h' : Value) (w : World), MillIn 0 w.heap.size w s p l h y → MillIn 0 w.heap.size w s' p' l' h' y → Calls Tryz.prog 10 #[millV s p l h y, millV s' p' l' h' y] w fun e w' => e = .returned (.bool true) ∧ Below w.heap.size w w' := fun s p l h s' p' l' h' w a b => eqMill_same s p l h s' p' l' h' y w a b
  have KMY := hide KMY
  have KHY := hide KHY
  have KEY := hide KEY
  have hkk : (ky != ky) = false := by simp
  have hnn : (n != n) = false := by simp
  clear hky hys
  unfold millV
  go_enter Tryz.func3, Tryz.ntmps3
  go_wp2_with fail
  refine calls_at fun wx hwx => ?_
  have A_0 : RowL wx (w.heap.size) 30 [.slice ao1 m.store.length cap1, .int .i64 m.rule.lc, .int .i64 m.rule.hc, .int .i64 m.rule.lm, .int .i64 m.rule.hm, .int .i64 m.rule.ls, .int .i64 m.rule.hs, .int .i64 m.strand, .slice ao2 m.pieces.length cap2, .slice ao3 m.low.length cap3, .slice ao4 m.high.length cap4, .int .i64 m.scrap] := by rw [hwx]; exact ((RowL.new _ 30 [.slice ao1 m.store.length cap1, .int .i64 m.rule.lc, .int .i64 m.rule.hc, .int .i64 m.rule.lm, .int .i64 m.rule.hm, .int .i64 m.rule.ls, .int .i64 m.rule.hs, .int .i64 m.strand, .slice ao2 m.pieces.length cap2, .slice ao3 m.low.length cap3, .slice ao4 m.high.length cap4, .int .i64 m.scrap]).alloc _)
  have D_0 : RowL wx (w.heap.size + 1) 32 [.int .i64 d.s, .int .i64 d.d, .int .i64 d.g] := by rw [hwx]; simpa using (RowL.new (World.alloc _ _) 32 [.int .i64 d.s, .int .i64 d.d, .int .i64 d.g])
  have B_0 : Below w.heap.size w wx := by rw [hwx]; go_grown
  clear hwx
  have hL0 := D_0.lt
  have VV_0 := hide (H.below B_0)
  have KZ := szMill_any _ _ _ _ m 1048576 wx VV_0.out.all (by omega) (by omega)
  by_cases hbig : 1048576 < sizeM m
  · rw [szI_no (by omega)] at KZ
    refine KZ.mono ?_
    rintro e w1 ⟨rfl, hb⟩
    have HB := hide (Below.step B_0 hb (Nat.le_refl _))
    clear hb KZ
    go_wp2_with fail
    go_ret
    exact ⟨rfl, HB.out⟩
  rw [szI_yes (by omega)] at KZ
  obtain ⟨z, hz, hz0, hz1m⟩ : ∃ z : Int, 1048576 - (sizeM m : Int) = z ∧ 0 ≤ z ∧ z ≤ 1048576 := ⟨_, rfl, by omega, by omega⟩
  rw [hz] at KZ
  have HSM := hide (show Small m by refine ⟨?_, ?_, ?_, ?_⟩ <;> unfold sizeM at hbig <;> omega)
  have hszm : sizeM m ≤ 1048576 := by omega
  obtain ⟨km, hkm, hkm0, hkm1⟩ : ∃ k : Int, 1 + marksM m = k ∧ 0 ≤ k ∧ k ≤ 16777216 := ⟨_, rfl, by have := marks_bd hszm; omega, by have := marks_bd hszm; omega⟩
  have KM : ∀ (s p l h : Value) (lo hi : Nat) (w : World), MillSep lo hi w s p l h m → Calls Tryz.prog 11 #[millV s p l h m, .int .i64 1] w fun e w' => e = .returned (.int .i64 km) ∧ Other lo hi w w' := fun s p l h lo hi w H => (markMill_any s p l h m lo hi w H hszm).mono fun e w' ⟨h1, h2, _⟩ => ⟨by rw [h1, hkm], h2⟩
  have KM := hide KM
  clear hz hbig hszm hkm
  refine (KZ).mono ?_
  rintro e w1 ⟨rfl, hb⟩
  have A_1 := A_0.below hb A_0.lt
  clear A_0
  have D_1 := D_0.below hb D_0.lt
  clear D_0
  have VV_1 := hide (VV_0.out.below hb)
  clear VV_0
  have B_1 := hide (Below.step B_0 hb (Nat.le_refl _))
  clear B_0
  have hz1 := hb.size
  clear hb
  clear KZ
  have hkmn : ¬ km < 0 := by omega
  have hkyn : ¬ ky < 0 := by omega
  have cD0 := D_1.c 0 rfl
  have cD1 := D_1.c 1 rfl
  have cD2 := D_1.c 2 rfl
  have cA0 := A_1.c 0 rfl
  have cA1 := A_1.c 1 rfl
  have cA2 := A_1.c 2 rfl
  have cA3 := A_1.c 3 rfl
  have cA4 := A_1.c 4 rfl
  have cA5 := A_1.c 5 rfl
  have cA6 := A_1.c 6 rfl
  have cA7 := A_1.c 7 rfl
  have cA8 := A_1.c 8 rfl
  have cA9 := A_1.c 9 rfl
  have cA10 := A_1.c 10 rfl
  have cA11 := A_1.c 11 rfl
  go_wp2_with fail
  have hI : Below w1.heap.size w1 w1.drew := (Below.refl _ _).drew
  have hI2 : ∀ o : Obj, Below w1.heap.size w1 (w1.alloc o).drew := fun o => ((Below.refl _ _).alloc (Nat.le_refl _) o).drew
  have hlAa := A_1.lt
  have hlDa := D_1.lt
  have VQ := hide VV_1.out
  have D_q := hide D_1
  have KZR : Hid (∀ X : World, RowL (X.alloc (.cells #[.slice none 0 0, .int .i64 0, .int .i64 0, .int .i64 0, .int .i64 0, .int .i64 0, .int .i64 0, .int .i64 0, .slice none 0 0, .slice none 0 0, .slice none 0 0, .int .i64 0] 39)) X.heap.size 39 [.slice none 0 0, .int .i64 0, .int .i64 0, .int .i64 0, .int .i64 0, .int .i64 0, .int .i64 0, .int .i64 0, .slice none 0 0, .slice none 0 0, .slice none 0 0, .int .i64 0]) := hide (fun X => RowL.new X 39 [.slice none 0 0, .int .i64 0, .int .i64 0, .int .i64 0, .int .i64 0, .int .i64 0, .int .i64 0, .int .i64 0, .slice none 0 0, .slice none 0 0, .slice none 0 0, .int .i64 0])
  have HS : Hid (∀ W : World, Below w1.heap.size w1 W → (W.cell? ⟨w.heap.size, 0, none⟩ = some (.slice ao1 m.store.length cap1) ∧ W.cell? ⟨w.heap.size, 1, none⟩ = some (.int .i64 m.rule.lc) ∧ W.cell? ⟨w.heap.size, 2, none⟩ = some (.int .i64 m.rule.hc) ∧ W.cell? ⟨w.heap.size, 3, none⟩ = some (.int .i64 m.rule.lm) ∧ W.cell? ⟨w.heap.size, 4, none⟩ = some (.int .i64 m.rule.hm) ∧ W.cell? ⟨w.heap.size, 5, none⟩ = some (.int .i64 m.rule.ls) ∧ W.cell? ⟨w.heap.size, 6, none⟩ = some (.int .i64 m.rule.hs) ∧ W.cell? ⟨w.heap.size, 7, none⟩ = some (.int .i64 m.strand) ∧ W.cell? ⟨w.heap.size, 8, none⟩ = some (.slice ao2 m.pieces.length cap2) ∧ W.cell? ⟨w.heap.size, 9, none⟩ = some (.slice ao3 m.low.length cap3) ∧ W.cell? ⟨w.heap.size, 10, none⟩ = some (.slice ao4 m.high.length cap4) ∧ W.cell? ⟨w.heap.size, 11, none⟩ = some (.int .i64 m.scrap)) ∧ (W.cell? ⟨w.heap.size + 1, 0, none⟩ = some (.int .i64 d.s) ∧ W.cell? ⟨w.heap.size + 1, 1, none⟩ = some (.int .i64 d.d) ∧ W.cell? ⟨w.heap.size + 1, 2, none⟩ = some (.int .i64 d.g))) := hide (fun W q => ⟨row12_cells (A_1.below q hlAa), row3_cells (D_q.out.below q hlDa)⟩)
  go_cut [6, 7] from 21 to 28 (fun bx ok wr => BoxS w1.heap.size wr y bx ∧ ok = .bool n ∧ Below w1.heap.size w1 wr)
  case first =>
    go_region_held (fun W => (W.cell? ⟨w.heap.size, 0, none⟩ = some (.slice ao1 m.store.length cap1) ∧ W.cell? ⟨w.heap.size, 1, none⟩ = some (.int .i64 m.rule.lc) ∧ W.cell? ⟨w.heap.size, 2, none⟩ = some (.int .i64 m.rule.hc) ∧ W.cell? ⟨w.heap.size, 3, none⟩ = some (.int .i64 m.rule.lm) ∧ W.cell? ⟨w.heap.size, 4, none⟩ = some (.int .i64 m.rule.hm) ∧ W.cell? ⟨w.heap.size, 5, none⟩ = some (.int .i64 m.rule.ls) ∧ W.cell? ⟨w.heap.size, 6, none⟩ = some (.int .i64 m.rule.hs) ∧ W.cell? ⟨w.heap.size, 7, none⟩ = some (.int .i64 m.strand) ∧ W.cell? ⟨w.heap.size, 8, none⟩ = some (.slice ao2 m.pieces.length cap2) ∧ W.cell? ⟨w.heap.size, 9, none⟩ = some (.slice ao3 m.low.length cap3) ∧ W.cell? ⟨w.heap.size, 10, none⟩ = some (.slice ao4 m.high.length cap4) ∧ W.cell? ⟨w.heap.size, 11, none⟩ = some (.int .i64 m.scrap)) ∧ (W.cell? ⟨w.heap.size + 1, 0, none⟩ = some (.int .i64 d.s) ∧ W.cell? ⟨w.heap.size + 1, 1, none⟩ = some (.int .i64 d.d) ∧ W.cell? ⟨w.heap.size + 1, 2, none⟩ = some (.int .i64 d.g))) (first | (with_reducible exact HS.out _ hI) | (with_reducible exact HS.out _ (hI2 _)) | (with_reducible exact HS.out _ hB7) | (with_reducible exact HS.out _ (hB7.alloc hB7.size _)) | (with_reducible exact HS.out _ hB6) | (with_reducible exact HS.out _ (hB6.alloc hB6.size _)) | (with_reducible exact HS.out _ hB5) | (with_reducible exact HS.out _ (hB5.alloc hB5.size _)) | (with_reducible exact HS.out _ (hB7.trans ((other12 _ _ _ _ _ _ _ _ _ _ _ _ _ _).below (by omega) hB7.size)))) (first
      | (go_at_call 6; (first | (have hk := KS.out _ _ _ _ _ hsep6.in.all; with_reducible refine hk.mono ?_) | (have hk := KS.out _ _ _ _ _ (hsep6.below ((Below.refl _ _).alloc (Nat.le_refl _) (.cells #[.slice none 0 0, .int .i64 0, .int .i64 0, .int .i64 0, .int .i64 0, .int .i64 0, .int .i64 0, .int .i64 0, .slice none 0 0, .slice none 0 0, .slice none 0 0, .int .i64 0] 39))).in.all; with_reducible refine hk.mono ?_)); clear hk; rintro e q7 ⟨s7, p7, l7, h7, rfl, hsep7, hb7⟩; have hB7 : Below w1.heap.size w1 q7 := (by first | with_reducible exact Below.step hB6 hb7 (Nat.le_refl _) | with_reducible exact Below.step (hB6.alloc hB6.size _) hb7 (Nat.le_refl _)); have hzz7 := hB7.size; obtain ⟨hc7, hf7⟩ := bcell hb7; have hzy7 := hb7.size; (try simp at hzy7); (try have hx70 : w1.heap.size < q7.heap.size := by omega); (try have hx71 : q5.heap.size < q7.heap.size := by omega); (try have hx72 : q6.heap.size < q7.heap.size := by omega); obtain ⟨as7, cs7, hs7, -, -, -, -⟩ := id hsep7.in.store; obtain ⟨ap7, cp7, hp7, -, -, -, -⟩ := id hsep7.in.pieces; obtain ⟨al7, cl7, hl7, -, -, -, -⟩ := id hsep7.in.low; obtain ⟨ah7, ch7, hh7, -, -, -, -⟩ := id hsep7.in.high; subst hs7 hp7 hl7 hh7; (try unfold millV))
      | (go_at_call 8; (with_reducible refine (toMillDeed_any _ _ _ _).mono ?_); rintro e q6 ⟨rfl, hb6⟩; have hB6 : Below w1.heap.size w1 q6 := (by first | with_reducible exact Below.step hB5 hb6 (Nat.le_refl _) | with_reducible exact Below.step (hB5.alloc hB5.size _) hb6 (Nat.le_refl _)); have hzz6 := hB6.size; obtain ⟨hc6, hf6⟩ := bcell hb6; have hzy6 := hb6.size; (try simp at hzy6); (try have hx60 : w1.heap.size < q6.heap.size := by omega); (try have hx61 : q5.heap.size < q6.heap.size := by omega); have hsep6 : MillSep _ _ q6 s5 p5 l5 h5 m := (by first | with_reducible exact hsep5.below hb6 | with_reducible exact (hsep5.below ((Below.refl _ _).alloc (Nat.le_refl _) _)).below hb6))
      | (go_at_call 7; (first | (have ht := toMill_any _ _ _ _ m _ (VQ.out.below hI).all HSM.out; unfold millV at ht; with_reducible refine ht.mono ?_) | (have ht := toMill_any _ _ _ _ m _ (VQ.out.below (hI2 (.cells #[.slice none 0 0, .int .i64 0, .int .i64 0, .int .i64 0, .int .i64 0, .int .i64 0, .int .i64 0, .int .i64 0, .slice none 0 0, .slice none 0 0, .slice none 0 0, .int .i64 0] 39))).all HSM.out; unfold millV at ht; with_reducible refine ht.mono ?_)); clear ht; rintro e q5 ⟨s5, p5, l5, h5, rfl, hsep5, hb5⟩; have hB5 : Below w1.heap.size w1 q5 := (by first | with_reducible exact Below.step hI hb5 (Nat.le_refl _) | with_reducible exact Below.step (hI2 _) hb5 (Nat.le_refl _)); have hzz5 := hB5.size; obtain ⟨hc5, hf5⟩ := bcell hb5; have hzy5 := hb5.size; (try simp at hzy5); (try have hx50 : w1.heap.size < q5.heap.size := by omega)))
    all_goals
      go_wp2_with fail
      go_meet
      first
        | (have hx := boxS_new (b := n) (by first | omega | (simp; done) | (simp; omega)) hB7 (Nat.le_refl _) hsep7
           with_reducible exact hx)
        | (with_reducible have hr := ((((KZR.out _).drew.stay hb5).stay hb6).stay hb7)
           have hx := boxS_old (b := n) (by first | omega | (simp; done) | (simp; omega)) hB7 (Nat.le_refl _) hsep7 hr rfl (by first | omega | (simp; done) | (simp; omega)) (by first | omega | (simp; done) | (simp; omega))
           with_reducible exact hx)
        | (with_reducible have hr := (((KZR.out _).stay hb6).stay hb7)
           have hx := boxS_old (b := n) (by first | omega | (simp; done) | (simp; omega)) hB7 (Nat.le_refl _) hsep7 hr rfl (by first | omega | (simp; done) | (simp; omega)) (by first | omega | (simp; done) | (simp; omega))
           with_reducible exact hx)
        | (with_reducible have hr := ((KZR.out _).stay hb7)
           have hx := boxS_old (b := n) (by first | omega | (simp; done) | (simp; omega)) hB7 (Nat.le_refl _) hsep7 hr rfl (by first | omega | (simp; done) | (simp; omega)) (by first | omega | (simp; done) | (simp; omega))
           with_reducible exact hx)
  obtain ⟨⟨Ga, s5, p5, l5, h5, loa, hia, rfl, hGa, hrow, hsp, hloa, hdisa⟩, rfl, hb⟩ := hcut
  obtain ⟨ca, rfl⟩ : ∃ q : World, q = wc := ⟨_, rfl⟩
  clear cD0 cD1 cD2 cA0 cA1 cA2 cA3 cA4 cA5 cA6 cA7 cA8 cA9 cA10 cA11
  have A_ca := A_1.below hb A_1.lt
  clear A_1
  have D_ca := D_1.below hb D_1.lt
  clear D_1
  have VV_ca := hide (VV_1.out.below hb)
  clear VV_1
  have B_ca := hide (Below.step B_1.out hb (Nat.le_refl _))
  clear B_1
  have hzca := hb.size
  have ltca := hsp.lt
  have hrlca := hrow.lt
  obtain ⟨ao51, cap51, rfl, -, -, -, -⟩ := id hsp.in.store
  obtain ⟨ao52, cap52, rfl, -, -, -, -⟩ := id hsp.in.pieces
  obtain ⟨ao53, cap53, rfl, -, -, -, -⟩ := id hsp.in.low
  obtain ⟨ao54, cap54, rfl, -, -, -, -⟩ := id hsp.in.high
  have VW_ca := hide hsp
  have W_ca : RowL ca Ga 39 [.slice ao51 y.store.length cap51, .int .i64 y.rule.lc, .int .i64 y.rule.hc, .int .i64 y.rule.lm, .int .i64 y.rule.hm, .int .i64 y.rule.ls, .int .i64 y.rule.hs, .int .i64 y.strand, .slice ao52 y.pieces.length cap52, .slice ao53 y.low.length cap53, .slice ao54 y.high.length cap54, .int .i64 y.scrap] := hrow
  clear hb hI hI2 VQ D_q KZR hsp hrow
  have cA0 := A_ca.c 0 rfl
  have cA1 := A_ca.c 1 rfl
  have cA2 := A_ca.c 2 rfl
  have cA3 := A_ca.c 3 rfl
  have cA4 := A_ca.c 4 rfl
  have cA5 := A_ca.c 5 rfl
  have cA6 := A_ca.c 6 rfl
  have cA7 := A_ca.c 7 rfl
  have cA8 := A_ca.c 8 rfl
  have cA9 := A_ca.c 9 rfl
  have cA10 := A_ca.c 10 rfl
  have cA11 := A_ca.c 11 rfl
  go_wp2_with fail
  clear cA0 cA1 cA2 cA3 cA4 cA5 cA6 cA7 cA8 cA9 cA10 cA11
  refine (toMill_any _ _ _ _ m ca VV_ca.out.all HSM.out).mono ?_
  rintro e w2 ⟨s3, p3, l3, h3, rfl, hs3, hb⟩
  have A_2 := A_ca.below hb A_ca.lt
  clear A_ca
  have D_2 := D_ca.below hb D_ca.lt
  clear D_ca
  have W_2 := W_ca.below hb W_ca.lt
  clear W_ca
  have VV_2 := hide (VV_ca.out.below hb)
  clear VV_ca
  have VW_2 := hide (VW_ca.out.below hb)
  clear VW_ca
  have B_2 := hide (Below.step B_ca.out hb (Nat.le_refl _))
  clear B_ca
  have hz2 := hb.size
  clear hb
  have VX_2 := hide hs3
  have ltX := hs3.lt
  obtain ⟨ao31, cap31, rfl, -, -, -, -⟩ := id hs3.in.store
  obtain ⟨ao32, cap32, rfl, -, -, -, -⟩ := id hs3.in.pieces
  obtain ⟨ao33, cap33, rfl, -, -, -, -⟩ := id hs3.in.low
  obtain ⟨ao34, cap34, rfl, -, -, -, -⟩ := id hs3.in.high
  clear hs3
  unfold millV
  go_wp2_with fail
  obtain ⟨y1, hwy⟩ : ∃ q : World, q = w2.alloc (.cells #[.slice ao31 m.store.length cap31, .int .i64 m.rule.lc, .int .i64 m.rule.hc, .int .i64 m.rule.lm, .int .i64 m.rule.hm, .int .i64 m.rule.ls, .int .i64 m.rule.hs, .int .i64 m.strand, .slice ao32 m.pieces.length cap32, .slice ao33 m.low.length cap33, .slice ao34 m.high.length cap34, .int .i64 m.scrap] 39) := ⟨_, rfl⟩
  rw [← hwy]
  have X_y1 : RowL y1 (w2.heap.size) 39 [.slice ao31 m.store.length cap31, .int .i64 m.rule.lc, .int .i64 m.rule.hc, .int .i64 m.rule.lm, .int .i64 m.rule.hm, .int .i64 m.rule.ls, .int .i64 m.rule.hs, .int .i64 m.strand, .slice ao32 m.pieces.length cap32, .slice ao33 m.low.length cap33, .slice ao34 m.high.length cap34, .int .i64 m.scrap] := by rw [hwy]; exact RowL.new _ _ _
  have hby : Below w2.heap.size w2 y1 := by rw [hwy]; exact (Below.refl _ _).alloc (Nat.le_refl _) _
  have A_y1 := A_2.below hby A_2.lt
  clear A_2
  have D_y1 := D_2.below hby D_2.lt
  clear D_2
  have W_y1 := W_2.below hby W_2.lt
  clear W_2
  have VV_y1 := hide (VV_2.out.below hby)
  clear VV_2
  have VW_y1 := hide (VW_2.out.below hby)
  clear VW_2
  have VX_y1 := hide (VX_2.out.below hby)
  clear VX_2
  have B_y1 := hide (Below.step B_2.out hby (Nat.le_refl _))
  clear B_2
  have hzy1 := hby.size
  have hly1 := X_y1.lt
  clear hwy hby
  have cX0 := X_y1.c 0 rfl
  have cX1 := X_y1.c 1 rfl
  have cX2 := X_y1.c 2 rfl
  have cX3 := X_y1.c 3 rfl
  have cX4 := X_y1.c 4 rfl
  have cX5 := X_y1.c 5 rfl
  have cX6 := X_y1.c 6 rfl
  have cX7 := X_y1.c 7 rfl
  have cX8 := X_y1.c 8 rfl
  have cX9 := X_y1.c 9 rfl
  have cX10 := X_y1.c 10 rfl
  have cX11 := X_y1.c 11 rfl
  have cD0 := D_y1.c 0 rfl
  have cD1 := D_y1.c 1 rfl
  have cD2 := D_y1.c 2 rfl
  go_wp2_with fail
  have hI : Below y1.heap.size y1 y1.drew := (Below.refl _ _).drew
  have hI2 : ∀ o : Obj, Below y1.heap.size y1 (y1.alloc o).drew := fun o => ((Below.refl _ _).alloc (Nat.le_refl _) o).drew
  have hlAb := X_y1.lt
  have hlDb := D_y1.lt
  have VQ := hide VX_y1.out
  have D_q := hide D_y1
  have X_q := hide X_y1
  clear X_q
  have KZR : Hid (∀ X : World, RowL (X.alloc (.cells #[.slice none 0 0, .int .i64 0, .int .i64 0, .int .i64 0, .int .i64 0, .int .i64 0, .int .i64 0, .int .i64 0, .slice none 0 0, .slice none 0 0, .slice none 0 0, .int .i64 0] 39)) X.heap.size 39 [.slice none 0 0, .int .i64 0, .int .i64 0, .int .i64 0, .int .i64 0, .int .i64 0, .int .i64 0, .int .i64 0, .slice none 0 0, .slice none 0 0, .slice none 0 0, .int .i64 0]) := hide (fun X => RowL.new X 39 [.slice none 0 0, .int .i64 0, .int .i64 0, .int .i64 0, .int .i64 0, .int .i64 0, .int .i64 0, .int .i64 0, .slice none 0 0, .slice none 0 0, .slice none 0 0, .int .i64 0])
  have HS : Hid (∀ W : World, Below y1.heap.size y1 W → (W.cell? ⟨w2.heap.size, 0, none⟩ = some (.slice ao31 m.store.length cap31) ∧ W.cell? ⟨w2.heap.size, 1, none⟩ = some (.int .i64 m.rule.lc) ∧ W.cell? ⟨w2.heap.size, 2, none⟩ = some (.int .i64 m.rule.hc) ∧ W.cell? ⟨w2.heap.size, 3, none⟩ = some (.int .i64 m.rule.lm) ∧ W.cell? ⟨w2.heap.size, 4, none⟩ = some (.int .i64 m.rule.hm) ∧ W.cell? ⟨w2.heap.size, 5, none⟩ = some (.int .i64 m.rule.ls) ∧ W.cell? ⟨w2.heap.size, 6, none⟩ = some (.int .i64 m.rule.hs) ∧ W.cell? ⟨w2.heap.size, 7, none⟩ = some (.int .i64 m.strand) ∧ W.cell? ⟨w2.heap.size, 8, none⟩ = some (.slice ao32 m.pieces.length cap32) ∧ W.cell? ⟨w2.heap.size, 9, none⟩ = some (.slice ao33 m.low.length cap33) ∧ W.cell? ⟨w2.heap.size, 10, none⟩ = some (.slice ao34 m.high.length cap34) ∧ W.cell? ⟨w2.heap.size, 11, none⟩ = some (.int .i64 m.scrap)) ∧ (W.cell? ⟨w.heap.size + 1, 0, none⟩ = some (.int .i64 d.s) ∧ W.cell? ⟨w.heap.size + 1, 1, none⟩ = some (.int .i64 d.d) ∧ W.cell? ⟨w.heap.size + 1, 2, none⟩ = some (.int .i64 d.g))) := hide (fun W q => ⟨row12_cells (X_y1.below q hlAb), row3_cells (D_q.out.below q hlDb)⟩)
  go_cut [9, 10] from 31 to 37 (fun bx ok wr => BoxS y1.heap.size wr y bx ∧ ok = .bool n ∧ Below y1.heap.size y1 wr)
  case first =>
    go_region_held (fun W => (W.cell? ⟨w2.heap.size, 0, none⟩ = some (.slice ao31 m.store.length cap31) ∧ W.cell? ⟨w2.heap.size, 1, none⟩ = some (.int .i64 m.rule.lc) ∧ W.cell? ⟨w2.heap.size, 2, none⟩ = some (.int .i64 m.rule.hc) ∧ W.cell? ⟨w2.heap.size, 3, none⟩ = some (.int .i64 m.rule.lm) ∧ W.cell? ⟨w2.heap.size, 4, none⟩ = some (.int .i64 m.rule.hm) ∧ W.cell? ⟨w2.heap.size, 5, none⟩ = some (.int .i64 m.rule.ls) ∧ W.cell? ⟨w2.heap.size, 6, none⟩ = some (.int .i64 m.rule.hs) ∧ W.cell? ⟨w2.heap.size, 7, none⟩ = some (.int .i64 m.strand) ∧ W.cell? ⟨w2.heap.size, 8, none⟩ = some (.slice ao32 m.pieces.length cap32) ∧ W.cell? ⟨w2.heap.size, 9, none⟩ = some (.slice ao33 m.low.length cap33) ∧ W.cell? ⟨w2.heap.size, 10, none⟩ = some (.slice ao34 m.high.length cap34) ∧ W.cell? ⟨w2.heap.size, 11, none⟩ = some (.int .i64 m.scrap)) ∧ (W.cell? ⟨w.heap.size + 1, 0, none⟩ = some (.int .i64 d.s) ∧ W.cell? ⟨w.heap.size + 1, 1, none⟩ = some (.int .i64 d.d) ∧ W.cell? ⟨w.heap.size + 1, 2, none⟩ = some (.int .i64 d.g))) (first | (with_reducible exact HS.out _ hI) | (with_reducible exact HS.out _ (hI2 _)) | (with_reducible exact HS.out _ hB7) | (with_reducible exact HS.out _ (hB7.alloc hB7.size _)) | (with_reducible exact HS.out _ hB6) | (with_reducible exact HS.out _ (hB6.alloc hB6.size _)) | (with_reducible exact HS.out _ (hB7.trans ((other12 _ _ _ _ _ _ _ _ _ _ _ _ _ _).below (by omega) hB7.size)))) (first
      | (go_at_call 9; (first | (have hk := KI.out _ _ _ _ _ (VQ.out.below hB6).in.all; unfold millV at hk; with_reducible refine hk.mono ?_) | (have hk := KI.out _ _ _ _ _ (VQ.out.below (hB6.alloc hB6.size (.cells #[.slice none 0 0, .int .i64 0, .int .i64 0, .int .i64 0, .int .i64 0, .int .i64 0, .int .i64 0, .int .i64 0, .slice none 0 0, .slice none 0 0, .slice none 0 0, .int .i64 0] 39))).in.all; unfold millV at hk; with_reducible refine hk.mono ?_)); clear hk; rintro e q7 ⟨s7, p7, l7, h7, rfl, hsep7, hb7⟩; have hB7 : Below y1.heap.size y1 q7 := (by first | with_reducible exact Below.step hB6 hb7 (Nat.le_refl _) | with_reducible exact Below.step (hB6.alloc hB6.size _) hb7 (Nat.le_refl _)); have hzz7 := hB7.size; obtain ⟨hc7, hf7⟩ := bcell hb7; have hzy7 := hb7.size; (try simp at hzy7); (try have hx70 : y1.heap.size < q7.heap.size := by omega); (try have hx71 : q5.heap.size < q7.heap.size := by omega); (try have hx72 : q6.heap.size < q7.heap.size := by omega); obtain ⟨as7, cs7, hs7, -, -, -, -⟩ := id hsep7.in.store; obtain ⟨ap7, cp7, hp7, -, -, -, -⟩ := id hsep7.in.pieces; obtain ⟨al7, cl7, hl7, -, -, -, -⟩ := id hsep7.in.low; obtain ⟨ah7, ch7, hh7, -, -, -, -⟩ := id hsep7.in.high; subst hs7 hp7 hl7 hh7; (try unfold millV))
      | (go_at_call 8; (with_reducible refine (toMillDeed_any _ _ _ _).mono ?_); rintro e q6 ⟨rfl, hb6⟩; have hB6 : Below y1.heap.size y1 q6 := (by first | with_reducible exact Below.step hI hb6 (Nat.le_refl _) | with_reducible exact Below.step (hI2 _) hb6 (Nat.le_refl _)); have hzz6 := hB6.size; obtain ⟨hc6, hf6⟩ := bcell hb6; have hzy6 := hb6.size; (try simp at hzy6); (try have hx60 : y1.heap.size < q6.heap.size := by omega)))
    all_goals
      go_wp2_with fail
      go_meet
      first
        | (have hx := boxS_new (b := n) (by first | omega | (simp; done) | (simp; omega)) hB7 (Nat.le_refl _) hsep7
           with_reducible exact hx)
        | (with_reducible have hr := (((KZR.out _).drew.stay hb6).stay hb7)
           have hx := boxS_old (b := n) (by first | omega | (simp; done) | (simp; omega)) hB7 (Nat.le_refl _) hsep7 hr rfl (by first | omega | (simp; done) | (simp; omega)) (by first | omega | (simp; done) | (simp; omega))
           with_reducible exact hx)
        | (with_reducible have hr := ((KZR.out _).stay hb7)
           have hx := boxS_old (b := n) (by first | omega | (simp; done) | (simp; omega)) hB7 (Nat.le_refl _) hsep7 hr rfl (by first | omega | (simp; done) | (simp; omega)) (by first | omega | (simp; done) | (simp; omega))
           with_reducible exact hx)
  obtain ⟨⟨Gb, s6, p6, l6, h6, lob, hib, rfl, hGb, hrow, hsp, hlob, hdisb⟩, rfl, hb⟩ := hcut
  obtain ⟨cb, rfl⟩ : ∃ q : World, q = wc := ⟨_, rfl⟩
  clear cX0 cX1 cX2 cX3 cX4 cX5 cX6 cX7 cX8 cX9 cX10 cX11 cD0 cD1 cD2
  have A_cb := A_y1.below hb A_y1.lt
  clear A_y1
  have D_cb := D_y1.below hb D_y1.lt
  clear D_y1
  have W_cb := W_y1.below hb W_y1.lt
  clear W_y1
  have X_cb := X_y1.below hb X_y1.lt
  clear X_y1
  have VV_cb := hide (VV_y1.out.below hb)
  clear VV_y1
  have VW_cb := hide (VW_y1.out.below hb)
  clear VW_y1
  have VX_cb := hide (VX_y1.out.below hb)
  clear VX_y1
  have B_cb := hide (Below.step B_y1.out hb (Nat.le_refl _))
  clear B_y1
  have hzcb := hb.size
  have ltcb := hsp.lt
  have hrlcb := hrow.lt
  obtain ⟨ao61, cap61, rfl, -, -, -, -⟩ := id hsp.in.store
  obtain ⟨ao62, cap62, rfl, -, -, -, -⟩ := id hsp.in.pieces
  obtain ⟨ao63, cap63, rfl, -, -, -, -⟩ := id hsp.in.low
  obtain ⟨ao64, cap64, rfl, -, -, -, -⟩ := id hsp.in.high
  have VGv_cb := hide hsp
  have G_cb : RowL cb Gb 39 [.slice ao61 y.store.length cap61, .int .i64 y.rule.lc, .int .i64 y.rule.hc, .int .i64 y.rule.lm, .int .i64 y.rule.hm, .int .i64 y.rule.ls, .int .i64 y.rule.hs, .int .i64 y.strand, .slice ao62 y.pieces.length cap62, .slice ao63 y.low.length cap63, .slice ao64 y.high.length cap64, .int .i64 y.scrap] := hrow
  clear hb hI hI2 VQ D_q KZR hsp hrow
  have cG0 := G_cb.c 0 rfl
  have cG1 := G_cb.c 1 rfl
  have cG2 := G_cb.c 2 rfl
  have cG3 := G_cb.c 3 rfl
  have cG4 := G_cb.c 4 rfl
  have cG5 := G_cb.c 5 rfl
  have cG6 := G_cb.c 6 rfl
  have cG7 := G_cb.c 7 rfl
  have cG8 := G_cb.c 8 rfl
  have cG9 := G_cb.c 9 rfl
  have cG10 := G_cb.c 10 rfl
  have cG11 := G_cb.c 11 rfl
  have cW0 := W_cb.c 0 rfl
  have cW1 := W_cb.c 1 rfl
  have cW2 := W_cb.c 2 rfl
  have cW3 := W_cb.c 3 rfl
  have cW4 := W_cb.c 4 rfl
  have cW5 := W_cb.c 5 rfl
  have cW6 := W_cb.c 6 rfl
  have cW7 := W_cb.c 7 rfl
  have cW8 := W_cb.c 8 rfl
  have cW9 := W_cb.c 9 rfl
  have cW10 := W_cb.c 10 rfl
  have cW11 := W_cb.c 11 rfl
  go_wp2_with fail
  clear cG0 cG1 cG2 cG3 cG4 cG5 cG6 cG7 cG8 cG9 cG10 cG11 cW0 cW1 cW2 cW3 cW4 cW5 cW6 cW7 cW8 cW9 cW10 cW11
  refine (KEY.out _ _ _ _ _ _ _ _ cb VGv_cb.out.in.all VW_cb.out.in.all).mono ?_
  rintro e w3 ⟨rfl, hb⟩
  have A_3 := A_cb.below hb A_cb.lt
  clear A_cb
  have D_3 := D_cb.below hb D_cb.lt
  clear D_cb
  have W_3 := W_cb.below hb W_cb.lt
  clear W_cb
  have X_3 := X_cb.below hb X_cb.lt
  clear X_cb
  have G_3 := G_cb.below hb G_cb.lt
  clear G_cb
  have VV_3 := hide (VV_cb.out.below hb)
  clear VV_cb
  have VW_3 := hide (VW_cb.out.below hb)
  clear VW_cb
  have VX_3 := hide (VX_cb.out.below hb)
  clear VX_cb
  have VGv_3 := hide (VGv_cb.out.below hb)
  clear VGv_cb
  have B_3 := hide (Below.step B_cb.out hb (Nat.le_refl _))
  clear B_cb
  have hz3 := hb.size
  clear hb
  have cX0 := X_3.c 0 rfl
  have cX1 := X_3.c 1 rfl
  have cX2 := X_3.c 2 rfl
  have cX3 := X_3.c 3 rfl
  have cX4 := X_3.c 4 rfl
  have cX5 := X_3.c 5 rfl
  have cX6 := X_3.c 6 rfl
  have cX7 := X_3.c 7 rfl
  have cX8 := X_3.c 8 rfl
  have cX9 := X_3.c 9 rfl
  have cX10 := X_3.c 10 rfl
  have cX11 := X_3.c 11 rfl
  have cA0 := A_3.c 0 rfl
  have cA1 := A_3.c 1 rfl
  have cA2 := A_3.c 2 rfl
  have cA3 := A_3.c 3 rfl
  have cA4 := A_3.c 4 rfl
  have cA5 := A_3.c 5 rfl
  have cA6 := A_3.c 6 rfl
  have cA7 := A_3.c 7 rfl
  have cA8 := A_3.c 8 rfl
  have cA9 := A_3.c 9 rfl
  have cA10 := A_3.c 10 rfl
  have cA11 := A_3.c 11 rfl
  go_wp2_with fail
  have hbd : Below w3.heap.size w3 w3.drew := (Below.refl _ _).drew
  have VV_d := hide (VV_3.out.below hbd)
  have VX_d := hide (VX_3.out.below hbd)
  have X_d := hide (X_3.below hbd X_3.lt)
  clear hbd
  go_cut [51] from 47 to 51 (fun v wr => v = .bool false ∧ Below w3.heap.size w3 wr)
  case first =>
    go_region_with (first
      | (go_at_call 7; refine (toMill_any _ _ _ _ m _ VV_d.out.all HSM.out).mono ?_; rintro e wa ⟨sa, pa, la, ha, rfl, hsa, hba⟩; have ca0 : wa.cell? ⟨w2.heap.size, 0, none⟩ = some (.slice ao31 m.store.length cap31) := (X_d.out.below hba X_d.out.lt).cell 0 (by simp); have ca1 : wa.cell? ⟨w2.heap.size, 1, none⟩ = some (.int .i64 m.rule.lc) := (X_d.out.below hba X_d.out.lt).cell 1 (by simp); have ca2 : wa.cell? ⟨w2.heap.size, 2, none⟩ = some (.int .i64 m.rule.hc) := (X_d.out.below hba X_d.out.lt).cell 2 (by simp); have ca3 : wa.cell? ⟨w2.heap.size, 3, none⟩ = some (.int .i64 m.rule.lm) := (X_d.out.below hba X_d.out.lt).cell 3 (by simp); have ca4 : wa.cell? ⟨w2.heap.size, 4, none⟩ = some (.int .i64 m.rule.hm) := (X_d.out.below hba X_d.out.lt).cell 4 (by simp); have ca5 : wa.cell? ⟨w2.heap.size, 5, none⟩ = some (.int .i64 m.rule.ls) := (X_d.out.below hba X_d.out.lt).cell 5 (by simp); have ca6 : wa.cell? ⟨w2.heap.size, 6, none⟩ = some (.int .i64 m.rule.hs) := (X_d.out.below hba X_d.out.lt).cell 6 (by simp); have ca7 : wa.cell? ⟨w2.heap.size, 7, none⟩ = some (.int .i64 m.strand) := (X_d.out.below hba X_d.out.lt).cell 7 (by simp); have ca8 : wa.cell? ⟨w2.heap.size, 8, none⟩ = some (.slice ao32 m.pieces.length cap32) := (X_d.out.below hba X_d.out.lt).cell 8 (by simp); have ca9 : wa.cell? ⟨w2.heap.size, 9, none⟩ = some (.slice ao33 m.low.length cap33) := (X_d.out.below hba X_d.out.lt).cell 9 (by simp); have ca10 : wa.cell? ⟨w2.heap.size, 10, none⟩ = some (.slice ao34 m.high.length cap34) := (X_d.out.below hba X_d.out.lt).cell 10 (by simp); have ca11 : wa.cell? ⟨w2.heap.size, 11, none⟩ = some (.int .i64 m.scrap) := (X_d.out.below hba X_d.out.lt).cell 11 (by simp))
      | (go_at_call 10; refine (eqMill_same _ _ _ _ _ _ _ _ m _ (VX_d.out.in.below hba).all hsa.in.all).mono ?_; rintro e wb ⟨rfl, hbb⟩))
    all_goals
      go_wp2_with fail
      go_meet
      exact ⟨rfl, Below.step (Below.step (Below.refl _ _).drew hba (by first | exact Nat.le_refl _ | simp)) hbb (by first | exact Nat.le_refl _ | simp)⟩
  obtain ⟨rfl, hb⟩ := hcut
  clear cX0 cX1 cX2 cX3 cX4 cX5 cX6 cX7 cX8 cX9 cX10 cX11 cA0 cA1 cA2 cA3 cA4 cA5 cA6 cA7 cA8 cA9 cA10 cA11
  have A_c := A_3.below hb A_3.lt
  clear A_3
  have D_c := D_3.below hb D_3.lt
  clear D_3
  have W_c := W_3.below hb W_3.lt
  clear W_3
  have X_c := X_3.below hb X_3.lt
  clear X_3
  have G_c := G_3.below hb G_3.lt
  clear G_3
  have VV_c := hide (VV_3.out.below hb)
  clear VV_3
  have VW_c := hide (VW_3.out.below hb)
  clear VW_3
  have VX_c := hide (VX_3.out.below hb)
  clear VX_3
  have VGv_c := hide (VGv_3.out.below hb)
  clear VGv_3
  have B_c := hide (Below.step B_3.out hb (Nat.le_refl _))
  clear B_3
  have hzc := hb.size
  clear hb VV_d VX_d X_d
  have cX0 := X_c.c 0 rfl
  have cX1 := X_c.c 1 rfl
  have cX2 := X_c.c 2 rfl
  have cX3 := X_c.c 3 rfl
  have cX4 := X_c.c 4 rfl
  have cX5 := X_c.c 5 rfl
  have cX6 := X_c.c 6 rfl
  have cX7 := X_c.c 7 rfl
  have cX8 := X_c.c 8 rfl
  have cX9 := X_c.c 9 rfl
  have cX10 := X_c.c 10 rfl
  have cX11 := X_c.c 11 rfl
  go_wp2_with fail
  clear cX0 cX1 cX2 cX3 cX4 cX5 cX6 cX7 cX8 cX9 cX10 cX11
  refine (KM.out _ _ _ _ _ _ wc VX_c.out).mono ?_
  clear VX_c
  rintro e u1 ⟨rfl, ho⟩
  have A_u1 := A_c.other ho (by omega)
  clear A_c
  have D_u1 := D_c.other ho (by omega)
  clear D_c
  have W_u1 := W_c.other ho (by omega)
  clear W_c
  have X_u1 := X_c.other ho (by omega)
  clear X_c
  have G_u1 := G_c.other ho (by omega)
  clear G_c
  have VV_u1 := hide (VV_c.out.other ho (by omega))
  clear VV_c
  have VW_u1 := hide (VW_c.out.other ho (by omega))
  clear VW_c
  have VGv_u1 := hide (VGv_c.out.other ho (by omega))
  clear VGv_c
  have B_u1 := hide (B_c.out.trans (ho.below (B := w.heap.size) (by omega) (by omega)))
  clear B_c
  have hzu1 := ho.size
  clear ho
  have cG0 := G_u1.c 0 rfl
  have cG1 := G_u1.c 1 rfl
  have cG2 := G_u1.c 2 rfl
  have cG3 := G_u1.c 3 rfl
  have cG4 := G_u1.c 4 rfl
  have cG5 := G_u1.c 5 rfl
  have cG6 := G_u1.c 6 rfl
  have cG7 := G_u1.c 7 rfl
  have cG8 := G_u1.c 8 rfl
  have cG9 := G_u1.c 9 rfl
  have cG10 := G_u1.c 10 rfl
  have cG11 := G_u1.c 11 rfl
  have cW0 := W_u1.c 0 rfl
  have cW1 := W_u1.c 1 rfl
  have cW2 := W_u1.c 2 rfl
  have cW3 := W_u1.c 3 rfl
  have cW4 := W_u1.c 4 rfl
  have cW5 := W_u1.c 5 rfl
  have cW6 := W_u1.c 6 rfl
  have cW7 := W_u1.c 7 rfl
  have cW8 := W_u1.c 8 rfl
  have cW9 := W_u1.c 9 rfl
  have cW10 := W_u1.c 10 rfl
  have cW11 := W_u1.c 11 rfl
  go_wp2_with fail
  clear cG0 cG1 cG2 cG3 cG4 cG5 cG6 cG7 cG8 cG9 cG10 cG11 cW0 cW1 cW2 cW3 cW4 cW5 cW6 cW7 cW8 cW9 cW10 cW11
  refine (KEY.out _ _ _ _ _ _ _ _ u1 VGv_u1.out.in.all VW_u1.out.in.all).mono ?_
  rintro e w4 ⟨rfl, hb⟩
  have A_4 := A_u1.below hb A_u1.lt
  clear A_u1
  have D_4 := D_u1.below hb D_u1.lt
  clear D_u1
  have W_4 := W_u1.below hb W_u1.lt
  clear W_u1
  have X_4 := X_u1.below hb X_u1.lt
  clear X_u1
  have G_4 := G_u1.below hb G_u1.lt
  clear G_u1
  have VV_4 := hide (VV_u1.out.below hb)
  clear VV_u1
  have VW_4 := hide (VW_u1.out.below hb)
  clear VW_u1
  have VGv_4 := hide (VGv_u1.out.below hb)
  clear VGv_u1
  have B_4 := hide (Below.step B_u1.out hb (Nat.le_refl _))
  clear B_u1
  have hz4 := hb.size
  clear hb
  have cG0 := G_4.c 0 rfl
  have cG1 := G_4.c 1 rfl
  have cG2 := G_4.c 2 rfl
  have cG3 := G_4.c 3 rfl
  have cG4 := G_4.c 4 rfl
  have cG5 := G_4.c 5 rfl
  have cG6 := G_4.c 6 rfl
  have cG7 := G_4.c 7 rfl
  have cG8 := G_4.c 8 rfl
  have cG9 := G_4.c 9 rfl
  have cG10 := G_4.c 10 rfl
  have cG11 := G_4.c 11 rfl
  go_wp2_with fail
  clear cG0 cG1 cG2 cG3 cG4 cG5 cG6 cG7 cG8 cG9 cG10 cG11
  refine (KMY.out _ _ _ _ _ _ w4 VGv_4.out).mono ?_
  clear VGv_4
  rintro e u3 ⟨rfl, ho, hmk⟩
  have A_u3 := A_4.other ho (by omega)
  clear A_4
  have D_u3 := D_4.other ho (by omega)
  clear D_4
  have W_u3 := W_4.other ho (by omega)
  clear W_4
  have X_u3 := X_4.other ho (by omega)
  clear X_4
  have G_u3 := G_4.other ho (by omega)
  clear G_4
  have VV_u3 := hide (VV_4.out.other ho (by omega))
  clear VV_4
  have VW_u3 := hide (VW_4.out.other ho (by omega))
  clear VW_4
  have VGv_u3 := hide hmk
  have B_u3 := hide (B_4.out.trans (ho.below (B := w.heap.size) (by omega) (by omega)))
  clear B_4
  have hzu3 := ho.size
  clear ho
  have cG0 := G_u3.c 0 rfl
  have cG1 := G_u3.c 1 rfl
  have cG2 := G_u3.c 2 rfl
  have cG3 := G_u3.c 3 rfl
  have cG4 := G_u3.c 4 rfl
  have cG5 := G_u3.c 5 rfl
  have cG6 := G_u3.c 6 rfl
  have cG7 := G_u3.c 7 rfl
  have cG8 := G_u3.c 8 rfl
  have cG9 := G_u3.c 9 rfl
  have cG10 := G_u3.c 10 rfl
  have cG11 := G_u3.c 11 rfl
  clear hmk
  go_wp2_with fail
  clear cG0 cG1 cG2 cG3 cG4 cG5 cG6 cG7 cG8 cG9 cG10 cG11
  refine (KHY.out _ _ _ _ u3 VGv_u3.out.in.all).mono ?_
  rintro e w5 ⟨rfl, hb⟩
  have A_5 := A_u3.below hb A_u3.lt
  clear A_u3
  have D_5 := D_u3.below hb D_u3.lt
  clear D_u3
  have W_5 := W_u3.below hb W_u3.lt
  clear W_u3
  have X_5 := X_u3.below hb X_u3.lt
  clear X_u3
  have G_5 := G_u3.below hb G_u3.lt
  clear G_u3
  have VV_5 := hide (VV_u3.out.below hb)
  clear VV_u3
  have VW_5 := hide (VW_u3.out.below hb)
  clear VW_u3
  have VGv_5 := hide (VGv_u3.out.below hb)
  clear VGv_u3
  have B_5 := hide (Below.step B_u3.out hb (Nat.le_refl _))
  clear B_u3
  have hz5 := hb.size
  clear hb
  have cD0 := D_5.c 0 rfl
  have cD1 := D_5.c 1 rfl
  have cD2 := D_5.c 2 rfl
  have cA0 := A_5.c 0 rfl
  have cA1 := A_5.c 1 rfl
  have cA2 := A_5.c 2 rfl
  have cA3 := A_5.c 3 rfl
  have cA4 := A_5.c 4 rfl
  have cA5 := A_5.c 5 rfl
  have cA6 := A_5.c 6 rfl
  have cA7 := A_5.c 7 rfl
  have cA8 := A_5.c 8 rfl
  have cA9 := A_5.c 9 rfl
  have cA10 := A_5.c 10 rfl
  have cA11 := A_5.c 11 rfl
  go_wp2_with fail
  have hI : Below w5.heap.size w5 w5.drew := (Below.refl _ _).drew
  have hI2 : ∀ o : Obj, Below w5.heap.size w5 (w5.alloc o).drew := fun o => ((Below.refl _ _).alloc (Nat.le_refl _) o).drew
  have hlAc := A_5.lt
  have hlDc := D_5.lt
  have VQ := hide VV_5.out
  have D_q := hide D_5
  have KZR : Hid (∀ X : World, RowL (X.alloc (.cells #[.slice none 0 0, .int .i64 0, .int .i64 0, .int .i64 0, .int .i64 0, .int .i64 0, .int .i64 0, .int .i64 0, .slice none 0 0, .slice none 0 0, .slice none 0 0, .int .i64 0] 39)) X.heap.size 39 [.slice none 0 0, .int .i64 0, .int .i64 0, .int .i64 0, .int .i64 0, .int .i64 0, .int .i64 0, .int .i64 0, .slice none 0 0, .slice none 0 0, .slice none 0 0, .int .i64 0]) := hide (fun X => RowL.new X 39 [.slice none 0 0, .int .i64 0, .int .i64 0, .int .i64 0, .int .i64 0, .int .i64 0, .int .i64 0, .int .i64 0, .slice none 0 0, .slice none 0 0, .slice none 0 0, .int .i64 0])
  have HS : Hid (∀ W : World, Below w5.heap.size w5 W → (W.cell? ⟨w.heap.size, 0, none⟩ = some (.slice ao1 m.store.length cap1) ∧ W.cell? ⟨w.heap.size, 1, none⟩ = some (.int .i64 m.rule.lc) ∧ W.cell? ⟨w.heap.size, 2, none⟩ = some (.int .i64 m.rule.hc) ∧ W.cell? ⟨w.heap.size, 3, none⟩ = some (.int .i64 m.rule.lm) ∧ W.cell? ⟨w.heap.size, 4, none⟩ = some (.int .i64 m.rule.hm) ∧ W.cell? ⟨w.heap.size, 5, none⟩ = some (.int .i64 m.rule.ls) ∧ W.cell? ⟨w.heap.size, 6, none⟩ = some (.int .i64 m.rule.hs) ∧ W.cell? ⟨w.heap.size, 7, none⟩ = some (.int .i64 m.strand) ∧ W.cell? ⟨w.heap.size, 8, none⟩ = some (.slice ao2 m.pieces.length cap2) ∧ W.cell? ⟨w.heap.size, 9, none⟩ = some (.slice ao3 m.low.length cap3) ∧ W.cell? ⟨w.heap.size, 10, none⟩ = some (.slice ao4 m.high.length cap4) ∧ W.cell? ⟨w.heap.size, 11, none⟩ = some (.int .i64 m.scrap)) ∧ (W.cell? ⟨w.heap.size + 1, 0, none⟩ = some (.int .i64 d.s) ∧ W.cell? ⟨w.heap.size + 1, 1, none⟩ = some (.int .i64 d.d) ∧ W.cell? ⟨w.heap.size + 1, 2, none⟩ = some (.int .i64 d.g))) := hide (fun W q => ⟨row12_cells (A_5.below q hlAc), row3_cells (D_q.out.below q hlDc)⟩)
  go_cut [14, 15] from 79 to 86 (fun bx ok wr => BoxS w5.heap.size wr y bx ∧ ok = .bool n ∧ Below w5.heap.size w5 wr)
  case first =>
    go_region_held (fun W => (W.cell? ⟨w.heap.size, 0, none⟩ = some (.slice ao1 m.store.length cap1) ∧ W.cell? ⟨w.heap.size, 1, none⟩ = some (.int .i64 m.rule.lc) ∧ W.cell? ⟨w.heap.size, 2, none⟩ = some (.int .i64 m.rule.hc) ∧ W.cell? ⟨w.heap.size, 3, none⟩ = some (.int .i64 m.rule.lm) ∧ W.cell? ⟨w.heap.size, 4, none⟩ = some (.int .i64 m.rule.hm) ∧ W.cell? ⟨w.heap.size, 5, none⟩ = some (.int .i64 m.rule.ls) ∧ W.cell? ⟨w.heap.size, 6, none⟩ = some (.int .i64 m.rule.hs) ∧ W.cell? ⟨w.heap.size, 7, none⟩ = some (.int .i64 m.strand) ∧ W.cell? ⟨w.heap.size, 8, none⟩ = some (.slice ao2 m.pieces.length cap2) ∧ W.cell? ⟨w.heap.size, 9, none⟩ = some (.slice ao3 m.low.length cap3) ∧ W.cell? ⟨w.heap.size, 10, none⟩ = some (.slice ao4 m.high.length cap4) ∧ W.cell? ⟨w.heap.size, 11, none⟩ = some (.int .i64 m.scrap)) ∧ (W.cell? ⟨w.heap.size + 1, 0, none⟩ = some (.int .i64 d.s) ∧ W.cell? ⟨w.heap.size + 1, 1, none⟩ = some (.int .i64 d.d) ∧ W.cell? ⟨w.heap.size + 1, 2, none⟩ = some (.int .i64 d.g))) (first | (with_reducible exact HS.out _ hI) | (with_reducible exact HS.out _ (hI2 _)) | (with_reducible exact HS.out _ hB7) | (with_reducible exact HS.out _ (hB7.alloc hB7.size _)) | (with_reducible exact HS.out _ hB6) | (with_reducible exact HS.out _ (hB6.alloc hB6.size _)) | (with_reducible exact HS.out _ hB5) | (with_reducible exact HS.out _ (hB5.alloc hB5.size _)) | (with_reducible exact HS.out _ (hB7.trans ((other12 _ _ _ _ _ _ _ _ _ _ _ _ _ _).below (by omega) hB7.size)))) (first
      | (go_at_call 9; (first | (have hk := KI.out _ _ _ _ _ hsep6.in.all; with_reducible refine hk.mono ?_) | (have hk := KI.out _ _ _ _ _ (hsep6.below ((Below.refl _ _).alloc (Nat.le_refl _) (.cells #[.slice none 0 0, .int .i64 0, .int .i64 0, .int .i64 0, .int .i64 0, .int .i64 0, .int .i64 0, .int .i64 0, .slice none 0 0, .slice none 0 0, .slice none 0 0, .int .i64 0] 39))).in.all; with_reducible refine hk.mono ?_)); clear hk; rintro e q7 ⟨s7, p7, l7, h7, rfl, hsep7, hb7⟩; have hB7 : Below w5.heap.size w5 q7 := (by first | with_reducible exact Below.step hB6 hb7 (Nat.le_refl _) | with_reducible exact Below.step (hB6.alloc hB6.size _) hb7 (Nat.le_refl _)); have hzz7 := hB7.size; obtain ⟨hc7, hf7⟩ := bcell hb7; have hzy7 := hb7.size; (try simp at hzy7); (try have hx70 : w5.heap.size < q7.heap.size := by omega); (try have hx71 : q5.heap.size < q7.heap.size := by omega); (try have hx72 : q6.heap.size < q7.heap.size := by omega); obtain ⟨as7, cs7, hs7, -, -, -, -⟩ := id hsep7.in.store; obtain ⟨ap7, cp7, hp7, -, -, -, -⟩ := id hsep7.in.pieces; obtain ⟨al7, cl7, hl7, -, -, -, -⟩ := id hsep7.in.low; obtain ⟨ah7, ch7, hh7, -, -, -, -⟩ := id hsep7.in.high; subst hs7 hp7 hl7 hh7; (try unfold millV))
      | (go_at_call 8; (with_reducible refine (toMillDeed_any _ _ _ _).mono ?_); rintro e q6 ⟨rfl, hb6⟩; have hB6 : Below w5.heap.size w5 q6 := (by first | with_reducible exact Below.step hB5 hb6 (Nat.le_refl _) | with_reducible exact Below.step (hB5.alloc hB5.size _) hb6 (Nat.le_refl _)); have hzz6 := hB6.size; obtain ⟨hc6, hf6⟩ := bcell hb6; have hzy6 := hb6.size; (try simp at hzy6); (try have hx60 : w5.heap.size < q6.heap.size := by omega); (try have hx61 : q5.heap.size < q6.heap.size := by omega); have hsep6 : MillSep _ _ q6 s5 p5 l5 h5 m := (by first | with_reducible exact hsep5.below hb6 | with_reducible exact (hsep5.below ((Below.refl _ _).alloc (Nat.le_refl _) _)).below hb6))
      | (go_at_call 7; (first | (have ht := toMill_any _ _ _ _ m _ (VQ.out.below hI).all HSM.out; unfold millV at ht; with_reducible refine ht.mono ?_) | (have ht := toMill_any _ _ _ _ m _ (VQ.out.below (hI2 (.cells #[.slice none 0 0, .int .i64 0, .int .i64 0, .int .i64 0, .int .i64 0, .int .i64 0, .int .i64 0, .int .i64 0, .slice none 0 0, .slice none 0 0, .slice none 0 0, .int .i64 0] 39))).all HSM.out; unfold millV at ht; with_reducible refine ht.mono ?_)); clear ht; rintro e q5 ⟨s5, p5, l5, h5, rfl, hsep5, hb5⟩; have hB5 : Below w5.heap.size w5 q5 := (by first | with_reducible exact Below.step hI hb5 (Nat.le_refl _) | with_reducible exact Below.step (hI2 _) hb5 (Nat.le_refl _)); have hzz5 := hB5.size; obtain ⟨hc5, hf5⟩ := bcell hb5; have hzy5 := hb5.size; (try simp at hzy5); (try have hx50 : w5.heap.size < q5.heap.size := by omega)))
    all_goals
      go_wp2_with fail
      go_meet
      first
        | (have hx := boxS_new (b := n) (by first | omega | (simp; done) | (simp; omega)) hB7 (Nat.le_refl _) hsep7
           with_reducible exact hx)
        | (with_reducible have hr := ((((KZR.out _).drew.stay hb5).stay hb6).stay hb7)
           have hx := boxS_old (b := n) (by first | omega | (simp; done) | (simp; omega)) hB7 (Nat.le_refl _) hsep7 hr rfl (by first | omega | (simp; done) | (simp; omega)) (by first | omega | (simp; done) | (simp; omega))
           with_reducible exact hx)
        | (with_reducible have hr := (((KZR.out _).stay hb6).stay hb7)
           have hx := boxS_old (b := n) (by first | omega | (simp; done) | (simp; omega)) hB7 (Nat.le_refl _) hsep7 hr rfl (by first | omega | (simp; done) | (simp; omega)) (by first | omega | (simp; done) | (simp; omega))
           with_reducible exact hx)
        | (with_reducible have hr := ((KZR.out _).stay hb7)
           have hx := boxS_old (b := n) (by first | omega | (simp; done) | (simp; omega)) hB7 (Nat.le_refl _) hsep7 hr rfl (by first | omega | (simp; done) | (simp; omega)) (by first | omega | (simp; done) | (simp; omega))
           with_reducible exact hx)
  obtain ⟨⟨Gc, s8, p8, l8, h8, loc, hic, rfl, hGc, hrow, hsp, hloc, hdisc⟩, rfl, hb⟩ := hcut
  obtain ⟨cc, rfl⟩ : ∃ q : World, q = wc := ⟨_, rfl⟩
  clear cD0 cD1 cD2 cA0 cA1 cA2 cA3 cA4 cA5 cA6 cA7 cA8 cA9 cA10 cA11
  have A_cc := A_5.below hb A_5.lt
  clear A_5
  have D_cc := D_5.below hb D_5.lt
  clear D_5
  have W_cc := W_5.below hb W_5.lt
  clear W_5
  have X_cc := X_5.below hb X_5.lt
  clear X_5
  have G_cc := G_5.below hb G_5.lt
  clear G_5
  have VV_cc := hide (VV_5.out.below hb)
  clear VV_5
  have VW_cc := hide (VW_5.out.below hb)
  clear VW_5
  have VGv_cc := hide (VGv_5.out.below hb)
  clear VGv_5
  have B_cc := hide (Below.step B_5.out hb (Nat.le_refl _))
  clear B_5
  have hzcc := hb.size
  have ltcc := hsp.lt
  have hrlcc := hrow.lt
  obtain ⟨ao81, cap81, rfl, -, -, -, -⟩ := id hsp.in.store
  obtain ⟨ao82, cap82, rfl, -, -, -, -⟩ := id hsp.in.pieces
  obtain ⟨ao83, cap83, rfl, -, -, -, -⟩ := id hsp.in.low
  obtain ⟨ao84, cap84, rfl, -, -, -, -⟩ := id hsp.in.high
  have VHv_cc := hide hsp
  have H_cc : RowL cc Gc 39 [.slice ao81 y.store.length cap81, .int .i64 y.rule.lc, .int .i64 y.rule.hc, .int .i64 y.rule.lm, .int .i64 y.rule.hm, .int .i64 y.rule.ls, .int .i64 y.rule.hs, .int .i64 y.strand, .slice ao82 y.pieces.length cap82, .slice ao83 y.low.length cap83, .slice ao84 y.high.length cap84, .int .i64 y.scrap] := hrow
  clear hb hI hI2 VQ D_q KZR hsp hrow
  have cH0 := H_cc.c 0 rfl
  have cH1 := H_cc.c 1 rfl
  have cH2 := H_cc.c 2 rfl
  have cH3 := H_cc.c 3 rfl
  have cH4 := H_cc.c 4 rfl
  have cH5 := H_cc.c 5 rfl
  have cH6 := H_cc.c 6 rfl
  have cH7 := H_cc.c 7 rfl
  have cH8 := H_cc.c 8 rfl
  have cH9 := H_cc.c 9 rfl
  have cH10 := H_cc.c 10 rfl
  have cH11 := H_cc.c 11 rfl
  have cW0 := W_cc.c 0 rfl
  have cW1 := W_cc.c 1 rfl
  have cW2 := W_cc.c 2 rfl
  have cW3 := W_cc.c 3 rfl
  have cW4 := W_cc.c 4 rfl
  have cW5 := W_cc.c 5 rfl
  have cW6 := W_cc.c 6 rfl
  have cW7 := W_cc.c 7 rfl
  have cW8 := W_cc.c 8 rfl
  have cW9 := W_cc.c 9 rfl
  have cW10 := W_cc.c 10 rfl
  have cW11 := W_cc.c 11 rfl
  go_wp2_with fail
  clear cH0 cH1 cH2 cH3 cH4 cH5 cH6 cH7 cH8 cH9 cH10 cH11 cW0 cW1 cW2 cW3 cW4 cW5 cW6 cW7 cW8 cW9 cW10 cW11
  refine (KEY.out _ _ _ _ _ _ _ _ cc VHv_cc.out.in.all VW_cc.out.in.all).mono ?_
  rintro e w6 ⟨rfl, hb⟩
  have A_6 := A_cc.below hb A_cc.lt
  clear A_cc
  have D_6 := D_cc.below hb D_cc.lt
  clear D_cc
  have W_6 := W_cc.below hb W_cc.lt
  clear W_cc
  have X_6 := X_cc.below hb X_cc.lt
  clear X_cc
  have G_6 := G_cc.below hb G_cc.lt
  clear G_cc
  have H_6 := H_cc.below hb H_cc.lt
  clear H_cc
  have VV_6 := hide (VV_cc.out.below hb)
  clear VV_cc
  have VW_6 := hide (VW_cc.out.below hb)
  clear VW_cc
  have VGv_6 := hide (VGv_cc.out.below hb)
  clear VGv_cc
  have VHv_6 := hide (VHv_cc.out.below hb)
  clear VHv_cc
  have B_6 := hide (Below.step B_cc.out hb (Nat.le_refl _))
  clear B_cc
  have hz6 := hb.size
  clear hb
  have cG0 := G_6.c 0 rfl
  have cG1 := G_6.c 1 rfl
  have cG2 := G_6.c 2 rfl
  have cG3 := G_6.c 3 rfl
  have cG4 := G_6.c 4 rfl
  have cG5 := G_6.c 5 rfl
  have cG6 := G_6.c 6 rfl
  have cG7 := G_6.c 7 rfl
  have cG8 := G_6.c 8 rfl
  have cG9 := G_6.c 9 rfl
  have cG10 := G_6.c 10 rfl
  have cG11 := G_6.c 11 rfl
  go_wp2_with fail
  clear cG0 cG1 cG2 cG3 cG4 cG5 cG6 cG7 cG8 cG9 cG10 cG11
  refine (KHY.out _ _ _ _ w6 VGv_6.out.in.all).mono ?_
  rintro e w7 ⟨rfl, hb⟩
  have A_7 := A_6.below hb A_6.lt
  clear A_6 A_7
  have D_7 := D_6.below hb D_6.lt
  clear D_6 D_7
  have W_7 := W_6.below hb W_6.lt
  clear W_6 W_7
  have X_7 := X_6.below hb X_6.lt
  clear X_6 X_7
  have G_7 := G_6.below hb G_6.lt
  clear G_6 G_7
  have H_7 := H_6.below hb H_6.lt
  clear H_6 H_7
  have VV_7 := hide (VV_6.out.below hb)
  clear VV_6 VV_7
  have VW_7 := hide (VW_6.out.below hb)
  clear VW_6 VW_7
  have VGv_7 := hide (VGv_6.out.below hb)
  clear VGv_6 VGv_7
  have VHv_7 := hide (VHv_6.out.below hb)
  clear VHv_6 VHv_7
  have B_7 := hide (Below.step B_6.out hb (Nat.le_refl _))
  clear B_6
  have hz7 := hb.size
  clear hb
  go_wp2_with fail
  go_ret
  exact ⟨rfl, B_7.out⟩
end Go.Proofs.YtajjnciookhamaaGreat
