/-
  Parts of the proofs over mills, of: MethS, DoI1, TextE. Conditions: each theorem states its own.
-/
import Derived.Test.YtmemgbklgcjobaaGreatDoorY45
set_option linter.unusedSimpArgs false
set_option linter.unusedVariables false
set_option maxRecDepth 10000
set_option maxHeartbeats 64000000
namespace Go.Proofs.YtmemgbklgcjobaaGreatDoor
open Go.RowKit
theorem held2_call {w W W' : World} {B Z : Nat} {l h : Value} {t : Bool} {p : Int} (hlt : B < w.heap.size) (hlz : Z < w.heap.size) (k : Below w.heap.size W W') (H : ((W.cell? ⟨B, 9, none⟩ = some l ∧ W.cell? ⟨B, 10, none⟩ = some h) ∧ (W.cell? ⟨Z, 0, none⟩ = some (.bool t) ∧ W.cell? ⟨Z, 1, none⟩ = some (.int .i64 p))) ∧ Below w.heap.size w W) :
 ((W'.cell? ⟨B, 9, none⟩ = some l ∧ W'.cell? ⟨B, 10, none⟩ = some h) ∧ (W'.cell? ⟨Z, 0, none⟩ = some (.bool t) ∧ W'.cell? ⟨Z, 1, none⟩ = some (.int .i64 p))) ∧ Below w.heap.size w W' :=
 ⟨⟨⟨(k.cell (p := ⟨B, 9, none⟩) hlt).trans H.1.1.1, (k.cell (p := ⟨B, 10, none⟩) hlt).trans H.1.1.2⟩, (k.cell (p := ⟨Z, 0, none⟩) hlz).trans H.1.2.1, (k.cell (p := ⟨Z, 1, none⟩) hlz).trans H.1.2.2⟩, H.2.trans k⟩
theorem held2_alloc {w W : World} {B Z : Nat} {l h : Value} {t : Bool} {p : Int} {o : Obj} (hlt : B < w.heap.size) (hlz : Z < w.heap.size) (H : ((W.cell? ⟨B, 9, none⟩ = some l ∧ W.cell? ⟨B, 10, none⟩ = some h) ∧ (W.cell? ⟨Z, 0, none⟩ = some (.bool t) ∧ W.cell? ⟨Z, 1, none⟩ = some (.int .i64 p))) ∧ Below w.heap.size w W) :
 (((W.alloc o).cell? ⟨B, 9, none⟩ = some l ∧ (W.alloc o).cell? ⟨B, 10, none⟩ = some h) ∧ ((W.alloc o).cell? ⟨Z, 0, none⟩ = some (.bool t) ∧ (W.alloc o).cell? ⟨Z, 1, none⟩ = some (.int .i64 p))) ∧ Below w.heap.size w (W.alloc o) :=
 held2_call hlt hlz ((Below.refl _ _).alloc H.2.size o) H
theorem held2_store {w W : World} {B Z G : Nat} {l h u v : Value} {t : Bool} {p : Int} (hlt : B < w.heap.size) (hlz : Z < w.heap.size) (hG : w.heap.size ≤ G) (H : ((W.cell? ⟨B, 9, none⟩ = some l ∧ W.cell? ⟨B, 10, none⟩ = some h) ∧ (W.cell? ⟨Z, 0, none⟩ = some (.bool t) ∧ W.cell? ⟨Z, 1, none⟩ = some (.int .i64 p))) ∧ Below w.heap.size w W) :
 ((((W.setCell ⟨G, 0, none⟩ u).setCell ⟨G, 1, none⟩ v).cell? ⟨B, 9, none⟩ = some l ∧ ((W.setCell ⟨G, 0, none⟩ u).setCell ⟨G, 1, none⟩ v).cell? ⟨B, 10, none⟩ = some h) ∧ (((W.setCell ⟨G, 0, none⟩ u).setCell ⟨G, 1, none⟩ v).cell? ⟨Z, 0, none⟩ = some (.bool t) ∧ ((W.setCell ⟨G, 0, none⟩ u).setCell ⟨G, 1, none⟩ v).cell? ⟨Z, 1, none⟩ = some (.int .i64 p))) ∧ Below w.heap.size w ((W.setCell ⟨G, 0, none⟩ u).setCell ⟨G, 1, none⟩ v) :=
 held2_call hlt hlz (((Below.refl _ _).setCell (p := ⟨G, 0, none⟩) hG _).setCell (p := ⟨G, 1, none⟩) hG _) H
theorem ship_meth {base B : Nat} {w : World} {s p l h : Value} {m : Mi} (id : Int) (H : MillBox base B w s p l h m) (hm : MillV m) :
 Calls Tryz.prog 111 #[.pointer (some ⟨B, 0, none⟩), .int .i64 id] w (Meth base B (shipD m id) w) := by
 have HH := hide H;have hr := H.row;have hlt := hr.lt;have hbz := H.got.hb;have hpl := hm.len;have HM := hide hm;have HL := hide (H.got.all.low);have HG := hide (H.got.all.high);have c9 : w.cell? ⟨B, 9, none⟩ = some l := hr.cell 9 (by simp [millC]);have c10 : w.cell? ⟨B, 10, none⟩ = some h := hr.cell 10 (by simp [millC]);have hfind := find_impl l h m.low m.high id w HL.out HG.out;have hlf := fun (t : Bool) (pl : Int) (W : World) (kk : Below w.heap.size w W) => takeP_impl l h m.low m.high t pl W ((HL.out.below kk).mono nl kk.size nl) ((HG.out.below kk).mono nl kk.size nl);unfold pileV at hlf hfind;have HLF := hide hlf;clear hr H hlf;cases hf : findR m.low m.high id with
 | none =>
  have hN := hide (shipD_no1 hf);rw [hf] at hfind;unfold findV at hfind;clear hf;go_enter Tryz.func111, Tryz.ntmps111;go_wp2_with fail
  refine hfind.mono ?_;rintro e w1 ⟨rfl, hb⟩;have HB := hide hb;clear hb hfind;go_wp2_with fail
  go_ret;rw [hN.out];exact Meth.no ((HB.out.mono hbz).trans (((Below.refl _ _).alloc (Nat.le_trans hbz HB.out.size) _)))
 | some tp =>
  obtain ⟨t, pl⟩ := tp;have HF := hide hf;rw [hf] at hfind;unfold findV at hfind;obtain ⟨⟨q, x⟩, hQ⟩ : ∃ Q, takeR m.low m.high t pl = Q := ⟨_, rfl⟩;have HQ := hide hQ;have hlt2 := HLF.out t pl;rw [hQ] at hlt2;have HLT := hide hlt2;clear hf hQ hlt2;go_enter Tryz.func111, Tryz.ntmps111;go_wp2_with fail
  refine hfind.mono ?_;rintro e w1 ⟨rfl, hb⟩;have HB := hide hb;have hz1 := hb.size;clear hb hfind;go_wp2_with fail
  obtain ⟨wz, hwz⟩ : ∃ wz, wz = w1.alloc (.cells #[.bool t, .int .i64 pl] 128) := ⟨_, rfl⟩;rw [← hwz];have RZ : RowL wz w1.heap.size 128 [.bool t, .int .i64 pl] := by rw [hwz]; exact RowL.new _ _ _
  have HBZ := hide (show Below w.heap.size w wz by rw [hwz]; exact HB.out.alloc hz1 _);have hzz := HBZ.out.size;have hlz := RZ.lt;have hlB : B < wz.heap.size := by omega
  obtain ⟨Z, hZ⟩ : ∃ Z, w1.heap.size = Z := ⟨_, rfl⟩;rw [hZ] at RZ hlz ⊢;have R_z := HH.out.row.below HBZ.out hlt;have z9 : wz.cell? ⟨B, 9, none⟩ = some l := R_z.cell 9 (by simp [millC]);have z10 : wz.cell? ⟨B, 10, none⟩ = some h := R_z.cell 10 (by simp [millC]);have z0 := RZ.c 0 rfl;have z1 := RZ.c 1 rfl;clear hwz hZ RZ R_z c9 c10;go_wp2_with fail
  have hI : (wz.drew.cell? ⟨B, 9, none⟩ = some l ∧ wz.drew.cell? ⟨B, 10, none⟩ = some h) ∧ (wz.drew.cell? ⟨Z, 0, none⟩ = some (.bool t) ∧ wz.drew.cell? ⟨Z, 1, none⟩ = some (.int .i64 pl)) := ⟨⟨z9, z10⟩, z0, z1⟩;have hK : Below wz.heap.size wz wz.drew := (Below.refl _ _).drew
  go_cut [7, 8] from 20 to 28 (fun bx ok wr => BoxGot wz.heap.size wr q bx ∧ ok = .int .i64 x ∧ Below wz.heap.size wz wr)
  case first =>
   go_region_held (fun W => ((W.cell? ⟨B, 9, none⟩ = some l ∧ W.cell? ⟨B, 10, none⟩ = some h) ∧ (W.cell? ⟨Z, 0, none⟩ = some (.bool t) ∧ W.cell? ⟨Z, 1, none⟩ = some (.int .i64 pl))) ∧ Below wz.heap.size wz W) (first | exact ⟨hI, hK⟩ | assumption | exact held2_alloc hlB hlz (by assumption) | exact held2_store hlB hlz (by first | exact Nat.le_refl _ | omega) (by assumption) | (trace_state; fail)) (first
    | (go_at_call 169; (with_reducible refine (HLT.out _ (HBZ.out.trans ((And.right (by assumption : _ ∧ Below wz.heap.size wz _)).mono hzz))).mono ?_); rintro e w7 ⟨lx, hx, rfl, own, hb7⟩; have hS7 := held2_call hlB hlz (hb7.mono (by first | exact Nat.le_refl _ | (simp; done))) (by assumption); have hz7 := hS7.2.size; obtain ⟨hc7, hf7⟩ := bcell hb7; have hzz7 := hb7.size; (try simp at hzz7); obtain ⟨alx, clx, hlx, -, -⟩ := own.lo.form; obtain ⟨ahx, chx, hhx, -, -⟩ := own.ho.form; subst hlx hhx; simp only [pileV]))
   all_goals
    have hwd : wz.drew.heap.size = wz.heap.size := rfl;go_wp2_with fail
    go_meet
   ·exact ⟨box_new (base := wz.heap.size) own (by omega) (by omega), rfl, And.right (by assumption)⟩
   ·exact ⟨box_old ((RowL.new wz.drew _ _).below hb7 (by simp)) own (by omega) (by simp), rfl, And.right (by assumption)⟩
  obtain ⟨⟨G, lx, hx, rfl, hG, hrow, hown⟩, rfl, hbw⟩ := hcut;have HR := hide hrow;have HO := hide hown;have HBW := hide (HBZ.out.trans (hbw.mono hzz));have hGz := hrow.lt;have g0 : wc.cell? ⟨G, 0, none⟩ = some lx := hrow.cell 0 (by simp);have g1 : wc.cell? ⟨G, 1, none⟩ = some hx := hrow.cell 1 (by simp);have R_c := HH.out.row.below HBW.out hlt;have f9 := R_c.frozen 9;have f10 := R_c.frozen 10;have d9 : wc.cell? ⟨B, 9, none⟩ = some l := R_c.cell 9 (by simp [millC]);have d10 : wc.cell? ⟨B, 10, none⟩ = some h := R_c.cell 10 (by simp [millC]);have d8 : wc.cell? ⟨B, 8, none⟩ = some p := R_c.cell 8 (by simp [millC]);have hltc := R_c.lt;have hRc := hide R_c;obtain ⟨alx, clx, rfl, -, -⟩ := hown.lo.form;obtain ⟨ahx, chx, rfl, -, -⟩ := hown.ho.form;have GC := HH.out.got.below HBW.out;clear hrow hown hbw R_c hI hK z9 z10 z0 z1;by_cases hx0 : x = 0
  ·subst hx0
   have hN := hide (shipD_no2 (m := m) (id := id) HF.out HQ.out);go_wp2_with fail
   go_ret;rw [hN.out];exact Meth.no (HBW.out.mono hbz)
  ·have hxB : (x == 0) = false := by simp [hx0]
   have HY := hide (shipD_yes (m := m) HF.out HQ.out hx0);obtain ⟨-, k, rfl, hk, -⟩ := ship_ok HM.out HY.out;obtain ⟨g, cp, hpf, hgb, hgz, hgc⟩ := got_block GC (by omega);have hgB : g ≠ B := fun e => HH.out.off.2.1 (by rw [hpf, e]; rfl);have hBg : B ≠ g := fun e => hgB e.symm;have HPF := hide hpf;obtain ⟨hgc1, hgf1⟩ := hgc k hk;rw [hpf] at d8;have hkI : (k : Int) < (m.pieces.length : Int) := by omega
   have hk0 : (0 : Int) ≤ (k : Int) := by omega
   have hsub : IntKind.i64.wrap ((k : Int) + 1 - 1) = (k : Int) := by rw [show (k : Int) + 1 - 1 = (k : Int) by omega]; exact IntWalk.i64_in _ (by omega)
   clear GC hgc hpf hx0;go_wp2_with fail
   go_ret;rw [HY.out];have G_2 := HH.out.got.yard HBW.out (by omega) HO.out;have O_2 := notIn_new HH.out.off hlB HO.out;obtain ⟨r1, k1, b1⟩ := box_set hRc.out G_2 O_2 HH.out.hB (j := 9) (by simp [millC]) (.slice alx q.1.length clx);obtain ⟨r2, k2, b2⟩ := box_set r1 k1 O_2 HH.out.hB (j := 10) (by simp [millC]) (.slice ahx q.2.length chx);obtain ⟨k3, b3⟩ := got_state k2 (k := k) hk (g := g) (by rw [HPF.out]; rfl) 2;refine ⟨rfl, (((HBW.out.mono hbz).trans b1).trans b2).trans b3, fun x hx => ?_⟩;obtain rfl := Option.some.inj hx;exact ⟨_, _, _, _, r2.other (lo := g) (hi := g + 1) ((Other.refl _ _ _).setCell (p := ⟨g, k * 2 + 1, none⟩) nl (Nat.lt_succ_self _) _) (by omega), k3⟩
theorem do_i1 (s p l h : Value) (m : Mi) (a b : Int) (w : World) (H : MillIn 0 w.heap.size w s p l h m) (ha : a ≤ 9223372036854775807) (hb : b ≤ 9223372036854775807) :
 Calls Tryz.prog 44 #[millV s p l h m, .agg #[.int .i64 1, .int .i64 a, .int .i64 b]] w (DoGot w.heap.size (doR m ⟨1, a, b⟩) w) := by
 obtain ⟨ao1, cap1, rfl, -, -, -, -⟩ := id H.store;obtain ⟨ao2, cap2, rfl, -, -, -, -⟩ := id H.pieces;obtain ⟨ao3, cap3, rfl, -, -, -, -⟩ := id H.low;obtain ⟨ao4, cap4, rfl, -, -, -, -⟩ := id H.high;have HM := hide H;have HA := hide (And.intro ha hb);clear H ha hb;unfold millV;go_enter Tryz.func44, Tryz.ntmps44;go_wp2_with fail
 refine calls_at fun wx hwx => ?_;have A_0 : RowL wx (w.heap.size) 31 [.slice ao1 m.store.length cap1, .int .i64 m.rule.lc, .int .i64 m.rule.hc, .int .i64 m.rule.lm, .int .i64 m.rule.hm, .int .i64 m.rule.ls, .int .i64 m.rule.hs, .int .i64 m.strand, .slice ao2 m.pieces.length cap2, .slice ao3 m.low.length cap3, .slice ao4 m.high.length cap4, .int .i64 m.scrap] := by rw [hwx]; exact (((RowL.new _ _ _).alloc _).alloc _)
 have D_0 : RowL wx (w.heap.size + 1) 48 [.int .i64 1, .int .i64 a, .int .i64 b] := by rw [hwx]; simpa using ((RowL.new (World.alloc _ _) 48 [.int .i64 1, .int .i64 a, .int .i64 b]).alloc _)
 have R_0 : RowL wx (w.heap.size + 1 + 1) 31 [.slice none 0 0, .int .i64 0, .int .i64 0, .int .i64 0, .int .i64 0, .int .i64 0, .int .i64 0, .int .i64 0, .slice none 0 0, .slice none 0 0, .slice none 0 0, .int .i64 0] := by rw [hwx]; simpa using (RowL.new (World.alloc (World.alloc _ _) _) 31 [.slice none 0 0, .int .i64 0, .int .i64 0, .int .i64 0, .int .i64 0, .int .i64 0, .int .i64 0, .int .i64 0, .slice none 0 0, .slice none 0 0, .slice none 0 0, .int .i64 0])
 have B_0 : Below w.heap.size w wx := by rw [hwx]; go_grown
 clear hwx;have hL0 := R_0.lt;have V_0 := hide (HM.out.below B_0);have k1 := mill_impl _ _ _ _ m wx V_0.out.all;unfold millV at k1;cases hv : millB m with
 | false =>
  rw [hv] at k1;have HZ := hide (do_bad hv ⟨1, a, b⟩);clear hv;refine k1.mono ?_;rintro e w1 ⟨rfl, hb⟩;have R_1 := R_0.below hb R_0.lt;have B_1 := hide (Below.step B_0 hb nl);clear hb k1;obtain ⟨cR0, cR1, cR2, cR3, cR4, cR5, cR6, cR7, cR8, cR9, cR10, cR11⟩ := row12_c R_1;obtain ⟨fR0, fR1, fR2, fR3, fR4, fR5, fR6, fR7, fR8, fR9, fR10, fR11⟩ := row12_f R_1;go_wp2_with fail
  refine bodyPost_ret (by simp [results, Tryz.results44, go_sem, cR0, cR1, cR2, cR3, cR4, cR5, cR6, cR7, cR8, cR9, cR10, cR11]; try rfl) rfl ?_;rw [HZ.out];exact ⟨_, _, _, _, rfl, zero_got B_1.out nl (by omega) _ _ _ _ _ _ _ _ _ _ _ _⟩
 | true =>
  rw [hv] at k1;obtain ⟨n1, n2, n3, n4⟩ := few_of hv;have HV := hide hv;have hD := do_good hv 1 a b;rw [step_1] at hD;clear hv;refine k1.mono ?_;rintro e w1 ⟨rfl, hb⟩;have A_1 := A_0.below hb A_0.lt;have D_1 := D_0.below hb D_0.lt;have R_1 := R_0.below hb R_0.lt;have V_1 := hide (V_0.out.below hb);have B_1 := hide (Below.step B_0 hb nl);have hz1 := hb.size;clear hb k1;obtain ⟨cA0, cA1, cA2, cA3, cA4, cA5, cA6, cA7, cA8, cA9, cA10, cA11⟩ := row12_c A_1;go_wp2_with fail
  clear cA0 cA1 cA2 cA3 cA4 cA5 cA6 cA7 cA8 cA9 cA10 cA11;have k2 := copyMill_any _ _ _ _ m w1 V_1.out.all n1 n2 n3 n4;unfold millV at k2;refine k2.mono ?_;clear k2;rintro e w2 ⟨s2, p2, l2, h2, rfl, G, hb⟩;have A_2 := A_1.below hb A_1.lt;have D_2 := D_1.below hb D_1.lt;have R_2 := R_1.below hb R_1.lt;have V_2 := hide (V_1.out.below hb);have B_2 := hide (Below.step B_1.out hb nl);have hz2 := hb.size;have hL2 := R_2.lt;have hLD := D_2.lt;have hLA := A_2.lt;clear hb;have G_2 := hide G;obtain ⟨aS, cs, rfl, -, -⟩ := G.so.form;obtain ⟨ap, cp, rfl, -, -⟩ := G.po.form;obtain ⟨al, cl, rfl, -, -⟩ := G.lo.form;obtain ⟨ah, ch, rfl, -, -⟩ := G.ho.form;clear G;unfold millV;have cD0 := D_2.c 0 rfl;have cD1 := D_2.c 1 rfl;have cD2 := D_2.c 2 rfl;go_wp2_with fail
  refine calls_at fun wy hwy => ?_;have C_y : RowL wy w2.heap.size 31 (millC (.slice aS m.store.length cs) (.slice ap m.pieces.length cp) (.slice al m.low.length cl) (.slice ah m.high.length ch) m) := by
   rw [hwy];first
    | exact RowL.alloc (RowL.new w2 31 (millC (.slice aS m.store.length cs) (.slice ap m.pieces.length cp) (.slice al m.low.length cl) (.slice ah m.high.length ch) m)) _
    | exact RowL.alloc (row12 (RowL.new w2 31 [.slice none 0 0, .int .i64 0, .int .i64 0, .int .i64 0, .int .i64 0, .int .i64 0, .int .i64 0, .int .i64 0, .slice none 0 0, .slice none 0 0, .slice none 0 0, .int .i64 0]) rfl _ _ _ _ _ _ _ _ _ _ _ _) _
  have hby : Below w2.heap.size w2 wy := by
   rw [hwy];first
    | exact Below.alloc ((Below.refl _ _).alloc nl _) (by simp) _
    | exact Below.alloc (((Below.refl _ _).alloc nl _).trans ((other12 w2.heap.size _ _ _ _ _ _ _ _ _ _ _ _ _).below nl (by simp))) (by simp) _
  have HV2 := hide (show IntsAt (w2.heap.size + 1) wy.heap.size wy (.slice (some ⟨w2.heap.size + 1, 0, none⟩) 2 2) [a, b] by
   rw [hwy];exact two_lit _ a b _ (by simp))
  have A_y := A_2.below hby A_2.lt;have R_y := R_2.below hby R_2.lt;have V_y := hide (V_2.out.below hby);have B_y := hide (Below.step B_2.out hby nl);have G_y := hide (G_2.out.below hby);have hzy := hby.size;clear hwy hby;have MB : MillBox w1.heap.size w2.heap.size wy _ _ _ _ m := ⟨C_y, G_y.out, ⟨fun e => Nat.lt_irrefl _ (G_2.out.so.lt _ e).2, fun e => Nat.lt_irrefl _ (G_2.out.po.lt _ e).2, fun e => Nat.lt_irrefl _ (G_2.out.lo.lt _ e).2, fun e => Nat.lt_irrefl _ (G_2.out.ho.lt _ e).2⟩, hz2⟩;have k3 := cut_meth _ a b MB (millB_iff.1 HV.out) HV2.out (Nat.lt_succ_self _) (fun g e => Nat.lt_succ_of_lt (G_2.out.po.lt g e).2);obtain ⟨o, ho⟩ : ∃ o, cutD m a b = o := ⟨_, rfl⟩;rw [ho] at k3 hD;have HD := hide hD;clear hD ho MB cD0 cD1 cD2;refine k3.mono ?_;clear k3;rintro e w4 ⟨rfl, hb, hx⟩;have A_4 := A_y.below hb (by omega);have R_4 := R_y.below hb (by omega);have V_4 := hide (V_y.out.low_keep hb (by omega));have B_4 := hide (B_y.out.trans (hb.mono (by omega)));have hz4 := hb.size;clear hb;rcases o with _ | x;rotate_left
  ·obtain ⟨s4, p4, l4, h4, C_4, G⟩ := hx x rfl
   have HZ := hide (show doR m ⟨1, a, b⟩ = (x, true) from HD.out);have G_4 := hide G;obtain ⟨aS4, cs4, rfl, -, -⟩ := G.so.form;obtain ⟨ap4, cp4, rfl, -, -⟩ := G.po.form;obtain ⟨al4, cl4, rfl, -, -⟩ := G.lo.form;obtain ⟨ah4, ch4, rfl, -, -⟩ := G.ho.form;clear G hx;unfold millC at C_4;obtain ⟨cC0, cC1, cC2, cC3, cC4, cC5, cC6, cC7, cC8, cC9, cC10, cC11⟩ := row12_c C_4;obtain ⟨cR0, cR1, cR2, cR3, cR4, cR5, cR6, cR7, cR8, cR9, cR10, cR11⟩ := row12_c R_4;obtain ⟨fR0, fR1, fR2, fR3, fR4, fR5, fR6, fR7, fR8, fR9, fR10, fR11⟩ := row12_f R_4;go_wp2_with fail
   refine bodyPost_ret (by simp [results, Tryz.results44, go_sem, cR0, cR1, cR2, cR3, cR4, cR5, cR6, cR7, cR8, cR9, cR10, cR11]; try rfl) rfl ?_;rw [HZ.out];exact ⟨_, _, _, _, rfl, put_got G_4.out B_4.out (by omega) (by omega) nl _ _ _ _ _ _ _ _ _ _ _ _⟩
  ·clear hx
   have HZ := hide (show doR m ⟨1, a, b⟩ = (m, false) from HD.out);obtain ⟨cA0, cA1, cA2, cA3, cA4, cA5, cA6, cA7, cA8, cA9, cA10, cA11⟩ := row12_c A_4;go_wp2_with fail
   clear cA0 cA1 cA2 cA3 cA4 cA5 cA6 cA7 cA8 cA9 cA10 cA11;have k5 := copyMill_any _ _ _ _ m w4 V_4.out.all n1 n2 n3 n4;unfold millV at k5;refine k5.mono ?_;clear k5;rintro e w5 ⟨s5, p5, l5, h5, rfl, G, hb⟩;have R_5 := R_4.below hb R_4.lt;have B_5 := hide (Below.step B_4.out hb nl);clear hb;have G_5 := hide G;obtain ⟨aS5, cs5, rfl, -, -⟩ := G.so.form;obtain ⟨ap5, cp5, rfl, -, -⟩ := G.po.form;obtain ⟨al5, cl5, rfl, -, -⟩ := G.lo.form;obtain ⟨ah5, ch5, rfl, -, -⟩ := G.ho.form;clear G;unfold millV;obtain ⟨cR0, cR1, cR2, cR3, cR4, cR5, cR6, cR7, cR8, cR9, cR10, cR11⟩ := row12_c R_5;obtain ⟨fR0, fR1, fR2, fR3, fR4, fR5, fR6, fR7, fR8, fR9, fR10, fR11⟩ := row12_f R_5;go_wp2_with fail
   refine bodyPost_ret (by simp [results, Tryz.results44, go_sem, cR0, cR1, cR2, cR3, cR4, cR5, cR6, cR7, cR8, cR9, cR10, cR11]; try rfl) rfl ?_;rw [HZ.out];exact ⟨_, _, _, _, rfl, put_got G_5.out B_5.out (by omega) (by omega) nl _ _ _ _ _ _ _ _ _ _ _ _⟩
theorem quiet_leftT {P : Program} {f : FuncId} {args : Array Value} {w : World} {n : Nat} {v : Value}
 (h : Calls P f args (w.drewN n) fun e w' => e = .returned v ∧ w.drewN n = w') : Calls P f args (w.drewN n) fun e w'' => e = .returned v ∧ ∃ m, w'' = w.drewN m :=
 h.mono fun _ _ ⟨he, hm⟩ => ⟨he, n, hm.symm⟩
theorem size_set (w : World) (p : Addr) (v : Value) : (w.setCell p v).heap.size = w.heap.size := by simp [World.setCell]
theorem frozen_set (w : World) (p q : Addr) (v : Value) : (w.setCell p v).frozen? q = w.frozen? q := by simp [go_sem]
theorem far {w : World} {a b i j : Nat} {v : Value} (h : a ≠ b) : (w.setCell ⟨a, i, none⟩ v).cell? ⟨b, j, none⟩ = w.cell? ⟨b, j, none⟩ := by
 apply World.cell?_setCell_other;intro e;exact h (congrArg Addr.block e)
theorem far' {w : World} {a i j : Nat} {v : Value} (h : i ≠ j) : (w.setCell ⟨a, i, none⟩ v).cell? ⟨a, j, none⟩ = w.cell? ⟨a, j, none⟩ := by
 apply World.cell?_setCell_other;intro e;exact h (congrArg Addr.off e)
theorem same' {w : World} {a i : Nat} {u v : Value} (h : w.cell? ⟨a, i, none⟩ = some u) : (w.setCell ⟨a, i, none⟩ v).cell? ⟨a, i, none⟩ = some v := by
 apply World.cell?_setCell_same;exact h
theorem RdSt.set0 {w0 w : World} {r D g : Nat} {xs : List ByteArray} {k o t : Int} (h : RdSt w0 w r D g xs k o t) (k' : Int) : RdSt w0 (w.setCell ⟨D, 0, none⟩ (.int .i64 k')) r D g xs k' o t :=
 ⟨by rw [far h.ne.symm]; exact h.r0, by rw [far h.ne.symm]; exact h.r1, by rw [far h.ne.symm]; exact h.r2, by rw [frozen_set]; exact h.fr0, by rw [frozen_set]; exact h.fr1, by rw [frozen_set]; exact h.fr2,
  same' h.d0, by rw [far' (by omega)]; exact h.d1, by rw [far' (by omega)]; exact h.d2, by rw [frozen_set]; exact h.fd0, by rw [frozen_set]; exact h.fd1, by rw [frozen_set]; exact h.fd2,
  ⟨by rw [size_set]; exact h.strs.1, fun i hi => by rw [far h.ng.symm]; exact h.strs.2 i hi⟩, by rw [size_set]; exact h.lr, by rw [size_set]; exact h.ld, h.ne, h.ng, h.br, h.bd, h.below.setCell h.bd _⟩
theorem RdSt.set1 {w0 w : World} {r D g : Nat} {xs : List ByteArray} {k o t : Int} (h : RdSt w0 w r D g xs k o t) (k' : Int) : RdSt w0 (w.setCell ⟨D, 1, none⟩ (.int .i64 k')) r D g xs k k' t :=
 ⟨by rw [far h.ne.symm]; exact h.r0, by rw [far h.ne.symm]; exact h.r1, by rw [far h.ne.symm]; exact h.r2, by rw [frozen_set]; exact h.fr0, by rw [frozen_set]; exact h.fr1, by rw [frozen_set]; exact h.fr2,
  by rw [far' (by omega)]; exact h.d0, same' h.d1, by rw [far' (by omega)]; exact h.d2, by rw [frozen_set]; exact h.fd0, by rw [frozen_set]; exact h.fd1, by rw [frozen_set]; exact h.fd2,
  ⟨by rw [size_set]; exact h.strs.1, fun i hi => by rw [far h.ng.symm]; exact h.strs.2 i hi⟩, by rw [size_set]; exact h.lr, by rw [size_set]; exact h.ld, h.ne, h.ng, h.br, h.bd, h.below.setCell h.bd _⟩
theorem RdSt.set2 {w0 w : World} {r D g : Nat} {xs : List ByteArray} {k o t : Int} (h : RdSt w0 w r D g xs k o t) (k' : Int) : RdSt w0 (w.setCell ⟨D, 2, none⟩ (.int .i64 k')) r D g xs k o k' :=
 ⟨by rw [far h.ne.symm]; exact h.r0, by rw [far h.ne.symm]; exact h.r1, by rw [far h.ne.symm]; exact h.r2, by rw [frozen_set]; exact h.fr0, by rw [frozen_set]; exact h.fr1, by rw [frozen_set]; exact h.fr2,
  by rw [far' (by omega)]; exact h.d0, by rw [far' (by omega)]; exact h.d1, same' h.d2, by rw [frozen_set]; exact h.fd0, by rw [frozen_set]; exact h.fd1, by rw [frozen_set]; exact h.fd2,
  ⟨by rw [size_set]; exact h.strs.1, fun i hi => by rw [far h.ng.symm]; exact h.strs.2 i hi⟩, by rw [size_set]; exact h.lr, by rw [size_set]; exact h.ld, h.ne, h.ng, h.br, h.bd, h.below.setCell h.bd _⟩
def rdS (xs : List ByteArray) (s : ByteArray) : Option (Int × Int × Int) :=
 let k := kindB (xs.getD 0 ⟨#[]⟩)
 let o := if 1 < xs.length then lrNum (xs.getD 1 ⟨#[]⟩) else 0
 let t := if 2 < xs.length then lrNum (xs.getD 2 ⟨#[]⟩) else 0
 if s.size = 0 ∨ dtB k o t ≠ s then none else some (k, o, t)
theorem kind_nat (a : ByteArray) (j : Nat) (hj : j ≤ 4) : (a.toList == (nameB j).toList) = decide (kindB a = j) := by
 rw [beqL];have n01 : nameB 0 ≠ nameB 1 := by decide
 have n02 : nameB 0 ≠ nameB 2 := by decide
 have n03 : nameB 0 ≠ nameB 3 := by decide
 have n04 : nameB 0 ≠ nameB 4 := by decide
 have n12 : nameB 1 ≠ nameB 2 := by decide
 have n13 : nameB 1 ≠ nameB 3 := by decide
 have n14 : nameB 1 ≠ nameB 4 := by decide
 have n23 : nameB 2 ≠ nameB 3 := by decide
 have n24 : nameB 2 ≠ nameB 4 := by decide
 have n34 : nameB 3 ≠ nameB 4 := by decide
 have hj' : j = 0 ∨ j = 1 ∨ j = 2 ∨ j = 3 ∨ j = 4 := by omega
 have hc : a = nameB 0 ∨ a = nameB 1 ∨ a = nameB 2 ∨ a = nameB 3 ∨ a = nameB 4 ∨ (a ≠ nameB 0 ∧ a ≠ nameB 1 ∧ a ≠ nameB 2 ∧ a ≠ nameB 3 ∧ a ≠ nameB 4) := by
  by_cases h0 : a = nameB 0; · simp [h0]
  by_cases h1 : a = nameB 1; · simp [h1]
  by_cases h2 : a = nameB 2; · simp [h2]
  by_cases h3 : a = nameB 3; · simp [h3]
  by_cases h4 : a = nameB 4; · simp [h4]
  right; right; right; right; right; exact ⟨h0, h1, h2, h3, h4⟩
 have k0 : kindB (nameB 0) = 0 := by decide
 have k1 : kindB (nameB 1) = 1 := by decide
 have k2 : kindB (nameB 2) = 2 := by decide
 have k3 : kindB (nameB 3) = 3 := by decide
 have k4 : kindB (nameB 4) = 4 := by decide
 rcases hc with rfl | rfl | rfl | rfl | rfl | ⟨h0, h1, h2, h3, h4⟩
 ·rw [k0]; rcases hj' with rfl | rfl | rfl | rfl | rfl <;> decide
 ·rw [k1]; rcases hj' with rfl | rfl | rfl | rfl | rfl <;> decide
 ·rw [k2]; rcases hj' with rfl | rfl | rfl | rfl | rfl <;> decide
 ·rw [k3]; rcases hj' with rfl | rfl | rfl | rfl | rfl <;> decide
 ·rw [k4]; rcases hj' with rfl | rfl | rfl | rfl | rfl <;> decide
 ·have e : kindB a = -1 := by rw [kindB, if_neg h0, if_neg h1, if_neg h2, if_neg h3, if_neg h4]
  rw [e];rcases hj' with rfl | rfl | rfl | rfl | rfl
  ·show decide (a = nameB 0) = _; rw [decide_eq_false h0]; decide
  ·show decide (a = nameB 1) = _; rw [decide_eq_false h1]; decide
  ·show decide (a = nameB 2) = _; rw [decide_eq_false h2]; decide
  ·show decide (a = nameB 3) = _; rw [decide_eq_false h3]; decide
  ·show decide (a = nameB 4) = _; rw [decide_eq_false h4]; decide
theorem glue_le {N : Nat} (b : UInt8) (c : List (List UInt8)) (h : ∀ p ∈ c, p.length ≤ N) : ∀ p ∈ glue [b] c, p.length ≤ N + 1 := by
 intro p hp;cases c with
 | nil => simp [glue] at hp; subst hp; simp
 | cons q qs =>
  simp only [glue, List.mem_cons] at hp;rcases hp with rfl | hp
  ·have := h q (by simp); simp; omega
  ·have := h p (by simp [hp]); omega
theorem cut32_le (l : List UInt8) : ∀ p ∈ cut32 l, p.length ≤ l.length := by
 induction l with
 | nil => intro p hp; simp [cut32] at hp; subst hp; simp
 | cons b l ih =>
  intro p hp;rw [cut32] at hp;split at hp
  ·rcases List.mem_cons.1 hp with rfl | hp
   ·simp
   ·have := ih p hp; simp; omega
  ·have := glue_le b _ ih p hp; simpa using this
theorem readDeed_spec (s : ByteArray) (w : World) (hs : s.size < 4294967281) :
 Calls Tryz.prog 77 #[.string s] w fun e w' => (∃ xs : List ByteArray, xs.map (·.data.toList) = cut32 s.data.toList ∧ e = .returned (deedV (rdS xs s))) ∧ Below w.heap.size w w' := by
 go_enter Tryz.func77, Tryz.ntmps77;go_wp2_with fail
 obtain ⟨wx, hwx⟩ : ∃ wx, wx = w.alloc (Obj.cells #[Value.int IntKind.i64 0, Value.int IntKind.i64 0, Value.int IntKind.i64 0] 48) := ⟨_, rfl⟩;rw [← hwx];have hdb : Below w.heap.size w wx := by rw [hwx]; exact (Below.refl _ _).alloc nl _
 have hd0 : wx.cell? ⟨w.heap.size, 0, none⟩ = some (.int .i64 0) := by rw [hwx]; simp [go_sem]
 have hd1 : wx.cell? ⟨w.heap.size, 1, none⟩ = some (.int .i64 0) := by rw [hwx]; simp [go_sem]
 have hd2 : wx.cell? ⟨w.heap.size, 2, none⟩ = some (.int .i64 0) := by rw [hwx]; simp [go_sem]
 have hf0 : wx.frozen? ⟨w.heap.size, 0, none⟩ = false := by rw [hwx]; simp [go_sem]
 have hf1 : wx.frozen? ⟨w.heap.size, 1, none⟩ = false := by rw [hwx]; simp [go_sem]
 have hf2 : wx.frozen? ⟨w.heap.size, 2, none⟩ = false := by rw [hwx]; simp [go_sem]
 have hdl : w.heap.size < wx.heap.size := by rw [hwx]; simp
 clear hwx;refine (l1Cut_any s _ hs).mono ?_;rintro e w2 ⟨xs, g, cap, rfl, hxs, hc1, hc2, hgb, hst, hb2⟩;have hX := hide hxs;have hlen1 : 1 ≤ xs.length := by
  rcases Nat.lt_or_ge 0 xs.length with h | h
  ·exact h
  ·have e : xs = [] := List.length_eq_zero_iff.1 (by omega)
   rw [e] at hxs;exact absurd hxs.symm (cut32_ne _)
 clear hxs;obtain ⟨a0, ha0⟩ : ∃ a, xs.getD 0 ⟨#[]⟩ = a := ⟨_, rfl⟩;have ha0' : xs[0]'hlen1 = a0 := by rw [← ha0]; simp [List.getD, List.getElem?_eq_getElem hlen1]
 have HA0 := hide ha0;have HA0' := hide ha0';obtain ⟨K, hK⟩ : ∃ K, kindB a0 = K := ⟨_, rfl⟩;have hKr := kindB_range a0;rw [hK] at hKr;have HK := hide hK;have hB2 := Below.step hdb hb2 nl;have hr2 : w.heap.size < w2.heap.size := Nat.lt_of_lt_of_le hdl hb2.size;have hst0 : RdSt w (w2.alloc (Obj.cells #[Value.int IntKind.i64 (-1), Value.int IntKind.i64 0, Value.int IntKind.i64 0] 48)) w.heap.size w2.heap.size g xs (-1) 0 0 := by
  have hb3 : Below w2.heap.size w2 (w2.alloc (Obj.cells #[Value.int IntKind.i64 (-1), Value.int IntKind.i64 0, Value.int IntKind.i64 0] 48)) := (Below.refl _ _).alloc nl _;have hbx := Below.step hb2 hb3 nl;exact ⟨by rw [hbx.cell hdl]; exact hd0, by rw [hbx.cell hdl]; exact hd1, by rw [hbx.cell hdl]; exact hd2, by rw [hbx.frozen hdl]; exact hf0, by rw [hbx.frozen hdl]; exact hf1, by rw [hbx.frozen hdl]; exact hf2,
   by simp [go_sem], by simp [go_sem], by simp [go_sem], by simp [go_sem], by simp [go_sem], by simp [go_sem],
   ⟨by simp; have := hst.1; omega, fun i hi => by rw [hb3.cell hst.1]; exact hst.2 i hi⟩, by simp; omega, by simp, by omega, by have := hst.1; omega, Nat.le_refl _, by omega, Below.step hB2 hb3 nl⟩
 have HS0 := hide hst0;obtain ⟨D, hD⟩ : ∃ D, w2.heap.size = D := ⟨_, rfl⟩;have HDD := hide hD;clear hst0 hst ha0 ha0' hK hb2 hB2 hd0 hd1 hd2 hf0 hf1 hf2 hgb hdl hdb hr2;have hL0 : (0 : Int) < (xs.length : Int) := by omega
 rw [HDD.out] at HS0;go_wp2_with fail
 clear hD
 go_loopw [6] (fun i wr => ∃ j : Nat, j ≤ 5 ∧ i = .int .i64 j ∧ RdSt w wr w.heap.size D g xs (if K < j then K else -1) 0 0) (fun i _ => 5 - (intOf i).toNat)
 case atStart => exact ⟨0, by omega, rfl, by rw [show (if K < ((0 : Nat) : Int) then K else -1) = -1 by split <;> omega]; exact HS0.out⟩
 case round =>
  obtain ⟨j, hj, rfl, hrs⟩ := hrel;have HR := hide hrs;by_cases hlt : j ≤ 4
  ·have hjB : decide ((j : Int) ≤ 4) = true := by simp; omega
   have p0 := hrs.strs.2 0 hlen1;rw [HA0'.out] at p0;have q0 := hrs.d0;have z0 := hrs.fd0;clear hrs;by_cases hq : K = j
   ·have hqB : (a0.toList == (nameB j).toList) = true := by rw [kind_nat _ _ hlt]; exact decide_eq_true (by rw [HK.out]; exact hq)
    have HN := hide (HR.out.set0 (j : Int));go_wp2_with fail
    go_quiet ((go_at_call 130; exact quiet_leftT (l8Name_any _ _)))
    go_wp2_with fail
    go_roundw
    case rel =>
     refine ⟨j + 1, by omega, by go_num, ?_⟩;rw [show (if K < ((j + 1 : Nat) : Int) then K else -1) = (j : Int) by rw [if_pos (by omega)]; exact hq];exact (HR.out.step (below_drewN (Below.refl _ _) _)).set0 (j : Int)
    case measure => simp [intOf]; omega
   ·have hqB : (a0.toList == (nameB j).toList) = false := by rw [kind_nat _ _ hlt]; exact decide_eq_false (by rw [HK.out]; exact hq)
    have HQ := hide hq;clear hq;go_wp2_with fail
    go_quiet ((go_at_call 130; exact quiet_leftT (l8Name_any _ _)))
    go_wp2_with fail
    go_roundw
    case rel =>
     refine ⟨j + 1, by omega, by go_num, ?_⟩;rw [show (if K < ((j + 1 : Nat) : Int) then K else -1) = (if K < (j : Int) then K else -1) by have := HQ.out; split <;> split <;> omega];exact HR.out.step (below_drewN (Below.refl _ _) _)
    case measure => simp [intOf]; omega
  ·have hjB : decide ((j : Int) ≤ 4) = false := by simp; omega
   rw [show (if K < (j : Int) then K else -1) = K by rw [if_pos (by omega)]] at hrs;have HR2 := hide hrs;have hld := hrs.ld;clear hrs HR;by_cases hl1 : 1 < xs.length
   ·by_cases hl2 : 2 < xs.length
    ·have hl1B : decide ((1 : Int) < (xs.length : Int)) = true := by simp; omega
     have hl1I : (1 : Int) < (xs.length : Int) := by omega
     obtain ⟨a1, ha1⟩ : ∃ a, xs[1]'hl1 = a := ⟨_, rfl⟩;have hg1 : xs.getD 1 ⟨#[]⟩ = a1 := by rw [← ha1]; simp [List.getD, List.getElem?_eq_getElem hl1]
     have p1 := HR2.out.strs.2 1 hl1;rw [ha1] at p1;have z1 := HR2.out.d1;have zz1 := HR2.out.fd1;obtain ⟨n1, hn1⟩ : ∃ n, lrNum a1 = n := ⟨_, rfl⟩;have hs1 : a1.size ≤ 9223372036854775807 := by
      have hm : a1.data.toList ∈ cut32 s.data.toList := by
       rw [← hX.out, ← ha1];exact List.mem_map_of_mem (List.getElem_mem _)
      have := cut32_le _ _ hm;rw [size_len, size_len] at this;omega
     have hC1 := fun w => l1Read_any a1 w hs1;rw [hn1] at hC1;have HG1 := hide hg1;have HN1 := hide hn1;have HR3 := hide (HR2.out.set1 n1);clear hg1 hn1 ha1 hs1;go_wp2_with fail
     refine (hC1 _).mono ?_;rintro e w1 ⟨rfl, rfl⟩;have hl2B : decide ((2 : Int) < (xs.length : Int)) = true := by simp; omega
     have hl2I : (2 : Int) < (xs.length : Int) := by omega
     obtain ⟨a2, ha2⟩ : ∃ a, xs[2]'hl2 = a := ⟨_, rfl⟩;have hg2 : xs.getD 2 ⟨#[]⟩ = a2 := by rw [← ha2]; simp [List.getD, List.getElem?_eq_getElem hl2]
     have p2 := HR3.out.strs.2 2 hl2;rw [ha2] at p2;have z2 := HR3.out.d2;have zz2 := HR3.out.fd2;obtain ⟨n2, hn2⟩ : ∃ n, lrNum a2 = n := ⟨_, rfl⟩;have hs2 : a2.size ≤ 9223372036854775807 := by
      have hm : a2.data.toList ∈ cut32 s.data.toList := by
       rw [← hX.out, ← ha2];exact List.mem_map_of_mem (List.getElem_mem _)
      have := cut32_le _ _ hm;rw [size_len, size_len] at this;omega
     have hC2 := fun w => l1Read_any a2 w hs2;rw [hn2] at hC2;have HG2 := hide hg2;have HN2 := hide hn2;have HR4 := hide (HR3.out.set2 n2);clear hg2 hn2 ha2 hs2;go_wp2_with fail
     refine (hC2 _).mono ?_;rintro e w1 ⟨rfl, rfl⟩;have HRD := hide (show rdS xs s = if s.size = 0 ∨ dtB K n1 n2 ≠ s then none else some (K, n1, n2) by unfold rdS; simp only [HA0.out, HK.out, if_pos hl1, if_pos hl2, HG1.out, HN1.out, HG2.out, HN2.out]);have hem := empty_iff s;by_cases hz : s.size = 0
     ·rw [decide_eq_true hz] at hem
      have HF := hide (show rdS xs s = none by rw [HRD.out, if_pos (.inl hz)]);have c0 := HR4.out.r0;have c1 := HR4.out.r1;have c2 := HR4.out.r2;have y0 := HR4.out.fr0;have y1 := HR4.out.fr1;have y2 := HR4.out.fr2;have HBB := hide HR4.out.below;clear hz;go_wp2_with fail
      refine bodyPost_ret (by simp [results, Tryz.results77, go_sem, c0, c1, c2]; try rfl) rfl ?_;exact ⟨⟨xs, hX.out, by rw [HF.out]; rfl⟩, by have := HBB.out; go_grown⟩
     rw [decide_eq_false hz] at hem;have hd0 := HR4.out.d0;have hd1 := HR4.out.d1;have hd2 := HR4.out.d2;have HZ := hide hz;clear hz;go_wp2_with fail
     clear hd0 hd1 hd2;refine (dt_spec K n1 n2 _).mono ?_;rintro e w5 ⟨rfl, hb5⟩;have HW := hide (HR4.out.step hb5);clear hb5;have c0 := HW.out.r0;have c1 := HW.out.r1;have c2 := HW.out.r2;have y0 := HW.out.fr0;have y1 := HW.out.fr1;have y2 := HW.out.fr2;have hd0 := HW.out.d0;have hd1 := HW.out.d1;have hd2 := HW.out.d2;have HBB := hide HW.out.below;by_cases heq : dtB K n1 n2 = s
     ·have hqB : ((dtB K n1 n2).toList == s.toList) = true := by rw [beqL]; exact decide_eq_true heq
      have HF := hide (show rdS xs s = some (K, n1, n2) by rw [HRD.out, if_neg (fun h => h.elim HZ.out (fun h => h heq))]);clear heq;go_wp2_with fail
      refine bodyPost_ret (by simp [results, Tryz.results77, go_sem, c0, c1, c2]; try rfl) rfl ?_;exact ⟨⟨xs, hX.out, by rw [HF.out]; rfl⟩, by have := HBB.out; go_grown⟩
     ·have hqB : ((dtB K n1 n2).toList == s.toList) = false := by rw [beqL]; exact decide_eq_false heq
      have HF := hide (show rdS xs s = none by rw [HRD.out, if_pos (.inr heq)]);clear heq;go_wp2_with fail
      refine bodyPost_ret (by simp [results, Tryz.results77, go_sem, c0, c1, c2]; try rfl) rfl ?_;exact ⟨⟨xs, hX.out, by rw [HF.out]; rfl⟩, by have := HBB.out; go_grown⟩
    ·have hl2B : decide ((2 : Int) < (xs.length : Int)) = false := by simp; omega
     have hl1B : decide ((1 : Int) < (xs.length : Int)) = true := by simp; omega
     have hl1I : (1 : Int) < (xs.length : Int) := by omega
     obtain ⟨a1, ha1⟩ : ∃ a, xs[1]'hl1 = a := ⟨_, rfl⟩;have hg1 : xs.getD 1 ⟨#[]⟩ = a1 := by rw [← ha1]; simp [List.getD, List.getElem?_eq_getElem hl1]
     have p1 := HR2.out.strs.2 1 hl1;rw [ha1] at p1;have z1 := HR2.out.d1;have zz1 := HR2.out.fd1;obtain ⟨n1, hn1⟩ : ∃ n, lrNum a1 = n := ⟨_, rfl⟩;have hs1 : a1.size ≤ 9223372036854775807 := by
      have hm : a1.data.toList ∈ cut32 s.data.toList := by
       rw [← hX.out, ← ha1];exact List.mem_map_of_mem (List.getElem_mem _)
      have := cut32_le _ _ hm;rw [size_len, size_len] at this;omega
     have hC1 := fun w => l1Read_any a1 w hs1;rw [hn1] at hC1;have HG1 := hide hg1;have HN1 := hide hn1;have HR3 := hide (HR2.out.set1 n1);clear hg1 hn1 ha1 hs1;go_wp2_with fail
     refine (hC1 _).mono ?_;rintro e w1 ⟨rfl, rfl⟩;have HRD := hide (show rdS xs s = if s.size = 0 ∨ dtB K n1 0 ≠ s then none else some (K, n1, 0) by unfold rdS; simp only [HA0.out, HK.out, if_pos hl1, if_neg hl2, HG1.out, HN1.out]);have hem := empty_iff s;by_cases hz : s.size = 0
     ·rw [decide_eq_true hz] at hem
      have HF := hide (show rdS xs s = none by rw [HRD.out, if_pos (.inl hz)]);have c0 := HR3.out.r0;have c1 := HR3.out.r1;have c2 := HR3.out.r2;have y0 := HR3.out.fr0;have y1 := HR3.out.fr1;have y2 := HR3.out.fr2;have HBB := hide HR3.out.below;clear hz;go_wp2_with fail
      refine bodyPost_ret (by simp [results, Tryz.results77, go_sem, c0, c1, c2]; try rfl) rfl ?_;exact ⟨⟨xs, hX.out, by rw [HF.out]; rfl⟩, by have := HBB.out; go_grown⟩
     rw [decide_eq_false hz] at hem;have hd0 := HR3.out.d0;have hd1 := HR3.out.d1;have hd2 := HR3.out.d2;have HZ := hide hz;clear hz;go_wp2_with fail
     clear hd0 hd1 hd2;refine (dt_spec K n1 0 _).mono ?_;rintro e w5 ⟨rfl, hb5⟩;have HW := hide (HR3.out.step hb5);clear hb5;have c0 := HW.out.r0;have c1 := HW.out.r1;have c2 := HW.out.r2;have y0 := HW.out.fr0;have y1 := HW.out.fr1;have y2 := HW.out.fr2;have hd0 := HW.out.d0;have hd1 := HW.out.d1;have hd2 := HW.out.d2;have HBB := hide HW.out.below;by_cases heq : dtB K n1 0 = s
     ·have hqB : ((dtB K n1 0).toList == s.toList) = true := by rw [beqL]; exact decide_eq_true heq
      have HF := hide (show rdS xs s = some (K, n1, 0) by rw [HRD.out, if_neg (fun h => h.elim HZ.out (fun h => h heq))]);clear heq;go_wp2_with fail
      refine bodyPost_ret (by simp [results, Tryz.results77, go_sem, c0, c1, c2]; try rfl) rfl ?_;exact ⟨⟨xs, hX.out, by rw [HF.out]; rfl⟩, by have := HBB.out; go_grown⟩
     ·have hqB : ((dtB K n1 0).toList == s.toList) = false := by rw [beqL]; exact decide_eq_false heq
      have HF := hide (show rdS xs s = none by rw [HRD.out, if_pos (.inr heq)]);clear heq;go_wp2_with fail
      refine bodyPost_ret (by simp [results, Tryz.results77, go_sem, c0, c1, c2]; try rfl) rfl ?_;exact ⟨⟨xs, hX.out, by rw [HF.out]; rfl⟩, by have := HBB.out; go_grown⟩
   ·have hl1B : decide ((1 : Int) < (xs.length : Int)) = false := by simp; omega
    have hl2B : decide ((2 : Int) < (xs.length : Int)) = false := by simp; omega
    have HRD := hide (show rdS xs s = if s.size = 0 ∨ dtB K 0 0 ≠ s then none else some (K, 0, 0) by unfold rdS; simp only [HA0.out, HK.out, if_neg hl1, if_neg (show ¬ 2 < xs.length by omega)]);have hem := empty_iff s;by_cases hz : s.size = 0
    ·rw [decide_eq_true hz] at hem
     have HF := hide (show rdS xs s = none by rw [HRD.out, if_pos (.inl hz)]);have c0 := HR2.out.r0;have c1 := HR2.out.r1;have c2 := HR2.out.r2;have y0 := HR2.out.fr0;have y1 := HR2.out.fr1;have y2 := HR2.out.fr2;have HBB := hide HR2.out.below;clear hz;go_wp2_with fail
     refine bodyPost_ret (by simp [results, Tryz.results77, go_sem, c0, c1, c2]; try rfl) rfl ?_;exact ⟨⟨xs, hX.out, by rw [HF.out]; rfl⟩, by have := HBB.out; go_grown⟩
    rw [decide_eq_false hz] at hem;have hd0 := HR2.out.d0;have hd1 := HR2.out.d1;have hd2 := HR2.out.d2;have HZ := hide hz;clear hz;go_wp2_with fail
    clear hd0 hd1 hd2;refine (dt_spec K 0 0 _).mono ?_;rintro e w5 ⟨rfl, hb5⟩;have HW := hide (HR2.out.step hb5);clear hb5;have c0 := HW.out.r0;have c1 := HW.out.r1;have c2 := HW.out.r2;have y0 := HW.out.fr0;have y1 := HW.out.fr1;have y2 := HW.out.fr2;have hd0 := HW.out.d0;have hd1 := HW.out.d1;have hd2 := HW.out.d2;have HBB := hide HW.out.below;by_cases heq : dtB K 0 0 = s
    ·have hqB : ((dtB K 0 0).toList == s.toList) = true := by rw [beqL]; exact decide_eq_true heq
     have HF := hide (show rdS xs s = some (K, 0, 0) by rw [HRD.out, if_neg (fun h => h.elim HZ.out (fun h => h heq))]);clear heq;go_wp2_with fail
     refine bodyPost_ret (by simp [results, Tryz.results77, go_sem, c0, c1, c2]; try rfl) rfl ?_;exact ⟨⟨xs, hX.out, by rw [HF.out]; rfl⟩, by have := HBB.out; go_grown⟩
    ·have hqB : ((dtB K 0 0).toList == s.toList) = false := by rw [beqL]; exact decide_eq_false heq
     have HF := hide (show rdS xs s = none by rw [HRD.out, if_pos (.inr heq)]);clear heq;go_wp2_with fail
     refine bodyPost_ret (by simp [results, Tryz.results77, go_sem, c0, c1, c2]; try rfl) rfl ?_;exact ⟨⟨xs, hX.out, by rw [HF.out]; rfl⟩, by have := HBB.out; go_grown⟩
end Go.Proofs.YtmemgbklgcjobaaGreatDoor
