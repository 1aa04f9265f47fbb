/-
  Parts of the proofs over mills, of: MethS, DoS4. Conditions: each theorem states its own.
-/
import Derived.Test.YtkhecelpafojdaaGreatDoorF24
import Derived.Test.YtkhecelpafojdaaGreatDoorF27
import Derived.Test.YtkhecelpafojdaaGreatDoorF29
import Derived.Test.YtkhecelpafojdaaGreatDoorF30
set_option linter.unusedSimpArgs false
set_option linter.unusedVariables false
set_option maxRecDepth 10000
set_option maxHeartbeats 64000000
namespace Go.Proofs.YtkhecelpafojdaaGreatDoor
open Go.RowKit
theorem shipD_no1 {m : Mi} {id : Int} (h : cK m.low m.high id = none) : iT m id = none := by simp [iT, h]
theorem shipD_no2 {m : Mi} {id p : Int} {t : Bool} {q : List Int × List Int} (h : cK m.low m.high id = some (t, p)) (h2 : bE m.low m.high t p = (q, 0)) : iT m id = none := by simp [iT, h, h2]
theorem shipD_yes {m : Mi} {id p x : Int} {t : Bool} {q : List Int × List Int} (h : cK m.low m.high id = some (t, p)) (h2 : bE m.low m.high t p = (q, x)) (hx : x ≠ 0) : iT m id = some { m with low := q.1, high := q.2, pieces := gp m.pieces id 2 } := by simp [iT, h, h2, hx]
theorem held2_call {w W W' : World} {B Z : Nat} {l h : Value} {t : Bool} {p : Int} (hlt : B < w.heap.size) (hlz : Z < w.heap.size) (k : Below w.heap.size W W') (H : ((W.cell? ⟨B, 9, none⟩ = some l ∧ W.cell? ⟨B, 10, none⟩ = some h) ∧ (W.cell? ⟨Z, 0, none⟩ = some (.bool t) ∧ W.cell? ⟨Z, 1, none⟩ = some (.int .i64 p))) ∧ Below w.heap.size w W) :
 ((W'.cell? ⟨B, 9, none⟩ = some l ∧ W'.cell? ⟨B, 10, none⟩ = some h) ∧ (W'.cell? ⟨Z, 0, none⟩ = some (.bool t) ∧ W'.cell? ⟨Z, 1, none⟩ = some (.int .i64 p))) ∧ Below w.heap.size w W' :=
 ⟨⟨⟨(k.cell (p := ⟨B, 9, none⟩) hlt).trans H.1.1.1, (k.cell (p := ⟨B, 10, none⟩) hlt).trans H.1.1.2⟩, (k.cell (p := ⟨Z, 0, none⟩) hlz).trans H.1.2.1, (k.cell (p := ⟨Z, 1, none⟩) hlz).trans H.1.2.2⟩, H.2.trans k⟩
theorem held2_alloc {w W : World} {B Z : Nat} {l h : Value} {t : Bool} {p : Int} {o : Obj} (hlt : B < w.heap.size) (hlz : Z < w.heap.size) (H : ((W.cell? ⟨B, 9, none⟩ = some l ∧ W.cell? ⟨B, 10, none⟩ = some h) ∧ (W.cell? ⟨Z, 0, none⟩ = some (.bool t) ∧ W.cell? ⟨Z, 1, none⟩ = some (.int .i64 p))) ∧ Below w.heap.size w W) :
 (((W.alloc o).cell? ⟨B, 9, none⟩ = some l ∧ (W.alloc o).cell? ⟨B, 10, none⟩ = some h) ∧ ((W.alloc o).cell? ⟨Z, 0, none⟩ = some (.bool t) ∧ (W.alloc o).cell? ⟨Z, 1, none⟩ = some (.int .i64 p))) ∧ Below w.heap.size w (W.alloc o) :=
 held2_call hlt hlz ((Below.refl _ _).alloc H.2.size o) H
theorem held2_store {w W : World} {B Z G : Nat} {l h u v : Value} {t : Bool} {p : Int} (hlt : B < w.heap.size) (hlz : Z < w.heap.size) (hG : w.heap.size ≤ G) (H : ((W.cell? ⟨B, 9, none⟩ = some l ∧ W.cell? ⟨B, 10, none⟩ = some h) ∧ (W.cell? ⟨Z, 0, none⟩ = some (.bool t) ∧ W.cell? ⟨Z, 1, none⟩ = some (.int .i64 p))) ∧ Below w.heap.size w W) :
 ((((W.setCell ⟨G, 0, none⟩ u).setCell ⟨G, 1, none⟩ v).cell? ⟨B, 9, none⟩ = some l ∧ ((W.setCell ⟨G, 0, none⟩ u).setCell ⟨G, 1, none⟩ v).cell? ⟨B, 10, none⟩ = some h) ∧ (((W.setCell ⟨G, 0, none⟩ u).setCell ⟨G, 1, none⟩ v).cell? ⟨Z, 0, none⟩ = some (.bool t) ∧ ((W.setCell ⟨G, 0, none⟩ u).setCell ⟨G, 1, none⟩ v).cell? ⟨Z, 1, none⟩ = some (.int .i64 p))) ∧ Below w.heap.size w ((W.setCell ⟨G, 0, none⟩ u).setCell ⟨G, 1, none⟩ v) :=
 held2_call hlt hlz (((Below.refl _ _).setCell (p := ⟨G, 0, none⟩) hG _).setCell (p := ⟨G, 1, none⟩) hG _) H
theorem ship_meth {base B : Nat} {w : World} {s p l h : Value} {m : Mi} (id : Int) (H : dm base B w s p l h m) (hm : dO m) :
 Calls Tryz.prog 69 #[.pointer (some ⟨B, 0, none⟩), .int .i64 id] w (jy base B (iT m id) w) := by
 have HH := hide H;have hr := H.row;have hlt := hr.lt;have hbz := H.got.hb;have hpl := hm.len;have HM := hide hm;have HL := hide (H.got.all.low);have HG := hide (H.got.all.high);have c9 : w.cell? ⟨B, 9, none⟩ = some l := hr.cell 9 (by simp [az]);have c10 : w.cell? ⟨B, 10, none⟩ = some h := hr.cell 10 (by simp [az]);have hfind := find_impl l h m.low m.high id w HL.out HG.out;have hlf := fun (t : Bool) (pl : Int) (W : World) (kk : Below w.heap.size w W) => takeP_impl l h m.low m.high t pl W ((HL.out.below kk).mono nl kk.size nl) ((HG.out.below kk).mono nl kk.size nl);unfold aD at hlf hfind;have HLF := hide hlf;clear hr H hlf;cases hf : cK m.low m.high id with
 | none =>
  have hN := hide (shipD_no1 hf);rw [hf] at hfind;unfold findV at hfind;clear hf;go_enter Tryz.func69, Tryz.ntmps69;go_wp2_with fail
  refine hfind.mono ?_;rintro e w1 ⟨rfl, hb⟩;have HB := hide hb;clear hb hfind;go_wp2_with fail
  go_ret;rw [hN.out];exact jy.no ((HB.out.mono hbz).trans (((Below.refl _ _).alloc (Nat.le_trans hbz HB.out.size) _)))
 | some tp =>
  obtain ⟨t, pl⟩ := tp;have HF := hide hf;rw [hf] at hfind;unfold findV at hfind;obtain ⟨⟨q, x⟩, hQ⟩ : ∃ Q, bE m.low m.high t pl = Q := ⟨_, rfl⟩;have HQ := hide hQ;have hlt2 := HLF.out t pl;rw [hQ] at hlt2;have HLT := hide hlt2;clear hf hQ hlt2;go_enter Tryz.func69, Tryz.ntmps69;go_wp2_with fail
  refine hfind.mono ?_;rintro e w1 ⟨rfl, hb⟩;have HB := hide hb;have hz1 := hb.size;clear hb hfind;go_wp2_with fail
  obtain ⟨wz, hwz⟩ : ∃ wz, wz = w1.alloc (.cells #[.bool t, .int .i64 pl] 111) := ⟨_, rfl⟩;rw [← hwz];have RZ : ae wz w1.heap.size 111 [.bool t, .int .i64 pl] := by rw [hwz]; exact ae.new _ _ _
  have HBZ := hide (show Below w.heap.size w wz by rw [hwz]; exact HB.out.alloc hz1 _);have hzz := HBZ.out.size;have hlz := RZ.lt;have hlB : B < wz.heap.size := by omega
  obtain ⟨Z, hZ⟩ : ∃ Z, w1.heap.size = Z := ⟨_, rfl⟩;rw [hZ] at RZ hlz ⊢;have R_z := HH.out.row.below HBZ.out hlt;have z9 : wz.cell? ⟨B, 9, none⟩ = some l := R_z.cell 9 (by simp [az]);have z10 : wz.cell? ⟨B, 10, none⟩ = some h := R_z.cell 10 (by simp [az]);have z0 := RZ.c 0 rfl;have z1 := RZ.c 1 rfl;clear hwz hZ RZ R_z c9 c10;go_wp2_with fail
  have hI : (wz.drew.cell? ⟨B, 9, none⟩ = some l ∧ wz.drew.cell? ⟨B, 10, none⟩ = some h) ∧ (wz.drew.cell? ⟨Z, 0, none⟩ = some (.bool t) ∧ wz.drew.cell? ⟨Z, 1, none⟩ = some (.int .i64 pl)) := ⟨⟨z9, z10⟩, z0, z1⟩;have hK : Below wz.heap.size wz wz.drew := (Below.refl _ _).drew
  go_cut [7, 8] from 20 to 28 (fun bx ok wr => BoxGot wz.heap.size wr q bx ∧ ok = .int .i64 x ∧ Below wz.heap.size wz wr)
  case first =>
   go_region_held (fun W => ((W.cell? ⟨B, 9, none⟩ = some l ∧ W.cell? ⟨B, 10, none⟩ = some h) ∧ (W.cell? ⟨Z, 0, none⟩ = some (.bool t) ∧ W.cell? ⟨Z, 1, none⟩ = some (.int .i64 pl))) ∧ Below wz.heap.size wz W) (first | exact ⟨hI, hK⟩ | assumption | exact held2_alloc hlB hlz (by assumption) | exact held2_store hlB hlz (by first | exact Nat.le_refl _ | omega) (by assumption) | (trace_state; fail)) (first
    | (go_at_call 118; (with_reducible refine (HLT.out _ (HBZ.out.trans ((And.right (by assumption : _ ∧ Below wz.heap.size wz _)).mono hzz))).mono ?_); rintro e w7 ⟨lx, hx, rfl, own, hb7⟩; have hS7 := held2_call hlB hlz (hb7.mono (by first | exact Nat.le_refl _ | (simp; done))) (by assumption); have hz7 := hS7.2.size; obtain ⟨hc7, hf7⟩ := gX hb7; have hzz7 := hb7.size; (try simp at hzz7); obtain ⟨alx, clx, hlx, -, -⟩ := own.lo.form; obtain ⟨ahx, chx, hhx, -, -⟩ := own.ho.form; subst hlx hhx; simp only [aD]))
   all_goals
    have hwd : wz.drew.heap.size = wz.heap.size := rfl;go_wp2_with fail
    go_meet
   ·exact ⟨box_new (base := wz.heap.size) own (by omega) (by omega), rfl, And.right (by assumption)⟩
   ·exact ⟨ic ((ae.new wz.drew _ _).below hb7 (by simp)) own (by omega) (by simp), rfl, And.right (by assumption)⟩
  obtain ⟨⟨G, lx, hx, rfl, hG, hrow, hown⟩, rfl, hbw⟩ := hcut;have HO := hide hown;have HBW := hide (HBZ.out.trans (hbw.mono hzz));have hGz := hrow.lt;have g0 : wc.cell? ⟨G, 0, none⟩ = some lx := hrow.cell 0 (by simp);have g1 : wc.cell? ⟨G, 1, none⟩ = some hx := hrow.cell 1 (by simp);have R_c := HH.out.row.below HBW.out hlt;have f9 := R_c.frozen 9;have f10 := R_c.frozen 10;have d9 : wc.cell? ⟨B, 9, none⟩ = some l := R_c.cell 9 (by simp [az]);have d10 : wc.cell? ⟨B, 10, none⟩ = some h := R_c.cell 10 (by simp [az]);have d8 : wc.cell? ⟨B, 8, none⟩ = some p := R_c.cell 8 (by simp [az]);have hltc := R_c.lt;have hRc := hide R_c;obtain ⟨alx, clx, rfl, -, -⟩ := hown.lo.form;obtain ⟨ahx, chx, rfl, -, -⟩ := hown.ho.form;have GC := HH.out.got.below HBW.out;clear hrow hown hbw R_c hI hK z9 z10 z0 z1;by_cases hx0 : x = 0
  ·subst hx0
   have hN := hide (shipD_no2 (m := m) (id := id) HF.out HQ.out);go_wp2_with fail
   go_ret;rw [hN.out];exact jy.no (HBW.out.mono hbz)
  ·have hxB : (x == 0) = false := by simp [hx0]
   have HY := hide (shipD_yes (m := m) HF.out HQ.out hx0);obtain ⟨-, k, rfl, hk, -⟩ := ship_ok HM.out HY.out;obtain ⟨g, cp, hpf, hgb, hgz, hgc⟩ := got_block GC (by omega);have hgB : g ≠ B := fun e => HH.out.off.2.1 (by rw [hpf, e]; rfl);have hBg : B ≠ g := fun e => hgB e.symm;have HPF := hide hpf;obtain ⟨hgc1, hgf1⟩ := hgc k hk;rw [hpf] at d8;have hkI : (k : Int) < (m.pieces.length : Int) := by omega
   have hk0 : (0 : Int) ≤ (k : Int) := by omega
   have hsub : IntKind.i64.wrap ((k : Int) + 1 - 1) = (k : Int) := by rw [show (k : Int) + 1 - 1 = (k : Int) by omega]; exact IntWalk.i64_in _ (by omega)
   clear GC hgc hpf hx0;go_wp2_with fail
   go_ret;rw [HY.out];have G_2 := HH.out.got.yard HBW.out (by omega) HO.out;have O_2 := iq HH.out.off hlB HO.out;obtain ⟨r1, k1, b1⟩ := df hRc.out G_2 O_2 HH.out.hB (j := 9) (by simp [az]) (.slice alx q.1.length clx);obtain ⟨r2, k2, b2⟩ := df r1 k1 O_2 HH.out.hB (j := 10) (by simp [az]) (.slice ahx q.2.length chx);obtain ⟨k3, b3⟩ := jI k2 (k := k) hk (g := g) (by rw [HPF.out]; rfl) 2;refine ⟨rfl, (((HBW.out.mono hbz).trans b1).trans b2).trans b3, fun x hx => ?_⟩;obtain rfl := Option.some.inj hx;exact ⟨_, _, _, _, r2.other (lo := g) (hi := g + 1) ((ai.refl _ _ _).setCell (p := ⟨g, k * 2 + 1, none⟩) nl ns _) (by omega), k3⟩
theorem do_s4 (s p l h : Value) (m : Mi) (a b : Int) (w : World) (H : aM 0 w.heap.size w s p l h m) (ha : a ≤ 9223372036854775807) (hb : b ≤ 9223372036854775807) :
    Calls Tryz.prog 27 #[ag s p l h m, .agg #[.int .i64 4, .int .i64 a, .int .i64 b]] w (jg w.heap.size (doR m ⟨4, a, b⟩) w) := by
  obtain ⟨ao1, cap1, ao2, cap2, ao3, cap3, ao4, cap4, rfl, rfl, rfl, rfl⟩ := H.op;have HM := hide H;clear H ha hb;unfold ag;go_enter Tryz.func27, Tryz.ntmps27;go_wp2_with fail
  refine aj fun wx hwx => ?_;have A_0 : ae wx (w.heap.size) 31 (mC ao1 cap1 ao2 cap2 ao3 cap3 ao4 cap4 m) := by rw [hwx]; exact (((ae.new _ _ _).alloc _).alloc _)
  have D_0 : ae wx (w.heap.size + 1) 42 [.int .i64 4, .int .i64 a, .int .i64 b] := by rw [hwx]; simpa using ((ae.new (World.alloc _ _) 42 [.int .i64 4, .int .i64 a, .int .i64 b]).alloc _)
  have R_0 : ae wx (w.heap.size + 1 + 1) 31 z12 := by rw [hwx]; simpa using (ae.new (World.alloc (World.alloc _ _) _) 31 z12)
  have B_0 : Below w.heap.size w wx := by rw [hwx]; go_grown
  clear hwx;have hL0 := R_0.lt;have V_0 := hide (HM.out.below B_0);have k1 := cu _ _ _ _ m wx V_0.out.all;unfold ag at k1;cases hv : aF m with
  | false =>
    rw [hv] at k1;have HZ := hide (iC hv ⟨4, a, b⟩);clear hv;refine k1.mono ?_;rintro e w1 ⟨rfl, hb⟩;have R_1 := R_0.below hb R_0.lt;have B_1 := bs B_0 hb;clear hb k1;have cRz := af R_1;have fRz := ay R_1;go_wp2_with fail
    refine bodyPost_ret (by simp [results, Tryz.results27, go_sem, cRz]; try rfl) rfl ?_;rw [HZ.out];exact ⟨_, _, _, _, rfl, bU B_1.out nl (by omega) _ _ _ _ _ _ _ _ _ _ _ _⟩
  | true =>
    rw [hv] at k1;obtain ⟨n1, n2, n3, n4⟩ := fV hv;have HV := hide hv;have hD := gD hv 4 a b;rw [step_4] at hD;clear hv;refine k1.mono ?_;rintro e w1 ⟨rfl, hb⟩;have A_1 := A_0.below hb A_0.lt;have D_1 := D_0.below hb D_0.lt;have R_1 := R_0.below hb R_0.lt;have V_1 := hide (V_0.out.below hb);have B_1 := bs B_0 hb;have hz1 := hb.size;clear hb k1;have cAz := af A_1;go_wp2_with fail
    clear cAz;have k2 := bu _ _ _ _ m w1 V_1.out.all n1 n2 n3 n4;unfold ag at k2;refine k2.mono ?_;clear k2;rintro e w2 ⟨s2, p2, l2, h2, rfl, G, hb⟩;have A_2 := A_1.below hb A_1.lt;have D_2 := D_1.below hb D_1.lt;have R_2 := R_1.below hb R_1.lt;have V_2 := hide (V_1.out.below hb);have B_2 := bs B_1.out hb;have hz2 := hb.size;have hL2 := R_2.lt;have hLD := D_2.lt;have hLA := A_2.lt;clear hb;have G_2 := hide G;obtain ⟨aS, cs, ap, cp, al, cl, ah, ch, rfl, rfl, rfl, rfl⟩ := G.op;clear G;unfold ag;have cD0 := D_2.c 0 rfl;have cD1 := D_2.c 1 rfl;have cD2 := D_2.c 2 rfl;have cAz := af A_2;go_wp2_with fail
    refine aj fun wy hwy => ?_;have C_y : ae wy w2.heap.size 31 (mC aS cs ap cp al cl ah ch m) := by
      rw [hwy];first
        | exact ae.new w2 31 (mC aS cs ap cp al cl ah ch m)
        | exact dU (ae.new w2 31 z12) rfl _ _ _ _ _ _ _ _ _ _ _ _
    have hby : Below w2.heap.size w2 wy := by
      rw [hwy];first
        | exact (Below.refl _ _).alloc nl _
        | exact ((Below.refl _ _).alloc nl _).trans ((aI w2.heap.size _ _ _ _ _ _ _ _ _ _ _ _ _).below nl (by simp))
    have A_y := A_2.below hby A_2.lt;have D_y := D_2.below hby D_2.lt;have R_y := R_2.below hby R_2.lt;have V_y := hide (V_2.out.below hby);have B_y := bs B_2.out hby;have G_y := hide (G_2.out.below hby);have hzy := hby.size;have hLy := C_y.lt;have MB := hide (show dm w1.heap.size w2.heap.size wy (.slice aS m.store.length cs) (.slice ap m.pieces.length cp) (.slice al m.low.length cl) (.slice ah m.high.length ch) m from ⟨C_y, G_y.out, ⟨fun e => Nat.lt_irrefl _ (G_2.out.so.lt _ e).2, fun e => Nat.lt_irrefl _ (G_2.out.po.lt _ e).2, fun e => Nat.lt_irrefl _ (G_2.out.lo.lt _ e).2, fun e => Nat.lt_irrefl _ (G_2.out.ho.lt _ e).2⟩, hz2⟩);clear hwy hby;have M_y := hide MB.out;clear cAz cD0 cD1 cD2;have k3 := find_spec (.slice ao3 m.low.length cap3) (.slice ao4 m.high.length cap4) m.low m.high a wy (V_y.out.all.low) (V_y.out.all.high);unfold aD at k3;cases hf : cK m.low m.high a with
    | none =>
      rw [hf] at k3;unfold findV at k3;rw [shipD_no1 hf] at hD;have HZ := hide (show doR m ⟨4, a, b⟩ = (m, false) from hD);clear hf hD;refine k3.mono ?_;clear k3;rintro e w4 ⟨rfl, hb⟩;have A_4 := A_y.below hb A_y.lt;have D_4 := D_y.below hb D_y.lt;have R_4 := R_y.below hb R_y.lt;have V_4 := hide (V_y.out.below hb);have B_4 := bs B_y.out hb;have M_4 := hide (M_y.out.below hb);have hz4 := hb.size;clear hb;have cAz := af A_4;have cD0 := D_4.c 0 rfl;have cD1 := D_4.c 1 rfl;have cD2 := D_4.c 2 rfl;have hLA4 := A_4.lt;have hLD4 := D_4.lt;go_wp2_with fail
      refine aj fun wz hwz => ?_;have hb : Below w4.heap.size w4 wz := by
        rw [hwz];first
          | exact (Below.refl _ _).alloc nl _
          | exact (((Below.refl _ _).alloc nl _).setCell (by simp) _).setCell (by simp) _
      have A_z := A_4.below hb A_4.lt;have D_z := D_4.below hb D_4.lt;have R_z := R_4.below hb R_4.lt;have V_z := hide (V_4.out.below hb);have B_z := bs B_4.out hb;have M_z := hide (M_4.out.below hb);have hzz := hb.size;clear hb hwz cAz cD0 cD1 cD2;obtain ⟨⟨q, x⟩, hQ⟩ : ∃ Q, bE m.low m.high false 0 = Q := ⟨_, rfl⟩;have hlt2 := takeP_spec (.slice ao3 m.low.length cap3) (.slice ao4 m.high.length cap4) m.low m.high false 0 wz (V_z.out.all.low) (V_z.out.all.high);rw [hQ] at hlt2;unfold aD at hlt2;refine hlt2.mono ?_;clear hlt2;rintro e w6 ⟨lx, hx, rfl, own, hb⟩;have A_6 := A_z.below hb A_z.lt;have D_6 := D_z.below hb D_z.lt;have R_6 := R_z.below hb R_z.lt;have V_6 := hide (V_z.out.below hb);have B_6 := bs B_z.out hb;have M_6 := hide (M_z.out.below hb);have hz6 := hb.size;have hLA6 := A_6.lt;have hLD6 := D_6.lt;have hLR6 := R_6.lt;have hLM6 := M_6.out.row.lt;have G_6 := hide (M_z.out.got.yard hb nl own);have O_6 := hide (iq M_z.out.off (show w2.heap.size < wz.heap.size from M_z.out.row.lt) own);obtain ⟨alx, clx, rfl, -, -⟩ := own.lo.form;obtain ⟨ahx, chx, rfl, -, -⟩ := own.ho.form;clear hb;simp only [aD];have cAz := af A_6;have cD0 := D_6.c 0 rfl;have cD1 := D_6.c 1 rfl;have cD2 := D_6.c 2 rfl;clear own;go_wp2_with fail
      refine aj fun wf hwf => ?_;have hb : Below w6.heap.size w6 wf := by
        rw [hwf];first
          | exact (Below.refl _ _).alloc nl _
          | exact (((Below.refl _ _).alloc nl _).setCell (by simp) _).setCell (by simp) _
      have R_f := R_6.below hb R_6.lt;have V_f := hide (V_6.out.below hb);have B_f := bs B_6.out hb;have hzf := hb.size;clear hb hwf cAz cD0 cD1 cD2;have k5 := bu _ _ _ _ m wf V_f.out.all n1 n2 n3 n4;unfold ag at k5;refine k5.mono ?_;clear k5;rintro e w5 ⟨s5, p5, l5, h5, rfl, G, hb⟩;have R_5 := R_f.below hb R_f.lt;have B_5 := bs B_f.out hb;clear hb;have G_5 := hide G;obtain ⟨aS5, cs5, ap5, cp5, al5, cl5, ah5, ch5, rfl, rfl, rfl, rfl⟩ := G.op;clear G;unfold ag;have cRz := af R_5;have fRz := ay R_5;go_wp2_with fail
      refine bodyPost_ret (by simp [results, Tryz.results27, go_sem, cRz]; try rfl) rfl ?_;rw [HZ.out];exact ⟨_, _, _, _, rfl, aV G_5.out B_5.out (by omega) (by omega) nl _ _ _ _ _ _ _ _ _ _ _ _⟩
    | some tp =>
      obtain ⟨t, pl⟩ := tp;rw [hf] at k3;unfold findV at k3;have HF := hide hf;clear hf;refine k3.mono ?_;clear k3;rintro e w4 ⟨rfl, hb⟩;have A_4 := A_y.below hb A_y.lt;have D_4 := D_y.below hb D_y.lt;have R_4 := R_y.below hb R_y.lt;have V_4 := hide (V_y.out.below hb);have B_4 := bs B_y.out hb;have M_4 := hide (M_y.out.below hb);have hz4 := hb.size;clear hb;have cAz := af A_4;have cD0 := D_4.c 0 rfl;have cD1 := D_4.c 1 rfl;have cD2 := D_4.c 2 rfl;have hLA4 := A_4.lt;have hLD4 := D_4.lt;go_wp2_with fail
      refine aj fun wz hwz => ?_;have hb : Below w4.heap.size w4 wz := by
        rw [hwz];first
          | exact (Below.refl _ _).alloc nl _
          | exact (((Below.refl _ _).alloc nl _).setCell (by simp) _).setCell (by simp) _
      have A_z := A_4.below hb A_4.lt;have D_z := D_4.below hb D_4.lt;have R_z := R_4.below hb R_4.lt;have V_z := hide (V_4.out.below hb);have B_z := bs B_4.out hb;have M_z := hide (M_4.out.below hb);have hzz := hb.size;clear hb hwz cAz cD0 cD1 cD2;obtain ⟨⟨q, x⟩, hQ⟩ : ∃ Q, bE m.low m.high t pl = Q := ⟨_, rfl⟩;have hlt2 := takeP_spec (.slice ao3 m.low.length cap3) (.slice ao4 m.high.length cap4) m.low m.high t pl wz (V_z.out.all.low) (V_z.out.all.high);rw [hQ] at hlt2;unfold aD at hlt2;refine hlt2.mono ?_;clear hlt2;rintro e w6 ⟨lx, hx, rfl, own, hb⟩;have A_6 := A_z.below hb A_z.lt;have D_6 := D_z.below hb D_z.lt;have R_6 := R_z.below hb R_z.lt;have V_6 := hide (V_z.out.below hb);have B_6 := bs B_z.out hb;have M_6 := hide (M_z.out.below hb);have hz6 := hb.size;have hLA6 := A_6.lt;have hLD6 := D_6.lt;have hLR6 := R_6.lt;have hLM6 := M_6.out.row.lt;have G_6 := hide (M_z.out.got.yard hb nl own);have O_6 := hide (iq M_z.out.off (show w2.heap.size < wz.heap.size from M_z.out.row.lt) own);obtain ⟨alx, clx, rfl, -, -⟩ := own.lo.form;obtain ⟨ahx, chx, rfl, -, -⟩ := own.ho.form;clear hb;simp only [aD];have HQ := hide hQ;obtain ⟨hid1, hxx⟩ := found_take HF.out hQ;clear hQ;by_cases hx0 : x = a;rotate_left
      · have hxa : (x == a) = false := by simpa using hx0
        rw [shipD_no2 (m := m) (id := a) HF.out (by rw [HQ.out]; have : x = 0 := by omega
                                                    rw [this])] at hD
        have HZ := hide (show doR m ⟨4, a, b⟩ = (m, false) from hD);clear hD hx0 hxx;have cAz := af A_6;have cD0 := D_6.c 0 rfl;have cD1 := D_6.c 1 rfl;have cD2 := D_6.c 2 rfl;clear own;go_wp2_with fail
        refine aj fun wf hwf => ?_;have hb : Below w6.heap.size w6 wf := by
          rw [hwf];first
            | exact (Below.refl _ _).alloc nl _
            | exact (((Below.refl _ _).alloc nl _).setCell (by simp) _).setCell (by simp) _
        have R_f := R_6.below hb R_6.lt;have V_f := hide (V_6.out.below hb);have B_f := bs B_6.out hb;have hzf := hb.size;clear hb hwf cAz cD0 cD1 cD2;have k5 := bu _ _ _ _ m wf V_f.out.all n1 n2 n3 n4;unfold ag at k5;refine k5.mono ?_;clear k5;rintro e w5 ⟨s5, p5, l5, h5, rfl, G, hb⟩;have R_5 := R_f.below hb R_f.lt;have B_5 := bs B_f.out hb;clear hb;have G_5 := hide G;obtain ⟨aS5, cs5, ap5, cp5, al5, cl5, ah5, ch5, rfl, rfl, rfl, rfl⟩ := G.op;clear G;unfold ag;have cRz := af R_5;have fRz := ay R_5;go_wp2_with fail
        refine bodyPost_ret (by simp [results, Tryz.results27, go_sem, cRz]; try rfl) rfl ?_;rw [HZ.out];exact ⟨_, _, _, _, rfl, aV G_5.out B_5.out (by omega) (by omega) nl _ _ _ _ _ _ _ _ _ _ _ _⟩
      · subst hx0
        rw [shipD_yes (m := m) HF.out HQ.out (by omega)] at hD;have hs4 : iT m x = some { m with low := q.1, high := q.2, pieces := gp m.pieces x 2 } := shipD_yes (m := m) HF.out HQ.out (by omega);obtain ⟨-, kk, rfl, hk, -⟩ := ship_ok (aQ.1 HV.out) hs4;have HZ := hide (show doR m ⟨4, (kk : Int) + 1, b⟩ = ({ m with low := q.1, high := q.2, pieces := gp m.pieces ((kk : Int) + 1) 2 }, true) from hD);clear hD hs4 hxx;have cD0 := D_6.c 0 rfl;have cD1 := D_6.c 1 rfl;have cD2 := D_6.c 2 rfl;clear own
        go_upto_region 24 with fail
        obtain ⟨wv, hwv⟩ : ∃ wv : World, wv = w6.alloc (.cells #[.slice alx q.1.length clx, .slice ahx q.2.length chx] 29) := ⟨_, rfl⟩;rw [← hwv];have hb : Below w6.heap.size w6 wv := by rw [hwv]; exact (Below.refl _ _).alloc nl _
        have P_v : ae wv w6.heap.size 29 [.slice alx q.1.length clx, .slice ahx q.2.length chx] := by rw [hwv]; exact ae.new _ _ _
        have D_v := D_6.below hb D_6.lt;have R_v := R_6.below hb R_6.lt;have B_v := bs B_6.out hb;have M_v := hide (M_6.out.below hb);have hzv := hb.size;have G_v := hide (G_6.out.below hb);clear hb hwv cD0 cD1 cD2;have hLP := P_v.lt;have cP0 := P_v.c 0 rfl;have cP1 := P_v.c 1 rfl;have cC8 : wv.cell? ⟨w2.heap.size, 8, none⟩ = some (.slice ap m.pieces.length cp) := M_v.out.row.cell 8 (by simp [az]);have cC9 : wv.cell? ⟨w2.heap.size, 9, none⟩ = some (.slice al m.low.length cl) := M_v.out.row.cell 9 (by simp [az]);have cC10 : wv.cell? ⟨w2.heap.size, 10, none⟩ = some (.slice ah m.high.length ch) := M_v.out.row.cell 10 (by simp [az]);have fC9 := M_v.out.row.frozen 9;have fC10 := M_v.out.row.frozen 10;obtain ⟨g, cpx, hpf, hgb, hgz, hgc⟩ := got_block M_v.out.got (by omega);have hgB : g ≠ w2.heap.size := fun e => M_v.out.off.2.1 (by rw [hpf, e]; rfl);have hBg : w2.heap.size ≠ g := fun e => hgB e.symm;have hgD : g ≠ w.heap.size + 1 := by omega
        have hDg : w.heap.size + 1 ≠ g := by omega
        have hRg : w.heap.size + 1 + 1 ≠ g := by omega
        have hgR : g ≠ w.heap.size + 1 + 1 := by omega
        have hDC : w.heap.size + 1 ≠ w2.heap.size := by omega
        have hCD : w2.heap.size ≠ w.heap.size + 1 := by omega
        cases hpf;obtain ⟨hgc1, hgf1⟩ := hgc kk hk;have hkI : (kk : Int) < (m.pieces.length : Int) := by omega
        have hk0 : (0 : Int) ≤ (kk : Int) := by omega
        have hsub : IntKind.i64.wrap ((kk : Int) + 1 - 1) = (kk : Int) := by rw [show (kk : Int) + 1 - 1 = (kk : Int) by omega]; exact IntWalk.i64_in _ (by omega)
        have cD0 := D_v.c 0 rfl;have cD1 := D_v.c 1 rfl;have cD2 := D_v.c 2 rfl
        go_upto_region 28 with fail
        obtain ⟨wz, hwz⟩ : ∃ wz : World, wz = ((wv.setCell ⟨w2.heap.size, 9, none⟩ (.slice alx q.1.length clx)).setCell ⟨w2.heap.size, 10, none⟩ (.slice ahx q.2.length chx)).setCell ⟨g, kk * 2 + 1, none⟩ (.int .i64 2) := ⟨_, rfl⟩;rw [← hwz];obtain ⟨r1, k1, b1⟩ := df M_v.out.row G_v.out O_6.out M_v.out.hB (j := 9) (by simp [az]) (.slice alx q.1.length clx);obtain ⟨r2, k2, b2⟩ := df r1 k1 O_6.out M_v.out.hB (j := 10) (by simp [az]) (.slice ahx q.2.length chx);obtain ⟨k3, b3⟩ := jI k2 (k := kk) hk (g := g) rfl 2;have r3 := r2.other (lo := g) (hi := g + 1) ((ai.refl _ _ _).setCell (p := ⟨g, kk * 2 + 1, none⟩) nl ns (.int .i64 2)) (by omega);have bb := (b1.trans b2).trans b3;rw [← hwz] at r3 k3 bb;have G_z := hide k3;have B_z := hide (B_v.out.trans (bb.mono (by omega)));have R_z := R_v.below bb (by omega);have hzz := bb.size;clear r1 k1 b1 r2 k2 b2 k3 b3 bb hwz cD0 cD1 cD2 cC8 cC9 cC10 fC9 fC10 cP0 cP1 hgc1 hgf1;obtain ⟨cC0, cC1, cC2, cC3, cC4, cC5, cC6, cC7, cC8, cC9, cC10, cC11⟩ := af r3;have cRz := af R_z;have fRz := ay R_z;go_wp2_with fail
        refine bodyPost_ret (by simp [results, Tryz.results27, go_sem, cRz]; try rfl) rfl ?_;rw [HZ.out];exact ⟨_, _, _, _, rfl, aV G_z.out B_z.out (by omega) (by omega) nl _ _ _ _ _ _ _ _ _ _ _ _⟩
end Go.Proofs.YtkhecelpafojdaaGreatDoor
