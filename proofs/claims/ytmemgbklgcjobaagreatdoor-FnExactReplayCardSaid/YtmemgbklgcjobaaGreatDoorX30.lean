/-
  Parts of the proofs over mills, of: MethS. Conditions: each theorem states its own.
-/
import Derived.Test.YtmemgbklgcjobaaGreatDoorX27
import Derived.Test.YtmemgbklgcjobaaGreatDoorX29
set_option linter.unusedSimpArgs false
set_option linter.unusedVariables false
set_option maxRecDepth 10000
namespace Go.Proofs.YtmemgbklgcjobaaGreatDoor
open Go.RowKit
theorem shipD_no1 {m : Mi} {id : Int} (h : findR m.low m.high id = none) : shipD m id = none := by simp [shipD, h]
theorem shipD_no2 {m : Mi} {id p : Int} {t : Bool} {q : List Int × List Int} (h : findR m.low m.high id = some (t, p)) (h2 : takeR m.low m.high t p = (q, 0)) : shipD m id = none := by simp [shipD, h, h2]
theorem shipD_yes {m : Mi} {id p x : Int} {t : Bool} {q : List Int × List Int} (h : findR m.low m.high id = some (t, p)) (h2 : takeR m.low m.high t p = (q, x)) (hx : x ≠ 0) : shipD m id = some { m with low := q.1, high := q.2, pieces := setS m.pieces id 2 } := by simp [shipD, h, h2, hx]
theorem held2_call {w W W' : World} {B Z : Nat} {l h : Value} {t : Bool} {p : Int} (hlt : B < w.heap.size) (hlz : Z < w.heap.size) (k : Below w.heap.size W W') (H : ((W.cell? ⟨B, 9, none⟩ = some l ∧ W.cell? ⟨B, 10, none⟩ = some h) ∧ (W.cell? ⟨Z, 0, none⟩ = some (.bool t) ∧ W.cell? ⟨Z, 1, none⟩ = some (.int .i64 p))) ∧ Below w.heap.size w W) :
    ((W'.cell? ⟨B, 9, none⟩ = some l ∧ W'.cell? ⟨B, 10, none⟩ = some h) ∧ (W'.cell? ⟨Z, 0, none⟩ = some (.bool t) ∧ W'.cell? ⟨Z, 1, none⟩ = some (.int .i64 p))) ∧ Below w.heap.size w W' :=
  ⟨⟨⟨(k.cell (p := ⟨B, 9, none⟩) hlt).trans H.1.1.1, (k.cell (p := ⟨B, 10, none⟩) hlt).trans H.1.1.2⟩, (k.cell (p := ⟨Z, 0, none⟩) hlz).trans H.1.2.1, (k.cell (p := ⟨Z, 1, none⟩) hlz).trans H.1.2.2⟩, H.2.trans k⟩
theorem held2_alloc {w W : World} {B Z : Nat} {l h : Value} {t : Bool} {p : Int} {o : Obj} (hlt : B < w.heap.size) (hlz : Z < w.heap.size) (H : ((W.cell? ⟨B, 9, none⟩ = some l ∧ W.cell? ⟨B, 10, none⟩ = some h) ∧ (W.cell? ⟨Z, 0, none⟩ = some (.bool t) ∧ W.cell? ⟨Z, 1, none⟩ = some (.int .i64 p))) ∧ Below w.heap.size w W) :
    (((W.alloc o).cell? ⟨B, 9, none⟩ = some l ∧ (W.alloc o).cell? ⟨B, 10, none⟩ = some h) ∧ ((W.alloc o).cell? ⟨Z, 0, none⟩ = some (.bool t) ∧ (W.alloc o).cell? ⟨Z, 1, none⟩ = some (.int .i64 p))) ∧ Below w.heap.size w (W.alloc o) :=
  held2_call hlt hlz ((Below.refl _ _).alloc H.2.size o) H
theorem held2_store {w W : World} {B Z G : Nat} {l h u v : Value} {t : Bool} {p : Int} (hlt : B < w.heap.size) (hlz : Z < w.heap.size) (hG : w.heap.size ≤ G) (H : ((W.cell? ⟨B, 9, none⟩ = some l ∧ W.cell? ⟨B, 10, none⟩ = some h) ∧ (W.cell? ⟨Z, 0, none⟩ = some (.bool t) ∧ W.cell? ⟨Z, 1, none⟩ = some (.int .i64 p))) ∧ Below w.heap.size w W) :
    ((((W.setCell ⟨G, 0, none⟩ u).setCell ⟨G, 1, none⟩ v).cell? ⟨B, 9, none⟩ = some l ∧ ((W.setCell ⟨G, 0, none⟩ u).setCell ⟨G, 1, none⟩ v).cell? ⟨B, 10, none⟩ = some h) ∧ (((W.setCell ⟨G, 0, none⟩ u).setCell ⟨G, 1, none⟩ v).cell? ⟨Z, 0, none⟩ = some (.bool t) ∧ ((W.setCell ⟨G, 0, none⟩ u).setCell ⟨G, 1, none⟩ v).cell? ⟨Z, 1, none⟩ = some (.int .i64 p))) ∧ Below w.heap.size w ((W.setCell ⟨G, 0, none⟩ u).setCell ⟨G, 1, none⟩ v) :=
  held2_call hlt hlz (((Below.refl _ _).setCell (p := ⟨G, 0, none⟩) hG _).setCell (p := ⟨G, 1, none⟩) hG _) H
set_option maxHeartbeats 1600000 in
theorem ship_meth {base B : Nat} {w : World} {s p l h : Value} {m : Mi} (id : Int) (H : MillBox base B w s p l h m) (hm : MillV m) :
    Calls Tryz.prog 111 #[.pointer (some ⟨B, 0, none⟩), .int .i64 id] w (Meth base B (shipD m id) w) := by
  have HH := hide H
  have hr := H.row
  have hlt := hr.lt
  have hbz := H.got.hb
  have hpl := hm.len
  have HM := hide hm
  have HL := hide (H.got.all.low)
  have HG := hide (H.got.all.high)
  have c9 : w.cell? ⟨B, 9, none⟩ = some l := hr.cell 9 (by simp [millC])
  have c10 : w.cell? ⟨B, 10, none⟩ = some h := hr.cell 10 (by simp [millC])
  have hfind := find_impl l h m.low m.high id w HL.out HG.out
  have hlf := fun (t : Bool) (pl : Int) (W : World) (kk : Below w.heap.size w W) => takeP_impl l h m.low m.high t pl W ((HL.out.below kk).mono (Nat.le_refl _) kk.size (Nat.le_refl _)) ((HG.out.below kk).mono (Nat.le_refl _) kk.size (Nat.le_refl _))
  unfold pileV at hlf hfind
  have HLF := hide hlf
  clear hr H hlf
  cases hf : findR m.low m.high id with
  | none =>
    have hN := hide (shipD_no1 hf)
    rw [hf] at hfind
    unfold findV at hfind
    clear hf
    go_enter Tryz.func111, Tryz.ntmps111
    go_wp2_with fail
    refine hfind.mono ?_
    rintro e w1 ⟨rfl, hb⟩
    have HB := hide hb
    clear hb hfind
    go_wp2_with fail
    go_ret
    rw [hN.out]
    exact Meth.no ((HB.out.mono hbz).trans (((Below.refl _ _).alloc (Nat.le_trans hbz HB.out.size) _)))
  | some tp =>
    obtain ⟨t, pl⟩ := tp
    have HF := hide hf
    rw [hf] at hfind
    unfold findV at hfind
    obtain ⟨⟨q, x⟩, hQ⟩ : ∃ Q, takeR m.low m.high t pl = Q := ⟨_, rfl⟩
    have HQ := hide hQ
    have hlt2 := HLF.out t pl
    rw [hQ] at hlt2
    have HLT := hide hlt2
    clear hf hQ hlt2
    go_enter Tryz.func111, Tryz.ntmps111
    go_wp2_with fail
    refine hfind.mono ?_
    rintro e w1 ⟨rfl, hb⟩
    have HB := hide hb
    have hz1 := hb.size
    clear hb hfind
    go_wp2_with fail
    obtain ⟨wz, hwz⟩ : ∃ wz, wz = w1.alloc (.cells #[.bool t, .int .i64 pl] 128) := ⟨_, rfl⟩
    rw [← hwz]
    have RZ : RowL wz w1.heap.size 128 [.bool t, .int .i64 pl] := by rw [hwz]; exact RowL.new _ _ _
    have HBZ := hide (show Below w.heap.size w wz by rw [hwz]; exact HB.out.alloc hz1 _)
    have hzz := HBZ.out.size
    have hlz := RZ.lt
    have hlB : B < wz.heap.size := by omega
    obtain ⟨Z, hZ⟩ : ∃ Z, w1.heap.size = Z := ⟨_, rfl⟩
    rw [hZ] at RZ hlz ⊢
    have R_z := HH.out.row.below HBZ.out hlt
    have z9 : wz.cell? ⟨B, 9, none⟩ = some l := R_z.cell 9 (by simp [millC])
    have z10 : wz.cell? ⟨B, 10, none⟩ = some h := R_z.cell 10 (by simp [millC])
    have z0 := RZ.c 0 rfl
    have z1 := RZ.c 1 rfl
    clear hwz hZ RZ R_z c9 c10
    go_wp2_with fail
    have hI : (wz.drew.cell? ⟨B, 9, none⟩ = some l ∧ wz.drew.cell? ⟨B, 10, none⟩ = some h) ∧ (wz.drew.cell? ⟨Z, 0, none⟩ = some (.bool t) ∧ wz.drew.cell? ⟨Z, 1, none⟩ = some (.int .i64 pl)) := ⟨⟨z9, z10⟩, z0, z1⟩
    have hK : Below wz.heap.size wz wz.drew := (Below.refl _ _).drew
    go_cut [7, 8] from 20 to 28 (fun bx ok wr => BoxGot wz.heap.size wr q bx ∧ ok = .int .i64 x ∧ Below wz.heap.size wz wr)
    case first =>
      go_region_held (fun W => ((W.cell? ⟨B, 9, none⟩ = some l ∧ W.cell? ⟨B, 10, none⟩ = some h) ∧ (W.cell? ⟨Z, 0, none⟩ = some (.bool t) ∧ W.cell? ⟨Z, 1, none⟩ = some (.int .i64 pl))) ∧ Below wz.heap.size wz W) (first | exact ⟨hI, hK⟩ | assumption | exact held2_alloc hlB hlz (by assumption) | exact held2_store hlB hlz (by first | exact Nat.le_refl _ | omega) (by assumption) | (trace_state; fail)) (first
        | (go_at_call 169; (with_reducible refine (HLT.out _ (HBZ.out.trans ((And.right (by assumption : _ ∧ Below wz.heap.size wz _)).mono hzz))).mono ?_); rintro e w7 ⟨lx, hx, rfl, own, hb7⟩; have hS7 := held2_call hlB hlz (hb7.mono (by first | exact Nat.le_refl _ | (simp; done))) (by assumption); have hz7 := hS7.2.size; obtain ⟨hc7, hf7⟩ := bcell hb7; have hzz7 := hb7.size; (try simp at hzz7); obtain ⟨alx, clx, hlx, -, -⟩ := own.lo.form; obtain ⟨ahx, chx, hhx, -, -⟩ := own.ho.form; subst hlx hhx; simp only [pileV]))
      all_goals
        have hwd : wz.drew.heap.size = wz.heap.size := rfl
        go_wp2_with fail
        go_meet
      · exact ⟨box_new (base := wz.heap.size) own (by omega) (by omega), rfl, And.right (by assumption)⟩
      · exact ⟨box_old ((RowL.new wz.drew _ _).below hb7 (by simp)) own (by omega) (by simp), rfl, And.right (by assumption)⟩
    obtain ⟨⟨G, lx, hx, rfl, hG, hrow, hown⟩, rfl, hbw⟩ := hcut
    have HR := hide hrow
    have HO := hide hown
    have HBW := hide (HBZ.out.trans (hbw.mono hzz))
    have hGz := hrow.lt
    have g0 : wc.cell? ⟨G, 0, none⟩ = some lx := hrow.cell 0 (by simp)
    have g1 : wc.cell? ⟨G, 1, none⟩ = some hx := hrow.cell 1 (by simp)
    have R_c := HH.out.row.below HBW.out hlt
    have f9 := R_c.frozen 9
    have f10 := R_c.frozen 10
    have d9 : wc.cell? ⟨B, 9, none⟩ = some l := R_c.cell 9 (by simp [millC])
    have d10 : wc.cell? ⟨B, 10, none⟩ = some h := R_c.cell 10 (by simp [millC])
    have d8 : wc.cell? ⟨B, 8, none⟩ = some p := R_c.cell 8 (by simp [millC])
    have hltc := R_c.lt
    have hRc := hide R_c
    obtain ⟨alx, clx, rfl, -, -⟩ := hown.lo.form
    obtain ⟨ahx, chx, rfl, -, -⟩ := hown.ho.form
    have GC := HH.out.got.below HBW.out
    clear hrow hown hbw R_c hI hK z9 z10 z0 z1
    by_cases hx0 : x = 0
    · subst hx0
      have hN := hide (shipD_no2 (m := m) (id := id) HF.out HQ.out)
      go_wp2_with fail
      go_ret
      rw [hN.out]
      exact Meth.no (HBW.out.mono hbz)
    · have hxB : (x == 0) = false := by simp [hx0]
      have HY := hide (shipD_yes (m := m) HF.out HQ.out hx0)
      obtain ⟨-, k, rfl, hk, -⟩ := ship_ok HM.out HY.out
      obtain ⟨g, cp, hpf, hgb, hgz, hgc⟩ := got_block GC (by omega)
      have hgB : g ≠ B := fun e => HH.out.off.2.1 (by rw [hpf, e]; rfl)
      have hBg : B ≠ g := fun e => hgB e.symm
      have HPF := hide hpf
      obtain ⟨hgc1, hgf1⟩ := hgc k hk
      rw [hpf] at d8
      have hkI : (k : Int) < (m.pieces.length : Int) := by omega
      have hk0 : (0 : Int) ≤ (k : Int) := by omega
      have hsub : IntKind.i64.wrap ((k : Int) + 1 - 1) = (k : Int) := by rw [show (k : Int) + 1 - 1 = (k : Int) by omega]; exact IntWalk.i64_in _ (by omega)
      clear GC hgc hpf hx0
      go_wp2_with fail
      go_ret
      rw [HY.out]
      have G_2 := HH.out.got.yard HBW.out (by omega) HO.out
      have O_2 := notIn_new HH.out.off hlB HO.out
      obtain ⟨r1, k1, b1⟩ := box_set hRc.out G_2 O_2 HH.out.hB (j := 9) (by simp [millC]) (.slice alx q.1.length clx)
      obtain ⟨r2, k2, b2⟩ := box_set r1 k1 O_2 HH.out.hB (j := 10) (by simp [millC]) (.slice ahx q.2.length chx)
      obtain ⟨k3, b3⟩ := got_state k2 (k := k) hk (g := g) (by rw [HPF.out]; rfl) 2
      refine ⟨rfl, (((HBW.out.mono hbz).trans b1).trans b2).trans b3, fun x hx => ?_⟩
      obtain rfl := Option.some.inj hx
      exact ⟨_, _, _, _, r2.other (lo := g) (hi := g + 1) ((Other.refl _ _ _).setCell (p := ⟨g, k * 2 + 1, none⟩) (Nat.le_refl _) (Nat.lt_succ_self _) _) (by omega), k3⟩
end Go.Proofs.YtmemgbklgcjobaaGreatDoor
