/-
  The draw of deeds of a mill.
-/
import Derived.Test.YtmemgbklgcjobaaGreatDoorB48
namespace Go.Proofs.YtmemgbklgcjobaaGreatDoor
open Go.RowKit

theorem own_ty {w : World} {b b' T T' sz sz' n n' : Nat} {v v' : Value} {cs cs' : List Value} (h : w.ownsRow b T sz v n cs) (h' : w.ownsRow b' T' sz' v' n' cs') (hT : T ≠ T') : ∀ g, v.ownBlock = some g → some g ≠ v'.ownBlock := fun g hg e => by
  rcases h.2 with ⟨rfl, -⟩ | ⟨g1, cap, cur, rfl, -, hb, -⟩
  · cases hg
  · obtain rfl : g1 = g := Option.some.inj hg
    rcases h'.2 with ⟨rfl, -⟩ | ⟨g2, cap', cur', rfl, -, hb', -⟩
    · cases e
    · obtain rfl : g1 = g2 := Option.some.inj e
      rw [hb] at hb'
      injection Option.some.inj hb' with _ e2 _
      exact hT e2
theorem OwnE.grownT {b b' T T' sz sz' n n' : Nat} {w w' : World} {v u : Value} {cs cs' : List Value} (h : OwnE b T sz w v n cs) (hu : w.ownsRow b' T' sz' u n' cs') (hT : T ≠ T') (hg : w.grownBy w' u.ownBlock) : OwnE b T sz w' v n cs := by
  rcases h with h | ⟨g, h1, h2, h3, h4, h5⟩
  · exact .inl (ownsRow_grown h hg (own_ty h hu hT))
  · exact .inr ⟨g, h1, h2, Nat.lt_of_lt_of_le h3 hg.size, h4, h5⟩
/-- A row of deeds grows: a mill stays. -/
theorem MillGot.grownT {base b n : Nat} {w w' : World} {s p l h u : Value} {m : Mi} {cs : List Value} (G : MillGot base w s p l h m) (hu : w.ownsRow b 48 3 u n cs) (hg : w.grownBy w' u.ownBlock) : MillGot base w' s p l h m :=
  ⟨Nat.le_trans G.hb hg.size, G.so.grownT hu (by decide) hg, G.po.grownT hu (by decide) hg, G.lo.grownT hu (by decide) hg, G.ho.grownT hu (by decide) hg, G.sp, G.sl, G.sh, G.pl, G.ph, G.lh⟩
/-- Deeds were drawn. -/
def DeedsDrawn (R k : Nat) (w : World) (e : Ending) (w' : World) : Prop :=
  ∃ v js, e = .returned v ∧ js.length ≤ 13 ∧ (∀ j ∈ js, J.d j ≤ 9223372036854775807 ∧ J.g j ≤ 9223372036854775807) ∧ w'.ownsRow w.heap.size 48 3 v js.length (flatD js) ∧ Other R (R + 1) w w' ∧ Rd R k w' ∧ ∃ g, v.ownBlock = some g

set_option linter.unusedVariables false in
set_option linter.unusedSimpArgs false in
set_option maxRecDepth 10000 in
set_option maxHeartbeats 16000000 in
theorem l20MillDeeds_any (R k base : Nat) (s p l h : Value) (m : Mi) (w : World) (hrd : Rd R k w) (hk : k ≤ 1000) (G : MillGot base w s p l h m) (hRb : R < base) (hf : Few m) :
    Calls Tryz.prog 58 #[.pointer (some ⟨R, 0, none⟩), millV s p l h m] w (DeedsDrawn R (k + 120) w) := by
  have hlt := hrd.lt
  obtain ⟨aS0, cs0, rfl, -, -⟩ := G.so.form
  obtain ⟨ap0, cp0, rfl, -, -⟩ := G.po.form
  obtain ⟨al0, cl0, rfl, -, -⟩ := G.lo.form
  obtain ⟨ah0, ch0, rfl, -, -⟩ := G.ho.form
  obtain ⟨j0, hj0, hzj, hj1, hj2⟩ := info_parts info_J
  have HG := hide G
  have HR_ := hide hrd
  clear G hrd
  unfold millV
  go_enter Tryz.func58, Tryz.ntmps58
  go_wp2_with fail
  refine calls_at fun wx hwx => ?_
  have hb : Below w.heap.size w wx := by rw [hwx]; go_grown
  have X_0 : RowL wx (w.heap.size + 1 + 1) 31 [.slice aS0 m.store.length cs0, .int .i64 m.rule.lc, .int .i64 m.rule.hc, .int .i64 m.rule.lm, .int .i64 m.rule.hm, .int .i64 m.rule.ls, .int .i64 m.rule.hs, .int .i64 m.strand, .slice ap0 m.pieces.length cp0, .slice al0 m.low.length cl0, .slice ah0 m.high.length ch0, .int .i64 m.scrap] := by rw [hwx]; simpa using (RowL.new (World.alloc (World.alloc _ _) _) 31 [.slice aS0 m.store.length cs0, .int .i64 m.rule.lc, .int .i64 m.rule.hc, .int .i64 m.rule.lm, .int .i64 m.rule.hm, .int .i64 m.rule.ls, .int .i64 m.rule.hs, .int .i64 m.strand, .slice ap0 m.pieces.length cp0, .slice al0 m.low.length cl0, .slice ah0 m.high.length ch0, .int .i64 m.scrap])
  have O_0 : wx.ownsRow (w.heap.size + 1) 48 3 (.slice (some ⟨w.heap.size + 1, 0, none⟩) 0 0) 0 [] := by
    rw [hwx]
    exact ownsRow_below (by simpa using World.ownsRow_lit (e := 48) (size := 3) (base := w.heap.size + 1) (w.alloc (.cells #[.slice aS0 m.store.length cs0, .int .i64 m.rule.lc, .int .i64 m.rule.hc, .int .i64 m.rule.lm, .int .i64 m.rule.hm, .int .i64 m.rule.ls, .int .i64 m.rule.hs, .int .i64 m.strand, .slice ap0 m.pieces.length cp0, .slice al0 m.low.length cl0, .slice ah0 m.high.length ch0, .int .i64 m.scrap] 31)) #[] 0 (by simp) (by unfold maxLen; omega) (by simp)) ((Below.refl _ _).alloc (Nat.le_refl _) _) (Nat.le_refl _)
  clear hwx
  have G_0 := hide (HG.out.below hb)
  have HO0 := hide (Other.of_below (lo := R) (hi := R + 1) hb)
  have HR0 := hide (HR_.out.keep hb hlt)
  have hz0 := X_0.lt
  clear hb
  refine (pick_in R _ 14 wx HR0.out (by omega) (by omega) (by omega)).mono ?_
  rintro e w1 ⟨c0, rfl, c00, c01, ho, hr⟩
  obtain ⟨c, rfl⟩ : ∃ c : Nat, c0 = c := ⟨c0.toNat, by omega⟩
  have X_1 := X_0.other ho (by omega)
  have G_1 := hide (G_0.out.other ho (by omega))
  have O_1 := hide (ownsRow_other O_0 ho (fun g hg => by have := (O_0.lt g hg).1; omega))
  have HO1 := hide (HO0.out.trans ho)
  have HR1 := hide hr
  have hz1 := ho.size
  clear ho hr O_0
  go_wp2_with fail
  go_loopw [5, 7] (fun v i wr => ∃ (d : Nat) (js : List J) (x : Mi) (s p l h : Value), i = .int .i64 (d : Int) ∧ js.length + d = c ∧ RowL wr (w.heap.size + 1 + 1) 31 (millC s p l h x) ∧ MillGot base wr s p l h x ∧ Few x ∧ (∀ j ∈ js, J.d j ≤ 9223372036854775807 ∧ J.g j ≤ 9223372036854775807) ∧ wr.ownsRow (w.heap.size + 1) 48 3 v js.length (flatD js) ∧ w1.heap.size ≤ wr.heap.size ∧ Other R (R + 1) w wr ∧ Rd R (k + 1 + 8 * js.length) wr ∧ ∃ g, v.ownBlock = some g) (fun _ i _ => (intOf i).toNat)
  case atStart => exact ⟨c, [], m, _, _, _, _, rfl, by simp, X_1, G_1.out, hf, fun j hj => (by cases hj), O_1.out, Nat.le_refl _, HO1.out, HR1.out.mono (by simp), _, rfl⟩
  case round =>
    obtain ⟨d, js, x, s3, p3, l3, h3, rfl, hjd, X_r, G_, hfx, hjs, O_, hzr, ho, hr, hvg⟩ := hrel
    obtain ⟨aS3, cs3, rfl, -, -⟩ := G_.so.form
    obtain ⟨ap3, cp3, rfl, -, -⟩ := G_.po.form
    obtain ⟨al3, cl3, rfl, -, -⟩ := G_.lo.form
    obtain ⟨ah3, ch3, rfl, -, -⟩ := G_.ho.form
    have G_r := hide G_
    have HF := hide hfx
    have HJ := hide hjs
    have O_r := hide O_
    have HO := hide ho
    have HR := hide hr
    have HVG := hide hvg
    have hlX := X_r.lt
    clear G_ hfx hjs O_ ho hr hvg
    by_cases hd0 : 0 < d
    · obtain ⟨d, rfl⟩ : ∃ q, d = q + 1 := ⟨d - 1, by omega⟩
      have cX0 : wr.cell? ⟨w.heap.size + 1 + 1, 0, none⟩ = some (.slice aS3 x.store.length cs3) := X_r.c 0 rfl
      have cX1 : wr.cell? ⟨w.heap.size + 1 + 1, 1, none⟩ = some (.int .i64 x.rule.lc) := X_r.c 1 rfl
      have cX2 : wr.cell? ⟨w.heap.size + 1 + 1, 2, none⟩ = some (.int .i64 x.rule.hc) := X_r.c 2 rfl
      have cX3 : wr.cell? ⟨w.heap.size + 1 + 1, 3, none⟩ = some (.int .i64 x.rule.lm) := X_r.c 3 rfl
      have cX4 : wr.cell? ⟨w.heap.size + 1 + 1, 4, none⟩ = some (.int .i64 x.rule.hm) := X_r.c 4 rfl
      have cX5 : wr.cell? ⟨w.heap.size + 1 + 1, 5, none⟩ = some (.int .i64 x.rule.ls) := X_r.c 5 rfl
      have cX6 : wr.cell? ⟨w.heap.size + 1 + 1, 6, none⟩ = some (.int .i64 x.rule.hs) := X_r.c 6 rfl
      have cX7 : wr.cell? ⟨w.heap.size + 1 + 1, 7, none⟩ = some (.int .i64 x.strand) := X_r.c 7 rfl
      have cX8 : wr.cell? ⟨w.heap.size + 1 + 1, 8, none⟩ = some (.slice ap3 x.pieces.length cp3) := X_r.c 8 rfl
      have cX9 : wr.cell? ⟨w.heap.size + 1 + 1, 9, none⟩ = some (.slice al3 x.low.length cl3) := X_r.c 9 rfl
      have cX10 : wr.cell? ⟨w.heap.size + 1 + 1, 10, none⟩ = some (.slice ah3 x.high.length ch3) := X_r.c 10 rfl
      have cX11 : wr.cell? ⟨w.heap.size + 1 + 1, 11, none⟩ = some (.int .i64 x.scrap) := X_r.c 11 rfl
      go_wp2_with fail
      have hde := l20MillDeed_any R _ (.slice aS3 x.store.length cs3) (.slice ap3 x.pieces.length cp3) (.slice al3 x.low.length cl3) (.slice ah3 x.high.length ch3) x _ HR.out (by omega) G_r.out.all HF.out
      unfold millV at hde
      refine hde.mono ?_
      clear hde cX0 cX1 cX2 cX3 cX4 cX5 cX6 cX7 cX8 cX9 cX10 cX11
      rintro e w2 ⟨dj, rfl, hd1, hd2, ho, hr⟩
      have X_2 := X_r.other ho (by omega)
      have G_2 := hide (G_r.out.other ho (by omega))
      have O_2 := hide (ownsRow_other O_r.out ho (fun g hg => by have := (O_r.out.lt g hg).1; omega))
      have HO2 := hide (HO.out.trans ho)
      have HR2 := hide hr
      have hz2 := ho.size
      have hlX2 := X_2.lt
      clear ho hr
      have cX0 : w2.cell? ⟨w.heap.size + 1 + 1, 0, none⟩ = some (.slice aS3 x.store.length cs3) := X_2.c 0 rfl
      have cX1 : w2.cell? ⟨w.heap.size + 1 + 1, 1, none⟩ = some (.int .i64 x.rule.lc) := X_2.c 1 rfl
      have cX2 : w2.cell? ⟨w.heap.size + 1 + 1, 2, none⟩ = some (.int .i64 x.rule.hc) := X_2.c 2 rfl
      have cX3 : w2.cell? ⟨w.heap.size + 1 + 1, 3, none⟩ = some (.int .i64 x.rule.lm) := X_2.c 3 rfl
      have cX4 : w2.cell? ⟨w.heap.size + 1 + 1, 4, none⟩ = some (.int .i64 x.rule.hm) := X_2.c 4 rfl
      have cX5 : w2.cell? ⟨w.heap.size + 1 + 1, 5, none⟩ = some (.int .i64 x.rule.ls) := X_2.c 5 rfl
      have cX6 : w2.cell? ⟨w.heap.size + 1 + 1, 6, none⟩ = some (.int .i64 x.rule.hs) := X_2.c 6 rfl
      have cX7 : w2.cell? ⟨w.heap.size + 1 + 1, 7, none⟩ = some (.int .i64 x.strand) := X_2.c 7 rfl
      have cX8 : w2.cell? ⟨w.heap.size + 1 + 1, 8, none⟩ = some (.slice ap3 x.pieces.length cp3) := X_2.c 8 rfl
      have cX9 : w2.cell? ⟨w.heap.size + 1 + 1, 9, none⟩ = some (.slice al3 x.low.length cl3) := X_2.c 9 rfl
      have cX10 : w2.cell? ⟨w.heap.size + 1 + 1, 10, none⟩ = some (.slice ah3 x.high.length ch3) := X_2.c 10 rfl
      have cX11 : w2.cell? ⟨w.heap.size + 1 + 1, 11, none⟩ = some (.int .i64 x.scrap) := X_2.c 11 rfl
      go_wp2_with fail
      refine calls_at fun wy hwy => ?_
      have D_y : RowL wy w2.heap.size 48 [.int .i64 dj.s, .int .i64 dj.d, .int .i64 dj.g] := by rw [hwy]; exact RowL.new _ _ _
      have hb : Below w2.heap.size w2 wy := by rw [hwy]; exact (Below.refl _ _).alloc (Nat.le_refl _) _
      clear hwy cX0 cX1 cX2 cX3 cX4 cX5 cX6 cX7 cX8 cX9 cX10 cX11
      have X_y := X_2.below hb hlX2
      have G_y := hide (G_2.out.below hb)
      have O_y := hide (ownsRow_below O_2.out hb (Nat.le_refl _))
      have HOy := hide (HO2.out.step hb (by have := HO2.out.size; omega))
      have HRy := hide (HR2.out.keep hb HR2.out.lt)
      have hzy := D_y.lt
      clear hb
      have hdo := do_spec (.slice aS3 x.store.length cs3) (.slice ap3 x.pieces.length cp3) (.slice al3 x.low.length cl3) (.slice ah3 x.high.length ch3) x dj wy G_y.out.all hd1 hd2
      obtain ⟨⟨y, ok⟩, hyo⟩ : ∃ z, doR x dj = z := ⟨_, rfl⟩
      have hfy : ok = true → Few y := fun hh => by
        have := tight_do (m := x) (d := dj) (by rw [hyo]; exact hh)
        rw [hyo] at this
        exact this.few
      rw [hyo] at hdo
      unfold millV at hdo
      refine hdo.mono ?_
      clear hdo hyo
      rintro e w3 ⟨s4, p4, l4, h4, he, G4, hb⟩
      have he : e = .returned (.tuple #[millV s4 p4 l4 h4 y, .bool ok]) := he
      subst he
      have G4 : MillGot _ w3 s4 p4 l4 h4 y := G4
      obtain ⟨aS4, cs4, rfl, -, -⟩ := G4.so.form
      obtain ⟨ap4, cp4, rfl, -, -⟩ := G4.po.form
      obtain ⟨al4, cl4, rfl, -, -⟩ := G4.lo.form
      obtain ⟨ah4, ch4, rfl, -, -⟩ := G4.ho.form
      have X_3 := X_y.below hb X_y.lt
      have D_3 := D_y.below hb D_y.lt
      have G_3 := hide (G_y.out.below hb)
      have O_3 := hide (ownsRow_below O_y.out hb (Nat.le_refl _))
      have HO3 := hide (HOy.out.step hb (by have := HOy.out.size; omega))
      have HR3 := hide (HRy.out.keep hb HRy.out.lt)
      have Y_3 := hide (G4.mono (show base ≤ wy.heap.size from G_y.out.hb))
      have hz3 := hb.size
      have hlX3 := X_3.lt
      have hlD3 := D_3.lt
      clear hb G4
      unfold millV
      cases ok with
      | false =>
        go_upto_region 10 with fail
        obtain ⟨wz, hwz⟩ : ∃ q : World, q = w3.alloc (.cells #[.slice aS4 y.store.length cs4, .int .i64 y.rule.lc, .int .i64 y.rule.hc, .int .i64 y.rule.lm, .int .i64 y.rule.hm, .int .i64 y.rule.ls, .int .i64 y.rule.hs, .int .i64 y.strand, .slice ap4 y.pieces.length cp4, .slice al4 y.low.length cl4, .slice ah4 y.high.length ch4, .int .i64 y.scrap] 31) := ⟨_, rfl⟩
        rw [← hwz]
        have hb : Below w3.heap.size w3 wz := by rw [hwz]; exact (Below.refl _ _).alloc (Nat.le_refl _) _
        clear hwz
        have X_z := X_3.below hb X_3.lt
        have D_z := D_3.below hb D_3.lt
        have G_z := hide (G_3.out.below hb)
        have O_z := hide (ownsRow_below O_3.out hb (Nat.le_refl _))
        have HO_z := hide (HO3.out.step hb (by have := HO3.out.size; omega))
        have HR_z := hide (HR3.out.keep hb HR3.out.lt)
        have hzz := hb.size
        have hlDz := D_z.lt
        clear hb
        have cD0 : wz.cell? ⟨w2.heap.size, 0, none⟩ = some (.int .i64 dj.s) := D_z.c 0 rfl
        have cD1 : wz.cell? ⟨w2.heap.size, 1, none⟩ = some (.int .i64 dj.d) := D_z.c 1 rfl
        have cD2 : wz.cell? ⟨w2.heap.size, 2, none⟩ = some (.int .i64 dj.g) := D_z.c 2 rfl
        go_wp2_with (at_builtin; refine wpList_append_view rfl _ _ 39 rfl (w.heap.size + 1) 48 j0 _ 3 24 Tryz.underlying39 hj0 hzj hj1 hj2 rfl (by decide) _ _ _ rfl (O_z.out.alloc _) (.slice (some ⟨wz.heap.size, 0, none⟩) 1 1) 1 [.int .i64 dj.s, .int .i64 dj.d, .int .i64 dj.g] rfl ?c0 ?c1 ?c2 ?c3 ?_)
        case c0 => exact Source.lit wz [.int .i64 dj.s, .int .i64 dj.d, .int .i64 dj.g] 3 48 1 rfl (fun u hu => by simp at hu; rcases hu with rfl | rfl | rfl <;> rfl) 1
        case c1 => unfold maxLen; omega
        case c2 => omega
        case c3 => simp; omega
        intro v2 w5 hown2 hgrow2 hnew
        have HVG2 := hide (show ∃ g, v2.ownBlock = some g from hnew.elim (fun e => ⟨HVG.out.choose, e.trans HVG.out.choose_spec⟩) (fun e => ⟨_, e⟩))
        clear hnew
        have hba : Below wz.heap.size wz (wz.alloc (.cells #[.int .i64 dj.s, .int .i64 dj.d, .int .i64 dj.g] 48)) := (Below.refl _ _).alloc (Nat.le_refl _) _
        have OA := O_z.out.alloc (.cells #[.int .i64 dj.s, .int .i64 dj.d, .int .i64 dj.g] 48)
        have XA := X_z.below hba X_z.lt
        have hB5 : Below (w.heap.size + 1) wz w5 := ((Below.refl _ wz).alloc (by omega) _).trans (Below.grow hgrow2 OA (Nat.le_refl _) (by simp; omega))
        have X_5 := grown_row XA hgrow2 (own_ne_row OA XA (by decide))
        have G_5 := hide ((G_z.out.below hba).grownT OA hgrow2)
        have hB5' : Below w.heap.size wz w5 := hB5.mono (Nat.le_succ _)
        have HO5 := hide (HO_z.out.step hB5' (Nat.le_refl _))
        have HR5 := hide ((HR_z.out.keep hB5' hlt).mono (m := k + 1 + 8 * (js ++ [dj]).length) (by simp; omega))
        have hz5 := hB5.size
        have O_5 := hide (show w5.ownsRow (w.heap.size + 1) 48 3 v2 (js ++ [dj]).length (flatD (js ++ [dj])) by rw [flatD_append, List.length_append]; exact hown2)
        clear hown2 hgrow2 hba OA XA hB5 hB5'
        have hjs2 : ∀ j ∈ js ++ [dj], J.d j ≤ 9223372036854775807 ∧ J.g j ≤ 9223372036854775807 := fun j hj => (List.mem_append.1 hj).elim (HJ.out j) (fun h => by rw [List.mem_singleton.1 h]; exact ⟨hd1, hd2⟩)
        go_wp2_with fail
        go_roundw
        case rel => exact ⟨d, js ++ [dj], x, _, _, _, _, by go_num, by simp; omega, X_5, G_5.out, HF.out, hjs2, O_5.out, by omega, HO5.out, HR5.out, HVG2.out⟩
        case measure => simp [intOf] <;> omega
      | true =>
        have cX0 : w3.cell? ⟨w.heap.size + 1 + 1, 0, none⟩ = some (.slice aS3 x.store.length cs3) := X_3.c 0 rfl
        have fcX0 : w3.frozen? ⟨w.heap.size + 1 + 1, 0, none⟩ = false := X_3.frozen 0
        have cX1 : w3.cell? ⟨w.heap.size + 1 + 1, 1, none⟩ = some (.int .i64 x.rule.lc) := X_3.c 1 rfl
        have fcX1 : w3.frozen? ⟨w.heap.size + 1 + 1, 1, none⟩ = false := X_3.frozen 1
        have cX2 : w3.cell? ⟨w.heap.size + 1 + 1, 2, none⟩ = some (.int .i64 x.rule.hc) := X_3.c 2 rfl
        have fcX2 : w3.frozen? ⟨w.heap.size + 1 + 1, 2, none⟩ = false := X_3.frozen 2
        have cX3 : w3.cell? ⟨w.heap.size + 1 + 1, 3, none⟩ = some (.int .i64 x.rule.lm) := X_3.c 3 rfl
        have fcX3 : w3.frozen? ⟨w.heap.size + 1 + 1, 3, none⟩ = false := X_3.frozen 3
        have cX4 : w3.cell? ⟨w.heap.size + 1 + 1, 4, none⟩ = some (.int .i64 x.rule.hm) := X_3.c 4 rfl
        have fcX4 : w3.frozen? ⟨w.heap.size + 1 + 1, 4, none⟩ = false := X_3.frozen 4
        have cX5 : w3.cell? ⟨w.heap.size + 1 + 1, 5, none⟩ = some (.int .i64 x.rule.ls) := X_3.c 5 rfl
        have fcX5 : w3.frozen? ⟨w.heap.size + 1 + 1, 5, none⟩ = false := X_3.frozen 5
        have cX6 : w3.cell? ⟨w.heap.size + 1 + 1, 6, none⟩ = some (.int .i64 x.rule.hs) := X_3.c 6 rfl
        have fcX6 : w3.frozen? ⟨w.heap.size + 1 + 1, 6, none⟩ = false := X_3.frozen 6
        have cX7 : w3.cell? ⟨w.heap.size + 1 + 1, 7, none⟩ = some (.int .i64 x.strand) := X_3.c 7 rfl
        have fcX7 : w3.frozen? ⟨w.heap.size + 1 + 1, 7, none⟩ = false := X_3.frozen 7
        have cX8 : w3.cell? ⟨w.heap.size + 1 + 1, 8, none⟩ = some (.slice ap3 x.pieces.length cp3) := X_3.c 8 rfl
        have fcX8 : w3.frozen? ⟨w.heap.size + 1 + 1, 8, none⟩ = false := X_3.frozen 8
        have cX9 : w3.cell? ⟨w.heap.size + 1 + 1, 9, none⟩ = some (.slice al3 x.low.length cl3) := X_3.c 9 rfl
        have fcX9 : w3.frozen? ⟨w.heap.size + 1 + 1, 9, none⟩ = false := X_3.frozen 9
        have cX10 : w3.cell? ⟨w.heap.size + 1 + 1, 10, none⟩ = some (.slice ah3 x.high.length ch3) := X_3.c 10 rfl
        have fcX10 : w3.frozen? ⟨w.heap.size + 1 + 1, 10, none⟩ = false := X_3.frozen 10
        have cX11 : w3.cell? ⟨w.heap.size + 1 + 1, 11, none⟩ = some (.int .i64 x.scrap) := X_3.c 11 rfl
        have fcX11 : w3.frozen? ⟨w.heap.size + 1 + 1, 11, none⟩ = false := X_3.frozen 11
        go_upto_region 10 with fail
        obtain ⟨wu, hwu⟩ : ∃ q : World, q = ((((((((((((w3).setCell ⟨w.heap.size + 1 + 1, 0, none⟩ (.slice aS4 y.store.length cs4)).setCell ⟨w.heap.size + 1 + 1, 1, none⟩ (.int .i64 y.rule.lc)).setCell ⟨w.heap.size + 1 + 1, 2, none⟩ (.int .i64 y.rule.hc)).setCell ⟨w.heap.size + 1 + 1, 3, none⟩ (.int .i64 y.rule.lm)).setCell ⟨w.heap.size + 1 + 1, 4, none⟩ (.int .i64 y.rule.hm)).setCell ⟨w.heap.size + 1 + 1, 5, none⟩ (.int .i64 y.rule.ls)).setCell ⟨w.heap.size + 1 + 1, 6, none⟩ (.int .i64 y.rule.hs)).setCell ⟨w.heap.size + 1 + 1, 7, none⟩ (.int .i64 y.strand)).setCell ⟨w.heap.size + 1 + 1, 8, none⟩ (.slice ap4 y.pieces.length cp4)).setCell ⟨w.heap.size + 1 + 1, 9, none⟩ (.slice al4 y.low.length cl4)).setCell ⟨w.heap.size + 1 + 1, 10, none⟩ (.slice ah4 y.high.length ch4)).setCell ⟨w.heap.size + 1 + 1, 11, none⟩ (.int .i64 y.scrap) := ⟨_, rfl⟩
        rw [← hwu]
        have T : Other (w.heap.size + 1 + 1) (w.heap.size + 1 + 1 + 1) w3 wu := by rw [hwu]; exact other12 _ _ _ _ _ _ _ _ _ _ _ _ _ _
        have X_u : RowL wu (w.heap.size + 1 + 1) 31 [.slice aS4 y.store.length cs4, .int .i64 y.rule.lc, .int .i64 y.rule.hc, .int .i64 y.rule.lm, .int .i64 y.rule.hm, .int .i64 y.rule.ls, .int .i64 y.rule.hs, .int .i64 y.strand, .slice ap4 y.pieces.length cp4, .slice al4 y.low.length cl4, .slice ah4 y.high.length ch4, .int .i64 y.scrap] := by rw [hwu]; exact row12 X_3 rfl _ _ _ _ _ _ _ _ _ _ _ _
        clear hwu cX0 fcX0 cX1 fcX1 cX2 fcX2 cX3 fcX3 cX4 fcX4 cX5 fcX5 cX6 fcX6 cX7 fcX7 cX8 fcX8 cX9 fcX9 cX10 fcX10 cX11 fcX11
        have D_u := D_3.other T (by omega)
        have G_u := hide (Y_3.out.past X_3 T)
        have O_u := hide (ownsRow_other O_3.out T (fun g hg => by have := own_ne_row O_3.out X_3 (by decide) g hg; omega))
        have HO_u := hide (HO3.out.step (T.below (B := w.heap.size) (by omega) (by omega)) (Nat.le_refl _))
        have HR_u := hide (HR3.out.keep (T.below (B := w.heap.size) (by omega) (by omega)) hlt)
        have hzu := T.size
        clear T
        obtain ⟨wz, hwz⟩ : ∃ q : World, q = wu.alloc (.cells #[.slice aS4 y.store.length cs4, .int .i64 y.rule.lc, .int .i64 y.rule.hc, .int .i64 y.rule.lm, .int .i64 y.rule.hm, .int .i64 y.rule.ls, .int .i64 y.rule.hs, .int .i64 y.strand, .slice ap4 y.pieces.length cp4, .slice al4 y.low.length cl4, .slice ah4 y.high.length ch4, .int .i64 y.scrap] 31) := ⟨_, rfl⟩
        rw [← hwz]
        have hb : Below wu.heap.size wu wz := by rw [hwz]; exact (Below.refl _ _).alloc (Nat.le_refl _) _
        clear hwz
        have X_z := X_u.below hb X_u.lt
        have D_z := D_u.below hb D_u.lt
        have G_z := hide (G_u.out.below hb)
        have O_z := hide (ownsRow_below O_u.out hb (Nat.le_refl _))
        have HO_z := hide (HO_u.out.step hb (by have := HO_u.out.size; omega))
        have HR_z := hide (HR_u.out.keep hb HR_u.out.lt)
        have hzz := hb.size
        have hlDz := D_z.lt
        clear hb
        have cD0 : wz.cell? ⟨w2.heap.size, 0, none⟩ = some (.int .i64 dj.s) := D_z.c 0 rfl
        have cD1 : wz.cell? ⟨w2.heap.size, 1, none⟩ = some (.int .i64 dj.d) := D_z.c 1 rfl
        have cD2 : wz.cell? ⟨w2.heap.size, 2, none⟩ = some (.int .i64 dj.g) := D_z.c 2 rfl
        go_wp2_with (at_builtin; refine wpList_append_view rfl _ _ 39 rfl (w.heap.size + 1) 48 j0 _ 3 24 Tryz.underlying39 hj0 hzj hj1 hj2 rfl (by decide) _ _ _ rfl (O_z.out.alloc _) (.slice (some ⟨wz.heap.size, 0, none⟩) 1 1) 1 [.int .i64 dj.s, .int .i64 dj.d, .int .i64 dj.g] rfl ?c0 ?c1 ?c2 ?c3 ?_)
        case c0 => exact Source.lit wz [.int .i64 dj.s, .int .i64 dj.d, .int .i64 dj.g] 3 48 1 rfl (fun u hu => by simp at hu; rcases hu with rfl | rfl | rfl <;> rfl) 1
        case c1 => unfold maxLen; omega
        case c2 => omega
        case c3 => simp; omega
        intro v2 w5 hown2 hgrow2 hnew
        have HVG2 := hide (show ∃ g, v2.ownBlock = some g from hnew.elim (fun e => ⟨HVG.out.choose, e.trans HVG.out.choose_spec⟩) (fun e => ⟨_, e⟩))
        clear hnew
        have hba : Below wz.heap.size wz (wz.alloc (.cells #[.int .i64 dj.s, .int .i64 dj.d, .int .i64 dj.g] 48)) := (Below.refl _ _).alloc (Nat.le_refl _) _
        have OA := O_z.out.alloc (.cells #[.int .i64 dj.s, .int .i64 dj.d, .int .i64 dj.g] 48)
        have XA := X_z.below hba X_z.lt
        have hB5 : Below (w.heap.size + 1) wz w5 := ((Below.refl _ wz).alloc (by omega) _).trans (Below.grow hgrow2 OA (Nat.le_refl _) (by simp; omega))
        have X_5 := grown_row XA hgrow2 (own_ne_row OA XA (by decide))
        have G_5 := hide ((G_z.out.below hba).grownT OA hgrow2)
        have hB5' : Below w.heap.size wz w5 := hB5.mono (Nat.le_succ _)
        have HO5 := hide (HO_z.out.step hB5' (Nat.le_refl _))
        have HR5 := hide ((HR_z.out.keep hB5' hlt).mono (m := k + 1 + 8 * (js ++ [dj]).length) (by simp; omega))
        have hz5 := hB5.size
        have O_5 := hide (show w5.ownsRow (w.heap.size + 1) 48 3 v2 (js ++ [dj]).length (flatD (js ++ [dj])) by rw [flatD_append, List.length_append]; exact hown2)
        clear hown2 hgrow2 hba OA XA hB5 hB5'
        have hjs2 : ∀ j ∈ js ++ [dj], J.d j ≤ 9223372036854775807 ∧ J.g j ≤ 9223372036854775807 := fun j hj => (List.mem_append.1 hj).elim (HJ.out j) (fun h => by rw [List.mem_singleton.1 h]; exact ⟨hd1, hd2⟩)
        go_wp2_with fail
        go_roundw
        case rel => exact ⟨d, js ++ [dj], y, _, _, _, _, by go_num, by simp; omega, X_5, G_5.out, (hfy (by first | rfl | trivial)), hjs2, O_5.out, by omega, HO5.out, HR5.out, HVG2.out⟩
        case measure => simp [intOf] <;> omega
    · obtain rfl : d = 0 := by omega
      go_wp2_with fail
      go_ret
      exact ⟨_, js, rfl, by omega, HJ.out, ownsRow_mono O_r.out (Nat.le_succ _), HO.out, HR.out.mono (by omega), HVG.out⟩
end Go.Proofs.YtmemgbklgcjobaaGreatDoor
