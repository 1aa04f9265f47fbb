/-
  The draws of the laws over a mill and a deed, and over a mill and deeds.
-/
import Derived.Test.YtmemgbklgcjobaaGreatDoorB32
import Derived.Test.YtmemgbklgcjobaaGreatDoorB40
import Derived.Test.YtmemgbklgcjobaaGreatDoorB44
import Derived.Test.YtmemgbklgcjobaaGreatDoorRdPast
import Derived.Deep.RegionHeld
import Derived.Deep.CutRange
namespace Go.Proofs.YtmemgbklgcjobaaGreatDoor
open Go.RowKit

theorem MillGot.pastT {base C T : Nat} {w w' : World} {s p l h : Value} {m : Mi} {vs : List Value} (H : MillGot base w s p l h m) (r : RowL w C T vs) (h1 : 65 ≠ T) (h2 : 73 ≠ T) (h3 : 3 ≠ T) (k : Other C (C + 1) w w') : MillGot base w' s p l h m :=
  ⟨Nat.le_trans H.hb k.size, H.so.past r h1 k, H.po.past r h2 k, H.lo.past r h3 k, H.ho.past r h3 k, H.sp, H.sl, H.sh, H.pl, H.ph, H.lh⟩
theorem other3 (g : Nat) (w : World) (v0 v1 v2 : Value) : Other g (g + 1) w (((w.setCell ⟨g, 0, none⟩ v0).setCell ⟨g, 1, none⟩ v1).setCell ⟨g, 2, none⟩ v2) :=
  Other.setCell (p := ⟨g, 2, none⟩) (Other.setCell (p := ⟨g, 1, none⟩) (Other.setCell (p := ⟨g, 0, none⟩) (Other.refl _ _ _) (Nat.le_refl _) (Nat.lt_succ_self _) _) (Nat.le_refl _) (Nat.lt_succ_self _) _) (Nat.le_refl _) (Nat.lt_succ_self _) _
theorem row3 {w : World} {g T : Nat} {u0 u1 u2 : Value} (h : RowL w g T [u0, u1, u2]) (v0 v1 v2 : Value) : RowL (((w.setCell ⟨g, 0, none⟩ v0).setCell ⟨g, 1, none⟩ v1).setCell ⟨g, 2, none⟩ v2) g T [v0, v1, v2] :=
  ((h.set 0 v0 (by simp)).set 1 v1 (by simp)).set 2 v2 (by simp)
/-- A mill and a deed lie in two boxes. -/
def MillDeedAt (b Z Y : Nat) (w0 : World) (s p l h : Value) (m : Mi) (W : World) : Prop :=
  ∃ d : J, d.d ≤ 9223372036854775807 ∧ d.g ≤ 9223372036854775807 ∧ RowL W Z 31 (millC s p l h m) ∧ RowL W Y 48 [.int .i64 d.s, .int .i64 d.d, .int .i64 d.g] ∧ MillGot b W s p l h m ∧ Below b w0 W
theorem mda_zy {b Z Y : Nat} {w0 w : World} {s p l h u0 u1 u2 : Value} {us : List Value} {m : Mi} {d : J} (rz : RowL w Z 31 us) (hl : us.length = 12) (ry : RowL w Y 48 [u0, u1, u2]) (G : MillGot b w s p l h m) (B : Below b w0 w) (hz : b ≤ w0.heap.size) (h1 : b ≤ Z) (h2 : b ≤ Y) (hn : Z < Y) (hd1 : d.d ≤ 9223372036854775807) (hd2 : d.g ≤ 9223372036854775807) :
    MillDeedAt b Z Y w0 s p l h m ((((((((((((((((w).setCell ⟨Z, 0, none⟩ (s)).setCell ⟨Z, 1, none⟩ (.int .i64 m.rule.lc)).setCell ⟨Z, 2, none⟩ (.int .i64 m.rule.hc)).setCell ⟨Z, 3, none⟩ (.int .i64 m.rule.lm)).setCell ⟨Z, 4, none⟩ (.int .i64 m.rule.hm)).setCell ⟨Z, 5, none⟩ (.int .i64 m.rule.ls)).setCell ⟨Z, 6, none⟩ (.int .i64 m.rule.hs)).setCell ⟨Z, 7, none⟩ (.int .i64 m.strand)).setCell ⟨Z, 8, none⟩ (p)).setCell ⟨Z, 9, none⟩ (l)).setCell ⟨Z, 10, none⟩ (h)).setCell ⟨Z, 11, none⟩ (.int .i64 m.scrap)).setCell ⟨Y, 0, none⟩ (.int .i64 d.s)).setCell ⟨Y, 1, none⟩ (.int .i64 d.d)).setCell ⟨Y, 2, none⟩ (.int .i64 d.g)) := by
  have T := other12 Z w s (.int .i64 m.rule.lc) (.int .i64 m.rule.hc) (.int .i64 m.rule.lm) (.int .i64 m.rule.hm) (.int .i64 m.rule.ls) (.int .i64 m.rule.hs) (.int .i64 m.strand) p l h (.int .i64 m.scrap)
  have r1 := row12 rz hl s (.int .i64 m.rule.lc) (.int .i64 m.rule.hc) (.int .i64 m.rule.lm) (.int .i64 m.rule.hm) (.int .i64 m.rule.ls) (.int .i64 m.rule.hs) (.int .i64 m.strand) p l h (.int .i64 m.scrap)
  have r2 := ry.other T (by omega)
  have T2 := fun W => other3 Y W (.int .i64 d.s) (.int .i64 d.d) (.int .i64 d.g)
  exact ⟨d, hd1, hd2, r1.other (T2 _) (by omega), row3 r2 _ _ _, (G.past rz T).pastT r2 (by decide) (by decide) (by decide) (T2 _), (B.trans (T.below h1 (Nat.le_trans hz B.size))).trans ((T2 _).below h2 (Nat.le_trans hz (Nat.le_trans B.size T.size)))⟩
theorem mda_yz {b Z Y : Nat} {w0 w : World} {s p l h u0 u1 u2 : Value} {us : List Value} {m : Mi} {d : J} (rz : RowL w Z 31 us) (hl : us.length = 12) (ry : RowL w Y 48 [u0, u1, u2]) (G : MillGot b w s p l h m) (B : Below b w0 w) (hz : b ≤ w0.heap.size) (h1 : b ≤ Z) (h2 : b ≤ Y) (hn : Z < Y) (hd1 : d.d ≤ 9223372036854775807) (hd2 : d.g ≤ 9223372036854775807) :
    MillDeedAt b Z Y w0 s p l h m ((((((((((((((((w).setCell ⟨Y, 0, none⟩ (.int .i64 d.s)).setCell ⟨Y, 1, none⟩ (.int .i64 d.d)).setCell ⟨Y, 2, none⟩ (.int .i64 d.g)).setCell ⟨Z, 0, none⟩ (s)).setCell ⟨Z, 1, none⟩ (.int .i64 m.rule.lc)).setCell ⟨Z, 2, none⟩ (.int .i64 m.rule.hc)).setCell ⟨Z, 3, none⟩ (.int .i64 m.rule.lm)).setCell ⟨Z, 4, none⟩ (.int .i64 m.rule.hm)).setCell ⟨Z, 5, none⟩ (.int .i64 m.rule.ls)).setCell ⟨Z, 6, none⟩ (.int .i64 m.rule.hs)).setCell ⟨Z, 7, none⟩ (.int .i64 m.strand)).setCell ⟨Z, 8, none⟩ (p)).setCell ⟨Z, 9, none⟩ (l)).setCell ⟨Z, 10, none⟩ (h)).setCell ⟨Z, 11, none⟩ (.int .i64 m.scrap)) := by
  have T := other3 Y w (.int .i64 d.s) (.int .i64 d.d) (.int .i64 d.g)
  have r1 := row3 ry (.int .i64 d.s) (.int .i64 d.d) (.int .i64 d.g)
  have r2 := rz.other T (by omega)
  have T2 := fun W => other12 Z W s (.int .i64 m.rule.lc) (.int .i64 m.rule.hc) (.int .i64 m.rule.lm) (.int .i64 m.rule.hm) (.int .i64 m.rule.ls) (.int .i64 m.rule.hs) (.int .i64 m.strand) p l h (.int .i64 m.scrap)
  exact ⟨d, hd1, hd2, row12 r2 hl _ _ _ _ _ _ _ _ _ _ _ _, r1.other (T2 _) (by omega), (G.pastT ry (by decide) (by decide) (by decide) T).past r2 (T2 _), (B.trans (T.below h2 (Nat.le_trans hz B.size))).trans ((T2 _).below h1 (Nat.le_trans hz (Nat.le_trans B.size T.size)))⟩
theorem mda_y {b Z Y : Nat} {w0 w : World} {s p l h u0 u1 u2 : Value} {m : Mi} {d : J} (rz : RowL w Z 31 (millC s p l h m)) (ry : RowL w Y 48 [u0, u1, u2]) (G : MillGot b w s p l h m) (B : Below b w0 w) (hz : b ≤ w0.heap.size) (h2 : b ≤ Y) (hn : Z < Y) (hd1 : d.d ≤ 9223372036854775807) (hd2 : d.g ≤ 9223372036854775807) :
    MillDeedAt b Z Y w0 s p l h m ((((w).setCell ⟨Y, 0, none⟩ (.int .i64 d.s)).setCell ⟨Y, 1, none⟩ (.int .i64 d.d)).setCell ⟨Y, 2, none⟩ (.int .i64 d.g)) := by
  have T := other3 Y w (.int .i64 d.s) (.int .i64 d.d) (.int .i64 d.g)
  exact ⟨d, hd1, hd2, rz.other T (by omega), row3 ry _ _ _, G.pastT ry (by decide) (by decide) (by decide) T, B.trans (T.below h2 (Nat.le_trans hz B.size))⟩
/-- Deeds were drawn, and a mill lies in a box. -/
def MillDeedsAt (b Z : Nat) (w0 : World) (s p l h : Value) (m : Mi) (v : Value) (W : World) : Prop :=
  ∃ js : List J, (∀ j ∈ js, J.d j ≤ 9223372036854775807 ∧ J.g j ≤ 9223372036854775807) ∧ JobsAt 0 W.heap.size W v js ∧ RowL W Z 31 (millC s p l h m) ∧ MillGot b W s p l h m ∧ Below b w0 W

set_option linter.unusedVariables false in
set_option linter.unusedSimpArgs false in
set_option maxRecDepth 10000 in
set_option maxHeartbeats 3200000 in
theorem drawMillDo (v : Value) (n : Nat) (w : World) (hv : BytesAt 0 w.heap.size w v n) :
    Calls Tryz.prog 43 #[v] w fun e w' => ∃ s p l h m d, e = .returned (.tuple #[millV s p l h m, .agg #[.int .i64 (J.s d), .int .i64 d.d, .int .i64 d.g]]) ∧ d.d ≤ 9223372036854775807 ∧ d.g ≤ 9223372036854775807 ∧ MillGot w.heap.size w' s p l h m ∧ Few m ∧ Below w.heap.size w w' := by
  have HB0 := hide hv
  clear hv
  go_enter Tryz.func43, Tryz.ntmps43
  go_wp2_with fail
  refine calls_at fun wx hwx => ?_
  have Z_0 : RowL wx w.heap.size 31 [.slice none 0 0, .int .i64 0, .int .i64 0, .int .i64 0, .int .i64 0, .int .i64 0, .int .i64 0, .int .i64 0, .slice none 0 0, .slice none 0 0, .slice none 0 0, .int .i64 0] := by rw [hwx]; exact (RowL.new _ 31 [.slice none 0 0, .int .i64 0, .int .i64 0, .int .i64 0, .int .i64 0, .int .i64 0, .int .i64 0, .int .i64 0, .slice none 0 0, .slice none 0 0, .slice none 0 0, .int .i64 0]).alloc _
  have Y_0 : RowL wx (w.heap.size + 1) 48 [.int .i64 0, .int .i64 0, .int .i64 0] := by rw [hwx]; simpa using (RowL.new (World.alloc _ _) 48 [.int .i64 0, .int .i64 0, .int .i64 0])
  have hb : Below w.heap.size w wx := by rw [hwx]; go_grown
  have HBx := hide ((HB0.out.below hb (Nat.le_refl _)).mono hb.size (Nat.le_refl _))
  have B_0 := hide hb
  have hz0 := Y_0.lt
  clear hwx hb
  refine (open_any v n wx HBx.out).mono ?_
  rintro e w1 ⟨R, rfl, hR, hb, hr⟩
  have Z_1 := Z_0.below hb Z_0.lt
  have Y_1 := Y_0.below hb Y_0.lt
  have B_1 := hide (Below.step B_0.out hb (Nat.le_refl _))
  have HR1 := hide hr
  have hRl := hr.lt
  have hz1 := hb.size
  clear hb hr
  go_wp2_with fail
  refine (l20Mill_any R _ 12 w1 HR1.out (by omega) (by omega) (by omega)).mono ?_
  rintro e w2 ⟨s, p, l, h, m, rfl, G, hf, ho, hr⟩
  obtain ⟨aS0, cs0, rfl, -, -⟩ := G.so.form
  obtain ⟨ap0, cp0, rfl, -, -⟩ := G.po.form
  obtain ⟨al0, cl0, rfl, -, -⟩ := G.lo.form
  obtain ⟨ah0, ch0, rfl, -, -⟩ := G.ho.form
  have G_2 := hide G
  have Z_2 := Z_1.other ho (by omega)
  have Y_2 := Y_1.other ho (by omega)
  have B_2 := hide (B_1.out.trans (ho.below (by omega) B_1.out.size))
  have HR2 := hide hr
  have hz2 := ho.size
  clear ho hr G
  unfold millV
  go_wp2_with fail
  obtain ⟨wm, hwm⟩ : ∃ q : World, q = w2.alloc (.cells #[.slice aS0 m.store.length cs0, .int .i64 m.rule.lc, .int .i64 m.rule.hc, .int .i64 m.rule.lm, .int .i64 m.rule.hm, .int .i64 m.rule.ls, .int .i64 m.rule.hs, .int .i64 m.strand, .slice ap0 m.pieces.length cp0, .slice al0 m.low.length cl0, .slice ah0 m.high.length ch0, .int .i64 m.scrap] 31) := ⟨_, rfl⟩
  rw [← hwm]
  have M_m : RowL wm w2.heap.size 31 [.slice aS0 m.store.length cs0, .int .i64 m.rule.lc, .int .i64 m.rule.hc, .int .i64 m.rule.lm, .int .i64 m.rule.hm, .int .i64 m.rule.ls, .int .i64 m.rule.hs, .int .i64 m.strand, .slice ap0 m.pieces.length cp0, .slice al0 m.low.length cl0, .slice ah0 m.high.length ch0, .int .i64 m.scrap] := by rw [hwm]; exact RowL.new _ _ _
  have hb : Below w2.heap.size w2 wm := by rw [hwm]; exact (Below.refl _ _).alloc (Nat.le_refl _) _
  have Z_m := Z_2.below hb Z_2.lt
  have Y_m := Y_2.below hb Y_2.lt
  have G_m := hide (G_2.out.below hb)
  have B_m := hide (Below.step B_2.out hb (Nat.le_refl _))
  have HRm := hide (HR2.out.keep hb HR2.out.lt)
  have hzm := hb.size
  have hlM := M_m.lt
  clear hwm hb
  have hI : (World.drew wm).cell? ⟨w2.heap.size, 0, none⟩ = some (.slice aS0 m.store.length cs0) ∧ (World.drew wm).cell? ⟨w2.heap.size, 1, none⟩ = some (.int .i64 m.rule.lc) ∧ (World.drew wm).cell? ⟨w2.heap.size, 2, none⟩ = some (.int .i64 m.rule.hc) ∧ (World.drew wm).cell? ⟨w2.heap.size, 3, none⟩ = some (.int .i64 m.rule.lm) ∧ (World.drew wm).cell? ⟨w2.heap.size, 4, none⟩ = some (.int .i64 m.rule.hm) ∧ (World.drew wm).cell? ⟨w2.heap.size, 5, none⟩ = some (.int .i64 m.rule.ls) ∧ (World.drew wm).cell? ⟨w2.heap.size, 6, none⟩ = some (.int .i64 m.rule.hs) ∧ (World.drew wm).cell? ⟨w2.heap.size, 7, none⟩ = some (.int .i64 m.strand) ∧ (World.drew wm).cell? ⟨w2.heap.size, 8, none⟩ = some (.slice ap0 m.pieces.length cp0) ∧ (World.drew wm).cell? ⟨w2.heap.size, 9, none⟩ = some (.slice al0 m.low.length cl0) ∧ (World.drew wm).cell? ⟨w2.heap.size, 10, none⟩ = some (.slice ah0 m.high.length ch0) ∧ (World.drew wm).cell? ⟨w2.heap.size, 11, none⟩ = some (.int .i64 m.scrap) := row12_all M_m.drew
  have hbd : Below wm.heap.size wm (World.drew wm) := (Below.refl _ _).drew
  have Z_d := Z_m.drew
  have M_d := M_m.drew
  have Y_d := Y_m.drew
  have G_d := hide (G_m.out.below hbd)
  have HRd := hide (show Rd R _ (World.drew wm) from HRm.out.keep hbd HRm.out.lt)
  have B_d := hide (Below.step B_m.out hbd (Nat.le_refl _))
  have hzd : (World.drew wm).heap.size = wm.heap.size := rfl
  have T0 := other12 w.heap.size (World.drew wm) (.slice aS0 m.store.length cs0) (.int .i64 m.rule.lc) (.int .i64 m.rule.hc) (.int .i64 m.rule.lm) (.int .i64 m.rule.hm) (.int .i64 m.rule.ls) (.int .i64 m.rule.hs) (.int .i64 m.strand) (.slice ap0 m.pieces.length cp0) (.slice al0 m.low.length cl0) (.slice ah0 m.high.length ch0) (.int .i64 m.scrap)
  have Z_s := row12 Z_d rfl (.slice aS0 m.store.length cs0) (.int .i64 m.rule.lc) (.int .i64 m.rule.hc) (.int .i64 m.rule.lm) (.int .i64 m.rule.hm) (.int .i64 m.rule.ls) (.int .i64 m.rule.hs) (.int .i64 m.strand) (.slice ap0 m.pieces.length cp0) (.slice al0 m.low.length cl0) (.slice ah0 m.high.length ch0) (.int .i64 m.scrap)
  have M_s := M_d.other T0 (by omega)
  have Y_s := Y_d.other T0 (by omega)
  have G_s := hide (G_d.out.past Z_d T0)
  have HRs := hide (HRd.out.past Z_d (by omega) no8_zero T0)
  have B_s := hide (B_d.out.trans (T0.below (Nat.le_refl _) B_d.out.size))
  have hIs : ((((((((((((((World.drew wm)).setCell ⟨w.heap.size, 0, none⟩ (.slice aS0 m.store.length cs0)).setCell ⟨w.heap.size, 1, none⟩ (.int .i64 m.rule.lc)).setCell ⟨w.heap.size, 2, none⟩ (.int .i64 m.rule.hc)).setCell ⟨w.heap.size, 3, none⟩ (.int .i64 m.rule.lm)).setCell ⟨w.heap.size, 4, none⟩ (.int .i64 m.rule.hm)).setCell ⟨w.heap.size, 5, none⟩ (.int .i64 m.rule.ls)).setCell ⟨w.heap.size, 6, none⟩ (.int .i64 m.rule.hs)).setCell ⟨w.heap.size, 7, none⟩ (.int .i64 m.strand)).setCell ⟨w.heap.size, 8, none⟩ (.slice ap0 m.pieces.length cp0)).setCell ⟨w.heap.size, 9, none⟩ (.slice al0 m.low.length cl0)).setCell ⟨w.heap.size, 10, none⟩ (.slice ah0 m.high.length ch0)).setCell ⟨w.heap.size, 11, none⟩ (.int .i64 m.scrap)).cell? ⟨w2.heap.size, 0, none⟩ = some (.slice aS0 m.store.length cs0) ∧ ((((((((((((((World.drew wm)).setCell ⟨w.heap.size, 0, none⟩ (.slice aS0 m.store.length cs0)).setCell ⟨w.heap.size, 1, none⟩ (.int .i64 m.rule.lc)).setCell ⟨w.heap.size, 2, none⟩ (.int .i64 m.rule.hc)).setCell ⟨w.heap.size, 3, none⟩ (.int .i64 m.rule.lm)).setCell ⟨w.heap.size, 4, none⟩ (.int .i64 m.rule.hm)).setCell ⟨w.heap.size, 5, none⟩ (.int .i64 m.rule.ls)).setCell ⟨w.heap.size, 6, none⟩ (.int .i64 m.rule.hs)).setCell ⟨w.heap.size, 7, none⟩ (.int .i64 m.strand)).setCell ⟨w.heap.size, 8, none⟩ (.slice ap0 m.pieces.length cp0)).setCell ⟨w.heap.size, 9, none⟩ (.slice al0 m.low.length cl0)).setCell ⟨w.heap.size, 10, none⟩ (.slice ah0 m.high.length ch0)).setCell ⟨w.heap.size, 11, none⟩ (.int .i64 m.scrap)).cell? ⟨w2.heap.size, 1, none⟩ = some (.int .i64 m.rule.lc) ∧ ((((((((((((((World.drew wm)).setCell ⟨w.heap.size, 0, none⟩ (.slice aS0 m.store.length cs0)).setCell ⟨w.heap.size, 1, none⟩ (.int .i64 m.rule.lc)).setCell ⟨w.heap.size, 2, none⟩ (.int .i64 m.rule.hc)).setCell ⟨w.heap.size, 3, none⟩ (.int .i64 m.rule.lm)).setCell ⟨w.heap.size, 4, none⟩ (.int .i64 m.rule.hm)).setCell ⟨w.heap.size, 5, none⟩ (.int .i64 m.rule.ls)).setCell ⟨w.heap.size, 6, none⟩ (.int .i64 m.rule.hs)).setCell ⟨w.heap.size, 7, none⟩ (.int .i64 m.strand)).setCell ⟨w.heap.size, 8, none⟩ (.slice ap0 m.pieces.length cp0)).setCell ⟨w.heap.size, 9, none⟩ (.slice al0 m.low.length cl0)).setCell ⟨w.heap.size, 10, none⟩ (.slice ah0 m.high.length ch0)).setCell ⟨w.heap.size, 11, none⟩ (.int .i64 m.scrap)).cell? ⟨w2.heap.size, 2, none⟩ = some (.int .i64 m.rule.hc) ∧ ((((((((((((((World.drew wm)).setCell ⟨w.heap.size, 0, none⟩ (.slice aS0 m.store.length cs0)).setCell ⟨w.heap.size, 1, none⟩ (.int .i64 m.rule.lc)).setCell ⟨w.heap.size, 2, none⟩ (.int .i64 m.rule.hc)).setCell ⟨w.heap.size, 3, none⟩ (.int .i64 m.rule.lm)).setCell ⟨w.heap.size, 4, none⟩ (.int .i64 m.rule.hm)).setCell ⟨w.heap.size, 5, none⟩ (.int .i64 m.rule.ls)).setCell ⟨w.heap.size, 6, none⟩ (.int .i64 m.rule.hs)).setCell ⟨w.heap.size, 7, none⟩ (.int .i64 m.strand)).setCell ⟨w.heap.size, 8, none⟩ (.slice ap0 m.pieces.length cp0)).setCell ⟨w.heap.size, 9, none⟩ (.slice al0 m.low.length cl0)).setCell ⟨w.heap.size, 10, none⟩ (.slice ah0 m.high.length ch0)).setCell ⟨w.heap.size, 11, none⟩ (.int .i64 m.scrap)).cell? ⟨w2.heap.size, 3, none⟩ = some (.int .i64 m.rule.lm) ∧ ((((((((((((((World.drew wm)).setCell ⟨w.heap.size, 0, none⟩ (.slice aS0 m.store.length cs0)).setCell ⟨w.heap.size, 1, none⟩ (.int .i64 m.rule.lc)).setCell ⟨w.heap.size, 2, none⟩ (.int .i64 m.rule.hc)).setCell ⟨w.heap.size, 3, none⟩ (.int .i64 m.rule.lm)).setCell ⟨w.heap.size, 4, none⟩ (.int .i64 m.rule.hm)).setCell ⟨w.heap.size, 5, none⟩ (.int .i64 m.rule.ls)).setCell ⟨w.heap.size, 6, none⟩ (.int .i64 m.rule.hs)).setCell ⟨w.heap.size, 7, none⟩ (.int .i64 m.strand)).setCell ⟨w.heap.size, 8, none⟩ (.slice ap0 m.pieces.length cp0)).setCell ⟨w.heap.size, 9, none⟩ (.slice al0 m.low.length cl0)).setCell ⟨w.heap.size, 10, none⟩ (.slice ah0 m.high.length ch0)).setCell ⟨w.heap.size, 11, none⟩ (.int .i64 m.scrap)).cell? ⟨w2.heap.size, 4, none⟩ = some (.int .i64 m.rule.hm) ∧ ((((((((((((((World.drew wm)).setCell ⟨w.heap.size, 0, none⟩ (.slice aS0 m.store.length cs0)).setCell ⟨w.heap.size, 1, none⟩ (.int .i64 m.rule.lc)).setCell ⟨w.heap.size, 2, none⟩ (.int .i64 m.rule.hc)).setCell ⟨w.heap.size, 3, none⟩ (.int .i64 m.rule.lm)).setCell ⟨w.heap.size, 4, none⟩ (.int .i64 m.rule.hm)).setCell ⟨w.heap.size, 5, none⟩ (.int .i64 m.rule.ls)).setCell ⟨w.heap.size, 6, none⟩ (.int .i64 m.rule.hs)).setCell ⟨w.heap.size, 7, none⟩ (.int .i64 m.strand)).setCell ⟨w.heap.size, 8, none⟩ (.slice ap0 m.pieces.length cp0)).setCell ⟨w.heap.size, 9, none⟩ (.slice al0 m.low.length cl0)).setCell ⟨w.heap.size, 10, none⟩ (.slice ah0 m.high.length ch0)).setCell ⟨w.heap.size, 11, none⟩ (.int .i64 m.scrap)).cell? ⟨w2.heap.size, 5, none⟩ = some (.int .i64 m.rule.ls) ∧ ((((((((((((((World.drew wm)).setCell ⟨w.heap.size, 0, none⟩ (.slice aS0 m.store.length cs0)).setCell ⟨w.heap.size, 1, none⟩ (.int .i64 m.rule.lc)).setCell ⟨w.heap.size, 2, none⟩ (.int .i64 m.rule.hc)).setCell ⟨w.heap.size, 3, none⟩ (.int .i64 m.rule.lm)).setCell ⟨w.heap.size, 4, none⟩ (.int .i64 m.rule.hm)).setCell ⟨w.heap.size, 5, none⟩ (.int .i64 m.rule.ls)).setCell ⟨w.heap.size, 6, none⟩ (.int .i64 m.rule.hs)).setCell ⟨w.heap.size, 7, none⟩ (.int .i64 m.strand)).setCell ⟨w.heap.size, 8, none⟩ (.slice ap0 m.pieces.length cp0)).setCell ⟨w.heap.size, 9, none⟩ (.slice al0 m.low.length cl0)).setCell ⟨w.heap.size, 10, none⟩ (.slice ah0 m.high.length ch0)).setCell ⟨w.heap.size, 11, none⟩ (.int .i64 m.scrap)).cell? ⟨w2.heap.size, 6, none⟩ = some (.int .i64 m.rule.hs) ∧ ((((((((((((((World.drew wm)).setCell ⟨w.heap.size, 0, none⟩ (.slice aS0 m.store.length cs0)).setCell ⟨w.heap.size, 1, none⟩ (.int .i64 m.rule.lc)).setCell ⟨w.heap.size, 2, none⟩ (.int .i64 m.rule.hc)).setCell ⟨w.heap.size, 3, none⟩ (.int .i64 m.rule.lm)).setCell ⟨w.heap.size, 4, none⟩ (.int .i64 m.rule.hm)).setCell ⟨w.heap.size, 5, none⟩ (.int .i64 m.rule.ls)).setCell ⟨w.heap.size, 6, none⟩ (.int .i64 m.rule.hs)).setCell ⟨w.heap.size, 7, none⟩ (.int .i64 m.strand)).setCell ⟨w.heap.size, 8, none⟩ (.slice ap0 m.pieces.length cp0)).setCell ⟨w.heap.size, 9, none⟩ (.slice al0 m.low.length cl0)).setCell ⟨w.heap.size, 10, none⟩ (.slice ah0 m.high.length ch0)).setCell ⟨w.heap.size, 11, none⟩ (.int .i64 m.scrap)).cell? ⟨w2.heap.size, 7, none⟩ = some (.int .i64 m.strand) ∧ ((((((((((((((World.drew wm)).setCell ⟨w.heap.size, 0, none⟩ (.slice aS0 m.store.length cs0)).setCell ⟨w.heap.size, 1, none⟩ (.int .i64 m.rule.lc)).setCell ⟨w.heap.size, 2, none⟩ (.int .i64 m.rule.hc)).setCell ⟨w.heap.size, 3, none⟩ (.int .i64 m.rule.lm)).setCell ⟨w.heap.size, 4, none⟩ (.int .i64 m.rule.hm)).setCell ⟨w.heap.size, 5, none⟩ (.int .i64 m.rule.ls)).setCell ⟨w.heap.size, 6, none⟩ (.int .i64 m.rule.hs)).setCell ⟨w.heap.size, 7, none⟩ (.int .i64 m.strand)).setCell ⟨w.heap.size, 8, none⟩ (.slice ap0 m.pieces.length cp0)).setCell ⟨w.heap.size, 9, none⟩ (.slice al0 m.low.length cl0)).setCell ⟨w.heap.size, 10, none⟩ (.slice ah0 m.high.length ch0)).setCell ⟨w.heap.size, 11, none⟩ (.int .i64 m.scrap)).cell? ⟨w2.heap.size, 8, none⟩ = some (.slice ap0 m.pieces.length cp0) ∧ ((((((((((((((World.drew wm)).setCell ⟨w.heap.size, 0, none⟩ (.slice aS0 m.store.length cs0)).setCell ⟨w.heap.size, 1, none⟩ (.int .i64 m.rule.lc)).setCell ⟨w.heap.size, 2, none⟩ (.int .i64 m.rule.hc)).setCell ⟨w.heap.size, 3, none⟩ (.int .i64 m.rule.lm)).setCell ⟨w.heap.size, 4, none⟩ (.int .i64 m.rule.hm)).setCell ⟨w.heap.size, 5, none⟩ (.int .i64 m.rule.ls)).setCell ⟨w.heap.size, 6, none⟩ (.int .i64 m.rule.hs)).setCell ⟨w.heap.size, 7, none⟩ (.int .i64 m.strand)).setCell ⟨w.heap.size, 8, none⟩ (.slice ap0 m.pieces.length cp0)).setCell ⟨w.heap.size, 9, none⟩ (.slice al0 m.low.length cl0)).setCell ⟨w.heap.size, 10, none⟩ (.slice ah0 m.high.length ch0)).setCell ⟨w.heap.size, 11, none⟩ (.int .i64 m.scrap)).cell? ⟨w2.heap.size, 9, none⟩ = some (.slice al0 m.low.length cl0) ∧ ((((((((((((((World.drew wm)).setCell ⟨w.heap.size, 0, none⟩ (.slice aS0 m.store.length cs0)).setCell ⟨w.heap.size, 1, none⟩ (.int .i64 m.rule.lc)).setCell ⟨w.heap.size, 2, none⟩ (.int .i64 m.rule.hc)).setCell ⟨w.heap.size, 3, none⟩ (.int .i64 m.rule.lm)).setCell ⟨w.heap.size, 4, none⟩ (.int .i64 m.rule.hm)).setCell ⟨w.heap.size, 5, none⟩ (.int .i64 m.rule.ls)).setCell ⟨w.heap.size, 6, none⟩ (.int .i64 m.rule.hs)).setCell ⟨w.heap.size, 7, none⟩ (.int .i64 m.strand)).setCell ⟨w.heap.size, 8, none⟩ (.slice ap0 m.pieces.length cp0)).setCell ⟨w.heap.size, 9, none⟩ (.slice al0 m.low.length cl0)).setCell ⟨w.heap.size, 10, none⟩ (.slice ah0 m.high.length ch0)).setCell ⟨w.heap.size, 11, none⟩ (.int .i64 m.scrap)).cell? ⟨w2.heap.size, 10, none⟩ = some (.slice ah0 m.high.length ch0) ∧ ((((((((((((((World.drew wm)).setCell ⟨w.heap.size, 0, none⟩ (.slice aS0 m.store.length cs0)).setCell ⟨w.heap.size, 1, none⟩ (.int .i64 m.rule.lc)).setCell ⟨w.heap.size, 2, none⟩ (.int .i64 m.rule.hc)).setCell ⟨w.heap.size, 3, none⟩ (.int .i64 m.rule.lm)).setCell ⟨w.heap.size, 4, none⟩ (.int .i64 m.rule.hm)).setCell ⟨w.heap.size, 5, none⟩ (.int .i64 m.rule.ls)).setCell ⟨w.heap.size, 6, none⟩ (.int .i64 m.rule.hs)).setCell ⟨w.heap.size, 7, none⟩ (.int .i64 m.strand)).setCell ⟨w.heap.size, 8, none⟩ (.slice ap0 m.pieces.length cp0)).setCell ⟨w.heap.size, 9, none⟩ (.slice al0 m.low.length cl0)).setCell ⟨w.heap.size, 10, none⟩ (.slice ah0 m.high.length ch0)).setCell ⟨w.heap.size, 11, none⟩ (.int .i64 m.scrap)).cell? ⟨w2.heap.size, 11, none⟩ = some (.int .i64 m.scrap) := row12_all M_s
  have hzs := T0.size
  clear hbd
  obtain ⟨zc0, zc1, zc2, zc3, zc4, zc5, zc6, zc7, zc8, zc9, zc10, zc11⟩ := row12_c Z_d
  obtain ⟨zf0, zf1, zf2, zf3, zf4, zf5, zf6, zf7, zf8, zf9, zf10, zf11⟩ := row12_f Z_d
  have yc0 := Y_d.c 0 rfl
  have yc1 := Y_d.c 1 rfl
  have yc2 := Y_d.c 2 rfl
  have yf0 := Y_d.frozen 0
  have yf1 := Y_d.frozen 1
  have yf2 := Y_d.frozen 2
  go_cut [] from 10 to 13 (fun W => MillDeedAt w.heap.size w.heap.size (w.heap.size + 1) w (.slice aS0 m.store.length cs0) (.slice ap0 m.pieces.length cp0) (.slice al0 m.low.length cl0) (.slice ah0 m.high.length ch0) m W)
  case first =>
    go_region_held (fun W => W.cell? ⟨w2.heap.size, 0, none⟩ = some (.slice aS0 m.store.length cs0) ∧ W.cell? ⟨w2.heap.size, 1, none⟩ = some (.int .i64 m.rule.lc) ∧ W.cell? ⟨w2.heap.size, 2, none⟩ = some (.int .i64 m.rule.hc) ∧ W.cell? ⟨w2.heap.size, 3, none⟩ = some (.int .i64 m.rule.lm) ∧ W.cell? ⟨w2.heap.size, 4, none⟩ = some (.int .i64 m.rule.hm) ∧ W.cell? ⟨w2.heap.size, 5, none⟩ = some (.int .i64 m.rule.ls) ∧ W.cell? ⟨w2.heap.size, 6, none⟩ = some (.int .i64 m.rule.hs) ∧ W.cell? ⟨w2.heap.size, 7, none⟩ = some (.int .i64 m.strand) ∧ W.cell? ⟨w2.heap.size, 8, none⟩ = some (.slice ap0 m.pieces.length cp0) ∧ W.cell? ⟨w2.heap.size, 9, none⟩ = some (.slice al0 m.low.length cl0) ∧ W.cell? ⟨w2.heap.size, 10, none⟩ = some (.slice ah0 m.high.length ch0) ∧ W.cell? ⟨w2.heap.size, 11, none⟩ = some (.int .i64 m.scrap)) (first | (with_reducible exact hI) | (with_reducible exact hIs) | (with_reducible exact hS6) | (with_reducible exact K1) | (with_reducible exact K2) | (with_reducible exact K3) | (with_reducible exact K4)) (first
      | (go_at_call 106; (first | (have hd := l20MillDeed_any R _ (.slice aS0 m.store.length cs0) (.slice ap0 m.pieces.length cp0) (.slice al0 m.low.length cl0) (.slice ah0 m.high.length ch0) m _ HRd.out (by omega) G_d.out.all hf; unfold millV at hd; (with_reducible refine hd.mono ?_)) | (have hd := l20MillDeed_any R _ (.slice aS0 m.store.length cs0) (.slice ap0 m.pieces.length cp0) (.slice al0 m.low.length cl0) (.slice ah0 m.high.length ch0) m _ HRs.out (by omega) G_s.out.all hf; unfold millV at hd; (with_reducible refine hd.mono ?_))); clear hd; rintro e w6 ⟨dj, rfl, hd1, hd2, ho, hr⟩; (first | (have M_6 := M_d.other ho (by omega); have Z_6 := Z_d.other ho (by omega); have Y_6 := Y_d.other ho (by omega); have G_6 := hide (G_d.out.other ho (by omega)); have B_6 := hide (B_d.out.trans (ho.below (by omega) B_d.out.size))) | (have M_6 := M_s.other ho (by omega); have Z_6 := Z_s.other ho (by omega); have Y_6 := Y_s.other ho (by omega); have G_6 := hide (G_s.out.other ho (by omega)); have B_6 := hide (B_s.out.trans (ho.below (by omega) B_s.out.size)))); have hS6 : w6.cell? ⟨w2.heap.size, 0, none⟩ = some (.slice aS0 m.store.length cs0) ∧ w6.cell? ⟨w2.heap.size, 1, none⟩ = some (.int .i64 m.rule.lc) ∧ w6.cell? ⟨w2.heap.size, 2, none⟩ = some (.int .i64 m.rule.hc) ∧ w6.cell? ⟨w2.heap.size, 3, none⟩ = some (.int .i64 m.rule.lm) ∧ w6.cell? ⟨w2.heap.size, 4, none⟩ = some (.int .i64 m.rule.hm) ∧ w6.cell? ⟨w2.heap.size, 5, none⟩ = some (.int .i64 m.rule.ls) ∧ w6.cell? ⟨w2.heap.size, 6, none⟩ = some (.int .i64 m.rule.hs) ∧ w6.cell? ⟨w2.heap.size, 7, none⟩ = some (.int .i64 m.strand) ∧ w6.cell? ⟨w2.heap.size, 8, none⟩ = some (.slice ap0 m.pieces.length cp0) ∧ w6.cell? ⟨w2.heap.size, 9, none⟩ = some (.slice al0 m.low.length cl0) ∧ w6.cell? ⟨w2.heap.size, 10, none⟩ = some (.slice ah0 m.high.length ch0) ∧ w6.cell? ⟨w2.heap.size, 11, none⟩ = some (.int .i64 m.scrap) := row12_all M_6; have hz6 := ho.size; obtain ⟨zc0, zc1, zc2, zc3, zc4, zc5, zc6, zc7, zc8, zc9, zc10, zc11⟩ := row12_c Z_6; obtain ⟨zf0, zf1, zf2, zf3, zf4, zf5, zf6, zf7, zf8, zf9, zf10, zf11⟩ := row12_f Z_6; have yc0 := Y_6.c 0 rfl; have yc1 := Y_6.c 1 rfl; have yc2 := Y_6.c 2 rfl; have yf0 := Y_6.frozen 0; have yf1 := Y_6.frozen 1; have yf2 := Y_6.frozen 2; have T1 := fun W => other12 w.heap.size W (.slice aS0 m.store.length cs0) (.int .i64 m.rule.lc) (.int .i64 m.rule.hc) (.int .i64 m.rule.lm) (.int .i64 m.rule.hm) (.int .i64 m.rule.ls) (.int .i64 m.rule.hs) (.int .i64 m.strand) (.slice ap0 m.pieces.length cp0) (.slice al0 m.low.length cl0) (.slice ah0 m.high.length ch0) (.int .i64 m.scrap); have T2 := fun W => other3 (w.heap.size + 1) W (.int .i64 dj.s) (.int .i64 dj.d) (.int .i64 dj.g); have K1 := row12_all (M_6.other (T1 w6) (by omega)); have K2 := row12_all (M_6.other (T2 w6) (by omega)); have K3 := row12_all ((M_6.other (T1 w6) (by omega)).other (T2 _) (by omega)); have K4 := row12_all ((M_6.other (T2 w6) (by omega)).other (T1 _) (by omega)); clear ho hr T1 T2))
    all_goals
      go_wp2_with fail
      go_meet
      first
        | (have hx := mda_zy Z_6 rfl Y_6 (G_6.out.mono (by omega)) B_6.out (Nat.le_refl _) (Nat.le_refl _) (Nat.le_succ _) (Nat.lt_succ_self _) hd1 hd2
           with_reducible exact hx)
        | (have hx := mda_yz Z_6 rfl Y_6 (G_6.out.mono (by omega)) B_6.out (Nat.le_refl _) (Nat.le_refl _) (Nat.le_succ _) (Nat.lt_succ_self _) hd1 hd2
           with_reducible exact hx)
        | (have hx := mda_y Z_6 Y_6 (G_6.out.mono (by omega)) B_6.out (Nat.le_refl _) (Nat.le_succ _) (Nat.lt_succ_self _) hd1 hd2
           with_reducible exact hx)
  clear hI hIs
  obtain ⟨dj, hd1, hd2, Z_f, Y_f, G, hB⟩ := hcut
  have Z_f : RowL wc w.heap.size 31 [.slice aS0 m.store.length cs0, .int .i64 m.rule.lc, .int .i64 m.rule.hc, .int .i64 m.rule.lm, .int .i64 m.rule.hm, .int .i64 m.rule.ls, .int .i64 m.rule.hs, .int .i64 m.strand, .slice ap0 m.pieces.length cp0, .slice al0 m.low.length cl0, .slice ah0 m.high.length ch0, .int .i64 m.scrap] := Z_f
  have cZ0 : wc.cell? ⟨w.heap.size, 0, none⟩ = some (.slice aS0 m.store.length cs0) := Z_f.c 0 rfl
  have cZ1 : wc.cell? ⟨w.heap.size, 1, none⟩ = some (.int .i64 m.rule.lc) := Z_f.c 1 rfl
  have cZ2 : wc.cell? ⟨w.heap.size, 2, none⟩ = some (.int .i64 m.rule.hc) := Z_f.c 2 rfl
  have cZ3 : wc.cell? ⟨w.heap.size, 3, none⟩ = some (.int .i64 m.rule.lm) := Z_f.c 3 rfl
  have cZ4 : wc.cell? ⟨w.heap.size, 4, none⟩ = some (.int .i64 m.rule.hm) := Z_f.c 4 rfl
  have cZ5 : wc.cell? ⟨w.heap.size, 5, none⟩ = some (.int .i64 m.rule.ls) := Z_f.c 5 rfl
  have cZ6 : wc.cell? ⟨w.heap.size, 6, none⟩ = some (.int .i64 m.rule.hs) := Z_f.c 6 rfl
  have cZ7 : wc.cell? ⟨w.heap.size, 7, none⟩ = some (.int .i64 m.strand) := Z_f.c 7 rfl
  have cZ8 : wc.cell? ⟨w.heap.size, 8, none⟩ = some (.slice ap0 m.pieces.length cp0) := Z_f.c 8 rfl
  have cZ9 : wc.cell? ⟨w.heap.size, 9, none⟩ = some (.slice al0 m.low.length cl0) := Z_f.c 9 rfl
  have cZ10 : wc.cell? ⟨w.heap.size, 10, none⟩ = some (.slice ah0 m.high.length ch0) := Z_f.c 10 rfl
  have cZ11 : wc.cell? ⟨w.heap.size, 11, none⟩ = some (.int .i64 m.scrap) := Z_f.c 11 rfl
  have cY0 : wc.cell? ⟨w.heap.size + 1, 0, none⟩ = some (.int .i64 dj.s) := Y_f.c 0 rfl
  have cY1 : wc.cell? ⟨w.heap.size + 1, 1, none⟩ = some (.int .i64 dj.d) := Y_f.c 1 rfl
  have cY2 : wc.cell? ⟨w.heap.size + 1, 2, none⟩ = some (.int .i64 dj.g) := Y_f.c 2 rfl
  go_wp2_with fail
  refine bodyPost_ret (by simp [results, Tryz.results43, go_sem, cZ0, cZ1, cZ2, cZ3, cZ4, cZ5, cZ6, cZ7, cZ8, cZ9, cZ10, cZ11, cY0, cY1, cY2]; try rfl) rfl ?_
  exact ⟨_, _, _, _, m, dj, rfl, hd1, hd2, G, hf, hB⟩
end Go.Proofs.YtmemgbklgcjobaaGreatDoor
