/-
  Parts of the proof, of 1 texts: what RunS show. Conditions: each theorem states its own.
-/
import Derived.Deep.CutRange
import Derived.Deep.RegionHeld
import Derived.Deep.RegionWith
import Derived.Test.YtajjnciookhamaaGreatM44
import Derived.Test.YtajjnciookhamaaGreatM36
namespace Go.Proofs.YtajjnciookhamaaGreat
open Go.RowKit
set_option linter.unusedSimpArgs false in
set_option maxRecDepth 10000 in
set_option maxHeartbeats 16000000 in
theorem run_spec (s p l h v : Value) (m : Mi) (js : List J) (w : World) (H : MillIn 0 w.heap.size w s p l h m) (Hj : JobsAt 0 w.heap.size w v js) (hr : ∀ j ∈ js, j.d ≤ 9223372036854775807 ∧ j.g ≤ 9223372036854775807) :
    Calls Tryz.prog 14 #[millV s p l h m, v] w (RunGot w.heap.size (runR m js) w) := by
  obtain ⟨ao1, cap1, rfl, -, -, -, -⟩ := id H.store
  obtain ⟨ao2, cap2, rfl, -, -, -, -⟩ := id H.pieces
  obtain ⟨ao3, cap3, rfl, -, -, -, -⟩ := id H.low
  obtain ⟨ao4, cap4, rfl, -, -, -, -⟩ := id H.high
  have HM := hide H
  have HJ := hide Hj
  have HR := hide hr
  obtain ⟨aoj, cpj, rfl, -, -, -, -⟩ := Hj
  clear H hr
  unfold millV
  go_enter Tryz.func14, Tryz.ntmps14
  go_wp2_with fail
  refine calls_at fun wx hwx => ?_
  have A_0 : RowL wx (w.heap.size) 39 [.slice ao1 m.store.length cap1, .int .i64 m.rule.lc, .int .i64 m.rule.hc, .int .i64 m.rule.lm, .int .i64 m.rule.hm, .int .i64 m.rule.ls, .int .i64 m.rule.hs, .int .i64 m.strand, .slice ao2 m.pieces.length cap2, .slice ao3 m.low.length cap3, .slice ao4 m.high.length cap4, .int .i64 m.scrap] := by rw [hwx]; exact (RowL.new _ 39 [.slice ao1 m.store.length cap1, .int .i64 m.rule.lc, .int .i64 m.rule.hc, .int .i64 m.rule.lm, .int .i64 m.rule.hm, .int .i64 m.rule.ls, .int .i64 m.rule.hs, .int .i64 m.strand, .slice ao2 m.pieces.length cap2, .slice ao3 m.low.length cap3, .slice ao4 m.high.length cap4, .int .i64 m.scrap]).alloc _
  have R_0 : RowL wx (w.heap.size + 1) 39 [.slice none 0 0, .int .i64 0, .int .i64 0, .int .i64 0, .int .i64 0, .int .i64 0, .int .i64 0, .int .i64 0, .slice none 0 0, .slice none 0 0, .slice none 0 0, .int .i64 0] := by rw [hwx]; simpa using (RowL.new (World.alloc _ _) 39 [.slice none 0 0, .int .i64 0, .int .i64 0, .int .i64 0, .int .i64 0, .int .i64 0, .int .i64 0, .int .i64 0, .slice none 0 0, .slice none 0 0, .slice none 0 0, .int .i64 0])
  have B_0 : Below w.heap.size w wx := by rw [hwx]; go_grown
  clear hwx
  have hL0 := R_0.lt
  have V_0 := hide (HM.out.below B_0)
  have k1 := mill_spec _ _ _ _ m wx V_0.out.all
  unfold millV at k1
  cases hv : millB m with
  | false =>
    rw [hv] at k1
    have HZ := hide (run_bad (m := m) (l := js) (.inl hv))
    clear hv
    refine k1.mono ?_
    rintro e w1 ⟨rfl, hb⟩
    have R_1 := R_0.below hb R_0.lt
    have B_1 := hide (Below.step B_0 hb (Nat.le_refl _))
    clear hb k1
    have cR0 := R_1.c 0 rfl
    have cR1 := R_1.c 1 rfl
    have cR2 := R_1.c 2 rfl
    have cR3 := R_1.c 3 rfl
    have cR4 := R_1.c 4 rfl
    have cR5 := R_1.c 5 rfl
    have cR6 := R_1.c 6 rfl
    have cR7 := R_1.c 7 rfl
    have cR8 := R_1.c 8 rfl
    have cR9 := R_1.c 9 rfl
    have cR10 := R_1.c 10 rfl
    have cR11 := R_1.c 11 rfl
    have fR0 := R_1.frozen 0
    have fR1 := R_1.frozen 1
    have fR2 := R_1.frozen 2
    have fR3 := R_1.frozen 3
    have fR4 := R_1.frozen 4
    have fR5 := R_1.frozen 5
    have fR6 := R_1.frozen 6
    have fR7 := R_1.frozen 7
    have fR8 := R_1.frozen 8
    have fR9 := R_1.frozen 9
    have fR10 := R_1.frozen 10
    have fR11 := R_1.frozen 11
    go_wp2_with fail
    refine bodyPost_ret (by simp [results, Tryz.results14, go_sem, cR0, cR1, cR2, cR3, cR4, cR5, cR6, cR7, cR8, cR9, cR10, cR11]; try rfl) rfl ?_
    rw [HZ.out]
    exact ⟨_, _, _, _, rfl, zero_got B_1.out (Nat.le_refl _) (by omega) _ _ _ _ _ _ _ _ _ _ _ _⟩
  | true =>
    rw [hv] at k1
    obtain ⟨n1, n2, n3, n4⟩ := few_of hv
    have HV := hide hv
    clear hv
    refine k1.mono ?_
    rintro e w1 ⟨rfl, hb⟩
    have A_1 := A_0.below hb A_0.lt
    have R_1 := R_0.below hb R_0.lt
    have V_1 := hide (V_0.out.below hb)
    have B_1 := hide (Below.step B_0 hb (Nat.le_refl _))
    have hz1 := hb.size
    clear hb k1
    by_cases hl : js.length ≤ 99
    rotate_left
    · have hlB : decide (99 < (js.length : Int)) = true := by simp; omega
      have HZ := hide (run_bad (m := m) (l := js) (.inr (by omega)))
      have cR0 := R_1.c 0 rfl
      have cR1 := R_1.c 1 rfl
      have cR2 := R_1.c 2 rfl
      have cR3 := R_1.c 3 rfl
      have cR4 := R_1.c 4 rfl
      have cR5 := R_1.c 5 rfl
      have cR6 := R_1.c 6 rfl
      have cR7 := R_1.c 7 rfl
      have cR8 := R_1.c 8 rfl
      have cR9 := R_1.c 9 rfl
      have cR10 := R_1.c 10 rfl
      have cR11 := R_1.c 11 rfl
      have fR0 := R_1.frozen 0
      have fR1 := R_1.frozen 1
      have fR2 := R_1.frozen 2
      have fR3 := R_1.frozen 3
      have fR4 := R_1.frozen 4
      have fR5 := R_1.frozen 5
      have fR6 := R_1.frozen 6
      have fR7 := R_1.frozen 7
      have fR8 := R_1.frozen 8
      have fR9 := R_1.frozen 9
      have fR10 := R_1.frozen 10
      have fR11 := R_1.frozen 11
      go_wp2_with fail
      refine bodyPost_ret (by simp [results, Tryz.results14, go_sem, cR0, cR1, cR2, cR3, cR4, cR5, cR6, cR7, cR8, cR9, cR10, cR11]; try rfl) rfl ?_
      rw [HZ.out]
      exact ⟨_, _, _, _, rfl, zero_got B_1.out (Nat.le_refl _) (by omega) _ _ _ _ _ _ _ _ _ _ _ _⟩
    · have hlB : decide (99 < (js.length : Int)) = false := by simp; omega
      have HZ := hide (run_good HV.out hl)
      have cA0 := A_1.c 0 rfl
      have cA1 := A_1.c 1 rfl
      have cA2 := A_1.c 2 rfl
      have cA3 := A_1.c 3 rfl
      have cA4 := A_1.c 4 rfl
      have cA5 := A_1.c 5 rfl
      have cA6 := A_1.c 6 rfl
      have cA7 := A_1.c 7 rfl
      have cA8 := A_1.c 8 rfl
      have cA9 := A_1.c 9 rfl
      have cA10 := A_1.c 10 rfl
      have cA11 := A_1.c 11 rfl
      go_wp2_with fail
      clear cA0 cA1 cA2 cA3 cA4 cA5 cA6 cA7 cA8 cA9 cA10 cA11
      have k2 := l8Copy_any _ _ _ _ m w1 V_1.out.all n1 n2 n3 n4
      unfold millV at k2
      refine k2.mono ?_
      clear k2
      rintro e w2 ⟨s2, p2, l2, h2, rfl, G, hb⟩
      have R_2 := R_1.below hb R_1.lt
      have B_2 := hide (Below.step B_1.out hb (Nat.le_refl _))
      have hz2 := hb.size
      have hL2 := R_2.lt
      have J_2 := hide (HJ.out.below B_2.out)
      clear hb
      have G_2 := hide G
      obtain ⟨aS, cs, rfl, -, -⟩ := G.so.form
      obtain ⟨ap, cp, rfl, -, -⟩ := G.po.form
      obtain ⟨al, cl, rfl, -, -⟩ := G.lo.form
      obtain ⟨ah, ch, rfl, -, -⟩ := G.ho.form
      clear G
      unfold millV
      go_wp2_with fail
      go_loopw [7, 8] (fun n i wr => ∃ (kk : Nat) (s p l h : Value), kk ≤ js.length ∧ i = .int .i64 (kk : Int) ∧ n = .int .i64 (runTo m (js.take kk)).2 ∧ Below w2.heap.size w2 wr ∧ RowL wr w2.heap.size 39 (millC s p l h (runTo m (js.take kk)).1) ∧ MillGot w1.heap.size wr s p l h (runTo m (js.take kk)).1) (fun _ i _ => js.length - (intOf i).toNat)
      case atStart => exact ⟨0, _, _, _, _, Nat.zero_le _, rfl, rfl, (Below.refl _ _).alloc (Nat.le_refl _) _, RowL.new w2 39 (millC _ _ _ _ m), G_2.out.below ((Below.refl _ _).alloc (Nat.le_refl _) _)⟩
      case round =>
        obtain ⟨kk, s3, p3, l3, h3, hkk, rfl, rfl, hb, C_r, G⟩ := hrel
        have R_r := R_2.below hb hL2
        have B_r := hide (B_2.out.trans (hb.mono (by omega)))
        have HB := hide hb
        have hzr := hb.size
        have J_r := hide (J_2.out.keep (fun g h1 h2 => hb.block g (by omega)) hb.size)
        clear hb
        by_cases hlt : kk < js.length
        · have HT := hide (run_take m hlt)
          have hnb := run_bd (js.take kk) (m, 0)
          have hnl : (js.take kk).length = kk := by rw [List.length_take]; omega
          rw [hnl] at hnb
          have hrj := HR.out _ (show js.getD kk jz ∈ js by rw [List.getD_eq_getElem?_getD, List.getElem?_eq_getElem hlt]; exact List.getElem_mem _)
          obtain ⟨b, ob, cpb, e1, hbj, hbj2, j0, j1, j2⟩ := jb_at J_r.out hlt
          cases e1
          obtain ⟨⟨x, nn⟩, hx⟩ : ∃ z, runTo m (js.take kk) = z := ⟨_, rfl⟩
          have hnb2 : 0 ≤ nn ∧ nn ≤ (kk : Int) := by
            have e : ((js.take kk).foldl runS (m, 0)).2 = nn := congrArg Prod.snd hx
            rw [e] at hnb
            simpa using hnb
          rw [hx] at HT C_r G
          rw [hx]
          have C_r : RowL wr w2.heap.size 39 (millC s3 p3 l3 h3 x) := C_r
          have G : MillGot w1.heap.size wr s3 p3 l3 h3 x := G
          obtain ⟨dj, hdj⟩ : ∃ d, js.getD kk jz = d := ⟨_, rfl⟩
          rw [hdj] at HT hrj j0 j1 j2
          have hkI : (kk : Int) < (js.length : Int) := by omega
          have hk0 : (0 : Int) ≤ (kk : Int) := by omega
          have hw1 : IntKind.i64.wrap ((kk : Int) + 1) = ((kk + 1 : Nat) : Int) := by rw [show (kk : Int) + 1 = ((kk + 1 : Nat) : Int) by omega]; exact IntWalk.i64_in _ (by omega)
          have hw2 : IntKind.i64.wrap (nn + 1) = nn + 1 := IntWalk.i64_in _ (by omega)
          obtain ⟨⟨y, ok⟩, hy⟩ : ∃ z, doR x dj = z := ⟨_, rfl⟩
          have HY := hide hy
          have G_r := hide G
          obtain ⟨aS3, cs3, rfl, -, -⟩ := G.so.form
          obtain ⟨ap3, cp3, rfl, -, -⟩ := G.po.form
          obtain ⟨al3, cl3, rfl, -, -⟩ := G.lo.form
          obtain ⟨ah3, ch3, rfl, -, -⟩ := G.ho.form
          have hLC := C_r.lt
          clear hx hdj hnl hnb G
          have cC0 : wr.cell? ⟨w2.heap.size, 0, none⟩ = some (.slice aS3 x.store.length cs3) := C_r.cell 0 (by simp [millC])
          have cC1 : wr.cell? ⟨w2.heap.size, 1, none⟩ = some (.int .i64 x.rule.lc) := C_r.cell 1 (by simp [millC])
          have cC2 : wr.cell? ⟨w2.heap.size, 2, none⟩ = some (.int .i64 x.rule.hc) := C_r.cell 2 (by simp [millC])
          have cC3 : wr.cell? ⟨w2.heap.size, 3, none⟩ = some (.int .i64 x.rule.lm) := C_r.cell 3 (by simp [millC])
          have cC4 : wr.cell? ⟨w2.heap.size, 4, none⟩ = some (.int .i64 x.rule.hm) := C_r.cell 4 (by simp [millC])
          have cC5 : wr.cell? ⟨w2.heap.size, 5, none⟩ = some (.int .i64 x.rule.ls) := C_r.cell 5 (by simp [millC])
          have cC6 : wr.cell? ⟨w2.heap.size, 6, none⟩ = some (.int .i64 x.rule.hs) := C_r.cell 6 (by simp [millC])
          have cC7 : wr.cell? ⟨w2.heap.size, 7, none⟩ = some (.int .i64 x.strand) := C_r.cell 7 (by simp [millC])
          have cC8 : wr.cell? ⟨w2.heap.size, 8, none⟩ = some (.slice ap3 x.pieces.length cp3) := C_r.cell 8 (by simp [millC])
          have cC9 : wr.cell? ⟨w2.heap.size, 9, none⟩ = some (.slice al3 x.low.length cl3) := C_r.cell 9 (by simp [millC])
          have cC10 : wr.cell? ⟨w2.heap.size, 10, none⟩ = some (.slice ah3 x.high.length ch3) := C_r.cell 10 (by simp [millC])
          have cC11 : wr.cell? ⟨w2.heap.size, 11, none⟩ = some (.int .i64 x.scrap) := C_r.cell 11 (by simp [millC])
          clear hy
          go_wp2_with fail
          have hbL : b < wr.heap.size := by omega
          have hI : Below wr.heap.size wr wr.drew := (Below.refl _ _).drew
          have hI2 : ∀ o : Obj, Below wr.heap.size wr (wr.alloc o).drew := fun o => ((Below.refl _ _).alloc (Nat.le_refl _) o).drew
          have HKA : Hid (∀ (W : World) (o : Obj), Below wr.heap.size wr W → Below wr.heap.size wr (W.alloc o)) := hide (fun W o H => H.alloc H.size o)
          have HKC : Hid (∀ W W' : World, Below W.heap.size W W' → Below wr.heap.size wr W → Below wr.heap.size wr W') := hide (fun W W' q H => Below.step H q (Nat.le_refl _))
          have HKS : Hid (∀ (W : World) (G : Nat) (v0 v1 v2 v3 v4 v5 v6 v7 v8 v9 v10 v11 : Value), wr.heap.size ≤ G → Below wr.heap.size wr W → Below wr.heap.size wr (((((((((((((W).setCell ⟨G, 0, none⟩ v0).setCell ⟨G, 1, none⟩ v1).setCell ⟨G, 2, none⟩ v2).setCell ⟨G, 3, none⟩ v3).setCell ⟨G, 4, none⟩ v4).setCell ⟨G, 5, none⟩ v5).setCell ⟨G, 6, none⟩ v6).setCell ⟨G, 7, none⟩ v7).setCell ⟨G, 8, none⟩ v8).setCell ⟨G, 9, none⟩ v9).setCell ⟨G, 10, none⟩ v10).setCell ⟨G, 11, none⟩ v11)) := hide (fun W G v0 v1 v2 v3 v4 v5 v6 v7 v8 v9 v10 v11 hG H => H.trans ((other12 G W v0 v1 v2 v3 v4 v5 v6 v7 v8 v9 v10 v11).below hG H.size))
          have HNEW : Hid (∀ (w7 : World) (s7 p7 l7 h7 : Value) (b7 : Nat), wr.heap.size ≤ b7 → Below wr.heap.size wr w7 → MillGot b7 w7 s7 p7 l7 h7 y → BoxM wr.heap.size (w7.alloc (.cells #[s7, .int .i64 y.rule.lc, .int .i64 y.rule.hc, .int .i64 y.rule.lm, .int .i64 y.rule.hm, .int .i64 y.rule.ls, .int .i64 y.rule.hs, .int .i64 y.strand, p7, l7, h7, .int .i64 y.scrap] 39)) y (.pointer (some ⟨w7.heap.size, 0, none⟩)) ∧ Below wr.heap.size wr (w7.alloc (.cells #[s7, .int .i64 y.rule.lc, .int .i64 y.rule.hc, .int .i64 y.rule.lm, .int .i64 y.rule.hm, .int .i64 y.rule.ls, .int .i64 y.rule.hs, .int .i64 y.strand, p7, l7, h7, .int .i64 y.scrap] 39))) := hide (fun w7 s7 p7 l7 h7 b7 hb hw G => ⟨boxM_new G hb hw.size, hw.alloc hw.size _⟩)
          have HOLD : Hid (∀ (w7 : World) (s7 p7 l7 h7 : Value), Below (wr.alloc (.cells #[.slice none 0 0, .int .i64 0, .int .i64 0, .int .i64 0, .int .i64 0, .int .i64 0, .int .i64 0, .int .i64 0, .slice none 0 0, .slice none 0 0, .slice none 0 0, .int .i64 0] 39)).drew.heap.size (wr.alloc (.cells #[.slice none 0 0, .int .i64 0, .int .i64 0, .int .i64 0, .int .i64 0, .int .i64 0, .int .i64 0, .int .i64 0, .slice none 0 0, .slice none 0 0, .slice none 0 0, .int .i64 0] 39)).drew w7 → MillGot (wr.alloc (.cells #[.slice none 0 0, .int .i64 0, .int .i64 0, .int .i64 0, .int .i64 0, .int .i64 0, .int .i64 0, .int .i64 0, .slice none 0 0, .slice none 0 0, .slice none 0 0, .int .i64 0] 39)).drew.heap.size w7 s7 p7 l7 h7 y → BoxM wr.heap.size (((((((((((((w7).setCell ⟨wr.heap.size, 0, none⟩ s7).setCell ⟨wr.heap.size, 1, none⟩ (.int .i64 y.rule.lc)).setCell ⟨wr.heap.size, 2, none⟩ (.int .i64 y.rule.hc)).setCell ⟨wr.heap.size, 3, none⟩ (.int .i64 y.rule.lm)).setCell ⟨wr.heap.size, 4, none⟩ (.int .i64 y.rule.hm)).setCell ⟨wr.heap.size, 5, none⟩ (.int .i64 y.rule.ls)).setCell ⟨wr.heap.size, 6, none⟩ (.int .i64 y.rule.hs)).setCell ⟨wr.heap.size, 7, none⟩ (.int .i64 y.strand)).setCell ⟨wr.heap.size, 8, none⟩ p7).setCell ⟨wr.heap.size, 9, none⟩ l7).setCell ⟨wr.heap.size, 10, none⟩ h7).setCell ⟨wr.heap.size, 11, none⟩ (.int .i64 y.scrap)) y (.pointer (some ⟨wr.heap.size, 0, none⟩)) ∧ Below wr.heap.size wr (((((((((((((w7).setCell ⟨wr.heap.size, 0, none⟩ s7).setCell ⟨wr.heap.size, 1, none⟩ (.int .i64 y.rule.lc)).setCell ⟨wr.heap.size, 2, none⟩ (.int .i64 y.rule.hc)).setCell ⟨wr.heap.size, 3, none⟩ (.int .i64 y.rule.lm)).setCell ⟨wr.heap.size, 4, none⟩ (.int .i64 y.rule.hm)).setCell ⟨wr.heap.size, 5, none⟩ (.int .i64 y.rule.ls)).setCell ⟨wr.heap.size, 6, none⟩ (.int .i64 y.rule.hs)).setCell ⟨wr.heap.size, 7, none⟩ (.int .i64 y.strand)).setCell ⟨wr.heap.size, 8, none⟩ p7).setCell ⟨wr.heap.size, 9, none⟩ l7).setCell ⟨wr.heap.size, 10, none⟩ h7).setCell ⟨wr.heap.size, 11, none⟩ (.int .i64 y.scrap))) := hide (fun w7 s7 p7 l7 h7 hb G =>
            have hs : Below wr.heap.size wr w7 := (((Below.refl _ _).alloc (Nat.le_refl _) _).drew).trans (hb.mono (by simp))
            ⟨boxM_old ((RowL.new wr 39 [.slice none 0 0, .int .i64 0, .int .i64 0, .int .i64 0, .int .i64 0, .int .i64 0, .int .i64 0, .int .i64 0, .slice none 0 0, .slice none 0 0, .slice none 0 0, .int .i64 0]).drew.below hb (by simp)) rfl G (Nat.le_refl _) (by simp), hs.trans ((other12 wr.heap.size w7 _ _ _ _ _ _ _ _ _ _ _ _).below (Nat.le_refl _) hs.size)⟩)
          have hdo := fun (W : World) (q : Below wr.heap.size wr W) => do_spec (.slice aS3 x.store.length cs3) (.slice ap3 x.pieces.length cp3) (.slice al3 x.low.length cl3) (.slice ah3 x.high.length ch3) x dj W (G_r.out.below q).all hrj.1 hrj.2
          rw [HY.out] at hdo
          unfold millV at hdo
          have HDO := hide hdo
          clear hdo
          go_cut [9, 10] from 28 to 36 (fun bx okv W => BoxM wr.heap.size W y bx ∧ okv = .bool ok ∧ Below wr.heap.size wr W)
          case first =>
            go_region_with (first
              | (go_at_call 6; (with_reducible refine (HDO.out _ (by first | exact hI | exact hI2 _)).mono ?_); rintro e w7 ⟨s7, p7, l7, h7, he7, G7, hb7⟩; have he7 : e = .returned (.tuple #[millV s7 p7 l7 h7 y, .bool ok]) := he7; have G7 : MillGot _ w7 s7 p7 l7 h7 y := G7; subst he7; have hS7 := HKC.out _ _ hb7 (by first | exact hI | exact hI2 _); have hz7 := hS7.size; obtain ⟨hc7, hf7⟩ := bcell hb7; have hzz7 := hb7.size; (try simp at hzz7); have G_7 := hide G7; obtain ⟨as7, cs7, hs7, -, -⟩ := G7.so.form; obtain ⟨ap7, cp7, hp7, -, -⟩ := G7.po.form; obtain ⟨al7, cl7, hl7, -, -⟩ := G7.lo.form; obtain ⟨ah7, ch7, hh7, -, -⟩ := G7.ho.form; subst hs7 hp7 hl7 hh7; clear G7; unfold millV))
            all_goals
              have hwd : wr.drew.heap.size = wr.heap.size := rfl
              clear cC0 cC1 cC2 cC3 cC4 cC5 cC6 cC7 cC8 cC9 cC10 cC11 j0 j1 j2
              go_wp2_with fail
              go_meet
            all_goals
              first
                | (have hx := HNEW.out w7 (.slice as7 y.store.length cs7) (.slice ap7 y.pieces.length cp7) (.slice al7 y.low.length cl7) (.slice ah7 y.high.length ch7) _ (by first | omega | (simp; done) | (simp; omega)) hS7 G_7.out
                   with_reducible exact ⟨hx.1, rfl, hx.2⟩)
                | (have hx := HOLD.out w7 (.slice as7 y.store.length cs7) (.slice ap7 y.pieces.length cp7) (.slice al7 y.low.length cl7) (.slice ah7 y.high.length ch7) hb7 G_7.out
                   with_reducible exact ⟨hx.1, rfl, hx.2⟩)
          clear cC0 cC1 cC2 cC3 cC4 cC5 cC6 cC7 cC8 cC9 cC10 cC11 j0 j1 j2
          obtain ⟨⟨G, s4, p4, l4, h4, rfl, hG, hrow, hgot⟩, rfl, hbw⟩ := hcut
          have C_4 := C_r.below hbw C_r.lt
          have G_x := hide (G_r.out.below hbw)
          have G_4 := hide hgot
          have HB4 := hide (HB.out.trans (hbw.mono (by omega)))
          have hz4 := hbw.size
          have hLC4 := C_4.lt
          obtain ⟨aS4, cs4, rfl, -, -⟩ := hgot.so.form
          obtain ⟨ap4, cp4, rfl, -, -⟩ := hgot.po.form
          obtain ⟨al4, cl4, rfl, -, -⟩ := hgot.lo.form
          obtain ⟨ah4, ch4, rfl, -, -⟩ := hgot.ho.form
          have cG0 : wc.cell? ⟨G, 0, none⟩ = some (.slice aS4 y.store.length cs4) := hrow.cell 0 (by simp [millC])
          have cG1 : wc.cell? ⟨G, 1, none⟩ = some (.int .i64 y.rule.lc) := hrow.cell 1 (by simp [millC])
          have cG2 : wc.cell? ⟨G, 2, none⟩ = some (.int .i64 y.rule.hc) := hrow.cell 2 (by simp [millC])
          have cG3 : wc.cell? ⟨G, 3, none⟩ = some (.int .i64 y.rule.lm) := hrow.cell 3 (by simp [millC])
          have cG4 : wc.cell? ⟨G, 4, none⟩ = some (.int .i64 y.rule.hm) := hrow.cell 4 (by simp [millC])
          have cG5 : wc.cell? ⟨G, 5, none⟩ = some (.int .i64 y.rule.ls) := hrow.cell 5 (by simp [millC])
          have cG6 : wc.cell? ⟨G, 6, none⟩ = some (.int .i64 y.rule.hs) := hrow.cell 6 (by simp [millC])
          have cG7 : wc.cell? ⟨G, 7, none⟩ = some (.int .i64 y.strand) := hrow.cell 7 (by simp [millC])
          have cG8 : wc.cell? ⟨G, 8, none⟩ = some (.slice ap4 y.pieces.length cp4) := hrow.cell 8 (by simp [millC])
          have cG9 : wc.cell? ⟨G, 9, none⟩ = some (.slice al4 y.low.length cl4) := hrow.cell 9 (by simp [millC])
          have cG10 : wc.cell? ⟨G, 10, none⟩ = some (.slice ah4 y.high.length ch4) := hrow.cell 10 (by simp [millC])
          have cG11 : wc.cell? ⟨G, 11, none⟩ = some (.int .i64 y.scrap) := hrow.cell 11 (by simp [millC])
          clear hgot hI hI2 hbw hrow
          cases ok with
          | false =>
            have HS := hide (HT.out.trans (runS_no HY.out))
            go_wp2_with fail
            go_roundw
            case rel => exact ⟨kk + 1, .slice aS3 x.store.length cs3, .slice ap3 x.pieces.length cp3, .slice al3 x.low.length cl3, .slice ah3 x.high.length ch3, by omega, rfl, by rw [HS.out], HB4.out, by rw [HS.out]; exact C_4, by rw [HS.out]; exact G_x.out⟩
            case measure => simp [intOf]; omega
          | true =>
            have HS := hide (HT.out.trans (runS_yes HY.out))
            have cC0 : wc.cell? ⟨w2.heap.size, 0, none⟩ = some (.slice aS3 x.store.length cs3) := C_4.cell 0 (by simp [millC])
            have cC1 : wc.cell? ⟨w2.heap.size, 1, none⟩ = some (.int .i64 x.rule.lc) := C_4.cell 1 (by simp [millC])
            have cC2 : wc.cell? ⟨w2.heap.size, 2, none⟩ = some (.int .i64 x.rule.hc) := C_4.cell 2 (by simp [millC])
            have cC3 : wc.cell? ⟨w2.heap.size, 3, none⟩ = some (.int .i64 x.rule.lm) := C_4.cell 3 (by simp [millC])
            have cC4 : wc.cell? ⟨w2.heap.size, 4, none⟩ = some (.int .i64 x.rule.hm) := C_4.cell 4 (by simp [millC])
            have cC5 : wc.cell? ⟨w2.heap.size, 5, none⟩ = some (.int .i64 x.rule.ls) := C_4.cell 5 (by simp [millC])
            have cC6 : wc.cell? ⟨w2.heap.size, 6, none⟩ = some (.int .i64 x.rule.hs) := C_4.cell 6 (by simp [millC])
            have cC7 : wc.cell? ⟨w2.heap.size, 7, none⟩ = some (.int .i64 x.strand) := C_4.cell 7 (by simp [millC])
            have cC8 : wc.cell? ⟨w2.heap.size, 8, none⟩ = some (.slice ap3 x.pieces.length cp3) := C_4.cell 8 (by simp [millC])
            have cC9 : wc.cell? ⟨w2.heap.size, 9, none⟩ = some (.slice al3 x.low.length cl3) := C_4.cell 9 (by simp [millC])
            have cC10 : wc.cell? ⟨w2.heap.size, 10, none⟩ = some (.slice ah3 x.high.length ch3) := C_4.cell 10 (by simp [millC])
            have cC11 : wc.cell? ⟨w2.heap.size, 11, none⟩ = some (.int .i64 x.scrap) := C_4.cell 11 (by simp [millC])
            have fC0 := C_4.frozen 0
            have fC1 := C_4.frozen 1
            have fC2 := C_4.frozen 2
            have fC3 := C_4.frozen 3
            have fC4 := C_4.frozen 4
            have fC5 := C_4.frozen 5
            have fC6 := C_4.frozen 6
            have fC7 := C_4.frozen 7
            have fC8 := C_4.frozen 8
            have fC9 := C_4.frozen 9
            have fC10 := C_4.frozen 10
            have fC11 := C_4.frozen 11
            go_wp2_with fail
            go_roundw
            case rel =>
              refine ⟨kk + 1, .slice aS4 y.store.length cs4, .slice ap4 y.pieces.length cp4, .slice al4 y.low.length cl4, .slice ah4 y.high.length ch4, by omega, rfl, by rw [HS.out], HB4.out.trans ((other12 w2.heap.size _ _ _ _ _ _ _ _ _ _ _ _ _).below (Nat.le_refl _) (by omega)), ?_, ?_⟩
              · rw [HS.out]; exact row12 C_4 rfl _ _ _ _ _ _ _ _ _ _ _ _
              · rw [HS.out]; exact (G_4.out.past C_4 (other12 _ _ _ _ _ _ _ _ _ _ _ _ _ _)).mono (by omega)
            case measure => simp [intOf]; omega
        · obtain rfl : kk = js.length := by omega
          rw [List.take_length] at C_r G
          rw [List.take_length]
          have hkI : ¬ (js.length : Int) < (js.length : Int) := by omega
          obtain ⟨⟨x, nn⟩, hx⟩ : ∃ z, runTo m js = z := ⟨_, rfl⟩
          rw [hx] at C_r G
          rw [hx]
          have HX := hide (HZ.out.trans hx)
          have C_r : RowL wr w2.heap.size 39 (millC s3 p3 l3 h3 x) := C_r
          have G : MillGot w1.heap.size wr s3 p3 l3 h3 x := G
          have G_r := hide G
          obtain ⟨aS3, cs3, rfl, -, -⟩ := G.so.form
          obtain ⟨ap3, cp3, rfl, -, -⟩ := G.po.form
          obtain ⟨al3, cl3, rfl, -, -⟩ := G.lo.form
          obtain ⟨ah3, ch3, rfl, -, -⟩ := G.ho.form
          clear hx G
          have cC0 : wr.cell? ⟨w2.heap.size, 0, none⟩ = some (.slice aS3 x.store.length cs3) := C_r.cell 0 (by simp [millC])
          have cC1 : wr.cell? ⟨w2.heap.size, 1, none⟩ = some (.int .i64 x.rule.lc) := C_r.cell 1 (by simp [millC])
          have cC2 : wr.cell? ⟨w2.heap.size, 2, none⟩ = some (.int .i64 x.rule.hc) := C_r.cell 2 (by simp [millC])
          have cC3 : wr.cell? ⟨w2.heap.size, 3, none⟩ = some (.int .i64 x.rule.lm) := C_r.cell 3 (by simp [millC])
          have cC4 : wr.cell? ⟨w2.heap.size, 4, none⟩ = some (.int .i64 x.rule.hm) := C_r.cell 4 (by simp [millC])
          have cC5 : wr.cell? ⟨w2.heap.size, 5, none⟩ = some (.int .i64 x.rule.ls) := C_r.cell 5 (by simp [millC])
          have cC6 : wr.cell? ⟨w2.heap.size, 6, none⟩ = some (.int .i64 x.rule.hs) := C_r.cell 6 (by simp [millC])
          have cC7 : wr.cell? ⟨w2.heap.size, 7, none⟩ = some (.int .i64 x.strand) := C_r.cell 7 (by simp [millC])
          have cC8 : wr.cell? ⟨w2.heap.size, 8, none⟩ = some (.slice ap3 x.pieces.length cp3) := C_r.cell 8 (by simp [millC])
          have cC9 : wr.cell? ⟨w2.heap.size, 9, none⟩ = some (.slice al3 x.low.length cl3) := C_r.cell 9 (by simp [millC])
          have cC10 : wr.cell? ⟨w2.heap.size, 10, none⟩ = some (.slice ah3 x.high.length ch3) := C_r.cell 10 (by simp [millC])
          have cC11 : wr.cell? ⟨w2.heap.size, 11, none⟩ = some (.int .i64 x.scrap) := C_r.cell 11 (by simp [millC])
          have cR0 := R_r.c 0 rfl
          have cR1 := R_r.c 1 rfl
          have cR2 := R_r.c 2 rfl
          have cR3 := R_r.c 3 rfl
          have cR4 := R_r.c 4 rfl
          have cR5 := R_r.c 5 rfl
          have cR6 := R_r.c 6 rfl
          have cR7 := R_r.c 7 rfl
          have cR8 := R_r.c 8 rfl
          have cR9 := R_r.c 9 rfl
          have cR10 := R_r.c 10 rfl
          have cR11 := R_r.c 11 rfl
          have fR0 := R_r.frozen 0
          have fR1 := R_r.frozen 1
          have fR2 := R_r.frozen 2
          have fR3 := R_r.frozen 3
          have fR4 := R_r.frozen 4
          have fR5 := R_r.frozen 5
          have fR6 := R_r.frozen 6
          have fR7 := R_r.frozen 7
          have fR8 := R_r.frozen 8
          have fR9 := R_r.frozen 9
          have fR10 := R_r.frozen 10
          have fR11 := R_r.frozen 11
          go_wp2_with fail
          refine bodyPost_ret (by simp [results, Tryz.results14, go_sem, cR0, cR1, cR2, cR3, cR4, cR5, cR6, cR7, cR8, cR9, cR10, cR11]; try rfl) rfl ?_
          rw [HX.out]
          exact ⟨_, _, _, _, rfl, put_got G_r.out B_r.out (by omega) (by omega) (Nat.le_refl _) _ _ _ _ _ _ _ _ _ _ _ _⟩
end Go.Proofs.YtajjnciookhamaaGreat
