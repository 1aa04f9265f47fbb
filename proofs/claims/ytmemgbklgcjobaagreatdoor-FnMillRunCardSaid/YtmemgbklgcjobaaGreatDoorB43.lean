/-
  Parts of the proofs over mills, of: PlainMill, HelpJ, DeedOwn, PlainLaw, MillG, RunP, RunI, TextA, TextB, TextC, TextD, PlainRD, PlainJ. Conditions: each theorem states its own.
-/
import Derived.Test.YtmemgbklgcjobaaGreatDoorB40
set_option linter.unusedSimpArgs false
set_option linter.unusedVariables false
set_option maxRecDepth 10000
namespace Go.Proofs.YtmemgbklgcjobaaGreatDoor
open Go.RowKit
def runTo (m : Mi) (l : List J) : Mi × Int := l.foldl runS (m, 0)
def runR (m : Mi) (l : List J) : Mi × Int := if millB m && decide (l.length ≤ 99) then runTo m l else (mi0, 0)
theorem run_bd : ∀ (l : List J) (s : Mi × Int), s.2 ≤ (l.foldl runS s).2 ∧ (l.foldl runS s).2 ≤ s.2 + l.length
  | [], s => by simp
  | d :: l, s => by
    have h := run_bd l (runS s d)
    have : s.2 ≤ (runS s d).2 ∧ (runS s d).2 ≤ s.2 + 1 := by unfold runS; split <;> simp <;> omega
    rw [List.foldl_cons, List.length_cons]; omega
theorem info_J : (Tryz.prog.info? 48).map (fun i => (i.zero, i.size, i.bytes)) = some (some (.agg #[.int .i64 0, .int .i64 0, .int .i64 0]), 3, 24) := by kernel_rfl
def dL (x : J) : List Value := [.int .i64 x.s, .int .i64 x.d, .int .i64 x.g]
def flatD (xs : List J) : List Value := xs.flatMap dL
theorem flatD_append (a b : List J) : flatD (a ++ b) = flatD a ++ flatD b := by simp [flatD]
theorem flatD_at : ∀ (xs : List J) (i : Nat) (h : i < xs.length), (flatD xs)[i * 3]? = some (.int .i64 xs[i].s) ∧ (flatD xs)[i * 3 + 1]? = some (.int .i64 xs[i].d) ∧ (flatD xs)[i * 3 + 2]? = some (.int .i64 xs[i].g)
  | x :: xs, 0, _ => ⟨rfl, rfl, rfl⟩
  | x :: xs, i + 1, h => by
    have := flatD_at xs i (by simpa using h)
    have e : flatD (x :: xs) = dL x ++ flatD xs := rfl
    rw [e, show (i + 1) * 3 = i * 3 + 3 by omega, show i * 3 + 3 + 1 = i * 3 + 1 + 3 by omega, show i * 3 + 3 + 2 = i * 3 + 2 + 3 by omega]
    rw [List.getElem?_append_right (by simp [dL]), List.getElem?_append_right (by simp [dL]), List.getElem?_append_right (by simp [dL])]
    simpa [dL] using this
theorem ownD_at1 {w : World} {base n g cap : Nat} {xs : List J} (h : w.ownsRow base 48 3 (.slice (some ⟨g, 0, none⟩) n cap) n (flatD xs)) (hn : n = xs.length) : base ≤ g ∧ g < w.heap.size ∧ JobsAt g (g + 1) w (.slice (some ⟨g, 0, none⟩) n cap) xs := by
  subst hn
  have hlt := h.lt g rfl
  obtain ⟨ao, cap', e, h1, h2⟩ := own_slice h
  simp only [Value.slice.injEq] at e
  obtain ⟨-, -, rfl⟩ := e
  refine ⟨hlt.1, hlt.2, some ⟨g, 0, none⟩, cap, rfl, h1, h2, hlt.2, fun _ => ⟨g, 0, rfl, Nat.le_refl _, Nat.lt_succ_self _, fun i hi => ?_⟩⟩
  obtain ⟨f0, f1, f2⟩ := flatD_at xs i hi
  have c := h.cells rfl
  simp only [Nat.zero_add]
  refine ⟨⟨by have := c _ _ f0; rw [adds] at this; exact this, by have := c _ _ f1; rw [adds] at this; exact this, by have := c _ _ f2; rw [adds] at this; exact this⟩, h.frozenAt _, h.frozenAt _, h.frozenAt _⟩
theorem ownD_one {w : World} {base n : Nat} {v : Value} {xs : List J} (h : w.ownsRow base 48 3 v n (flatD xs)) (hn : n = xs.length) (hb : base ≤ w.heap.size) :
    ∃ a z, base ≤ a ∧ a ≤ z ∧ z ≤ w.heap.size ∧ JobsAt a z w v xs ∧ ∀ k, a ≤ k → k < z → v.ownBlock = some k := by
  rcases id h.2 with ⟨rfl, h0⟩ | ⟨g, cap, cur, rfl, -, -, -, -, -, -⟩
  · have : xs = [] := List.eq_nil_of_length_eq_zero (by omega)
    subst this
    exact ⟨base, base, Nat.le_refl _, Nat.le_refl _, hb, JobsAt.nil _ _ _ _ _ (by omega) hb, fun k h1 h2 => by omega⟩
  · obtain ⟨h1, h2, h3⟩ := ownD_at1 h hn
    exact ⟨g, g + 1, h1, by omega, h2, h3, fun k k1 k2 => by show some g = some k; rw [show g = k by omega]⟩
theorem ownD_at {w : World} {base n : Nat} {v : Value} {xs : List J} (h : w.ownsRow base 48 3 v n (flatD xs)) (hn : n = xs.length) (hb : base ≤ w.heap.size) : JobsAt base w.heap.size w v xs := by
  obtain ⟨a, z, h1, h2, h3, h4, -⟩ := ownD_one h hn hb
  exact h4.mono h1 h3 (Nat.le_refl _)
theorem run_bad {m : Mi} {l : List J} (h : millB m = false ∨ 99 < l.length) : runR m l = (mi0, 0) := by
  unfold runR
  rw [if_neg]
  rw [Bool.and_eq_true, decide_eq_true_iff]
  rintro ⟨h1, h2⟩
  rcases h with h | h
  · rw [h] at h1; cases h1
  · omega
theorem run_good {m : Mi} {l : List J} (h : millB m = true) (hl : l.length ≤ 99) : runR m l = runTo m l := by
  unfold runR
  rw [if_pos]
  simp [h, hl]
def RunGot (base : Nat) (x : Mi × Int) (w : World) (e : Ending) (w' : World) : Prop := ∃ s p l h, e = .returned (.tuple #[millV s p l h x.1, .int .i64 x.2]) ∧ MillGot base w' s p l h x.1 ∧ Below base w w'
def jz : J := ⟨0, 0, 0⟩
theorem jb_at {lo hi : Nat} {w : World} {v : Value} {xs : List J} (h : JobsAt lo hi w v xs) {k : Nat} (hk : k < xs.length) :
    ∃ b o cap, v = .slice (some ⟨b, o, none⟩) xs.length cap ∧ lo ≤ b ∧ b < hi ∧
      (w.cell? ⟨b, o + k * 3, none⟩ = some (.int .i64 (xs.getD k jz).s) ∧ w.cell? ⟨b, o + k * 3 + 1, none⟩ = some (.int .i64 (xs.getD k jz).d) ∧ w.cell? ⟨b, o + k * 3 + 2, none⟩ = some (.int .i64 (xs.getD k jz).g)) := by
  obtain ⟨ao, cap, rfl, h1, h2, h3, h4⟩ := h
  obtain ⟨b, o, rfl, b1, b2, hc⟩ := h4 (by omega)
  have hg : xs.getD k jz = xs[k] := by simp [hk]
  rw [hg]
  exact ⟨b, o, cap, rfl, b1, b2, (hc k hk).1⟩
theorem run_take (m : Mi) {js : List J} {k : Nat} (h : k < js.length) : runTo m (js.take (k + 1)) = runS (runTo m (js.take k)) (js.getD k jz) := by
  unfold runTo
  rw [List.take_succ_eq_append_getElem h, List.foldl_append]
  simp [h]
theorem runS_no {x : Mi} {n : Int} {d : J} {y : Mi} (h : doR x d = (y, false)) : runS (x, n) d = (x, n) := by unfold runS; simp [h]
theorem runS_yes {x : Mi} {n : Int} {d : J} {y : Mi} (h : doR x d = (y, true)) : runS (x, n) d = (y, n + 1) := by unfold runS; simp [h]
set_option maxHeartbeats 16000000 in
theorem run_impl (s p l h v : Value) (m : Mi) (js : List J) (w : World) (H : MillIn 0 w.heap.size w s p l h m) (Hj : JobsAt 0 w.heap.size w v js) (hr : ∀ j ∈ js, j.d ≤ 9223372036854775807 ∧ j.g ≤ 9223372036854775807) :
    Calls Tryz.prog 22 #[millV s p l h m, v] w (RunGot w.heap.size (runR m js) w) := by
  obtain ⟨ao1, cap1, rfl, -, -, -, -⟩ := id H.store
  obtain ⟨ao2, cap2, rfl, -, -, -, -⟩ := id H.pieces
  obtain ⟨ao3, cap3, rfl, -, -, -, -⟩ := id H.low
  obtain ⟨ao4, cap4, rfl, -, -, -, -⟩ := id H.high
  have HM := hide H
  have HJ := hide Hj
  have HR := hide hr
  obtain ⟨aoj, cpj, rfl, -, -, -, -⟩ := Hj
  clear H hr
  unfold millV
  go_enter Tryz.func22, Tryz.ntmps22
  go_wp2_with fail
  refine calls_at fun wx hwx => ?_
  have A_0 : RowL wx (w.heap.size) 31 [.slice ao1 m.store.length cap1, .int .i64 m.rule.lc, .int .i64 m.rule.hc, .int .i64 m.rule.lm, .int .i64 m.rule.hm, .int .i64 m.rule.ls, .int .i64 m.rule.hs, .int .i64 m.strand, .slice ao2 m.pieces.length cap2, .slice ao3 m.low.length cap3, .slice ao4 m.high.length cap4, .int .i64 m.scrap] := by rw [hwx]; exact (RowL.new _ 31 [.slice ao1 m.store.length cap1, .int .i64 m.rule.lc, .int .i64 m.rule.hc, .int .i64 m.rule.lm, .int .i64 m.rule.hm, .int .i64 m.rule.ls, .int .i64 m.rule.hs, .int .i64 m.strand, .slice ao2 m.pieces.length cap2, .slice ao3 m.low.length cap3, .slice ao4 m.high.length cap4, .int .i64 m.scrap]).alloc _
  have R_0 : RowL wx (w.heap.size + 1) 31 [.slice none 0 0, .int .i64 0, .int .i64 0, .int .i64 0, .int .i64 0, .int .i64 0, .int .i64 0, .int .i64 0, .slice none 0 0, .slice none 0 0, .slice none 0 0, .int .i64 0] := by rw [hwx]; simpa using (RowL.new (World.alloc _ _) 31 [.slice none 0 0, .int .i64 0, .int .i64 0, .int .i64 0, .int .i64 0, .int .i64 0, .int .i64 0, .int .i64 0, .slice none 0 0, .slice none 0 0, .slice none 0 0, .int .i64 0])
  have B_0 : Below w.heap.size w wx := by rw [hwx]; go_grown
  clear hwx
  have hL0 := R_0.lt
  have V_0 := hide (HM.out.below B_0)
  have k1 := mill_impl _ _ _ _ m wx V_0.out.all
  unfold millV at k1
  cases hv : millB m with
  | false =>
    rw [hv] at k1
    have HZ := hide (run_bad (m := m) (l := js) (.inl hv))
    clear hv
    refine k1.mono ?_
    rintro e w1 ⟨rfl, hb⟩
    have R_1 := R_0.below hb R_0.lt
    have B_1 := hide (Below.step B_0 hb (Nat.le_refl _))
    clear hb k1
    obtain ⟨cR0, cR1, cR2, cR3, cR4, cR5, cR6, cR7, cR8, cR9, cR10, cR11⟩ := row12_c R_1
    obtain ⟨fR0, fR1, fR2, fR3, fR4, fR5, fR6, fR7, fR8, fR9, fR10, fR11⟩ := row12_f R_1
    go_wp2_with fail
    refine bodyPost_ret (by simp [results, Tryz.results22, go_sem, cR0, cR1, cR2, cR3, cR4, cR5, cR6, cR7, cR8, cR9, cR10, cR11]; try rfl) rfl ?_
    rw [HZ.out]
    exact ⟨_, _, _, _, rfl, zero_got B_1.out (Nat.le_refl _) (by omega) _ _ _ _ _ _ _ _ _ _ _ _⟩
  | true =>
    rw [hv] at k1
    obtain ⟨n1, n2, n3, n4⟩ := few_of hv
    have HV := hide hv
    clear hv
    refine k1.mono ?_
    rintro e w1 ⟨rfl, hb⟩
    have A_1 := A_0.below hb A_0.lt
    have R_1 := R_0.below hb R_0.lt
    have V_1 := hide (V_0.out.below hb)
    have B_1 := hide (Below.step B_0 hb (Nat.le_refl _))
    have hz1 := hb.size
    clear hb k1
    by_cases hl : js.length ≤ 99
    rotate_left
    · have hlB : decide (99 < (js.length : Int)) = true := by simp; omega
      have HZ := hide (run_bad (m := m) (l := js) (.inr (by omega)))
      obtain ⟨cR0, cR1, cR2, cR3, cR4, cR5, cR6, cR7, cR8, cR9, cR10, cR11⟩ := row12_c R_1
      obtain ⟨fR0, fR1, fR2, fR3, fR4, fR5, fR6, fR7, fR8, fR9, fR10, fR11⟩ := row12_f R_1
      go_wp2_with fail
      refine bodyPost_ret (by simp [results, Tryz.results22, go_sem, cR0, cR1, cR2, cR3, cR4, cR5, cR6, cR7, cR8, cR9, cR10, cR11]; try rfl) rfl ?_
      rw [HZ.out]
      exact ⟨_, _, _, _, rfl, zero_got B_1.out (Nat.le_refl _) (by omega) _ _ _ _ _ _ _ _ _ _ _ _⟩
    · have hlB : decide (99 < (js.length : Int)) = false := by simp; omega
      have HZ := hide (run_good HV.out hl)
      obtain ⟨cA0, cA1, cA2, cA3, cA4, cA5, cA6, cA7, cA8, cA9, cA10, cA11⟩ := row12_c A_1
      go_wp2_with fail
      clear cA0 cA1 cA2 cA3 cA4 cA5 cA6 cA7 cA8 cA9 cA10 cA11
      have k2 := copyMill_any _ _ _ _ m w1 V_1.out.all n1 n2 n3 n4
      unfold millV at k2
      refine k2.mono ?_
      clear k2
      rintro e w2 ⟨s2, p2, l2, h2, rfl, G, hb⟩
      have R_2 := R_1.below hb R_1.lt
      have B_2 := hide (Below.step B_1.out hb (Nat.le_refl _))
      have hz2 := hb.size
      have hL2 := R_2.lt
      have J_2 := hide (HJ.out.below B_2.out)
      clear hb
      have G_2 := hide G
      obtain ⟨aS, cs, rfl, -, -⟩ := G.so.form
      obtain ⟨ap, cp, rfl, -, -⟩ := G.po.form
      obtain ⟨al, cl, rfl, -, -⟩ := G.lo.form
      obtain ⟨ah, ch, rfl, -, -⟩ := G.ho.form
      clear G
      unfold millV
      go_wp2_with fail
      go_loopw [7, 25] (fun n i wr => ∃ (kk : Nat) (s p l h : Value), kk ≤ js.length ∧ i = .int .i64 (kk : Int) ∧ n = .int .i64 (runTo m (js.take kk)).2 ∧ Below w2.heap.size w2 wr ∧ RowL wr w2.heap.size 31 (millC s p l h (runTo m (js.take kk)).1) ∧ MillGot w1.heap.size wr s p l h (runTo m (js.take kk)).1) (fun _ i _ => js.length - (intOf i).toNat)
      case atStart => exact ⟨0, _, _, _, _, Nat.zero_le _, rfl, rfl, (Below.refl _ _).alloc (Nat.le_refl _) _, RowL.new w2 31 (millC _ _ _ _ m), G_2.out.below ((Below.refl _ _).alloc (Nat.le_refl _) _)⟩
      case round =>
        obtain ⟨kk, s3, p3, l3, h3, hkk, rfl, rfl, hb, C_r, G⟩ := hrel
        have R_r := R_2.below hb hL2
        have B_r := hide (B_2.out.trans (hb.mono (by omega)))
        have HB := hide hb
        have hzr := hb.size
        have J_r := hide (J_2.out.keep (fun g h1 h2 => hb.block g (by omega)) hb.size)
        clear hb
        by_cases hlt : kk < js.length
        · have HT := hide (run_take m hlt)
          have hnb := run_bd (js.take kk) (m, 0)
          have hnl : (js.take kk).length = kk := by rw [List.length_take]; omega
          rw [hnl] at hnb
          have hrj := HR.out _ (show js.getD kk jz ∈ js by rw [List.getD_eq_getElem?_getD, List.getElem?_eq_getElem hlt]; exact List.getElem_mem _)
          obtain ⟨b, ob, cpb, e1, hbj, hbj2, j0, j1, j2⟩ := jb_at J_r.out hlt
          cases e1
          obtain ⟨⟨x, nn⟩, hx⟩ : ∃ z, runTo m (js.take kk) = z := ⟨_, rfl⟩
          have hnb2 : 0 ≤ nn ∧ nn ≤ (kk : Int) := by
            have e : ((js.take kk).foldl runS (m, 0)).2 = nn := congrArg Prod.snd hx
            rw [e] at hnb
            simpa using hnb
          rw [hx] at HT C_r G
          rw [hx]
          have C_r : RowL wr w2.heap.size 31 (millC s3 p3 l3 h3 x) := C_r
          have G : MillGot w1.heap.size wr s3 p3 l3 h3 x := G
          obtain ⟨dj, hdj⟩ : ∃ d, js.getD kk jz = d := ⟨_, rfl⟩
          rw [hdj] at HT hrj j0 j1 j2
          have hkI : (kk : Int) < (js.length : Int) := by omega
          have hk0 : (0 : Int) ≤ (kk : Int) := by omega
          have hw1 : IntKind.i64.wrap ((kk : Int) + 1) = ((kk + 1 : Nat) : Int) := by rw [show (kk : Int) + 1 = ((kk + 1 : Nat) : Int) by omega]; exact IntWalk.i64_in _ (by omega)
          have hw2 : IntKind.i64.wrap (nn + 1) = nn + 1 := IntWalk.i64_in _ (by omega)
          obtain ⟨⟨y, ok⟩, hy⟩ : ∃ z, doR x dj = z := ⟨_, rfl⟩
          have HY := hide hy
          have G_r := hide G
          obtain ⟨aS3, cs3, rfl, -, -⟩ := G.so.form
          obtain ⟨ap3, cp3, rfl, -, -⟩ := G.po.form
          obtain ⟨al3, cl3, rfl, -, -⟩ := G.lo.form
          obtain ⟨ah3, ch3, rfl, -, -⟩ := G.ho.form
          have hLC := C_r.lt
          clear hx hdj hnl hnb G
          obtain ⟨cC0, cC1, cC2, cC3, cC4, cC5, cC6, cC7, cC8, cC9, cC10, cC11⟩ := row12_c C_r
          go_wp2_with fail
          refine calls_at fun wy hwy => ?_
          have hby : Below wr.heap.size wr wy := by rw [hwy]; exact (Below.refl _ _).alloc (Nat.le_refl _) _
          have C_y := C_r.below hby C_r.lt
          have G_y := hide (G_r.out.below hby)
          have hzy := hby.size
          have k3 := do_impl _ _ _ _ x dj wy G_y.out.all hrj.1 hrj.2
          unfold millV at k3
          rw [hy] at k3
          have HBY := hide (HB.out.trans (hby.mono (by omega)))
          clear hwy hby hy cC0 cC1 cC2 cC3 cC4 cC5 cC6 cC7 cC8 cC9 cC10 cC11 j0 j1 j2
          refine k3.mono ?_
          clear k3
          rintro e w4 ⟨s4, p4, l4, h4, he, G4, hb4⟩
          have he : e = .returned (.tuple #[millV s4 p4 l4 h4 y, .bool ok]) := he
          have G4 : MillGot wy.heap.size w4 s4 p4 l4 h4 y := G4
          subst he
          have C_4 := C_y.below hb4 C_y.lt
          have G_4 := hide G4
          have G_x := hide (G_y.out.below hb4)
          have HB4 := hide (HBY.out.trans (hb4.mono (by omega)))
          have hz4 := hb4.size
          have hLC4 := C_4.lt
          obtain ⟨aS4, cs4, rfl, -, -⟩ := G4.so.form
          obtain ⟨ap4, cp4, rfl, -, -⟩ := G4.po.form
          obtain ⟨al4, cl4, rfl, -, -⟩ := G4.lo.form
          obtain ⟨ah4, ch4, rfl, -, -⟩ := G4.ho.form
          clear G4 hb4
          unfold millV
          go_upto_region 9 with fail
          obtain ⟨wa, hwa⟩ : ∃ wa : World, wa = w4.alloc (.cells #[.slice aS4 y.store.length cs4, .int .i64 y.rule.lc, .int .i64 y.rule.hc, .int .i64 y.rule.lm, .int .i64 y.rule.hm, .int .i64 y.rule.ls, .int .i64 y.rule.hs, .int .i64 y.strand, .slice ap4 y.pieces.length cp4, .slice al4 y.low.length cl4, .slice ah4 y.high.length ch4, .int .i64 y.scrap] 31) := ⟨_, rfl⟩
          rw [← hwa]
          have hba : Below w4.heap.size w4 wa := by rw [hwa]; exact (Below.refl _ _).alloc (Nat.le_refl _) _
          have Y_a : RowL wa w4.heap.size 31 (millC (.slice aS4 y.store.length cs4) (.slice ap4 y.pieces.length cp4) (.slice al4 y.low.length cl4) (.slice ah4 y.high.length ch4) y) := by rw [hwa]; exact RowL.new w4 31 (millC _ _ _ _ y)
          have C_a := C_4.below hba C_4.lt
          have G_a := hide (G_4.out.below hba)
          have G_b := hide (G_x.out.below hba)
          have HBa := hide (HB4.out.trans (hba.mono (by omega)))
          have hza := hba.size
          have hLa := Y_a.lt
          have hLb := C_a.lt
          clear hwa hba
          cases ok with
          | false =>
            have HS := hide (HT.out.trans (runS_no HY.out))
            go_wp2_with fail
            go_roundw
            case rel =>
              refine ⟨kk + 1, .slice aS3 x.store.length cs3, .slice ap3 x.pieces.length cp3, .slice al3 x.low.length cl3, .slice ah3 x.high.length ch3, by omega, rfl, by rw [HS.out], HBa.out, ?_, ?_⟩
              · rw [HS.out]; exact C_a
              · rw [HS.out]; exact G_b.out
            case measure => simp [intOf]; omega
          | true =>
            have HS := hide (HT.out.trans (runS_yes HY.out))
            obtain ⟨cC0, cC1, cC2, cC3, cC4, cC5, cC6, cC7, cC8, cC9, cC10, cC11⟩ := row12_c C_a
            obtain ⟨fC0, fC1, fC2, fC3, fC4, fC5, fC6, fC7, fC8, fC9, fC10, fC11⟩ := row12_f C_a
            obtain ⟨cY0, cY1, cY2, cY3, cY4, cY5, cY6, cY7, cY8, cY9, cY10, cY11⟩ := row12_c Y_a
            go_wp2_with fail
            go_roundw
            case rel =>
              have TW := other12 w2.heap.size wa (.slice aS4 y.store.length cs4) (.int .i64 y.rule.lc) (.int .i64 y.rule.hc) (.int .i64 y.rule.lm) (.int .i64 y.rule.hm) (.int .i64 y.rule.ls) (.int .i64 y.rule.hs) (.int .i64 y.strand) (.slice ap4 y.pieces.length cp4) (.slice al4 y.low.length cl4) (.slice ah4 y.high.length ch4) (.int .i64 y.scrap)
              refine ⟨kk + 1, .slice aS4 y.store.length cs4, .slice ap4 y.pieces.length cp4, .slice al4 y.low.length cl4, .slice ah4 y.high.length ch4, by omega, rfl, by rw [HS.out], HBa.out.trans (TW.below (Nat.le_refl _) (by omega)), ?_, ?_⟩
              · rw [HS.out]; exact row12 C_a rfl _ _ _ _ _ _ _ _ _ _ _ _
              · rw [HS.out]; exact (G_a.out.past C_a TW).mono (by omega)
            case measure => simp [intOf]; omega
        · obtain rfl : kk = js.length := by omega
          rw [List.take_length] at C_r G
          rw [List.take_length]
          have hkI : ¬ (js.length : Int) < (js.length : Int) := by omega
          obtain ⟨⟨x, nn⟩, hx⟩ : ∃ z, runTo m js = z := ⟨_, rfl⟩
          rw [hx] at C_r G
          rw [hx]
          have HX := hide (HZ.out.trans hx)
          have C_r : RowL wr w2.heap.size 31 (millC s3 p3 l3 h3 x) := C_r
          have G : MillGot w1.heap.size wr s3 p3 l3 h3 x := G
          have G_r := hide G
          obtain ⟨aS3, cs3, rfl, -, -⟩ := G.so.form
          obtain ⟨ap3, cp3, rfl, -, -⟩ := G.po.form
          obtain ⟨al3, cl3, rfl, -, -⟩ := G.lo.form
          obtain ⟨ah3, ch3, rfl, -, -⟩ := G.ho.form
          clear hx G
          obtain ⟨cC0, cC1, cC2, cC3, cC4, cC5, cC6, cC7, cC8, cC9, cC10, cC11⟩ := row12_c C_r
          obtain ⟨cR0, cR1, cR2, cR3, cR4, cR5, cR6, cR7, cR8, cR9, cR10, cR11⟩ := row12_c R_r
          obtain ⟨fR0, fR1, fR2, fR3, fR4, fR5, fR6, fR7, fR8, fR9, fR10, fR11⟩ := row12_f R_r
          go_wp2_with fail
          refine bodyPost_ret (by simp [results, Tryz.results22, go_sem, cR0, cR1, cR2, cR3, cR4, cR5, cR6, cR7, cR8, cR9, cR10, cR11]; try rfl) rfl ?_
          rw [HX.out]
          exact ⟨_, _, _, _, rfl, put_got G_r.out B_r.out (by omega) (by omega) (Nat.le_refl _) _ _ _ _ _ _ _ _ _ _ _ _⟩
def numB (n : Int) : ByteArray := ⟨(Lib.itoa n).toArray⟩
def dtB (k o t : Int) : ByteArray :=
  if wi k 0 4 && (wi o 0 9999 && (wi t 0 9999 && (twoB k || t == 0))) then (if twoB k then ((nameB k ++ spB) ++ numB o) ++ spB ++ numB t else (nameB k ++ spB) ++ numB o) else ⟨#[]⟩
theorem rdGo_none {n : Int} {b : UInt8} {l : List UInt8} (h : b.toNat < 48 ∨ 57 < b.toNat) : rdGo n (b :: l) = none := by rw [rdGo, if_pos h]
theorem rdGo_big {n : Int} {b : UInt8} {l : List UInt8} (h : ¬ (b.toNat < 48 ∨ 57 < b.toNat)) (h' : 9999 < 10 * n + ((b.toNat : Int) - 48)) : rdGo n (b :: l) = none := by rw [rdGo, if_neg h, if_pos h']
theorem rdGo_step {n : Int} {b : UInt8} {l : List UInt8} (h : ¬ (b.toNat < 48 ∨ 57 < b.toNat)) (h' : ¬ 9999 < 10 * n + ((b.toNat : Int) - 48)) : rdGo n (b :: l) = rdGo (10 * n + ((b.toNat : Int) - 48)) l := by rw [rdGo, if_neg h, if_neg h']
theorem kindB_range (s : ByteArray) : -1 ≤ kindB s ∧ kindB s ≤ 4 := by
  unfold kindB
  repeat' split
  all_goals omega
def glue (p : List UInt8) : List (List UInt8) → List (List UInt8)
  | [] => [p]
  | q :: qs => (p ++ q) :: qs
def cut32 : List UInt8 → List (List UInt8)
  | [] => [[]]
  | b :: l => if b = 32 then [] :: cut32 l else glue [b] (cut32 l)
theorem glue_ne (p : List UInt8) (c : List (List UInt8)) : glue p c ≠ [] := by cases c <;> simp [glue]
theorem cut32_ne (l : List UInt8) : cut32 l ≠ [] := by
  cases l with
  | nil => simp [cut32]
  | cons b l => rw [cut32]; split <;> simp [glue_ne]
def valG (acc : Int) (l : List UInt8) : Int := l.foldl (fun n b => 10 * n + ((b.toNat : Int) - 48)) acc
def allD (l : List UInt8) : Prop := ∀ b ∈ l, 48 ≤ b.toNat ∧ b.toNat ≤ 57
theorem valG_cons (acc : Int) (b : UInt8) (l : List UInt8) : valG acc (b :: l) = valG (10 * acc + ((b.toNat : Int) - 48)) l := rfl
theorem valG_snoc (acc : Int) (l : List UInt8) (b : UInt8) : valG acc (l ++ [b]) = 10 * valG acc l + ((b.toNat : Int) - 48) := by simp [valG]
theorem valG_ge : ∀ (l : List UInt8) (acc : Int), 0 ≤ acc → allD l → acc ≤ valG acc l
  | [], acc, _, _ => by simp [valG]
  | b :: l, acc, h0, hd => by
    have hb := hd b (by simp)
    have := valG_ge l (10 * acc + ((b.toNat : Int) - 48)) (by omega) (fun x hx => hd x (by simp [hx]))
    rw [valG_cons]; omega
theorem rdGo_val : ∀ (l : List UInt8) (acc m : Int), 0 ≤ acc → acc ≤ 9999 → (rdGo acc l = some m ↔ allD l ∧ valG acc l = m ∧ m ≤ 9999)
  | [], acc, m, h0, h9 => by
    simp only [rdGo, Option.some.injEq, valG, List.foldl_nil, allD, List.not_mem_nil, false_implies, implies_true, true_and]
    constructor
    · rintro rfl; exact ⟨rfl, h9⟩
    · rintro ⟨h, _⟩; exact h
  | b :: l, acc, m, h0, h9 => by
    by_cases hb : b.toNat < 48 ∨ 57 < b.toNat
    · rw [rdGo_none hb]
      constructor
      · intro h; cases h
      · rintro ⟨hd, _⟩; have := hd b (by simp); omega
    · by_cases hg : 9999 < 10 * acc + ((b.toNat : Int) - 48)
      · rw [rdGo_big hb hg]
        constructor
        · intro h; cases h
        · rintro ⟨hd, hv, hm⟩
          have := valG_ge l (10 * acc + ((b.toNat : Int) - 48)) (by omega) (fun x hx => hd x (by simp [hx]))
          rw [valG_cons] at hv; omega
      · rw [rdGo_step hb hg, rdGo_val l _ m (by omega) (by omega), valG_cons]
        constructor
        · rintro ⟨hd, h⟩
          refine ⟨fun x hx => ?_, h⟩
          rcases List.mem_cons.1 hx with rfl | hx
          · omega
          · exact hd x hx
        · rintro ⟨hd, h⟩; exact ⟨fun x hx => hd x (by simp [hx]), h⟩
def canon (l : List UInt8) : Prop := l ≠ [] ∧ allD l ∧ ¬ ((l.headD 0).toNat = 48 ∧ 1 < l.length)
theorem byte_digit {d : Nat} (h : d < 10) : (UInt8.ofNat (48 + d)).toNat = 48 + d := by simp; omega
theorem dec_props (u : Nat) : allD (Lib.decDigits u) ∧ Lib.decDigits u ≠ [] ∧ valG 0 (Lib.decDigits u) = u ∧ (u ≠ 0 → ((Lib.decDigits u).headD 0).toNat ≠ 48) := by
  induction u using Nat.strongRecOn with
  | _ u ih =>
    by_cases h : u < 10
    · rw [Lib.decDigits, dif_pos h]
      refine ⟨fun b hb => ?_, by simp, ?_, fun h0 => ?_⟩
      · simp only [List.mem_singleton] at hb; subst hb; rw [byte_digit h]; omega
      · rw [valG_cons, byte_digit h]; simp [valG]; omega
      · simp only [List.headD_cons]; rw [byte_digit h]; omega
    · rw [Lib.decDigits, dif_neg h]
      obtain ⟨h1, h2, h3, h4⟩ := ih (u / 10) (by omega)
      have hm : u % 10 < 10 := Nat.mod_lt _ (by omega)
      refine ⟨fun b hb => ?_, by simp, ?_, fun h0 => ?_⟩
      · rcases List.mem_append.1 hb with hb | hb
        · exact h1 b hb
        · simp only [List.mem_singleton] at hb; subst hb; rw [byte_digit hm]; omega
      · rw [valG_snoc, h3, byte_digit hm]; omega
      · have := h4 (by omega)
        cases hd : Lib.decDigits (u / 10) with
        | nil => exact absurd hd h2
        | cons b l => rw [hd] at this; simpa using this
theorem canon_dec (u : Nat) : canon (Lib.decDigits u) := by
  obtain ⟨h1, h2, h3, h4⟩ := dec_props u
  refine ⟨h2, h1, fun ⟨h5, h6⟩ => ?_⟩
  by_cases h0 : u = 0
  · subst h0
    rw [Lib.decDigits, dif_pos (by omega)] at h6
    simp at h6
  · exact h4 h0 h5
theorem snoc_cases (l : List UInt8) : l = [] ∨ ∃ a b, l = a ++ [b] := by
  rcases List.eq_nil_or_concat l with h | ⟨a, b, h⟩
  · exact .inl h
  · exact .inr ⟨a, b, by rw [h]; simp⟩
theorem dec_canon : ∀ (n : Nat) (l : List UInt8), l.length = n → canon l → Lib.decDigits (valG 0 l).toNat = l ∧ 0 ≤ valG 0 l
  | 0, l, hn, hc => absurd (List.length_eq_zero_iff.1 hn) hc.1
  | n + 1, l, hn, ⟨h1, h2, h3⟩ => by
    rcases snoc_cases l with h | ⟨a, b, rfl⟩
    · exact absurd h h1
    have hb := h2 b (by simp)
    rw [valG_snoc]
    cases a with
    | nil =>
      simp only [valG, List.foldl_nil, List.nil_append]
      have e : (10 * 0 + ((b.toNat : Int) - 48)).toNat = b.toNat - 48 := by omega
      rw [e, Lib.decDigits, dif_pos (by omega)]
      refine ⟨?_, by omega⟩
      congr 1
      apply UInt8.toNat_inj.1
      rw [byte_digit (by omega)]; omega
    | cons c a =>
      have hca : canon (c :: a) := by
        refine ⟨by simp, fun x hx => h2 x (List.mem_append_left _ hx), fun ⟨h5, h6⟩ => h3 ⟨by simpa using h5, by simp at h6 ⊢⟩⟩
      have hc48 : c.toNat ≠ 48 := fun e => h3 ⟨by simpa using e, by simp⟩
      have hc2 := h2 c (by simp)
      have hpos : 1 ≤ valG 0 (c :: a) := by
        rw [valG_cons]
        have := valG_ge a (10 * 0 + ((c.toNat : Int) - 48)) (by omega) (fun x hx => h2 x (by simp [hx]))
        omega
      obtain ⟨i1, i2⟩ := dec_canon n (c :: a) (by simpa using hn) hca
      generalize valG 0 (c :: a) = v at *
      refine ⟨?_, by omega⟩
      have e : (10 * v + ((b.toNat : Int) - 48)).toNat = 10 * v.toNat + (b.toNat - 48) := by omega
      rw [e, Lib.decDigits, dif_neg (by omega), show (10 * v.toNat + (b.toNat - 48)) / 10 = v.toNat by omega, i1, show (10 * v.toNat + (b.toNat - 48)) % 10 = b.toNat - 48 by omega]
      congr 2
      apply UInt8.toNat_inj.1
      rw [byte_digit (by omega)]; omega
theorem numB_data (n : Int) (h : 0 ≤ n) : (numB n).data.toList = Lib.decDigits n.toNat := by
  obtain ⟨u, rfl⟩ : ∃ u : Nat, n = u := ⟨n.toNat, by omega⟩
  rw [numB, Lib.itoa_nonneg]
  simp
theorem ext_list {a b : ByteArray} (h : a.data.toList = b.data.toList) : a = b := ByteArray.ext (Array.toList_inj.1 h)
theorem canon_iff (p : ByteArray) : canon p.data.toList ↔ (p.size ≠ 0 ∧ allD p.data.toList ∧ ¬ ((p.data.toList.headD 0).toNat = 48 ∧ 1 < p.size)) := by
  unfold canon
  rw [size_len]
  have : p.data.toList ≠ [] ↔ p.size ≠ 0 := by
    rw [← size_len]
    cases p.data.toList <;> simp
  rw [this]
theorem rdNum_val (p : ByteArray) (n : Int) : rdNum p = some n ↔ canon p.data.toList ∧ valG 0 p.data.toList = n ∧ n ≤ 9999 := by
  rw [canon_iff]
  unfold rdNum
  by_cases h0 : p.size = 0
  · rw [if_pos h0]; simp [h0]
  rw [if_neg h0]
  by_cases h1 : (p.data.toList.headD 0).toNat = 48 ∧ 1 < p.size
  · rw [if_pos h1]
    constructor
    · intro h; cases h
    · rintro ⟨⟨_, _, h⟩, _⟩; exact absurd h1 h
  rw [if_neg h1, rdGo_val _ _ _ (by omega) (by omega)]
  constructor
  · rintro ⟨a, b⟩; exact ⟨⟨h0, a, h1⟩, b⟩
  · rintro ⟨⟨_, a, _⟩, b⟩; exact ⟨a, b⟩
theorem rdNum_iff (p : ByteArray) (n : Int) : rdNum p = some n ↔ 0 ≤ n ∧ n ≤ 9999 ∧ numB n = p := by
  rw [rdNum_val]
  constructor
  · rintro ⟨hc, rfl, h9⟩
    obtain ⟨h1, h2⟩ := dec_canon _ _ rfl hc
    exact ⟨h2, h9, ext_list (by rw [numB_data _ h2, h1])⟩
  · rintro ⟨h0, h9, rfl⟩
    rw [numB_data _ h0]
    refine ⟨canon_dec _, ?_, h9⟩
    rw [(dec_props _).2.2.1]; omega
theorem cut_at : ∀ (a l : List UInt8), (∀ b ∈ a, b ≠ 32) → cut32 (a ++ 32 :: l) = a :: cut32 l
  | [], l, _ => by rw [List.nil_append, cut32, if_pos rfl]
  | b :: a, l, h => by
    rw [List.cons_append, cut32, if_neg (h b (by simp)), cut_at a l (fun x hx => h x (by simp [hx]))]; rfl
theorem cut_whole : ∀ (a : List UInt8), (∀ b ∈ a, b ≠ 32) → cut32 a = [a]
  | [], _ => rfl
  | b :: a, h => by rw [cut32, if_neg (h b (by simp)), cut_whole a (fun x hx => h x (by simp [hx]))]; rfl
theorem cut_join1 : ∀ (l p : List UInt8), cut32 l = [p] → l = p
  | [], p, h => by simp [cut32] at h; exact h.symm
  | b :: l, p, h => by
    rw [cut32] at h
    split at h
    · have := cut32_ne l
      simp only [List.cons.injEq] at h
      exact absurd h.2 this
    · cases hc : cut32 l with
      | nil => exact absurd hc (cut32_ne l)
      | cons q qs =>
        rw [hc] at h
        simp only [glue, List.cons.injEq] at h
        obtain ⟨h1, rfl⟩ := h
        rw [cut_join1 l q hc, ← h1]; rfl
theorem cut_joinc : ∀ (l p : List UInt8) (r : List (List UInt8)), cut32 l = p :: r → r ≠ [] → ∃ l', l = p ++ 32 :: l' ∧ cut32 l' = r
  | [], p, r, h, hr => by simp [cut32] at h; exact absurd h.2 hr
  | b :: l, p, r, h, hr => by
    rw [cut32] at h
    split at h
    · rename_i hb
      simp only [List.cons.injEq] at h
      obtain ⟨rfl, h⟩ := h
      exact ⟨l, by rw [hb]; rfl, h⟩
    · cases hc : cut32 l with
      | nil => exact absurd hc (cut32_ne l)
      | cons q qs =>
        rw [hc] at h
        simp only [glue, List.cons.injEq] at h
        obtain ⟨h1, rfl⟩ := h
        obtain ⟨l', e1, e2⟩ := cut_joinc l q qs hc hr
        exact ⟨l', by rw [e1, ← h1]; rfl, e2⟩
theorem kind_five {k : Int} (h : 0 ≤ k ∧ k ≤ 4) : k = 0 ∨ k = 1 ∨ k = 2 ∨ k = 3 ∨ k = 4 := by omega
theorem name_no32 {k : Int} (h : 0 ≤ k ∧ k ≤ 4) : ∀ b ∈ (nameB k).data.toList, b ≠ 32 := by
  rcases kind_five h with rfl | rfl | rfl | rfl | rfl <;> decide
theorem num_no32 {n : Int} (h : 0 ≤ n) : ∀ b ∈ (numB n).data.toList, b ≠ 32 := by
  intro b hb e
  rw [numB_data n h] at hb
  have := (dec_props n.toNat).1 b hb
  rw [e] at this
  exact absurd this.1 (by decide)
theorem kind_name {k : Int} (h : 0 ≤ k ∧ k ≤ 4) : kindB (nameB k) = k := by
  rcases kind_five h with rfl | rfl | rfl | rfl | rfl <;> decide
theorem kind_back {a : ByteArray} (h : 0 ≤ kindB a) : a = nameB (kindB a) := by
  by_cases h0 : a = nameB 0
  · rw [h0, kind_name (by omega)]
  by_cases h1 : a = nameB 1
  · rw [h1, kind_name (by omega)]
  by_cases h2 : a = nameB 2
  · rw [h2, kind_name (by omega)]
  by_cases h3 : a = nameB 3
  · rw [h3, kind_name (by omega)]
  by_cases h4 : a = nameB 4
  · rw [h4, kind_name (by omega)]
  rw [kindB, if_neg h0, if_neg h1, if_neg h2, if_neg h3, if_neg h4] at h
  omega
theorem dt_one {k o : Int} (hk : wi k 0 4 = true) (ho : wi o 0 9999 = true) (h2 : twoB k = false) : (dtB k o 0).data.toList = (nameB k).data.toList ++ 32 :: (numB o).data.toList := by
  have e : dtB k o 0 = (nameB k ++ spB) ++ numB o := by
    rw [dtB, hk, ho, h2]; rfl
  rw [e]
  simp [spB]
theorem dt_two {k o t : Int} (hk : wi k 0 4 = true) (ho : wi o 0 9999 = true) (ht : wi t 0 9999 = true) (h2 : twoB k = true) :
    (dtB k o t).data.toList = (nameB k).data.toList ++ 32 :: ((numB o).data.toList ++ 32 :: (numB t).data.toList) := by
  have e : dtB k o t = ((nameB k ++ spB) ++ numB o) ++ spB ++ numB t := by
    rw [dtB, hk, ho, ht, h2]; rfl
  rw [e]
  simp [spB]
theorem good_parts {k o t : Int} {s : ByteArray} (hs : s.size ≠ 0) (h : dtB k o t = s) : wi k 0 4 = true ∧ wi o 0 9999 = true ∧ wi t 0 9999 = true ∧ (twoB k = true ∨ t = 0) := by
  rcases h1 : (wi k 0 4 && (wi o 0 9999 && (wi t 0 9999 && (twoB k || t == 0))))
  · exfalso
    apply hs
    rw [← h, dtB, h1]
    rfl
  · simpa using h1
theorem list_of_data {L : List ByteArray} {M : List ByteArray} (h : L.map (·.data.toList) = M.map (·.data.toList)) : L = M := by
  induction L generalizing M with
  | nil => cases M <;> simp_all
  | cons a L ih =>
    cases M with
    | nil => simp at h
    | cons b M =>
      simp only [List.map_cons, List.cons.injEq] at h
      rw [ext_list h.1, ih h.2]
theorem good_list {k o t : Int} {s : ByteArray} {L : List ByteArray} (hL : L.map (·.data.toList) = cut32 s.data.toList) (hs : s.size ≠ 0) (h : dtB k o t = s) :
    L = if twoB k then [nameB k, numB o, numB t] else [nameB k, numB o] := by
  obtain ⟨h1, h2, h3, h4⟩ := good_parts hs h
  have hk := wi_iff.1 h1
  have ho := wi_iff.1 h2
  have ht := wi_iff.1 h3
  apply list_of_data
  rw [hL, ← h]
  rcases h5 : twoB k
  · obtain rfl : t = 0 := by rcases h4 with h4 | h4; · rw [h5] at h4; cases h4
                             · exact h4
    rw [dt_one h1 h2 h5, cut_at _ _ (name_no32 hk), cut_whole _ (num_no32 ho.1)]
    rfl
  · rw [dt_two h1 h2 h3 h5, cut_at _ _ (name_no32 hk), cut_at _ _ (num_no32 ho.1), cut_whole _ (num_no32 ht.1)]
    rfl
theorem rdI_iff {s : ByteArray} {L : List ByteArray} (hL : L.map (·.data.toList) = cut32 s.data.toList) (k o t : Int) : rdI L = some (k, o, t) ↔ s.size ≠ 0 ∧ dtB k o t = s := by
  constructor
  · intro h
    obtain ⟨K, hK⟩ : ∃ K, kindB (L.getD 0 ⟨#[]⟩) = K := ⟨_, rfl⟩
    have hKr := kindB_range (L.getD 0 ⟨#[]⟩)
    have hb := @kind_back (L.getD 0 ⟨#[]⟩)
    rw [hK] at hKr hb
    unfold rdI at h
    simp only [hK] at h
    by_cases hn : K < 0
    · rw [if_pos hn] at h; cases h
    rw [if_neg hn] at h
    have hb := hb (by omega)
    have hk : wi K 0 4 = true := wi_iff.2 ⟨by omega, by omega⟩
    rcases h5 : twoB K
    · rw [h5] at h
      simp only [Bool.false_eq_true, if_false] at h
      by_cases hl : L.length = 2
      · rw [if_neg (by omega)] at h
        match L, hl, hL, hb, h with
        | [x0, x1], _, hL, hb, h =>
          simp only [List.getD_cons_zero, List.getD_cons_succ] at hb h
          cases e1 : rdNum x1 with
          | none => rw [e1] at h; cases h
          | some n =>
            rw [e1] at h
            simp only [Option.some.injEq, Prod.mk.injEq] at h
            obtain ⟨rfl, rfl, rfl⟩ := h
            obtain ⟨n0, n9, hx1⟩ := (rdNum_iff _ _).1 e1
            obtain ⟨l', e2, e3⟩ := cut_joinc s.data.toList x0.data.toList [x1.data.toList] (by rw [← hL]; rfl) (by simp)
            have e4 := cut_join1 _ _ e3
            have hd : dtB K n 0 = s := ext_list (by rw [dt_one hk (wi_iff.2 ⟨n0, n9⟩) h5, e2, e4, hb, hx1])
            refine ⟨fun hz => ?_, hd⟩
            rw [← size_len, e2] at hz
            simp at hz
      · rw [if_pos hl] at h; cases h
    · rw [h5] at h
      simp only [if_true] at h
      by_cases hl : L.length = 3
      · rw [if_neg (by omega)] at h
        match L, hl, hL, hb, h with
        | [x0, x1, x2], _, hL, hb, h =>
          simp only [List.getD_cons_zero, List.getD_cons_succ] at hb h
          cases e1 : rdNum x1 with
          | none => rw [e1] at h; cases h
          | some n =>
            rw [e1] at h
            cases e6 : rdNum x2 with
            | none => rw [e6] at h; cases h
            | some n2 =>
              rw [e6] at h
              simp only [Option.some.injEq, Prod.mk.injEq] at h
              obtain ⟨rfl, rfl, rfl⟩ := h
              obtain ⟨n0, n9, hx1⟩ := (rdNum_iff _ _).1 e1
              obtain ⟨m0, m9, hx2⟩ := (rdNum_iff _ _).1 e6
              obtain ⟨l', e2, e3⟩ := cut_joinc s.data.toList x0.data.toList [x1.data.toList, x2.data.toList] (by rw [← hL]; rfl) (by simp)
              obtain ⟨l'', e7, e8⟩ := cut_joinc l' x1.data.toList [x2.data.toList] e3 (by simp)
              have e4 := cut_join1 _ _ e8
              have hd : dtB K n n2 = s := ext_list (by rw [dt_two hk (wi_iff.2 ⟨n0, n9⟩) (wi_iff.2 ⟨m0, m9⟩) h5, e2, e7, e4, hb, hx1, hx2])
              refine ⟨fun hz => ?_, hd⟩
              rw [← size_len, e2] at hz
              simp at hz
      · rw [if_pos hl] at h; cases h
  · rintro ⟨hs, h⟩
    have hl := good_list hL hs h
    obtain ⟨h1, h2, h3, h4⟩ := good_parts hs h
    have hk := wi_iff.1 h1
    have ho := wi_iff.1 h2
    have ht := wi_iff.1 h3
    have no : rdNum (numB o) = some o := (rdNum_iff _ o).2 ⟨ho.1, ho.2, rfl⟩
    have nt : rdNum (numB t) = some t := (rdNum_iff _ t).2 ⟨ht.1, ht.2, rfl⟩
    rcases h5 : twoB k
    · obtain rfl : t = 0 := by rcases h4 with h4 | h4; · rw [h5] at h4; cases h4
                               · exact h4
      rw [h5] at hl
      simp only [Bool.false_eq_true, if_false] at hl
      subst hl
      unfold rdI
      simp only [List.getD_cons_zero, List.getD_cons_succ, List.length_cons, List.length_nil, kind_name hk, no, h5]
      rw [if_neg (by omega)]
      rfl
    · rw [h5] at hl
      simp only [if_true] at hl
      subst hl
      unfold rdI
      simp only [List.getD_cons_zero, List.getD_cons_succ, List.length_cons, List.length_nil, kind_name hk, no, nt, h5]
      rw [if_neg (by omega)]
      rfl
theorem index_sp (s : ByteArray) : Lib.indexB s spB = Lib.indexByte s.data.toList 32 := by
  show Lib.index s.data.toList spB.data.toList = _
  exact Lib.index_one s.data.toList 32
theorem cut_miss (l : List UInt8) (h : Lib.indexByte l 32 = -1) : cut32 l = [l] :=
  cut_whole l (fun b hb e => by
    obtain ⟨i, hi, e'⟩ := List.getElem_of_mem hb
    exact Lib.indexByte_none h i (by rw [List.getElem?_eq_getElem hi, e', e]))
theorem cut_hit (l : List UInt8) (i : Nat) (h : Lib.indexByte l 32 = i) : cut32 l = l.take i :: cut32 (l.drop (i + 1)) := by
  obtain ⟨h1, h2⟩ := Lib.indexByte_some h
  obtain ⟨hi, e⟩ := List.getElem?_eq_some_iff.1 h1
  have hl : l = l.take i ++ 32 :: l.drop (i + 1) := by
    rw [← e, ← List.drop_eq_getElem_cons hi, List.take_append_drop]
  conv => lhs; rw [hl]
  refine cut_at _ _ fun b hb e => ?_
  obtain ⟨j, hj, e'⟩ := List.getElem_of_mem hb
  simp only [List.length_take] at hj
  refine h2 j (by omega) ?_
  rw [List.getElem_take] at e'
  rw [List.getElem?_eq_getElem (by omega), e', e]
theorem parts_cut' : ∀ (k : Nat) (s : ByteArray), Lib.countB s spB = k → (Lib.splitB spB 0 k s).map (·.data.toList) = cut32 s.data.toList
  | k, s, hk => by
    rcases Lib.indexB_cases s spB with h | ⟨i, h, hi⟩
    · rw [Lib.splitB_miss _ _ _ _ h, cut_miss _ (by rw [← index_sp]; exact h)]
      rfl
    · have hc := Lib.countB_hit s spB i (by decide) h
      cases k with
      | zero => omega
      | succ k =>
        rw [Lib.splitB_hit _ _ _ _ i h, List.map_cons, parts_cut' k _ (by omega), cut_hit s.data.toList i (by rw [← index_sp]; exact h)]
        have e1 : (s.extract 0 (i + 0)).data.toList = s.data.toList.take i := by rw [Lib.extract_data]; simp
        have e2 : (s.extract (i + spB.size) s.size).data.toList = s.data.toList.drop (i + 1) := by
          rw [Lib.extract_data]
          show List.take _ (List.drop (i + 1) _) = _
          rw [List.take_of_length_le]
          rw [List.length_drop, size_len]
          exact Nat.le_refl _
        rw [e1, e2]
theorem parts_cut (s : ByteArray) : (partsB s).map (·.data.toList) = cut32 s.data.toList := parts_cut' _ s rfl
def dtJ (d : J) : ByteArray := dtB d.s d.d d.g
def goodJ (d : J) : Bool := (dtJ d).size != 0
theorem rdL_iff {l : List UInt8} {d : J} : rdL l = some d ↔ l ≠ [] ∧ (dtJ d).data.toList = l := by
  unfold rdL
  rw [Option.map_eq_some_iff]
  have hd : (⟨l.toArray⟩ : ByteArray).data.toList = l := by simp
  have hsz : (⟨l.toArray⟩ : ByteArray).size = l.length := by rw [← size_len, hd]
  constructor
  · rintro ⟨⟨k, o, t⟩, h, rfl⟩
    obtain ⟨h1, h2⟩ := (rdI_iff (parts_cut _) k o t).1 h
    refine ⟨fun e => h1 (by rw [hsz, e]; rfl), ?_⟩
    show (dtB k o t).data.toList = l
    rw [h2, hd]
  · rintro ⟨h1, h2⟩
    refine ⟨(d.s, d.d, d.g), (rdI_iff (parts_cut _) d.s d.d d.g).2 ⟨?_, ?_⟩, rfl⟩
    · rw [hsz]; exact fun e => h1 (List.length_eq_zero_iff.1 e)
    · apply ext_list; rw [hd]; exact h2
theorem rj_line {f : Nat} {d : J} {a l : List UInt8} (hd : rdL a = some d) (h : 10 ∉ a) : rjGo (f + 1) (a ++ 10 :: l) = (d :: (rjGo f l).1, a.length + 1 + (rjGo f l).2) := by
  have hm : 10 ∈ a ++ 10 :: l := by simp
  rw [rjGo, if_pos hm, tw_app h, hd]
  simp only
  rw [show (a ++ 10 :: l).drop (a.length + 1) = l by rw [List.drop_append]; simp]
theorem rj_cases (f : Nat) (l : List UInt8) : rjGo f l = ([], 0) ∨ ∃ f' d a r, f = f' + 1 ∧ l = a ++ 10 :: r ∧ 10 ∉ a ∧ rdL a = some d ∧ rjGo f l = (d :: (rjGo f' r).1, a.length + 1 + (rjGo f' r).2) := by
  cases f with
  | zero => exact .inl rfl
  | succ f =>
    by_cases h : 10 ∈ l
    · obtain ⟨a, r, rfl, hn⟩ := split10 h
      cases hd : rdL a with
      | none =>
        left
        rw [rjGo, if_pos h, tw_app hn, hd]
      | some d => exact .inr ⟨f, d, a, r, rfl, rfl, hn, hd, rj_line hd hn⟩
    · left
      rw [rjGo, if_neg h]
theorem rj_back : ∀ (f : Nat) (l : List UInt8), (∀ d ∈ (rjGo f l).1, goodJ d = true) ∧ ((rjGo f l).1.map fun d => (dtJ d).data.toList ++ [10]).flatten = l.take (rjGo f l).2 := by
  intro f
  induction f with
  | zero => intro l; simp [rjGo]
  | succ f ih =>
    intro l
    rcases rj_cases (f + 1) l with e | ⟨f', d, a, r, hf, rfl, hn, hd, e⟩
    · rw [e]; simp
    · obtain rfl : f = f' := by omega
      obtain ⟨i1, i2⟩ := ih r
      obtain ⟨d1, d2⟩ := rdL_iff.1 hd
      rw [e]
      constructor
      · intro x hx
        rcases List.mem_cons.1 hx with rfl | hx
        · unfold goodJ
          rw [bne_iff_ne, ← size_len, d2]
          exact fun e => d1 (List.length_eq_zero_iff.1 e)
        · exact i1 x hx
      · simp only [List.map_cons, List.flatten_cons, d2, i2]
        rw [show a ++ 10 :: r = (a ++ [10]) ++ r by simp, show a.length + 1 + (rjGo f r).2 = (a ++ [10]).length + (rjGo f r).2 by simp]
        rw [List.take_length_add_append]
end Go.Proofs.YtmemgbklgcjobaaGreatDoor
