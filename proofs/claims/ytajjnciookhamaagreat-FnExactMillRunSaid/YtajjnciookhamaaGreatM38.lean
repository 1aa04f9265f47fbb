/-
  Parts of the proof, of 1 texts: what MethE show. Conditions: each theorem states its own.
-/
import Derived.Test.YtajjnciookhamaaGreatM37
import Derived.Test.YtajjnciookhamaaGreatM27
import Derived.Test.YtajjnciookhamaaGreatM30
namespace Go.Proofs.YtajjnciookhamaaGreat
open Go.RowKit
theorem MillGot.far {base a z : Nat} {w w' : World} {s p l h : Value} {m : Mi} (H : MillGot base w s p l h m) (k : Other a z w w') (hs : ∀ g, s.ownBlock = some g → g < a ∨ z ≤ g) (hp : ∀ g, p.ownBlock = some g → g < a ∨ z ≤ g) (hl : ∀ g, l.ownBlock = some g → g < a ∨ z ≤ g) (hh : ∀ g, h.ownBlock = some g → g < a ∨ z ≤ g) : MillGot base w' s p l h m :=
  ⟨Nat.le_trans H.hb k.size, H.so.other k hs, H.po.other k hp, H.lo.other k hl, H.ho.other k hh, H.sp, H.sl, H.sh, H.pl, H.ph, H.lh⟩
/-- A function of the specification that changes no old memory. -/
theorem spec_got {base : Nat} {w w' : World} {p : Value} {x : Mi × Bool} {e : Ending} (hb : base ≤ w.heap.size) (k : Below w.heap.size w w') {s' p' l' h' : Value} (he : e = .returned (.tuple #[millV s' p' l' h' x.1, .bool x.2])) (G : MillGot base w' s' p' l' h' x.1) : SpecGot base p x w e w' :=
  ⟨⟨_, _, _, _, he, G, k.mono hb⟩, fun _ _ _ r _ => r.below k r.lt⟩
theorem other_two {g : Nat} {w w1 w2 : World} (h : Other g (g + 1) w w1) (k : Other (g + 1) (g + 1 + 1) w1 w2) : Other g (g + 1 + 1) w w2 :=
  ⟨k.os.trans h.os, k.tape.trans h.tape, k.output.trans h.output, Nat.le_trans h.size k.size, fun q hq hd => (k.block q (Nat.lt_of_lt_of_le hq h.size) (by omega)).trans (h.block q hq (by omega))⟩
/-- What is left where nothing is done. -/
theorem fail_got {base g : Nat} {w w1 : World} {s p l h : Value} {m : Mi} (H : MillGot base w s p l h m) (hb : Below w.heap.size w w1) (hg : w.heap.size ≤ g) (v0 v1 v2 v3 v4 v5 v6 v7 v8 v9 v10 v11 : Value) :
    SpecGot base p (m, false) w (.returned (.tuple #[millV s p l h m, .bool false])) (((((((((((((w1).setCell ⟨g, 0, none⟩ v0).setCell ⟨g, 1, none⟩ v1).setCell ⟨g, 2, none⟩ v2).setCell ⟨g, 3, none⟩ v3).setCell ⟨g, 4, none⟩ v4).setCell ⟨g, 5, none⟩ v5).setCell ⟨g, 6, none⟩ v6).setCell ⟨g, 7, none⟩ v7).setCell ⟨g, 8, none⟩ v8).setCell ⟨g, 9, none⟩ v9).setCell ⟨g, 10, none⟩ v10).setCell ⟨g, 11, none⟩ v11) := by
  have K := hb.trans ((other12 g w1 v0 v1 v2 v3 v4 v5 v6 v7 v8 v9 v10 v11).below (B := w.heap.size) hg hb.size)
  exact spec_got H.hb K rfl (H.below K)
/-- What is left where the box of the mill was changed. -/
theorem done_got {base : Nat} {w wk wz : World} {s' p p' l' h' : Value} {x : Mi} (hb : base ≤ w.heap.size) (K : Below w.heap.size w wk) (G : MillGot base wk s' p' l' h' x) (T : Other w.heap.size (w.heap.size + 1) wk wz)
    (hs : ∀ g, s'.ownBlock = some g → g < w.heap.size ∨ w.heap.size + 1 + 1 ≤ g) (hp : ∀ g, p'.ownBlock = some g → g < w.heap.size ∨ w.heap.size + 1 + 1 ≤ g) (hl : ∀ g, l'.ownBlock = some g → g < w.heap.size ∨ w.heap.size + 1 + 1 ≤ g) (hh : ∀ g, h'.ownBlock = some g → g < w.heap.size ∨ w.heap.size + 1 + 1 ≤ g) (v0 v1 v2 v3 v4 v5 v6 v7 v8 v9 v10 v11 : Value) :
    SpecGot base p (x, true) w (.returned (.tuple #[millV s' p' l' h' x, .bool true])) (((((((((((((wz).setCell ⟨w.heap.size + 1, 0, none⟩ v0).setCell ⟨w.heap.size + 1, 1, none⟩ v1).setCell ⟨w.heap.size + 1, 2, none⟩ v2).setCell ⟨w.heap.size + 1, 3, none⟩ v3).setCell ⟨w.heap.size + 1, 4, none⟩ v4).setCell ⟨w.heap.size + 1, 5, none⟩ v5).setCell ⟨w.heap.size + 1, 6, none⟩ v6).setCell ⟨w.heap.size + 1, 7, none⟩ v7).setCell ⟨w.heap.size + 1, 8, none⟩ v8).setCell ⟨w.heap.size + 1, 9, none⟩ v9).setCell ⟨w.heap.size + 1, 10, none⟩ v10).setCell ⟨w.heap.size + 1, 11, none⟩ v11) := by
  have T2 := other_two T (other12 (w.heap.size + 1) wz v0 v1 v2 v3 v4 v5 v6 v7 v8 v9 v10 v11)
  exact spec_got hb (K.trans (T2.below (B := w.heap.size) (Nat.le_refl _) K.size)) rfl (G.far T2 hs hp hl hh)
set_option linter.unusedSimpArgs false in
set_option maxRecDepth 10000 in
set_option maxHeartbeats 3200000 in
theorem melt_spec {base : Nat} {w : World} {s p l h : Value} {m : Mi} (tons : Int) (H : MillGot base w s p l h m) (hm : MillV m) :
    Calls Tryz.prog 24 #[millV s p l h m, .int .i64 tons] w (SpecGot base p (orOld m (meltD m tons)) w) := by
  have HH := hide H
  have hst0 := hm.st0
  have hbz := H.hb
  obtain ⟨aS, cs, rfl, -, -⟩ := H.so.form
  obtain ⟨ap, cp, rfl, -, -⟩ := H.po.form
  obtain ⟨al, cl, rfl, -, -⟩ := H.lo.form
  obtain ⟨ah, ch, rfl, -, -⟩ := H.ho.form
  have hbest := fun W (K : StAt 0 W.heap.size W (.slice aS m.store.length cs) m.store) => best_spec (.slice aS m.store.length cs) m.store m.rule tons W K
  unfold grV at hbest
  have HBT := hide hbest
  clear hbest H
  unfold millV
  go_enter Tryz.func24, Tryz.ntmps24
  go_wp2_with fail
  refine calls_at fun wx hwx => ?_
  have A_0 : RowL wx w.heap.size 39 (millC (.slice aS m.store.length cs) (.slice ap m.pieces.length cp) (.slice al m.low.length cl) (.slice ah m.high.length ch) m) := by rw [hwx]; exact (RowL.new _ 39 (millC (.slice aS m.store.length cs) (.slice ap m.pieces.length cp) (.slice al m.low.length cl) (.slice ah m.high.length ch) m)).alloc _
  have R_0 : RowL wx (w.heap.size + 1) 39 [.slice none 0 0, .int .i64 0, .int .i64 0, .int .i64 0, .int .i64 0, .int .i64 0, .int .i64 0, .int .i64 0, .slice none 0 0, .slice none 0 0, .slice none 0 0, .int .i64 0] := by rw [hwx]; simpa using (RowL.new (World.alloc _ _) 39 [.slice none 0 0, .int .i64 0, .int .i64 0, .int .i64 0, .int .i64 0, .int .i64 0, .int .i64 0, .int .i64 0, .slice none 0 0, .slice none 0 0, .slice none 0 0, .int .i64 0])
  have B_0 : Below w.heap.size w wx := by rw [hwx]; go_grown
  clear hwx
  have hL0 := R_0.lt
  refine (HBT.out wx (HH.out.below B_0).all.store).mono ?_
  rintro e w1 ⟨ao1, n1, cap1, rfl, hmix, hb⟩
  have A_1 := A_0.below hb A_0.lt
  have R_1 := R_0.below hb R_0.lt
  have B_1 := hide (Below.step B_0 hb (Nat.le_refl _))
  have hz1 := hb.size
  clear hb
  by_cases hs : m.strand = 0
  · have hsB : decide (0 < m.strand) = false := by simp [hs]
    have HS0 := hide hs
    cases hmb : mixBest m.store m.rule tons with
    | none =>
      have HN := hide (melt_no2 hmb)
      clear hmix hmb hs
      have cA0 : w1.cell? ⟨w.heap.size, 0, none⟩ = some (.slice aS m.store.length cs) := A_1.cell 0 (by simp [millC])
      have cA1 : w1.cell? ⟨w.heap.size, 1, none⟩ = some (.int .i64 m.rule.lc) := A_1.cell 1 (by simp [millC])
      have cA2 : w1.cell? ⟨w.heap.size, 2, none⟩ = some (.int .i64 m.rule.hc) := A_1.cell 2 (by simp [millC])
      have cA3 : w1.cell? ⟨w.heap.size, 3, none⟩ = some (.int .i64 m.rule.lm) := A_1.cell 3 (by simp [millC])
      have cA4 : w1.cell? ⟨w.heap.size, 4, none⟩ = some (.int .i64 m.rule.hm) := A_1.cell 4 (by simp [millC])
      have cA5 : w1.cell? ⟨w.heap.size, 5, none⟩ = some (.int .i64 m.rule.ls) := A_1.cell 5 (by simp [millC])
      have cA6 : w1.cell? ⟨w.heap.size, 6, none⟩ = some (.int .i64 m.rule.hs) := A_1.cell 6 (by simp [millC])
      have cA7 : w1.cell? ⟨w.heap.size, 7, none⟩ = some (.int .i64 m.strand) := A_1.cell 7 (by simp [millC])
      have cA8 : w1.cell? ⟨w.heap.size, 8, none⟩ = some (.slice ap m.pieces.length cp) := A_1.cell 8 (by simp [millC])
      have cA9 : w1.cell? ⟨w.heap.size, 9, none⟩ = some (.slice al m.low.length cl) := A_1.cell 9 (by simp [millC])
      have cA10 : w1.cell? ⟨w.heap.size, 10, none⟩ = some (.slice ah m.high.length ch) := A_1.cell 10 (by simp [millC])
      have cA11 : w1.cell? ⟨w.heap.size, 11, none⟩ = some (.int .i64 m.scrap) := A_1.cell 11 (by simp [millC])
      have cR0 : w1.cell? ⟨w.heap.size + 1, 0, none⟩ = some (.slice none 0 0) := R_1.cell 0 (by simp [millC])
      have cR1 : w1.cell? ⟨w.heap.size + 1, 1, none⟩ = some (.int .i64 0) := R_1.cell 1 (by simp [millC])
      have cR2 : w1.cell? ⟨w.heap.size + 1, 2, none⟩ = some (.int .i64 0) := R_1.cell 2 (by simp [millC])
      have cR3 : w1.cell? ⟨w.heap.size + 1, 3, none⟩ = some (.int .i64 0) := R_1.cell 3 (by simp [millC])
      have cR4 : w1.cell? ⟨w.heap.size + 1, 4, none⟩ = some (.int .i64 0) := R_1.cell 4 (by simp [millC])
      have cR5 : w1.cell? ⟨w.heap.size + 1, 5, none⟩ = some (.int .i64 0) := R_1.cell 5 (by simp [millC])
      have cR6 : w1.cell? ⟨w.heap.size + 1, 6, none⟩ = some (.int .i64 0) := R_1.cell 6 (by simp [millC])
      have cR7 : w1.cell? ⟨w.heap.size + 1, 7, none⟩ = some (.int .i64 0) := R_1.cell 7 (by simp [millC])
      have cR8 : w1.cell? ⟨w.heap.size + 1, 8, none⟩ = some (.slice none 0 0) := R_1.cell 8 (by simp [millC])
      have cR9 : w1.cell? ⟨w.heap.size + 1, 9, none⟩ = some (.slice none 0 0) := R_1.cell 9 (by simp [millC])
      have cR10 : w1.cell? ⟨w.heap.size + 1, 10, none⟩ = some (.slice none 0 0) := R_1.cell 10 (by simp [millC])
      have cR11 : w1.cell? ⟨w.heap.size + 1, 11, none⟩ = some (.int .i64 0) := R_1.cell 11 (by simp [millC])
      have fR0 := R_1.frozen 0
      have fR1 := R_1.frozen 1
      have fR2 := R_1.frozen 2
      have fR3 := R_1.frozen 3
      have fR4 := R_1.frozen 4
      have fR5 := R_1.frozen 5
      have fR6 := R_1.frozen 6
      have fR7 := R_1.frozen 7
      have fR8 := R_1.frozen 8
      have fR9 := R_1.frozen 9
      have fR10 := R_1.frozen 10
      have fR11 := R_1.frozen 11
      go_wp2_with fail
      refine bodyPost_ret (by simp [results, Tryz.results24, go_sem, cR0, cR1, cR2, cR3, cR4, cR5, cR6, cR7, cR8, cR9, cR10, cR11]; try rfl) rfl ?_
      rw [HN.out]
      exact fail_got HH.out B_1.out (by omega) _ _ _ _ _ _ _ _ _ _ _ _
    | some mix =>
      have HM := hide hmb
      obtain ⟨hmv, -, ht1, ht2⟩ := best_ok hmb
      have HMB := hide hmv
      have HI := hide (hmix mix hmb)
      have hw4 : IntKind.i64.wrap (4 * tons) = 4 * tons := IntWalk.i64_in _ (by omega)
      clear hmix hmb hmv hs
      have cA0 : w1.cell? ⟨w.heap.size, 0, none⟩ = some (.slice aS m.store.length cs) := A_1.cell 0 (by simp [millC])
      have cA7 : w1.cell? ⟨w.heap.size, 7, none⟩ = some (.int .i64 m.strand) := A_1.cell 7 (by simp [millC])
      go_wp2_with fail
      refine (take_spec (.slice aS m.store.length cs) (.slice ao1 n1 cap1) m.store mix w1 ((HH.out.below B_1.out).all.store) (HI.out.mono (Nat.zero_le _) (Nat.le_refl _) (Nat.le_refl _)) HMB.out).mono ?_
      rintro e w2 ⟨v, rfl, own, hb2⟩
      have A_2 := A_1.below hb2 A_1.lt
      have R_2 := R_1.below hb2 R_1.lt
      have B_2 := hide (Below.step B_1.out hb2 (Nat.le_refl _))
      have hz2 := hb2.size
      have G_2 := hide (HH.out.store B_2.out (show w.heap.size ≤ w1.heap.size by have := B_1.out.size; omega) (OwnE.own own) (4 * tons))
      have HO := hide own
      obtain ⟨av, cv, rfl, -, -⟩ := own_slice own
      clear own hb2 cA0 cA7
      have cA0 : w2.cell? ⟨w.heap.size, 0, none⟩ = some (.slice aS m.store.length cs) := A_2.cell 0 (by simp [millC])
      have cA1 : w2.cell? ⟨w.heap.size, 1, none⟩ = some (.int .i64 m.rule.lc) := A_2.cell 1 (by simp [millC])
      have cA2 : w2.cell? ⟨w.heap.size, 2, none⟩ = some (.int .i64 m.rule.hc) := A_2.cell 2 (by simp [millC])
      have cA3 : w2.cell? ⟨w.heap.size, 3, none⟩ = some (.int .i64 m.rule.lm) := A_2.cell 3 (by simp [millC])
      have cA4 : w2.cell? ⟨w.heap.size, 4, none⟩ = some (.int .i64 m.rule.hm) := A_2.cell 4 (by simp [millC])
      have cA5 : w2.cell? ⟨w.heap.size, 5, none⟩ = some (.int .i64 m.rule.ls) := A_2.cell 5 (by simp [millC])
      have cA6 : w2.cell? ⟨w.heap.size, 6, none⟩ = some (.int .i64 m.rule.hs) := A_2.cell 6 (by simp [millC])
      have cA7 : w2.cell? ⟨w.heap.size, 7, none⟩ = some (.int .i64 m.strand) := A_2.cell 7 (by simp [millC])
      have cA8 : w2.cell? ⟨w.heap.size, 8, none⟩ = some (.slice ap m.pieces.length cp) := A_2.cell 8 (by simp [millC])
      have cA9 : w2.cell? ⟨w.heap.size, 9, none⟩ = some (.slice al m.low.length cl) := A_2.cell 9 (by simp [millC])
      have cA10 : w2.cell? ⟨w.heap.size, 10, none⟩ = some (.slice ah m.high.length ch) := A_2.cell 10 (by simp [millC])
      have cA11 : w2.cell? ⟨w.heap.size, 11, none⟩ = some (.int .i64 m.scrap) := A_2.cell 11 (by simp [millC])
      have fA0 := A_2.frozen 0
      have fA1 := A_2.frozen 1
      have fA2 := A_2.frozen 2
      have fA3 := A_2.frozen 3
      have fA4 := A_2.frozen 4
      have fA5 := A_2.frozen 5
      have fA6 := A_2.frozen 6
      have fA7 := A_2.frozen 7
      have fA8 := A_2.frozen 8
      have fA9 := A_2.frozen 9
      have fA10 := A_2.frozen 10
      have fA11 := A_2.frozen 11
      have cR0 : w2.cell? ⟨w.heap.size + 1, 0, none⟩ = some (.slice none 0 0) := R_2.cell 0 (by simp [millC])
      have cR1 : w2.cell? ⟨w.heap.size + 1, 1, none⟩ = some (.int .i64 0) := R_2.cell 1 (by simp [millC])
      have cR2 : w2.cell? ⟨w.heap.size + 1, 2, none⟩ = some (.int .i64 0) := R_2.cell 2 (by simp [millC])
      have cR3 : w2.cell? ⟨w.heap.size + 1, 3, none⟩ = some (.int .i64 0) := R_2.cell 3 (by simp [millC])
      have cR4 : w2.cell? ⟨w.heap.size + 1, 4, none⟩ = some (.int .i64 0) := R_2.cell 4 (by simp [millC])
      have cR5 : w2.cell? ⟨w.heap.size + 1, 5, none⟩ = some (.int .i64 0) := R_2.cell 5 (by simp [millC])
      have cR6 : w2.cell? ⟨w.heap.size + 1, 6, none⟩ = some (.int .i64 0) := R_2.cell 6 (by simp [millC])
      have cR7 : w2.cell? ⟨w.heap.size + 1, 7, none⟩ = some (.int .i64 0) := R_2.cell 7 (by simp [millC])
      have cR8 : w2.cell? ⟨w.heap.size + 1, 8, none⟩ = some (.slice none 0 0) := R_2.cell 8 (by simp [millC])
      have cR9 : w2.cell? ⟨w.heap.size + 1, 9, none⟩ = some (.slice none 0 0) := R_2.cell 9 (by simp [millC])
      have cR10 : w2.cell? ⟨w.heap.size + 1, 10, none⟩ = some (.slice none 0 0) := R_2.cell 10 (by simp [millC])
      have cR11 : w2.cell? ⟨w.heap.size + 1, 11, none⟩ = some (.int .i64 0) := R_2.cell 11 (by simp [millC])
      have fR0 := R_2.frozen 0
      have fR1 := R_2.frozen 1
      have fR2 := R_2.frozen 2
      have fR3 := R_2.frozen 3
      have fR4 := R_2.frozen 4
      have fR5 := R_2.frozen 5
      have fR6 := R_2.frozen 6
      have fR7 := R_2.frozen 7
      have fR8 := R_2.frozen 8
      have fR9 := R_2.frozen 9
      have fR10 := R_2.frozen 10
      have fR11 := R_2.frozen 11
      go_wp2_with fail
      refine bodyPost_ret (by simp [results, Tryz.results24, go_sem, cR0, cR1, cR2, cR3, cR4, cR5, cR6, cR7, cR8, cR9, cR10, cR11]; try rfl) rfl ?_
      rw [melt_yes HS0.out HM.out]
      have T : Other w.heap.size (w.heap.size + 1) w2 ((w2.setCell ⟨w.heap.size, 0, none⟩ (.slice av (takeM m.store mix).length cv)).setCell ⟨w.heap.size, 7, none⟩ (.int .i64 (4 * tons))) := Other.setCell (p := ⟨w.heap.size, 7, none⟩) (Other.setCell (p := ⟨w.heap.size, 0, none⟩) (Other.refl _ _ _) (Nat.le_refl _) (Nat.lt_succ_self _) _) (Nat.le_refl _) (Nat.lt_succ_self _) _
      exact done_got (x := { m with store := takeM m.store mix, strand := 4 * tons }) hbz B_2.out G_2.out T (fun g hg => .inr (by have := (OwnE.own HO.out).lt g hg; omega)) (fun g hg => .inl (HH.out.po.lt g hg).2) (fun g hg => .inl (HH.out.lo.lt g hg).2) (fun g hg => .inl (HH.out.ho.lt g hg).2) _ _ _ _ _ _ _ _ _ _ _ _
  · have hsB : decide (0 < m.strand) = true := by simp; omega
    have HN := hide (melt_no1 (t := tons) hs)
    clear hmix hs
    have cA0 : w1.cell? ⟨w.heap.size, 0, none⟩ = some (.slice aS m.store.length cs) := A_1.cell 0 (by simp [millC])
    have cA1 : w1.cell? ⟨w.heap.size, 1, none⟩ = some (.int .i64 m.rule.lc) := A_1.cell 1 (by simp [millC])
    have cA2 : w1.cell? ⟨w.heap.size, 2, none⟩ = some (.int .i64 m.rule.hc) := A_1.cell 2 (by simp [millC])
    have cA3 : w1.cell? ⟨w.heap.size, 3, none⟩ = some (.int .i64 m.rule.lm) := A_1.cell 3 (by simp [millC])
    have cA4 : w1.cell? ⟨w.heap.size, 4, none⟩ = some (.int .i64 m.rule.hm) := A_1.cell 4 (by simp [millC])
    have cA5 : w1.cell? ⟨w.heap.size, 5, none⟩ = some (.int .i64 m.rule.ls) := A_1.cell 5 (by simp [millC])
    have cA6 : w1.cell? ⟨w.heap.size, 6, none⟩ = some (.int .i64 m.rule.hs) := A_1.cell 6 (by simp [millC])
    have cA7 : w1.cell? ⟨w.heap.size, 7, none⟩ = some (.int .i64 m.strand) := A_1.cell 7 (by simp [millC])
    have cA8 : w1.cell? ⟨w.heap.size, 8, none⟩ = some (.slice ap m.pieces.length cp) := A_1.cell 8 (by simp [millC])
    have cA9 : w1.cell? ⟨w.heap.size, 9, none⟩ = some (.slice al m.low.length cl) := A_1.cell 9 (by simp [millC])
    have cA10 : w1.cell? ⟨w.heap.size, 10, none⟩ = some (.slice ah m.high.length ch) := A_1.cell 10 (by simp [millC])
    have cA11 : w1.cell? ⟨w.heap.size, 11, none⟩ = some (.int .i64 m.scrap) := A_1.cell 11 (by simp [millC])
    have cR0 : w1.cell? ⟨w.heap.size + 1, 0, none⟩ = some (.slice none 0 0) := R_1.cell 0 (by simp [millC])
    have cR1 : w1.cell? ⟨w.heap.size + 1, 1, none⟩ = some (.int .i64 0) := R_1.cell 1 (by simp [millC])
    have cR2 : w1.cell? ⟨w.heap.size + 1, 2, none⟩ = some (.int .i64 0) := R_1.cell 2 (by simp [millC])
    have cR3 : w1.cell? ⟨w.heap.size + 1, 3, none⟩ = some (.int .i64 0) := R_1.cell 3 (by simp [millC])
    have cR4 : w1.cell? ⟨w.heap.size + 1, 4, none⟩ = some (.int .i64 0) := R_1.cell 4 (by simp [millC])
    have cR5 : w1.cell? ⟨w.heap.size + 1, 5, none⟩ = some (.int .i64 0) := R_1.cell 5 (by simp [millC])
    have cR6 : w1.cell? ⟨w.heap.size + 1, 6, none⟩ = some (.int .i64 0) := R_1.cell 6 (by simp [millC])
    have cR7 : w1.cell? ⟨w.heap.size + 1, 7, none⟩ = some (.int .i64 0) := R_1.cell 7 (by simp [millC])
    have cR8 : w1.cell? ⟨w.heap.size + 1, 8, none⟩ = some (.slice none 0 0) := R_1.cell 8 (by simp [millC])
    have cR9 : w1.cell? ⟨w.heap.size + 1, 9, none⟩ = some (.slice none 0 0) := R_1.cell 9 (by simp [millC])
    have cR10 : w1.cell? ⟨w.heap.size + 1, 10, none⟩ = some (.slice none 0 0) := R_1.cell 10 (by simp [millC])
    have cR11 : w1.cell? ⟨w.heap.size + 1, 11, none⟩ = some (.int .i64 0) := R_1.cell 11 (by simp [millC])
    have fR0 := R_1.frozen 0
    have fR1 := R_1.frozen 1
    have fR2 := R_1.frozen 2
    have fR3 := R_1.frozen 3
    have fR4 := R_1.frozen 4
    have fR5 := R_1.frozen 5
    have fR6 := R_1.frozen 6
    have fR7 := R_1.frozen 7
    have fR8 := R_1.frozen 8
    have fR9 := R_1.frozen 9
    have fR10 := R_1.frozen 10
    have fR11 := R_1.frozen 11
    go_wp2_with fail
    refine bodyPost_ret (by simp [results, Tryz.results24, go_sem, cR0, cR1, cR2, cR3, cR4, cR5, cR6, cR7, cR8, cR9, cR10, cR11]; try rfl) rfl ?_
    rw [HN.out]
    exact fail_got HH.out B_1.out (by omega) _ _ _ _ _ _ _ _ _ _ _ _
end Go.Proofs.YtajjnciookhamaaGreat
