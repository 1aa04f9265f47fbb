/-
  Parts of the proofs over mills, of: GradeT, ClearB. Conditions: each theorem states its own.
-/
import Derived.Test.YtkhecelpafojdaaGreatDoorF46
set_option linter.unusedSimpArgs false
set_option linter.unusedVariables false
set_option maxRecDepth 10000
set_option maxHeartbeats 64000000
namespace Go.Proofs.YtkhecelpafojdaaGreatDoor
open Go.RowKit
structure fP (S : World → Prop) where
 wd : World
 ok : S wd
theorem wp_region_cls {P : Program} {id : Nat} {Q : Exit → Act → World → Prop} {a : Act} {w : World} {l : List Oper} {C : World → Prop} (hm : P.follows .mixedOrders = true) (hB : Region.lexB .any l.toArray = true) (hC : C { w with drawn := w.drawn + 1 })
 (h : wpQuiet P l.toArray C (fun a' => ∀ w', C w' → Q .normal a' w') l a) : (Code.region id l.toArray true).wp P Q a w :=
 wp_region_quiet hm hB hC (by simpa using h)
def BoxG (w : World) (A : Nat) (g : Gr) (W : World) : Prop := ae W A 25 [.int .i64 g.lc, .int .i64 g.hc, .int .i64 g.lm, .int .i64 g.hm, .int .i64 g.ls, .int .i64 g.hs] ∧ Below w.heap.size w W
theorem fO {w : World} {A : Nat} {g : Gr} {P : Program} {f : FuncId} {args : Array Value} {r : Value}
 (H : ∀ W, Below w.heap.size w W → Calls P f args W fun e w' => e = .returned r ∧ Below W.heap.size W w') (n : fP (BoxG w A g)) :
 Calls P f args n.wd fun e w' => e = .returned r ∧ ∃ m : fP (BoxG w A g), w' = m.wd :=
 (H n.wd n.ok.2).mono fun _ w' ⟨he, hb⟩ => ⟨he, ⟨w', n.ok.1.below hb n.ok.1.lt, Below.step n.ok.2 hb nl⟩, rfl⟩
theorem fC {n : Int} (h0 : 0 ≤ n) (h1 : n ≤ 999) : (aW n).size ≤ 21 := gm n (by omega) (by omega)
theorem range_impl (a b : Int) (ha : 0 ≤ a ∧ a ≤ 999) (hb : 0 ≤ b ∧ b ≤ 999) (w : World) (hp : ik w) :
 Calls Tryz.prog 99 #[.int .i64 a, .int .i64 b] w fun e w' => e = .returned (.string (fQ a b)) ∧ Below w.heap.size w w' := by
 have h1 := fC ha.1 ha.2;have h2 := fC hb.1 hb.2;have hs1 : ¬ 9223372036854775807 < (aW a).size + 1 := by omega
 have hs2 : ¬ 9223372036854775807 < (aW a).size + 1 + (aW b).size := by omega
 clear h1 h2;go_enter Tryz.func99, Tryz.ntmps99;go_wp2_with fail
 refine (iK a (by omega) (by omega) w hp).mono ?_;rintro e w1 ⟨rfl, hb1⟩;go_wp2_with fail
 refine (iK b (by omega) (by omega) w1 (hp.stays hb1)).mono ?_;rintro e w2 ⟨rfl, hb2⟩;go_wp2_with fail
 go_ret;exact ⟨rfl, Below.step hb1 hb2 nl⟩
theorem grade_impl (g : Gr) (w : World) (hp : ik w) :
 Calls Tryz.prog 49 #[grV g] w fun e w' => e = .returned (.string (gV g)) ∧ Below w.heap.size w w' := by
 have HP := hide hp;have hg := fun W => grv_impl g W;unfold grV at hg ⊢;go_enter Tryz.func49, Tryz.ntmps49;go_wp2_with fail
 refine aj fun wx hwx => ?_;have A_0 : ae wx (w.heap.size) 25 [.int .i64 g.lc, .int .i64 g.hc, .int .i64 g.lm, .int .i64 g.hm, .int .i64 g.ls, .int .i64 g.hs] := by rw [hwx]; exact (ae.new _ _ _)
 have B_0 : Below w.heap.size w wx := by rw [hwx]; go_grown
 clear hwx;have k1 := hg wx;clear hg hp;cases hv : grB g with
 | false =>
  rw [hv] at k1;have HZ := hide (show gV g = ⟨#[]⟩ by simp [gV, hv]);clear hv;refine k1.mono ?_;rintro e w1 ⟨rfl, hb⟩;have B_1 := bs B_0 hb;clear hb k1;go_wp2_with fail
  go_ret;exact ⟨by rw [HZ.out]; rfl, B_1.out⟩
 | true =>
  rw [hv] at k1;have HZ := hide (show gV g = fQ g.lc g.hc ++ slB ++ fQ g.lm g.hm ++ slB ++ fQ g.ls g.hs by simp [gV, hv]);obtain ⟨⟨a1, a2⟩, ⟨b1, b2⟩, ⟨c1, c2⟩, ⟨d1, d2⟩, ⟨e1, e2⟩, f1, f2⟩ := grB_iff.1 hv;clear hv;refine k1.mono ?_;rintro e w1 ⟨rfl, hb⟩;have A_1 := A_0.below hb A_0.lt;have B_1 := bs B_0 hb;have HP1 := hide (HP.out.stays B_1.out);clear hb k1;have hI : BoxG w1 w.heap.size g w1.drew := ⟨A_1.drew, (Below.refl _ _).drew⟩;obtain ⟨RR, hRR⟩ : ∃ RR, BoxG w1 w.heap.size g = RR := ⟨_, rfl⟩;have hK0 : ∀ n : fP RR, BoxG w1 w.heap.size g n.wd := by rw [← hRR]; exact fun n => n.ok
  have hc1 := fO (A := w.heap.size) (g := g) fun W (k : Below w1.heap.size w1 W) => range_impl g.lc g.hc ⟨by omega, by omega⟩ ⟨by omega, by omega⟩ W (HP1.out.stays k);have hc2 := fO (A := w.heap.size) (g := g) fun W (k : Below w1.heap.size w1 W) => range_impl g.lm g.hm ⟨by omega, by omega⟩ ⟨by omega, by omega⟩ W (HP1.out.stays k);have hc3 := fO (A := w.heap.size) (g := g) fun W (k : Below w1.heap.size w1 W) => range_impl g.ls g.hs ⟨by omega, by omega⟩ ⟨by omega, by omega⟩ W (HP1.out.stays k);rw [hRR] at hI hc1 hc2 hc3;have HC1 := hide hc1;have HC2 := hide hc2;have HC3 := hide hc3;have g0 : ∀ n : fP RR, n.wd.cell? ⟨w.heap.size, 0, none⟩ = some (.int .i64 g.lc) := fun n => (hK0 n).1.cell 0 (by simp);have g1 : ∀ n : fP RR, n.wd.cell? ⟨w.heap.size, 1, none⟩ = some (.int .i64 g.hc) := fun n => (hK0 n).1.cell 1 (by simp);have g2 : ∀ n : fP RR, n.wd.cell? ⟨w.heap.size, 2, none⟩ = some (.int .i64 g.lm) := fun n => (hK0 n).1.cell 2 (by simp);have g3 : ∀ n : fP RR, n.wd.cell? ⟨w.heap.size, 3, none⟩ = some (.int .i64 g.hm) := fun n => (hK0 n).1.cell 3 (by simp);have g4 : ∀ n : fP RR, n.wd.cell? ⟨w.heap.size, 4, none⟩ = some (.int .i64 g.ls) := fun n => (hK0 n).1.cell 4 (by simp);have g5 : ∀ n : fP RR, n.wd.cell? ⟨w.heap.size, 5, none⟩ = some (.int .i64 g.hs) := fun n => (hK0 n).1.cell 5 (by simp);have HB := hide (fun n : fP RR => (hK0 n).2);have hN0 : Nonempty (fP RR) := ⟨⟨_, hI⟩⟩;have rb : ∀ {a b : Int}, 0 ≤ a → a ≤ 999 → 0 ≤ b → b ≤ 999 → (fQ a b).size ≤ 43 := fun {a b} h1 h2 h3 h4 => by
   have k1 := fC h1 h2;have k2 := fC h3 h4;have : hyB.size = 1 := rfl;simp only [fQ, ByteArray.size_append];omega
  have n1 := rb a1 a2 (show 0 ≤ g.hc by omega) b2;have n2 := rb c1 c2 (show 0 ≤ g.hm by omega) d2;have n3 := rb e1 e2 (show 0 ≤ g.hs by omega) f2;obtain ⟨r1, hr1⟩ : ∃ r, fQ g.lc g.hc = r := ⟨_, rfl⟩;obtain ⟨r2, hr2⟩ : ∃ r, fQ g.lm g.hm = r := ⟨_, rfl⟩;obtain ⟨r3, hr3⟩ : ∃ r, fQ g.ls g.hs = r := ⟨_, rfl⟩;rw [hr1] at n1 HC1 HZ;rw [hr2] at n2 HC2 HZ;rw [hr3] at n3 HC3 HZ;have s1 : ¬ 9223372036854775807 < r1.size + 1 := by omega
  have s2 : ¬ 9223372036854775807 < r1.size + 1 + r2.size := by omega
  have s3 : ¬ 9223372036854775807 < r1.size + 1 + r2.size + 1 := by omega
  have s4 : ¬ 9223372036854775807 < r1.size + 1 + r2.size + 1 + r3.size := by omega
  clear hRR hK0 hc1 hc2 hc3 rb n1 n2 n3 hr1 hr2 hr3 a1 a2 b1 b2 c1 c2 d1 d2 e1 e2 f1 f2 A_0 A_1 B_0;go_wp2_with fail
  refine wp_region_cls (C := fun w' => ∃ n : fP RR, w' = n.wd) (by kernel_rfl) (by kernel_rfl) ⟨⟨_, hI⟩, rfl⟩ ?_
  repeat (go_big_quiet_step (first
   | (go_at_call 99; with_reducible exact HC1.out _)
   | (go_at_call 99; with_reducible exact HC2.out _)
   | (go_at_call 99; with_reducible exact HC3.out _)))
  refine wpQuiet_nil ?_;intro _ hw';obtain ⟨nq, rfl⟩ := hw';have hbw := HB.out nq;go_wp2_with fail
  go_ret;exact ⟨by rw [HZ.out]; rfl, B_1.out.trans (hbw.mono B_1.out.size)⟩
theorem grade_spec (g : Gr) (w : World) :
 Calls Tryz.prog 91 #[grV g] w fun e w' => e = .returned (.string (gV g)) ∧ Below w.heap.size w w' := by
 have hg := fun W => grv_spec g W;unfold grV at hg ⊢;go_enter Tryz.func91, Tryz.ntmps91;go_wp2_with fail
 refine aj fun wx hwx => ?_;have A_0 : ae wx (w.heap.size) 25 [.int .i64 g.lc, .int .i64 g.hc, .int .i64 g.lm, .int .i64 g.hm, .int .i64 g.ls, .int .i64 g.hs] := by rw [hwx]; exact (ae.new _ _ _)
 have B_0 : Below w.heap.size w wx := by rw [hwx]; go_grown
 clear hwx;have k1 := hg wx;clear hg;cases hv : grB g with
 | false =>
  rw [hv] at k1;have HZ := hide (show gV g = ⟨#[]⟩ by simp [gV, hv]);clear hv;refine k1.mono ?_;rintro e w1 ⟨rfl, hb⟩;have B_1 := bs B_0 hb;clear hb k1;go_wp2_with fail
  go_ret;exact ⟨by rw [HZ.out]; rfl, B_1.out⟩
 | true =>
  rw [hv] at k1;have HZ := hide (show gV g = fQ g.lc g.hc ++ slB ++ fQ g.lm g.hm ++ slB ++ fQ g.ls g.hs by simp [gV, hv]);obtain ⟨⟨a1, a2⟩, ⟨b1, b2⟩, ⟨c1, c2⟩, ⟨d1, d2⟩, ⟨e1, e2⟩, f1, f2⟩ := grB_iff.1 hv;clear hv;refine k1.mono ?_;rintro e w1 ⟨rfl, hb⟩;have A_1 := A_0.below hb A_0.lt;have B_1 := bs B_0 hb;clear hb k1;have hI : BoxG w1 w.heap.size g w1.drew := ⟨A_1.drew, (Below.refl _ _).drew⟩;obtain ⟨RR, hRR⟩ : ∃ RR, BoxG w1 w.heap.size g = RR := ⟨_, rfl⟩;have hK0 : ∀ n : fP RR, BoxG w1 w.heap.size g n.wd := by rw [← hRR]; exact fun n => n.ok
  have hc1 := fO (A := w.heap.size) (g := g) fun W (_ : Below w1.heap.size w1 W) => aT g.lc (by omega) (by omega) W;have hc2 := fO (A := w.heap.size) (g := g) fun W (_ : Below w1.heap.size w1 W) => aT g.hc (by omega) (by omega) W;have hc3 := fO (A := w.heap.size) (g := g) fun W (_ : Below w1.heap.size w1 W) => aT g.lm (by omega) (by omega) W;have hc4 := fO (A := w.heap.size) (g := g) fun W (_ : Below w1.heap.size w1 W) => aT g.hm (by omega) (by omega) W;have hc5 := fO (A := w.heap.size) (g := g) fun W (_ : Below w1.heap.size w1 W) => aT g.ls (by omega) (by omega) W;have hc6 := fO (A := w.heap.size) (g := g) fun W (_ : Below w1.heap.size w1 W) => aT g.hs (by omega) (by omega) W;rw [hRR] at hI hc1 hc2 hc3 hc4 hc5 hc6;have HC1 := hide hc1;have HC2 := hide hc2;have HC3 := hide hc3;have HC4 := hide hc4;have HC5 := hide hc5;have HC6 := hide hc6;have g0 : ∀ n : fP RR, n.wd.cell? ⟨w.heap.size, 0, none⟩ = some (.int .i64 g.lc) := fun n => (hK0 n).1.cell 0 (by simp);have g1 : ∀ n : fP RR, n.wd.cell? ⟨w.heap.size, 1, none⟩ = some (.int .i64 g.hc) := fun n => (hK0 n).1.cell 1 (by simp);have g2 : ∀ n : fP RR, n.wd.cell? ⟨w.heap.size, 2, none⟩ = some (.int .i64 g.lm) := fun n => (hK0 n).1.cell 2 (by simp);have g3 : ∀ n : fP RR, n.wd.cell? ⟨w.heap.size, 3, none⟩ = some (.int .i64 g.hm) := fun n => (hK0 n).1.cell 3 (by simp);have g4 : ∀ n : fP RR, n.wd.cell? ⟨w.heap.size, 4, none⟩ = some (.int .i64 g.ls) := fun n => (hK0 n).1.cell 4 (by simp);have g5 : ∀ n : fP RR, n.wd.cell? ⟨w.heap.size, 5, none⟩ = some (.int .i64 g.hs) := fun n => (hK0 n).1.cell 5 (by simp);have HB := hide (fun n : fP RR => (hK0 n).2);have hN0 : Nonempty (fP RR) := ⟨⟨_, hI⟩⟩;have n1 := fC (n := g.lc) (by omega) (by omega);have n2 := fC (n := g.hc) (by omega) (by omega);have n3 := fC (n := g.lm) (by omega) (by omega);have n4 := fC (n := g.hm) (by omega) (by omega);have n5 := fC (n := g.ls) (by omega) (by omega);have n6 := fC (n := g.hs) (by omega) (by omega);obtain ⟨r1, hr1⟩ : ∃ r, aW g.lc = r := ⟨_, rfl⟩;rw [hr1] at n1 HC1;obtain ⟨r2, hr2⟩ : ∃ r, aW g.hc = r := ⟨_, rfl⟩;rw [hr2] at n2 HC2;obtain ⟨r3, hr3⟩ : ∃ r, aW g.lm = r := ⟨_, rfl⟩;rw [hr3] at n3 HC3;obtain ⟨r4, hr4⟩ : ∃ r, aW g.hm = r := ⟨_, rfl⟩;rw [hr4] at n4 HC4;obtain ⟨r5, hr5⟩ : ∃ r, aW g.ls = r := ⟨_, rfl⟩;rw [hr5] at n5 HC5;obtain ⟨r6, hr6⟩ : ∃ r, aW g.hs = r := ⟨_, rfl⟩;rw [hr6] at n6 HC6;have HZ2 := hide (show gV g = r1 ++ hyB ++ r2 ++ slB ++ r3 ++ hyB ++ r4 ++ slB ++ r5 ++ hyB ++ r6 by
   rw [HZ.out]; unfold fQ; rw [hr1, hr2, hr3, hr4, hr5, hr6]; simp only [ByteArray.append_assoc])
  have s1 : ¬ 9223372036854775807 < r1.size + 1 := by omega
  have s2 : ¬ 9223372036854775807 < r1.size + 1 + r2.size := by omega
  have s3 : ¬ 9223372036854775807 < r1.size + 1 + r2.size + 1 := by omega
  have s4 : ¬ 9223372036854775807 < r1.size + 1 + r2.size + 1 + r3.size := by omega
  have s5 : ¬ 9223372036854775807 < r1.size + 1 + r2.size + 1 + r3.size + 1 := by omega
  have s6 : ¬ 9223372036854775807 < r1.size + 1 + r2.size + 1 + r3.size + 1 + r4.size := by omega
  have s7 : ¬ 9223372036854775807 < r1.size + 1 + r2.size + 1 + r3.size + 1 + r4.size + 1 := by omega
  have s8 : ¬ 9223372036854775807 < r1.size + 1 + r2.size + 1 + r3.size + 1 + r4.size + 1 + r5.size := by omega
  have s9 : ¬ 9223372036854775807 < r1.size + 1 + r2.size + 1 + r3.size + 1 + r4.size + 1 + r5.size + 1 := by omega
  have s10 : ¬ 9223372036854775807 < r1.size + 1 + r2.size + 1 + r3.size + 1 + r4.size + 1 + r5.size + 1 + r6.size := by omega
  clear hRR hK0 hc1 n1 hr1 hc2 n2 hr2 hc3 n3 hr3 hc4 n4 hr4 hc5 n5 hr5 hc6 n6 hr6 a1 a2 b1 b2 c1 c2 d1 d2 e1 e2 f1 f2 A_0 A_1 B_0;go_wp2_with fail
  refine wp_region_cls (C := fun w' => ∃ n : fP RR, w' = n.wd) (by kernel_rfl) (by kernel_rfl) ⟨⟨_, hI⟩, rfl⟩ ?_
  repeat (go_big_quiet_step (first
   | (go_at_call 89; with_reducible exact HC1.out _)
   | (go_at_call 89; with_reducible exact HC2.out _)
   | (go_at_call 89; with_reducible exact HC3.out _)
   | (go_at_call 89; with_reducible exact HC4.out _)
   | (go_at_call 89; with_reducible exact HC5.out _)
   | (go_at_call 89; with_reducible exact HC6.out _)))
  refine wpQuiet_nil ?_;intro _ hw';obtain ⟨nq, rfl⟩ := hw';have hbw := HB.out nq;go_wp2_with fail
  go_ret;exact ⟨by rw [HZ2.out]; rfl, B_1.out.trans (hbw.mono B_1.out.size)⟩
theorem clear_spec (s p l h : Value) (m : Mi) (w : World) (H : aM 0 w.heap.size w s p l h m) :
 Calls Tryz.prog 29 #[ag s p l h m] w (DeedsNew w.heap.size (bM m) w) := by
 obtain ⟨ao1, cap1, ao2, cap2, ao3, cap3, ao4, cap4, rfl, rfl, rfl, rfl⟩ := H.op;have hpl := H.pieces.len;obtain ⟨j0, hj0, hzj, hj1, hj2⟩ := info_parts info_J;obtain ⟨i0, hi0, hz0, hi1, hi2⟩ := info_parts bF;unfold ag;go_enter Tryz.func29, Tryz.ntmps29;go_wp2_with fail
 refine aj fun wx hwx => ?_;have A_0 : ae wx w.heap.size 31 (mC ao1 cap1 ao2 cap2 ao3 cap3 ao4 cap4 m) := by rw [hwx]; exact (ae.new _ _ _).alloc _
 have O_0 : wx.ownsRow (w.heap.size + 1) 42 3 (.slice (some ⟨w.heap.size + 1, 0, none⟩) 0 0) 0 [] := by rw [hwx]; simpa using World.ownsRow_lit (e := 42) (size := 3) (base := w.heap.size + 1) (w.alloc (.cells #[.slice ao1 m.store.length cap1, .int .i64 m.rule.lc, .int .i64 m.rule.hc, .int .i64 m.rule.lm, .int .i64 m.rule.hm, .int .i64 m.rule.ls, .int .i64 m.rule.hs, .int .i64 m.strand, .slice ao2 m.pieces.length cap2, .slice ao3 m.low.length cap3, .slice ao4 m.high.length cap4, .int .i64 m.scrap] 31)) #[] 0 (by simp) (by unfold maxLen; omega) (by simp)
 have B_0 : Below w.heap.size w wx := by rw [hwx]; go_grown
 clear hwx;have hL0 := A_0.lt;have VV_0 := hide (H.below B_0);have KV := cu _ _ _ _ m wx VV_0.out.all;cases hv : aF m with
 | false =>
  rw [hv] at KV;refine KV.mono ?_;rintro e w1 ⟨rfl, hb⟩;have HB := bs B_0 hb;have HF := hide (show bM m = [] by simp [bM, hv]);have HO := hide (aJ (ownsRow_below O_0 hb nl) (Nat.le_succ _));clear hb KV hv O_0;go_wp2_with fail
  go_ret;exact ⟨_, rfl, by rw [HF.out]; exact HO.out, HB.out⟩
 | true =>
  rw [hv] at KV;have HF := hide (show bM m = (nz (m.high ++ m.low)).map dK ++ (dA m.pieces 0).flatMap eG by simp [bM, hv]);have HP := hide (show bf m 0 = dA m.pieces 0 by simp [bf, hv]);have MV := aQ.1 hv;have h5 := MV.len;have q1 := MV.pile.l1;have q2 := MV.pile.l6;have q3 := MV.pile.lh;have HR := hide (show ∀ x ∈ m.high ++ m.low, 0 ≤ x from fun x hx => (MV.pile.rng x (by simp only [List.mem_append] at hx ⊢; exact hx.symm)).1);clear MV hv;refine KV.mono ?_;rintro e w1 ⟨rfl, hb⟩;have A_1 := A_0.below hb hL0;have VV_1 := hide (VV_0.out.below hb);have O_1 := hide (ownsRow_below O_0 hb nl);have B_1 := bs B_0 hb;have hL1 := A_1.lt;have hzw := B_1.out.size;clear hb KV O_0;have cA9 := A_1.c 9 rfl;have cA10 := A_1.c 10 rfl;go_wp2_with fail
  have o1 : (w1.alloc (.cells #[] 3)).ownsRow w1.heap.size 3 1 (.slice (some ⟨w1.heap.size, 0, none⟩) 0 0) 0 [] := by simpa using World.ownsRow_lit (e := 3) (size := 1) w1 #[] 0 nl (by unfold maxLen; omega) (by simp)
  have O1 := hide (show (w1.alloc (.cells #[] 3)).drew.ownsRow w1.heap.size 3 1 (.slice (some ⟨w1.heap.size, 0, none⟩) 0 0) 0 [] from o1);have HB0 := hide (show Below w1.heap.size w1 (w1.alloc (.cells #[] 3)).drew from ((Below.refl _ _).alloc nl _).drew);have S1 := hide (show Source (w1.alloc (.cells #[] 3)).drew 1 (.slice ao4 m.high.length cap4) m.high.length (aC m.high) from (VV_1.out.below HB0.out).high.source);have HSZ := hide (show w1.heap.size ≤ (w1.alloc (.cells #[] 3)).drew.heap.size by simp);clear o1
  go_cut [4] from 13 to 21 (fun v wr => wr.ownsRow w1.heap.size 3 1 v (m.high ++ m.low).length (aC (m.high ++ m.low)) ∧ Below w1.heap.size w1 wr)
  case first =>
   go_region_law (first
    | (refine ed rfl (.tmp 13) (.tmp 16) 27 rfl w1.heap.size 3 i0 (.int .i64 0) 1 8 Tryz.underlying27 hi0 hz0 hi1 hi2 rfl (by decide) _ _ _ (by simp [Act.eval]) O1.out _ _ _ (by simp [Act.eval]) S1.out (by unfold maxLen; omega) (by omega) HSZ.out ?_; intro v2 w2 hown2 hgrow2 _; have hb2 := HB0.out.trans (Below.grow hgrow2 O1.out nl HSZ.out); have c2 : w2.cell? ⟨w.heap.size, 9, none⟩ = some (.slice ao3 m.low.length cap3) := (A_1.below hb2 hL1).cell 9 (by simp); have S2 := hide ((VV_1.out.below hb2).low.source))
    | (refine ed rfl (.tmp 17) (.tmp 20) 27 rfl w1.heap.size 3 i0 (.int .i64 0) 1 8 Tryz.underlying27 hi0 hz0 hi1 hi2 rfl (by decide) _ _ _ (by simp [Act.eval]) hown2 _ _ _ (by simp [Act.eval]) S2.out (by unfold maxLen; omega) (by omega) hb2.size ?_; intro v3 w3 hown3 hgrow3 _))
   all_goals
    have hb3 := hb2.trans (Below.grow hgrow3 hown2 nl hb2.size);have HO3 := hide (show w3.ownsRow w1.heap.size 3 1 v3 (m.high ++ m.low).length (aC (m.high ++ m.low)) by simpa [aC] using hown3);have HB3 := hide hb3;clear hown3 hgrow3 hown2 hgrow2 hb3;go_wp2_with fail
    go_meet;exact ⟨HO3.out, HB3.out⟩
  case rest =>
   obtain ⟨hown, hb1⟩ := hcut;obtain ⟨ids, hids⟩ : ∃ ids, m.high ++ m.low = ids := ⟨_, rfl⟩;have hil : ids.length = m.high.length + m.low.length := by rw [← hids]; simp
   rw [hids] at hown HF HR;have hl3 : ids.length ≤ 20 := by omega
   have A_2 := A_1.below hb1 hL1;have O_2 := hide (ownsRow_below O_1.out hb1 nl);have B_2 := bs B_1.out hb1;have I_2 := hide hown;have P_2 := hide (eZ O_1.out hown nl);have hL2 := A_2.lt;have hz2 := hb1.size;obtain ⟨aov, capv, rfl, -, -⟩ := aB hown;clear hown hb1 hids hil O1 S1 HB0 HSZ cA9 cA10;go_wp2_with fail
   go_loopw [3, 5] (fun o i wr => ∃ k : Nat, k ≤ ids.length ∧ i = .int .i64 k ∧ Below w.heap.size w wr ∧ ae wr w.heap.size 31 (mC ao1 cap1 ao2 cap2 ao3 cap3 ao4 cap4 m) ∧ w1.heap.size ≤ wr.heap.size ∧ wr.ownsRow (w.heap.size + 1) 42 3 o ((nz (ids.take k)).map dK).length (dh ((nz (ids.take k)).map dK)) ∧ wr.ownsRow w1.heap.size 3 1 (.slice aov ids.length capv) ids.length (aC ids) ∧ Apart o (.slice aov ids.length capv)) (fun _ i _ => ids.length - (intOf i).toNat)
   case atStart => exact ⟨0, Nat.zero_le _, rfl, B_2.out, A_2, hz2, O_2.out, I_2.out, P_2.out⟩
   case round =>
    obtain ⟨k, hk, rfl, hb, hA, hsz, hown, hids, hap⟩ := hrel;have HB := hide hb;have HAr := hide hA;have HO := hide hown;have HI := hide hids;have HP2 := hide hap;have hnl := nz_len (ids.take k);have htk : (ids.take k).length ≤ k := List.length_take_le _ _;obtain ⟨aow, capw, rfl, -, -⟩ := aB hown;obtain ⟨_, _, e1, -, -, -, hcl⟩ := bH hids rfl hsz;simp only [Value.slice.injEq] at e1;obtain ⟨rfl, -, rfl⟩ := e1;have VR := hide (H.below hb);have hLr := hA.lt;clear hown hap hids hA hb;obtain ⟨D, hD⟩ : ∃ D, (nz (ids.take k)).map dK = D := ⟨_, rfl⟩;have hDl : D.length ≤ 20 := by rw [← hD]; simp; omega
    rw [hD] at HO HP2 ⊢;by_cases hlt : k < ids.length
    ·obtain ⟨b, o, rfl, hx1, hx2, hcs⟩ := hcl (by omega)
     obtain ⟨r1, -⟩ := hcs k hlt;have HN := hide (nz_take hlt);have hx0 := HR.out ids[k] (List.getElem_mem _);obtain ⟨x, hx⟩ : ∃ x, ids[k] = x := ⟨_, rfl⟩;rw [hx] at r1 HN hx0;have hkI : (k : Int) < (ids.length : Int) := by omega
     clear hcs hx hcl;by_cases hq : x = 0
     ·have hqB : ¬ (0 < x) := by omega
      have HN2 := hide (show (nz (ids.take (k + 1))).map dK = D by rw [HN.out, if_pos hq, hD]);clear hq hD;go_wp2_with fail
      go_roundw
      case rel => exact ⟨k + 1, by omega, by go_num, HB.out, HAr.out, hsz, by rw [HN2.out]; exact HO.out, HI.out, HP2.out⟩
      case measure => simp [intOf]; omega
     ·have hqB : 0 < x := by omega
      have HN2 := hide (show (nz (ids.take (k + 1))).map dK = D ++ [dK x] by rw [HN.out, if_neg hq, List.map_append, hD]; rfl);clear hq hD;go_wp2_with (at_builtin; refine aA rfl _ _ 36 rfl (w.heap.size + 1) 42 j0 _ 3 24 Tryz.underlying36 hj0 hzj hj1 hj2 rfl (by decide) _ _ _ rfl (HO.out.alloc _) (.slice (some ⟨wr.heap.size, 0, none⟩) 1 1) 1 [.int .i64 4, .int .i64 x, .int .i64 0] rfl ?c0 ?c1 ?c2 ?c3 ?_)
      case c0 => exact Source.lit wr [.int .i64 4, .int .i64 x, .int .i64 0] 3 42 1 rfl (fun u hu => by simp at hu; rcases hu with rfl | rfl | rfl <;> rfl) 1
      case c1 => unfold maxLen; omega
      case c2 => omega
      case c3 => simp; omega
      intro v2 w3 hown2 hgrow2 h4;have hB3 : Below (w.heap.size + 1) wr w3 := ((Below.refl _ wr).alloc (by omega) (.cells #[.int .i64 4, .int .i64 x, .int .i64 0] 42)).trans (Below.grow hgrow2 (HO.out.alloc _) nl (by simp; omega));have HB3 := hide (HB.out.trans (hB3.mono (Nat.le_succ _)));have HA3 := hide (HAr.out.below hB3 ns);have HI3 := hide (iG (HI.out.alloc _) hgrow2 HP2.out);have HP3 := hide (HP2.out.grow (HI.out.alloc (.cells #[.int .i64 4, .int .i64 x, .int .i64 0] 42)) (by simpa using h4));have hsz3 : w1.heap.size ≤ w3.heap.size := Nat.le_trans hsz hB3.size;have HO3 := hide (show w3.ownsRow (w.heap.size + 1) 42 3 v2 ((nz (ids.take (k + 1))).map dK).length (dh ((nz (ids.take (k + 1))).map dK)) by rw [HN2.out, dQ, List.length_append]; exact hown2);clear hown2 hgrow2 hB3 h4;go_wp2_with fail
      go_roundw
      case rel => exact ⟨k + 1, by omega, by go_num, HB3.out, HA3.out, hsz3, HO3.out, HI3.out, HP3.out⟩
      case measure => simp [intOf]; omega
    ·obtain rfl : k = ids.length := by omega
     rw [List.take_of_length_le nl] at hD;rw [hD] at HF;clear hD hcl;obtain ⟨wo, rfl⟩ : ∃ wo : World, wo = wr := ⟨_, rfl⟩;have cA0 : wo.cell? ⟨w.heap.size, 0, none⟩ = some (.slice ao1 m.store.length cap1) := HAr.out.cell 0 (by simp);have cA1 : wo.cell? ⟨w.heap.size, 1, none⟩ = some (.int .i64 m.rule.lc) := HAr.out.cell 1 (by simp);have cA2 : wo.cell? ⟨w.heap.size, 2, none⟩ = some (.int .i64 m.rule.hc) := HAr.out.cell 2 (by simp);have cA3 : wo.cell? ⟨w.heap.size, 3, none⟩ = some (.int .i64 m.rule.lm) := HAr.out.cell 3 (by simp);have cA4 : wo.cell? ⟨w.heap.size, 4, none⟩ = some (.int .i64 m.rule.hm) := HAr.out.cell 4 (by simp);have cA5 : wo.cell? ⟨w.heap.size, 5, none⟩ = some (.int .i64 m.rule.ls) := HAr.out.cell 5 (by simp);have cA6 : wo.cell? ⟨w.heap.size, 6, none⟩ = some (.int .i64 m.rule.hs) := HAr.out.cell 6 (by simp);have cA7 : wo.cell? ⟨w.heap.size, 7, none⟩ = some (.int .i64 m.strand) := HAr.out.cell 7 (by simp);have cA8 : wo.cell? ⟨w.heap.size, 8, none⟩ = some (.slice ao2 m.pieces.length cap2) := HAr.out.cell 8 (by simp);have cA9 : wo.cell? ⟨w.heap.size, 9, none⟩ = some (.slice ao3 m.low.length cap3) := HAr.out.cell 9 (by simp);have cA10 : wo.cell? ⟨w.heap.size, 10, none⟩ = some (.slice ao4 m.high.length cap4) := HAr.out.cell 10 (by simp);have cA11 : wo.cell? ⟨w.heap.size, 11, none⟩ = some (.int .i64 m.scrap) := HAr.out.cell 11 (by simp);go_wp2_with fail
     refine (jr _ _ _ _ m 0 wo VR.out.all).mono ?_;rw [HP.out];rintro e w5 ⟨v5, rfl, hown5, hb5⟩;obtain ⟨zs, hzs⟩ : ∃ zs, dA m.pieces 0 = zs := ⟨_, rfl⟩;have hzl : zs.length ≤ 30 := by rw [← hzs]; exact Nat.le_trans (gK m.pieces 0 m.pieces.length) h5
     rw [hzs] at hown5 HF;have HI5 := hide hown5;have HO5 := hide (ownsRow_below HO.out hb5 nl);have HP5 := hide (eZ HO.out hown5 nl);have HB5 := bs HB.out hb5;have hz5 := hb5.size;obtain ⟨ao5, cap5, rfl, -, -⟩ := aB hown5;clear hown5 hb5 hzs;clear cA0 cA1 cA2 cA3 cA4 cA5 cA6 cA7 cA8 cA9 cA10 cA11;go_wp2_with fail
     go_loopw [3, 7] (fun o i wr => ∃ k : Nat, k ≤ zs.length ∧ i = .int .i64 k ∧ Below w.heap.size w wr ∧ wo.heap.size ≤ wr.heap.size ∧ wr.ownsRow (w.heap.size + 1) 42 3 o (D ++ (zs.take k).flatMap eG).length (dh (D ++ (zs.take k).flatMap eG)) ∧ wr.ownsRow wo.heap.size 3 1 (.slice ao5 zs.length cap5) zs.length (aC zs) ∧ Apart o (.slice ao5 zs.length cap5)) (fun _ i _ => zs.length - (intOf i).toNat)
     case atStart => exact ⟨0, Nat.zero_le _, rfl, HB5.out, hz5, by simpa using HO5.out, HI5.out, HP5.out⟩
     case round =>
      obtain ⟨k, hk, rfl, hb, hsz, hown, hids, hap⟩ := hrel;have HB := hide hb;have HO := hide hown;have HI := hide hids;have HP2 := hide hap;obtain ⟨aow, capw, rfl, -, -⟩ := aB hown;clear hown hap hb;obtain ⟨_, _, e1, -, -, -, hcl⟩ := bH hids rfl hsz;simp only [Value.slice.injEq] at e1;obtain ⟨rfl, -, rfl⟩ := e1;clear hids;obtain ⟨E, hE⟩ : ∃ E, D ++ (zs.take k).flatMap eG = E := ⟨_, rfl⟩;have hEl : E.length ≤ 80 := by
       rw [← hE, List.length_append, flat_len];have := List.length_take_le k zs;omega
      rw [hE] at HO HP2 ⊢;by_cases hlt : k < zs.length
      ·obtain ⟨b, o, rfl, hx1, hx2, hcs⟩ := hcl (by omega)
       obtain ⟨r1, -⟩ := hcs k hlt;obtain ⟨x, hx⟩ : ∃ x, zs[k] = x := ⟨_, rfl⟩;rw [hx] at r1;have hkI : (k : Int) < (zs.length : Int) := by omega
       have HN2 := hide (show D ++ (zs.take (k + 1)).flatMap eG = E ++ eG x by rw [slab_take hlt, hx, ← List.append_assoc, hE]);have HOd := hide (show wr.drew.ownsRow (w.heap.size + 1) 42 3 (.slice aow E.length capw) E.length (dh E) from HO.out);have HId := hide (show wr.drew.ownsRow wo.heap.size 3 1 (.slice (some ⟨b, o, none⟩) zs.length cap5) zs.length (aC zs) from HI.out);have hszd : wo.heap.size ≤ wr.drew.heap.size := hsz;have hLd : w.heap.size + 1 ≤ wr.drew.heap.size := by omega
       clear hcs hx hE hcl;have HBd := hide (HB.out.drew);have S1 := hide (show Source (wr.drew.alloc (.cells #[.int .i64 2, .int .i64 x, .int .i64 0, .int .i64 4, .int .i64 x, .int .i64 0] 42)) 3 (.slice (some ⟨wr.heap.size, 0, none⟩) 2 2) 2 [.int .i64 2, .int .i64 x, .int .i64 0, .int .i64 4, .int .i64 x, .int .i64 0] from Source.lit wr.drew [.int .i64 2, .int .i64 x, .int .i64 0, .int .i64 4, .int .i64 x, .int .i64 0] 3 42 2 rfl (fun u hu => by simp at hu; rcases hu with rfl | rfl | rfl | rfl | rfl | rfl <;> rfl) 2);have O1 := hide (show (wr.drew.alloc (.cells #[.int .i64 2, .int .i64 x, .int .i64 0, .int .i64 4, .int .i64 x, .int .i64 0] 42)).ownsRow (w.heap.size + 1) 42 3 (.slice aow E.length capw) E.length (dh E) from HOd.out.alloc _);have HSZ := hide (show w.heap.size + 1 ≤ (wr.drew.alloc (.cells #[.int .i64 2, .int .i64 x, .int .i64 0, .int .i64 4, .int .i64 x, .int .i64 0] 42)).heap.size by simp; omega);clear HO HI HB;go_wp2_with fail
       go_region_law (first
        | (refine ed rfl (.tmp 49) (.tmp 60) 36 rfl (w.heap.size + 1) 42 j0 _ 3 24 Tryz.underlying36 hj0 hzj hj1 hj2 rfl (by decide) _ _ _ (by simp [Act.eval]) O1.out (.slice (some ⟨wr.heap.size, 0, none⟩) 2 2) 2 [.int .i64 2, .int .i64 x, .int .i64 0, .int .i64 4, .int .i64 x, .int .i64 0] (by simp [Act.eval]) S1.out (by unfold maxLen; omega) (by omega) HSZ.out ?_; intro v2 w3 hown2 hgrow2 h4))
       all_goals
        have hB3 : Below (w.heap.size + 1) wr.drew w3 := ((Below.refl _ wr.drew).alloc (by omega) (.cells #[.int .i64 2, .int .i64 x, .int .i64 0, .int .i64 4, .int .i64 x, .int .i64 0] 42)).trans (Below.grow hgrow2 (HOd.out.alloc _) nl (by simp; omega));have HB3 := hide (HBd.out.trans (hB3.mono (Nat.le_succ _)));have HI3 := hide (iG (HId.out.alloc _) hgrow2 HP2.out);have HP3 := hide (HP2.out.grow (HId.out.alloc (.cells #[.int .i64 2, .int .i64 x, .int .i64 0, .int .i64 4, .int .i64 x, .int .i64 0] 42)) (by simpa using h4));have hsz3 : wo.heap.size ≤ w3.heap.size := Nat.le_trans hszd hB3.size;have HO3 := hide (show w3.ownsRow (w.heap.size + 1) 42 3 v2 (D ++ (zs.take (k + 1)).flatMap eG).length (dh (D ++ (zs.take (k + 1)).flatMap eG)) by rw [HN2.out, dQ, List.length_append]; exact hown2);clear hown2 hgrow2 hB3 h4;go_wp2_with fail
        go_roundw
        case rel => exact ⟨k + 1, by omega, by go_num, HB3.out, hsz3, HO3.out, HI3.out, HP3.out⟩
        case measure => simp [intOf]; omega
      ·obtain rfl : k = zs.length := by omega
       have HZ := hide (show bM m = E by rw [HF.out, ← hE, List.take_of_length_le nl]);have HO4 := hide (aJ HO.out (Nat.le_succ _));clear hcl hE;go_wp2_with fail
       go_ret;exact ⟨_, rfl, by rw [HZ.out]; exact HO4.out, HB.out⟩
end Go.Proofs.YtkhecelpafojdaaGreatDoor
