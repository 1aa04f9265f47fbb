/-
  Parts of the proof, of 2 texts: what MethC, DoSX show. Conditions: each theorem states its own.
-/
import Derived.Deep.CutRange
import Derived.Deep.RegionHeld
import Derived.Test.YtajjnciookhamaaGreatM27
import Derived.Test.YtajjnciookhamaaGreatM28
import Derived.Test.YtajjnciookhamaaGreatM30
namespace Go.Proofs.YtajjnciookhamaaGreat
open Go.RowKit
theorem quiet_left2 {P : Program} {f : FuncId} {args : Array Value} {w : World} {n k : Nat} {v : Value}
    (h : Calls P f args (w.drewN (k + n)) fun e w' => e = .returned v ∧ w.drewN (k + n) = w') : Calls P f args (w.drewN (k + n)) fun e w'' => e = .returned v ∧ ∃ m, w'' = w.drewN (k + m) :=
  h.mono fun _ _ ⟨he, hm⟩ => ⟨he, n, hm.symm⟩
theorem Other.alloc {lo hi : Nat} {a w : World} (h : Other lo hi a w) (o : Obj) : Other lo hi a (w.alloc o) :=
  h.trans (Other.of_below ((Below.refl w.heap.size w).alloc (Nat.le_refl _) o))
theorem grown_other {w w' : World} {g : Nat} (h : w.grownBy w' (some g)) : Other g (g + 1) w w' :=
  ⟨h.os, h.tape, h.output, h.size, fun k hk hd => h.block k hk (fun e => by have := Option.some.inj e; omega)⟩
theorem grown_none {w w' : World} {lo hi : Nat} (h : w.grownBy w' none) : Other lo hi w w' :=
  ⟨h.os, h.tape, h.output, h.size, fun k hk _ => h.block k hk (fun e => by cases e)⟩
/-- Some range of at most one block, in which a slice's block lies. -/
theorem grown_any {w w' : World} {p : Value} (h : w.grownBy w' p.ownBlock) (X : Nat) : ∃ a z, Other a z w w' ∧ ((z = a + 1 ∧ p.ownBlock = some a) ∨ (a = X ∧ z = X)) := by
  cases hp : p.ownBlock with
  | none => rw [hp] at h; exact ⟨X, X, grown_none h, .inr ⟨rfl, rfl⟩⟩
  | some g => rw [hp] at h; exact ⟨g, g + 1, grown_other h, .inl ⟨rfl, rfl⟩⟩
/-- What holds from slab to slab: the box, the slices, the lengths, the numbers. -/
structure CutInv (base B lo z : Nat) (w0 : World) (s l h : Value) (m : Mi) (v mv : Value) (xs ys : List Int) (W : World) (p : Value) (ps : List Pc) : Prop where
  row : RowL W B 39 (millC s p l h m)
  got : MillGot base W s p l h { m with pieces := ps }
  off : NotIn B s p l h
  bel : Below base w0 W
  len : IntsAt lo z W v xs
  man : IntsAt lo z W mv ys
  apz : ∀ g, p.ownBlock = some g → g < lo ∨ z ≤ g
  hB : base ≤ B ∧ B < lo
theorem CutInv.drew {base B lo z : Nat} {w0 W : World} {s l h v mv p : Value} {m : Mi} {xs ys : List Int} {ps : List Pc} (H : CutInv base B lo z w0 s l h m v mv xs ys W p ps) : CutInv base B lo z w0 s l h m v mv xs ys W.drew p ps :=
  ⟨H.row.drew, H.got.below (Below.refl _ _).drew, H.off, H.bel.drew, H.len.below (Below.refl _ _).drew, H.man.below (Below.refl _ _).drew, H.apz, H.hB⟩
theorem CutInv.alloc {base B lo z : Nat} {w0 W : World} {s l h v mv p : Value} {m : Mi} {xs ys : List Int} {ps : List Pc} (H : CutInv base B lo z w0 s l h m v mv xs ys W p ps) (o : Obj) : CutInv base B lo z w0 s l h m v mv xs ys (W.alloc o) p ps := by
  have k : Below W.heap.size W (W.alloc o) := (Below.refl _ _).alloc (Nat.le_refl _) o
  exact ⟨H.row.below k H.row.lt, H.got.below k, H.off, H.bel.trans (k.mono H.got.hb), H.len.below k, H.man.below k, H.apz, H.hB⟩
theorem CutInv.below {base B lo z : Nat} {w0 W W' : World} {s l h v mv p : Value} {m : Mi} {xs ys : List Int} {ps : List Pc} (H : CutInv base B lo z w0 s l h m v mv xs ys W p ps) (k : Below W.heap.size W W') : CutInv base B lo z w0 s l h m v mv xs ys W' p ps :=
  ⟨H.row.below k H.row.lt, H.got.below k, H.off, H.bel.trans (k.mono H.got.hb), H.len.below k, H.man.below k, H.apz, H.hB⟩
/-- A slab more. -/
theorem CutInv.app {base B lo z : Nat} {w0 W W2 : World} {s l h v mv p p' : Value} {m : Mi} {xs ys : List Int} {ps : List Pc} (H : CutInv base B lo z w0 s l h m v mv xs ys W p ps) {x : Int} {n : Nat} {cs : List Value}
    (ho : OwnE base 71 2 W2 p' n cs) (hn : n = (ps ++ [(⟨x, 0⟩ : Pc)]).length) (hc : cs = flatP (ps ++ [(⟨x, 0⟩ : Pc)])) (hg : W.grownBy W2 p.ownBlock) (hb : ∀ g, p'.ownBlock = some g → p.ownBlock = some g ∨ W.heap.size ≤ g) :
    CutInv base B lo z w0 s l h m v mv xs ys (W2.setCell ⟨B, 8, none⟩ p') p' (ps ++ [(⟨x, 0⟩ : Pc)]) := by
  subst hn hc
  obtain ⟨a, y, hO, hay⟩ := grown_any hg W.heap.size
  have hBlt := H.row.lt
  have hpl := H.got.po.lt
  have hlz := H.len.lt
  have hpB := H.off.2.1
  have nB : B < a ∨ y ≤ B := by
    rcases hay with ⟨h1, h2⟩ | ⟨h1, h2⟩
    · have : a ≠ B := fun e => hpB (e ▸ h2)
      omega
    · omega
  have hd : ∀ {u : Value} {T sz k : Nat} {cs : List Value}, OwnE base T sz W u k cs → Apart u p → ∀ g, u.ownBlock = some g → g < a ∨ y ≤ g := fun hu ha g hgu => by
    have := (hu.lt g hgu).2
    rcases hay with ⟨h1, h2⟩ | ⟨h1, h2⟩
    · have : g ≠ a := fun e => ha g hgu (e ▸ h2)
      omega
    · omega
  have hzz : z ≤ a ∨ y ≤ lo := by
    rcases hay with ⟨h1, h2⟩ | ⟨h1, h2⟩
    · have := H.apz a h2; omega
    · omega
  have nO : base ≤ a := by
    rcases hay with ⟨h1, h2⟩ | ⟨h1, h2⟩
    · exact (hpl a h2).1
    · have := H.got.hb; omega
  have pB : p'.ownBlock ≠ some B := fun e => by
    rcases hb B e with h1 | h1
    · exact hpB h1
    · omega
  have ap : ∀ {u : Value} {T sz k : Nat} {cs : List Value}, OwnE base T sz W u k cs → Apart u p → Apart u p' := fun hu ha g h1 h2 => by
    rcases hb g h2 with h3 | h3
    · exact ha g h1 h3
    · have := (hu.lt g h1).2; omega
  have G2 : MillGot base W2 s p' l h { m with pieces := ps ++ [(⟨x, 0⟩ : Pc)] } :=
    ⟨Nat.le_trans H.got.hb hO.size, H.got.so.other hO (hd H.got.so H.got.sp), ho, H.got.lo.other hO (hd H.got.lo H.got.pl.symm), H.got.ho.other hO (hd H.got.ho H.got.ph.symm),
      ap H.got.so H.got.sp, H.got.sl, H.got.sh, (ap H.got.lo H.got.pl.symm).symm, (ap H.got.ho H.got.ph.symm).symm, H.got.lh⟩
  have O2 : NotIn B s p' l h := ⟨H.off.1, pB, H.off.2.2⟩
  obtain ⟨r, g, b⟩ := box_set (H.row.other hO nB) G2 O2 H.hB.1 (j := 8) (by simp [millC]) p'
  have kB : Other B (B + 1) W2 (W2.setCell ⟨B, 8, none⟩ p') := (Other.refl _ _ _).setCell (p := ⟨B, 8, none⟩) (Nat.le_refl _) (Nat.lt_succ_self _) _
  have hBB := H.hB
  exact ⟨r, g, O2, (H.bel.trans (hO.below (B := base) nO H.got.hb)).trans b, (H.len.other hO hzz).other kB (by omega), (H.man.other hO hzz).other kB (by omega), fun g hg => by
    rcases hb g hg with h1 | h1
    · exact H.apz g h1
    · exact .inr (by omega), H.hB⟩
/-- What else holds from slab to slab where the mill is a copy: no other old block is written. -/
structure CutK (B z : Nat) (w1 : World) (p0 : Value) (W : World) (p : Value) : Prop where
  blk : ∀ g, p.ownBlock = some g → p0.ownBlock = some g ∨ z ≤ g
  keep : ∀ G, G < z → G ≠ B → p0.ownBlock ≠ some G → W.heap[G]? = w1.heap[G]?
  size : z ≤ W.heap.size
theorem CutK.below {B z : Nat} {w1 W W' : World} {p0 p : Value} (H : CutK B z w1 p0 W p) (k : Below W.heap.size W W') : CutK B z w1 p0 W' p :=
  ⟨H.blk, fun G h1 h2 h3 => (k.block G (Nat.lt_of_lt_of_le h1 H.size)).trans (H.keep G h1 h2 h3), Nat.le_trans H.size k.size⟩
theorem CutK.app {B z : Nat} {w1 W W2 : World} {p0 p p' : Value} (H : CutK B z w1 p0 W p) (hg : W.grownBy W2 p.ownBlock) (hb : ∀ g, p'.ownBlock = some g → p.ownBlock = some g ∨ W.heap.size ≤ g) (x : Value) : CutK B z w1 p0 (W2.setCell ⟨B, 8, none⟩ x) p' := by
  refine ⟨fun g e => ?_, fun G h1 h2 h3 => ?_, ?_⟩
  · rcases hb g e with h | h
    · exact H.blk g h
    · exact .inr (Nat.le_trans H.size h)
  · rw [Below.heap_setCell _ _ _ _ h2]
    refine (hg.block G (Nat.lt_of_lt_of_le h1 H.size) fun e => ?_).trans (H.keep G h1 h2 h3)
    rcases H.blk G e.symm with h | h
    · exact h3 h
    · omega
  · simp only [World.setCell]
    have := hg.size
    have := H.size
    simp
    omega
theorem flatP_one1 (ps : List Pc) (x : Int) : flatP ps ++ [.int .i64 x, .int .i64 0] = flatP (ps ++ [(⟨x, 0⟩ : Pc)]) := by simp [flatP, pcL]
theorem rep_snoc (ps : List Pc) (c : Nat) (x : Pc) : ps ++ List.replicate (c + 1) x = (ps ++ List.replicate c x) ++ [x] := by
  rw [List.replicate_succ', List.append_assoc]
theorem cutD_no1 {m : Mi} {a b : Int} (h : m.strand = 0) : cutD m a b = none := by simp [cutD, h]
theorem cutD_no2 {m : Mi} {a b : Int} (h : lensB a b = false) : cutD m a b = none := by simp [cutD, h]
theorem cutD_no3 {m : Mi} {a b : Int} (h : ¬ m.pieces.length + many0 m.strand a b + many1 m.strand a b ≤ 30) : cutD m a b = none := by simp [cutD, h]
theorem cutD_no4 {m : Mi} {a b : Int} (h : ¬ m.scrap + wasteR m.strand a b ≤ 999) : cutD m a b = none := by simp [cutD, h]
theorem cutD_yes {m : Mi} {a b : Int} (h1 : m.strand ≠ 0) (h2 : lensB a b = true) (h3 : m.pieces.length + many0 m.strand a b + many1 m.strand a b ≤ 30) (h4 : m.scrap + wasteR m.strand a b ≤ 999) :
    cutD m a b = some { m with pieces := m.pieces ++ newPcs m.strand a b, strand := 0, scrap := m.scrap + wasteR m.strand a b } := by simp [cutD, h1, h2, h3, h4]
theorem tons_many (L : Nat) (a b : Int) : tonsR (manyL L a b) = (many0 L a b : Int) + many1 L a b := by simp [tonsR, manyL, sumTo]
end Go.Proofs.YtajjnciookhamaaGreat
namespace Go.Proofs.YtajjnciookhamaaGreat
open Go.RowKit
set_option linter.unusedSimpArgs false in
set_option maxRecDepth 10000 in
set_option maxHeartbeats 16000000 in
theorem do_sx (s p l h : Value) (m : Mi) (k a b : Int) (w : World) (H : MillIn 0 w.heap.size w s p l h m) (ha : a ≤ 9223372036854775807) (hb : b ≤ 9223372036854775807) (e0 : (k == 0) = false) (e1 : (k == 1) = false) (e2 : (k == 2) = false) (e3 : (k == 3) = false) (e4 : (k == 4) = false) :
    Calls Tryz.prog 6 #[millV s p l h m, .agg #[.int .i64 k, .int .i64 a, .int .i64 b]] w (DoGot w.heap.size (doR m ⟨k, a, b⟩) w) := by
  obtain ⟨ao1, cap1, rfl, -, -, -, -⟩ := id H.store
  obtain ⟨ao2, cap2, rfl, -, -, -, -⟩ := id H.pieces
  obtain ⟨ao3, cap3, rfl, -, -, -, -⟩ := id H.low
  obtain ⟨ao4, cap4, rfl, -, -, -, -⟩ := id H.high
  have HM := hide H
  have HA := hide (And.intro ha hb)
  clear H ha hb
  unfold millV
  go_enter Tryz.func6, Tryz.ntmps6
  go_wp2_with fail
  refine calls_at fun wx hwx => ?_
  have A_0 : RowL wx (w.heap.size) 39 [.slice ao1 m.store.length cap1, .int .i64 m.rule.lc, .int .i64 m.rule.hc, .int .i64 m.rule.lm, .int .i64 m.rule.hm, .int .i64 m.rule.ls, .int .i64 m.rule.hs, .int .i64 m.strand, .slice ao2 m.pieces.length cap2, .slice ao3 m.low.length cap3, .slice ao4 m.high.length cap4, .int .i64 m.scrap] := by rw [hwx]; exact (((RowL.new _ 39 [.slice ao1 m.store.length cap1, .int .i64 m.rule.lc, .int .i64 m.rule.hc, .int .i64 m.rule.lm, .int .i64 m.rule.hm, .int .i64 m.rule.ls, .int .i64 m.rule.hs, .int .i64 m.strand, .slice ao2 m.pieces.length cap2, .slice ao3 m.low.length cap3, .slice ao4 m.high.length cap4, .int .i64 m.scrap]).alloc _).alloc _)
  have D_0 : RowL wx (w.heap.size + 1) 43 [.int .i64 k, .int .i64 a, .int .i64 b] := by rw [hwx]; simpa using ((RowL.new (World.alloc _ _) 43 [.int .i64 k, .int .i64 a, .int .i64 b]).alloc _)
  have R_0 : RowL wx (w.heap.size + 1 + 1) 39 [.slice none 0 0, .int .i64 0, .int .i64 0, .int .i64 0, .int .i64 0, .int .i64 0, .int .i64 0, .int .i64 0, .slice none 0 0, .slice none 0 0, .slice none 0 0, .int .i64 0] := by rw [hwx]; simpa using (RowL.new (World.alloc (World.alloc _ _) _) 39 [.slice none 0 0, .int .i64 0, .int .i64 0, .int .i64 0, .int .i64 0, .int .i64 0, .int .i64 0, .int .i64 0, .slice none 0 0, .slice none 0 0, .slice none 0 0, .int .i64 0])
  have B_0 : Below w.heap.size w wx := by rw [hwx]; go_grown
  clear hwx
  have hL0 := R_0.lt
  have V_0 := hide (HM.out.below B_0)
  have k1 := mill_spec _ _ _ _ m wx V_0.out.all
  unfold millV at k1
  cases hv : millB m with
  | false =>
    rw [hv] at k1
    have HZ := hide (do_bad hv ⟨k, a, b⟩)
    clear hv
    refine k1.mono ?_
    rintro e w1 ⟨rfl, hb⟩
    have R_1 := R_0.below hb R_0.lt
    have B_1 := hide (Below.step B_0 hb (Nat.le_refl _))
    clear hb k1
    have cR0 := R_1.c 0 rfl
    have cR1 := R_1.c 1 rfl
    have cR2 := R_1.c 2 rfl
    have cR3 := R_1.c 3 rfl
    have cR4 := R_1.c 4 rfl
    have cR5 := R_1.c 5 rfl
    have cR6 := R_1.c 6 rfl
    have cR7 := R_1.c 7 rfl
    have cR8 := R_1.c 8 rfl
    have cR9 := R_1.c 9 rfl
    have cR10 := R_1.c 10 rfl
    have cR11 := R_1.c 11 rfl
    have fR0 := R_1.frozen 0
    have fR1 := R_1.frozen 1
    have fR2 := R_1.frozen 2
    have fR3 := R_1.frozen 3
    have fR4 := R_1.frozen 4
    have fR5 := R_1.frozen 5
    have fR6 := R_1.frozen 6
    have fR7 := R_1.frozen 7
    have fR8 := R_1.frozen 8
    have fR9 := R_1.frozen 9
    have fR10 := R_1.frozen 10
    have fR11 := R_1.frozen 11
    go_wp2_with fail
    refine bodyPost_ret (by simp [results, Tryz.results6, go_sem, cR0, cR1, cR2, cR3, cR4, cR5, cR6, cR7, cR8, cR9, cR10, cR11]; try rfl) rfl ?_
    rw [HZ.out]
    exact ⟨_, _, _, _, rfl, zero_got B_1.out (Nat.le_refl _) (by omega) _ _ _ _ _ _ _ _ _ _ _ _⟩
  | true =>
    rw [hv] at k1
    obtain ⟨n1, n2, n3, n4⟩ := few_of hv
    have HV := hide hv
    have hD := do_good hv k a b
    rw [step_x e0 e1 e2 e3 e4] at hD
    have HZ := hide (show doR m ⟨k, a, b⟩ = (m, false) from hD)
    clear hD
    clear hv
    refine k1.mono ?_
    rintro e w1 ⟨rfl, hb⟩
    have A_1 := A_0.below hb A_0.lt
    have D_1 := D_0.below hb D_0.lt
    have R_1 := R_0.below hb R_0.lt
    have V_1 := hide (V_0.out.below hb)
    have B_1 := hide (Below.step B_0 hb (Nat.le_refl _))
    have hz1 := hb.size
    clear hb k1
    have cA0 := A_1.c 0 rfl
    have cA1 := A_1.c 1 rfl
    have cA2 := A_1.c 2 rfl
    have cA3 := A_1.c 3 rfl
    have cA4 := A_1.c 4 rfl
    have cA5 := A_1.c 5 rfl
    have cA6 := A_1.c 6 rfl
    have cA7 := A_1.c 7 rfl
    have cA8 := A_1.c 8 rfl
    have cA9 := A_1.c 9 rfl
    have cA10 := A_1.c 10 rfl
    have cA11 := A_1.c 11 rfl
    go_wp2_with fail
    clear cA0 cA1 cA2 cA3 cA4 cA5 cA6 cA7 cA8 cA9 cA10 cA11
    have k2 := l8Copy_any _ _ _ _ m w1 V_1.out.all n1 n2 n3 n4
    unfold millV at k2
    refine k2.mono ?_
    clear k2
    rintro e w2 ⟨s2, p2, l2, h2, rfl, G, hb⟩
    have A_2 := A_1.below hb A_1.lt
    have D_2 := D_1.below hb D_1.lt
    have R_2 := R_1.below hb R_1.lt
    have V_2 := hide (V_1.out.below hb)
    have B_2 := hide (Below.step B_1.out hb (Nat.le_refl _))
    have hz2 := hb.size
    have hL2 := R_2.lt
    have hLD := D_2.lt
    have hLA := A_2.lt
    clear hb
    have G_2 := hide G
    obtain ⟨aS, cs, rfl, -, -⟩ := G.so.form
    obtain ⟨ap, cp, rfl, -, -⟩ := G.po.form
    obtain ⟨al, cl, rfl, -, -⟩ := G.lo.form
    obtain ⟨ah, ch, rfl, -, -⟩ := G.ho.form
    clear G
    unfold millV
    have cD0 := D_2.c 0 rfl
    have cD1 := D_2.c 1 rfl
    have cD2 := D_2.c 2 rfl
    have cA0 := A_2.c 0 rfl
    have cA1 := A_2.c 1 rfl
    have cA2 := A_2.c 2 rfl
    have cA3 := A_2.c 3 rfl
    have cA4 := A_2.c 4 rfl
    have cA5 := A_2.c 5 rfl
    have cA6 := A_2.c 6 rfl
    have cA7 := A_2.c 7 rfl
    have cA8 := A_2.c 8 rfl
    have cA9 := A_2.c 9 rfl
    have cA10 := A_2.c 10 rfl
    have cA11 := A_2.c 11 rfl
    go_wp2_with fail
    refine calls_at fun wy hwy => ?_
    have hby : Below w2.heap.size w2 wy := by
      rw [hwy]
      first
        | exact (Below.refl _ _).alloc (Nat.le_refl _) _
        | exact ((Below.refl _ _).alloc (Nat.le_refl _) _).trans ((other12 w2.heap.size _ _ _ _ _ _ _ _ _ _ _ _ _).below (Nat.le_refl _) (by simp))
    have A_4 := A_2.below hby A_2.lt
    have R_4 := R_2.below hby R_2.lt
    have V_4 := hide (V_2.out.below hby)
    have B_4 := hide (Below.step B_2.out hby (Nat.le_refl _))
    have hz4 := hby.size
    clear hwy hby cD0 cD1 cD2 cA0 cA1 cA2 cA3 cA4 cA5 cA6 cA7 cA8 cA9 cA10 cA11
    have k5 := l8Copy_any _ _ _ _ m wy V_4.out.all n1 n2 n3 n4
    unfold millV at k5
    refine k5.mono ?_
    clear k5
    rintro e w5 ⟨s5, p5, l5, h5, rfl, G, hb⟩
    have R_5 := R_4.below hb R_4.lt
    have B_5 := hide (Below.step B_4.out hb (Nat.le_refl _))
    clear hb
    have G_5 := hide G
    obtain ⟨aS5, cs5, rfl, -, -⟩ := G.so.form
    obtain ⟨ap5, cp5, rfl, -, -⟩ := G.po.form
    obtain ⟨al5, cl5, rfl, -, -⟩ := G.lo.form
    obtain ⟨ah5, ch5, rfl, -, -⟩ := G.ho.form
    clear G
    unfold millV
    have cR0 := R_5.c 0 rfl
    have cR1 := R_5.c 1 rfl
    have cR2 := R_5.c 2 rfl
    have cR3 := R_5.c 3 rfl
    have cR4 := R_5.c 4 rfl
    have cR5 := R_5.c 5 rfl
    have cR6 := R_5.c 6 rfl
    have cR7 := R_5.c 7 rfl
    have cR8 := R_5.c 8 rfl
    have cR9 := R_5.c 9 rfl
    have cR10 := R_5.c 10 rfl
    have cR11 := R_5.c 11 rfl
    have fR0 := R_5.frozen 0
    have fR1 := R_5.frozen 1
    have fR2 := R_5.frozen 2
    have fR3 := R_5.frozen 3
    have fR4 := R_5.frozen 4
    have fR5 := R_5.frozen 5
    have fR6 := R_5.frozen 6
    have fR7 := R_5.frozen 7
    have fR8 := R_5.frozen 8
    have fR9 := R_5.frozen 9
    have fR10 := R_5.frozen 10
    have fR11 := R_5.frozen 11
    go_wp2_with fail
    refine bodyPost_ret (by simp [results, Tryz.results6, go_sem, cR0, cR1, cR2, cR3, cR4, cR5, cR6, cR7, cR8, cR9, cR10, cR11]; try rfl) rfl ?_
    rw [HZ.out]
    exact ⟨_, _, _, _, rfl, put_got G_5.out B_5.out (by omega) (by omega) (Nat.le_refl _) _ _ _ _ _ _ _ _ _ _ _ _⟩
end Go.Proofs.YtajjnciookhamaaGreat
