/-
  Parts of the proofs over mills, of: MethA, CoilD, PileE, CutA, PlainCut2. Conditions: each theorem states its own.
-/
import Derived.Sort.OwnSortedInts
import Derived.Test.YtkhecelpafojdaaGreatDoorF19
set_option linter.unusedSimpArgs false
set_option linter.unusedVariables false
set_option maxRecDepth 10000
set_option maxHeartbeats 64000000
namespace Go.Proofs.YtkhecelpafojdaaGreatDoor
open Go.RowKit
def SpecGot (base : Nat) (p : Value) (x : Mi × Bool) (w : World) (e : Ending) (w' : World) : Prop :=
 jg base x w e w' ∧ ∀ B T vs, ae w B T vs → p.ownBlock ≠ some B → ae w' B T vs
def orOld (m : Mi) (o : Option Mi) : Mi × Bool := match o with | none => (m, false) | some x => (x, true)
theorem melt_no1 {m : Mi} {t : Int} (h : m.strand ≠ 0) : jv m t = none := by simp [jv, h]
theorem melt_no2 {m : Mi} {t : Int} (h : dM m.store m.rule t = none) : jv m t = none := by simp [jv, h]
theorem melt_yes {m : Mi} {t : Int} {mix : List Int} (h1 : m.strand = 0) (h2 : dM m.store m.rule t = some mix) : jv m t = some { m with store := ig m.store mix, strand := 4 * t } := by simp [jv, h1, h2]
theorem melt_impl {base B : Nat} {w : World} {s p l h : Value} {m : Mi} (tons : Int) (H : dm base B w s p l h m) :
 Calls Tryz.prog 65 #[.pointer (some ⟨B, 0, none⟩), .int .i64 tons] w (jy base B (jv m tons) w) := by
 have HH := hide H;have hr := H.row;have hlt := hr.lt;have hS := H.got.all.store;have HS := hide hS;have hbz := H.got.hb;have c0 : w.cell? ⟨B, 0, none⟩ = some s := hr.cell 0 (by simp [az]);have c1 := hr.c 1 rfl;have c2 := hr.c 2 rfl;have c3 := hr.c 3 rfl;have c4 := hr.c 4 rfl;have c5 := hr.c 5 rfl;have c6 := hr.c 6 rfl;have c7 := hr.c 7 rfl;obtain ⟨ao, cap, rfl, -, -⟩ := H.got.so.form;have hbest := fun W (K : bW 0 W.heap.size W (.slice ao m.store.length cap) m.store) => best_impl (.slice ao m.store.length cap) m.store m.rule tons W K;unfold grV at hbest;have HBT := hide hbest;clear hbest hr hS H;by_cases hs : m.strand = 0
 ·have hsB : (m.strand != 0) = false := by simp [hs]
  have HZ := hide hs;clear hs;go_enter Tryz.func65, Tryz.ntmps65;go_wp2_with fail
  have hI : w.drew.cell? ⟨B, 0, none⟩ = some (.slice ao m.store.length cap) ∧ w.drew.cell? ⟨B, 1, none⟩ = some (.int .i64 m.rule.lc) ∧ w.drew.cell? ⟨B, 2, none⟩ = some (.int .i64 m.rule.hc) ∧ w.drew.cell? ⟨B, 3, none⟩ = some (.int .i64 m.rule.lm) ∧ w.drew.cell? ⟨B, 4, none⟩ = some (.int .i64 m.rule.hm) ∧ w.drew.cell? ⟨B, 5, none⟩ = some (.int .i64 m.rule.ls) ∧ w.drew.cell? ⟨B, 6, none⟩ = some (.int .i64 m.rule.hs) := ⟨c0, c1, c2, c3, c4, c5, c6⟩;have HB1 := hide (HBT.out w.drew HS.out)
  go_region_held (fun W => W.cell? ⟨B, 0, none⟩ = some (.slice ao m.store.length cap) ∧ W.cell? ⟨B, 1, none⟩ = some (.int .i64 m.rule.lc) ∧ W.cell? ⟨B, 2, none⟩ = some (.int .i64 m.rule.hc) ∧ W.cell? ⟨B, 3, none⟩ = some (.int .i64 m.rule.lm) ∧ W.cell? ⟨B, 4, none⟩ = some (.int .i64 m.rule.hm) ∧ W.cell? ⟨B, 5, none⟩ = some (.int .i64 m.rule.ls) ∧ W.cell? ⟨B, 6, none⟩ = some (.int .i64 m.rule.hs)) (first | exact hI | exact hS1) (first
   | (go_at_call 108; (with_reducible refine HB1.out.mono ?_); rintro e w1 ⟨ao1, n1, cap1, rfl, hmix, hb⟩; have B_1 := hide (((Below.refl w.heap.size w).drew).trans hb); have hS1 : w1.cell? ⟨B, 0, none⟩ = some (.slice ao m.store.length cap) ∧ w1.cell? ⟨B, 1, none⟩ = some (.int .i64 m.rule.lc) ∧ w1.cell? ⟨B, 2, none⟩ = some (.int .i64 m.rule.hc) ∧ w1.cell? ⟨B, 3, none⟩ = some (.int .i64 m.rule.lm) ∧ w1.cell? ⟨B, 4, none⟩ = some (.int .i64 m.rule.hm) ∧ w1.cell? ⟨B, 5, none⟩ = some (.int .i64 m.rule.ls) ∧ w1.cell? ⟨B, 6, none⟩ = some (.int .i64 m.rule.hs) := by (have R1 := HH.out.row.below B_1.out hlt; exact ⟨R1.cell 0 (by simp [az]), R1.cell 1 (by simp [az]), R1.cell 2 (by simp [az]), R1.cell 3 (by simp [az]), R1.cell 4 (by simp [az]), R1.cell 5 (by simp [az]), R1.cell 6 (by simp [az])⟩)))
  clear hb hS1 hI HB1;cases hm : dM m.store m.rule tons with
  | none =>
   have HN := hide (melt_no2 hm);clear hmix;go_wp2_with fail
   go_ret;rw [HN.out];exact jy.no (B_1.out.mono hbz)
  | some mix =>
   have HM := hide hm;obtain ⟨hmb, -, ht1, ht2⟩ := best_ok hm;have HMB := hide hmb;have HI := hide (hmix mix hm);have hw4 : IntKind.i64.wrap (4 * tons) = 4 * tons := IntWalk.i64_in _ (by omega);have R_1 := HH.out.row.below B_1.out hlt;have d0 := R_1.c 0 rfl;have hz1 := B_1.out.size;have hlt1 := R_1.lt;clear hmix hmb c0 c1 c2 c3 c4 c5 c6 c7 R_1;go_wp2_with fail
   refine (take_impl (.slice ao m.store.length cap) (.slice ao1 n1 cap1) m.store mix w1 ((HS.out.below B_1.out).mono nl hz1 nl) (HI.out.mono (Nat.zero_le _) nl nl) HMB.out).mono ?_;rintro e w2 ⟨v, rfl, own, hb2⟩;have B_2 := hide (B_1.out.trans (hb2.mono hz1));have R_2 := HH.out.row.below B_2.out hlt;have G_2 := hide (HH.out.got.store B_2.out hz1 (aK.own own) (4 * tons));have O_2 := hide (notIn_store HH.out.off (show B < w1.heap.size by omega) (aK.own own));obtain ⟨av, cv, rfl, -, -⟩ := aB own;have HR2 := hide R_2;have e0 := R_2.c 0 rfl;have e7 := R_2.c 7 rfl;have f0 := R_2.frozen 0;have f7 := R_2.frozen 7;clear own hb2 R_2 d0;go_wp2_with fail
   go_ret;rw [melt_yes HZ.out HM.out];obtain ⟨r1, g1, b1⟩ := df HR2.out G_2.out O_2.out HH.out.hB (j := 0) (by simp [az]) (.slice av (ig m.store mix).length cv);obtain ⟨r2, g2, b2⟩ := df r1 g1 O_2.out HH.out.hB (j := 7) (by simp [az]) (.int .i64 (4 * tons));refine ⟨rfl, ((B_2.out.mono hbz).trans b1).trans b2, fun x hx => ?_⟩;obtain rfl := Option.some.inj hx;exact ⟨_, _, _, _, r2, g2⟩
 ·have hsB : (m.strand != 0) = true := by simp [hs]
  have HN := hide (melt_no1 (t := tons) hs);clear hs;go_enter Tryz.func65, Tryz.ntmps65;go_wp2_with fail
  go_ret;rw [HN.out];exact jy.no (Below.refl _ _)
theorem gQ {base : Nat} {w : World} (h : base ≤ w.heap.size) : aL base w (.slice none 0 0) (.slice none 0 0) [] [] :=
 ⟨h, aK.own (World.ownsRow_nil _ _ _ _), aK.own (World.ownsRow_nil _ _ _ _), fun k e _ => by cases e⟩
theorem ownE_row {base g n cap : Nat} {w : World} {xs : List Int} (H : aK base 3 1 w (.slice (some ⟨g, 0, none⟩) n cap) xs.length (aC xs)) {j : Nat} (hj : j < xs.length) :
 w.cell? ⟨g, j, none⟩ = some (.int .i64 (xs.getD j 0)) ∧ w.frozen? ⟨g, j, none⟩ = false ∧ base ≤ g ∧ g < w.heap.size := by
 rcases H with H | ⟨g', -, -, -, h0, -⟩
 ·have hl := H.lt g rfl
  obtain ⟨ao, cap', e, -, -⟩ := aB H;simp only [Value.slice.injEq] at e;obtain ⟨rfl, rfl, rfl⟩ := e;refine ⟨?_, H.frozenAt j, hl.1, hl.2⟩;rw [H.cellAt j (by omega)];simp [aC, hj]
 ·omega
theorem aL.form {base : Nat} {w : World} {l h : Value} {lo hi : List Int} (H : aL base w l h lo hi) (t : Bool) {j : Nat} (hj : j < (cZ t lo hi).length) :
 ∃ g cap, rowV t l h = .slice (some ⟨g, 0, none⟩) (cZ t lo hi).length cap := by
 have key : ∀ (v : Value) (xs : List Int), aK base 3 1 w v xs.length (aC xs) → j < xs.length → ∃ g cap, v = .slice (some ⟨g, 0, none⟩) xs.length cap := by
  intro v xs h hx;rcases h with h | ⟨g, -, -, -, h0, -⟩
  ·rcases h.2 with ⟨-, h0⟩ | ⟨g, cap, cur, e, -⟩
   ·omega
   ·exact ⟨g, cap, e⟩
  ·omega
 cases t
 ·exact key l lo H.lo hj
 ·exact key h hi H.ho hj
theorem aL.cellAt {base g n cap : Nat} {w : World} {l h : Value} {lo hi : List Int} (H : aL base w l h lo hi) {t : Bool} (er : rowV t l h = .slice (some ⟨g, 0, none⟩) n cap) {j : Nat} (hj : j < (cZ t lo hi).length) :
 w.cell? ⟨g, j, none⟩ = some (.int .i64 ((cZ t lo hi).getD j 0)) ∧ w.frozen? ⟨g, j, none⟩ = false ∧ base ≤ g ∧ g < w.heap.size := by
 cases t
 ·have e : l = _ := er
  subst e;exact ownE_row H.lo hj
 ·have e : h = _ := er
  subst e;exact ownE_row H.ho hj
theorem aL.set {base g n cap : Nat} {w : World} {l h : Value} {lo hi : List Int} (H : aL base w l h lo hi) {t : Bool} (er : rowV t l h = .slice (some ⟨g, 0, none⟩) n cap) {j : Nat} (hj : j < (cZ t lo hi).length) (x : Int) :
 aL base (w.setCell ⟨g, j, none⟩ (.int .i64 x)) l h (bZ t lo hi (j : Int) x).1 (bZ t lo hi (j : Int) x).2 ∧ ai g (g + 1) w (w.setCell ⟨g, j, none⟩ (.int .i64 x)) := by
 cases t
 ·have e : l = _ := er
  subst e;have hj' : j < lo.length := hj;obtain ⟨h1, h2⟩ := aK.put (j := j) H.lo (by omega) (g := g) rfl (.int .i64 x);refine ⟨⟨by simpa [World.setCell] using H.hb, ?_, ?_, H.ap⟩, h2⟩
  ·have : (bZ false lo hi (j : Int) x).1 = lo.set j x := by simp [bZ]
   rw [this, flatI_set, List.length_set]; exact h1
  ·exact H.ho.other h2 fun k hk => by
    have := H.ap g rfl;rcases Nat.lt_trichotomy k g with h | h | h
    ·exact .inl h
    ·subst h; exact absurd hk this
    ·exact .inr h
 ·have e : h = _ := er
  subst e;have hj' : j < hi.length := hj;obtain ⟨h1, h2⟩ := aK.put (j := j) H.ho (by omega) (g := g) rfl (.int .i64 x);refine ⟨⟨by simpa [World.setCell] using H.hb, ?_, ?_, H.ap⟩, h2⟩
  ·exact H.lo.other h2 fun k hk => by
    have := H.ap.symm g rfl;rcases Nat.lt_trichotomy k g with h | h | h
    ·exact .inl h
    ·subst h; exact absurd hk this
    ·exact .inr h
  ·have : (bZ true lo hi (j : Int) x).2 = hi.set j x := by simp [bZ]
   rw [this, flatI_set, List.length_set]; exact h1
theorem spot_put {W : World} {T8 B gg j : Nat} {u v x y : Value} (H : ((W.cell? ⟨T8, 0, none⟩ = some u ∧ W.cell? ⟨T8, 1, none⟩ = some v) ∧ (W.cell? ⟨B, 0, none⟩ = some x ∧ W.cell? ⟨B, 1, none⟩ = some y)) ∧ ((W.cell? ⟨gg, j, none⟩).isSome = true ∧ W.frozen? ⟨gg, j, none⟩ = false)) (h1 : gg ≠ T8) (h2 : gg ≠ B) (z : Value) :
 (((W.setCell ⟨gg, j, none⟩ z).cell? ⟨T8, 0, none⟩ = some u ∧ (W.setCell ⟨gg, j, none⟩ z).cell? ⟨T8, 1, none⟩ = some v) ∧ ((W.setCell ⟨gg, j, none⟩ z).cell? ⟨B, 0, none⟩ = some x ∧ (W.setCell ⟨gg, j, none⟩ z).cell? ⟨B, 1, none⟩ = some y)) ∧ (((W.setCell ⟨gg, j, none⟩ z).cell? ⟨gg, j, none⟩).isSome = true ∧ (W.setCell ⟨gg, j, none⟩ z).frozen? ⟨gg, j, none⟩ = false) := by
 obtain ⟨⟨⟨a, b⟩, ⟨c, d⟩⟩, e, f⟩ := H;obtain ⟨o, ho⟩ := Option.isSome_iff_exists.1 e;have n1 : ∀ k, (⟨gg, j, none⟩ : Addr) ≠ ⟨T8, k, none⟩ := fun k e => h1 (by injection e);have n2 : ∀ k, (⟨gg, j, none⟩ : Addr) ≠ ⟨B, k, none⟩ := fun k e => h2 (by injection e);refine ⟨⟨⟨?_, ?_⟩, ⟨?_, ?_⟩⟩, ?_, by rw [World.frozen?_setCell]; exact f⟩
 ·rw [World.cell?_setCell_other _ _ _ _ (n1 0)]; exact a
 ·rw [World.cell?_setCell_other _ _ _ _ (n1 1)]; exact b
 ·rw [World.cell?_setCell_other _ _ _ _ (n2 0)]; exact c
 ·rw [World.cell?_setCell_other _ _ _ _ (n2 1)]; exact d
 ·rw [World.cell?_setCell_same _ _ _ ho]; rfl
theorem iY {lo hi : List Int} (h : aO lo hi = true) : lo.length ≤ 1000000 ∧ hi.length ≤ 1000000 := by
 have hv := aZ.1 h;have := hv.l6;have := hv.lh;omega
theorem put_bad {lo hi : List Int} {t : Bool} {p id : Int} (h : aO lo hi = false) : fE lo hi t p id = (([], []), false) := by simp [fE, h]
theorem put_low {lo hi : List Int} {t : Bool} {p id : Int} (h : aO lo hi = true) (h2 : id < 1) : fE lo hi t p id = ((lo, hi), false) := by simp [fE, h, h2]
theorem put_full {lo hi : List Int} {t : Bool} {p id : Int} (h : aO lo hi = true) (h2 : atR lo hi t p ≠ 0) : fE lo hi t p id = ((lo, hi), false) := by simp [fE, h, h2]
theorem put_not {lo hi : List Int} {t : Bool} {p id : Int} (h : aO lo hi = true) (h2 : atR lo hi t p = 0) (h3 : aO (bZ t lo hi p id).1 (bZ t lo hi p id).2 = false) : fE lo hi t p id = ((lo, hi), false) := by
 simp [fE, h, h2, h3]
theorem put_yes {lo hi : List Int} {t : Bool} {p id : Int} (h : aO lo hi = true) (h1 : ¬ id < 1) (h2 : atR lo hi t p = 0) (h3 : aO (bZ t lo hi p id).1 (bZ t lo hi p id).2 = true) : fE lo hi t p id = (bZ t lo hi p id, true) := by
 simp [fE, h, h1, h2, h3]
def dS (lo hi : List Int) : Nat → List Int
 | 0 => []
 | k + 1 => if (cK lo hi ((k : Int) + 1)).isSome then dS lo hi k ++ [(k : Int) + 1] else dS lo hi k
theorem coilTo_len (lo hi : List Int) : ∀ k, (dS lo hi k).length ≤ k
 | 0 => Nat.le_refl _
 | k + 1 => by
  have := coilTo_len lo hi k;unfold dS;split
  ·simp; omega
  ·omega
theorem jT {lo hi : List Int} : ∀ {k : Nat} {x : Int}, x ∈ dS lo hi k ↔ 1 ≤ x ∧ x ≤ k ∧ (cK lo hi x).isSome = true
 | 0, x => by simp [dS]; omega
 | k + 1, x => by
  unfold dS;split
  ·rename_i h
   rw [List.mem_append, jT, List.mem_singleton];constructor
   ·rintro (⟨h1, h2, h3⟩ | rfl)
    ·exact ⟨h1, by omega, h3⟩
    ·exact ⟨by omega, by omega, h⟩
   ·rintro ⟨h1, h2, h3⟩
    by_cases e : x = (k : Int) + 1
    ·exact .inr e
    ·exact .inl ⟨h1, by omega, h3⟩
  ·rename_i h
   rw [jT];constructor
   ·rintro ⟨h1, h2, h3⟩; exact ⟨h1, by omega, h3⟩
   ·rintro ⟨h1, h2, h3⟩
    refine ⟨h1, ?_, h3⟩;by_cases e : x = (k : Int) + 1
    ·rw [e] at h3; exact absurd h3 h
    ·omega
theorem coilTo_lt (lo hi : List Int) : ∀ k, (dS lo hi k).Pairwise (· < ·)
 | 0 => List.Pairwise.nil
 | k + 1 => by
  unfold dS;split
  ·rw [List.pairwise_append]
   refine ⟨coilTo_lt lo hi k, by simp, fun a ha b hb => ?_⟩;have := jT.1 ha;simp only [List.mem_singleton] at hb;omega
  ·exact coilTo_lt lo hi k
theorem coilTo_all (lo hi : List Int) : dS lo hi 99 = ib lo hi := by
 refine jH (coilTo_lt _ _ _) (coil_lt _ _) fun x => ?_;rw [jT];cases hv : aO lo hi with
 | false => simp [ib, hv, find_bad hv]
 | true =>
  have hV := aZ.1 hv;rw [mem_coil hV];constructor
  ·rintro ⟨h1, h2, h3⟩
   apply Classical.byContradiction;intro hn;have : cK lo hi x = none := by
    cases hf : cK lo hi x with
    | none => rfl
    | some r =>
     obtain ⟨t, p⟩ := r;obtain ⟨_, _, k, _, hk, e⟩ := find_at hf;exact absurd (eD.2 ⟨by rw [← e]; exact row_mem (gY hk), by omega⟩) hn
   rw [this] at h3; cases h3
  ·intro h
   obtain ⟨t, p, e⟩ := find_some hV h;have := hV.rng x (eD.1 h).1;have := (eD.1 h).2;exact ⟨by omega, by omega, by rw [e]; rfl⟩
theorem coils_spec (l h : Value) (lo hi : List Int) (w : World) (Hl : au 0 w.heap.size w l lo) (Hh : au 0 w.heap.size w h hi) :
 Calls Tryz.prog 44 #[aD l h] w (fA w.heap.size (ib lo hi) w) := by
 have HL := hide Hl;have HH := hide Hh;have hP := fun id W H1 H2 => find_spec l h lo hi id W H1 H2;unfold aD at hP ⊢;have HP := hide hP;obtain ⟨i0, hi0, hz0, hi1, hi2⟩ := info_parts bF;clear hP Hl Hh;go_enter Tryz.func44, Tryz.ntmps44;go_wp2_with fail
 go_loopw [3, 4, 5, 6] (fun o i _ _ wr => ∃ k : Nat, k ≤ 99 ∧ i = .int .i64 ((k : Int) + 1) ∧ Below w.heap.size w wr ∧ ae wr w.heap.size 29 [l, h] ∧ wr.ownsRow (w.heap.size + 1) 3 1 o (dS lo hi k).length (aC (dS lo hi k))) (fun _ i _ _ _ => 100 - (intOf i).toNat)
 case atStart =>
  refine ⟨0, by omega, rfl, by go_grown, (ae.new _ _ _).alloc _, ?_⟩;simpa [dS, aC] using World.ownsRow_lit (e := 3) (size := 1) (base := w.heap.size + 1) (w.alloc (.cells #[l, h] 29)) #[] 0 (by simp) (by unfold maxLen; omega) (by simp)
 case round =>
  obtain ⟨k, hk, rfl, hb, hr, hown⟩ := hrel;have HB := hide hb;have HR := hide hr;have HO := hide hown;have hz := hr.lt;have hp0 := hr.cell 0 (by simp);have hp1 := hr.cell 1 (by simp);simp only [List.getD_cons_zero, List.getD_cons_succ] at hp0 hp1;obtain ⟨aov, capv, rfl, hc1, hc2⟩ := aB hown;clear hb hr hown;by_cases hlt : k < 99
  ·have HLr := hide ((HL.out.below HB.out).mono nl HB.out.size nl)
   have HHr := hide ((HH.out.below HB.out).mono nl HB.out.size nl);have hlen := coilTo_len lo hi k;have hsz := HB.out.size;cases hf : cK lo hi ((k : Int) + 1) with
   | none =>
    have HN := hide (show dS lo hi (k + 1) = dS lo hi k by simp [dS, hf]);go_wp2_with fail
    refine (HP.out ((k : Int) + 1) wr HLr.out HHr.out).mono ?_;rw [hf];unfold findV;rintro e w1 ⟨rfl, hb1⟩;have HB2 := bs HB.out hb1;have HR2 := hide (HR.out.below hb1 HR.out.lt);have HO2 := hide (ownsRow_below HO.out hb1 nl);have hz1 := HB2.out.size;clear hb1 hp0 hp1 hf;go_wp2_with fail
    go_roundw
    case rel => exact ⟨k + 1, by omega, by go_num, HB2.out.alloc hz1 _, HR2.out.alloc _, by rw [HN.out]; exact HO2.out.alloc _⟩
    case measure => simp [intOf]; omega
   | some r =>
    obtain ⟨t, p⟩ := r;have HN := hide (show dS lo hi (k + 1) = dS lo hi k ++ [(k : Int) + 1] by simp [dS, hf]);go_wp2_with fail
    refine (HP.out ((k : Int) + 1) wr HLr.out HHr.out).mono ?_;rw [hf];unfold findV;rintro e w1 ⟨rfl, hb1⟩;have HB2 := bs HB.out hb1;have HR2 := hide (HR.out.below hb1 HR.out.lt);have HO2 := hide (ownsRow_below HO.out hb1 nl);have hz1 := HB2.out.size;clear hb1 hp0 hp1 hf;go_wp2_with (at_builtin; refine aA rfl _ _ 27 rfl (w.heap.size + 1) 3 i0 (.int .i64 0) 1 8 Tryz.underlying27 hi0 hz0 hi1 hi2 rfl (by decide) _ _ _ rfl ((HO2.out.alloc _).alloc _) (.slice (some ⟨w1.heap.size + 1, 0, none⟩) 1 1) 1 [.int .i64 ((k : Int) + 1)] rfl ?c0 ?c1 ?c2 ?c3 ?_)
    case c0 => simpa using Source.lit (World.alloc w1 _) [.int .i64 ((k : Int) + 1)] 1 3 1 rfl (fun u hu => by simp at hu; subst hu; rfl) 1
    case c1 => unfold maxLen; omega
    case c2 => omega
    case c3 => simp; omega
    intro v2 w2 hown2 hgrow2 _;have hlt2 := HR2.out.lt;have hgB : Below (w.heap.size + 1) w1 w2 := (((Below.refl _ _).alloc (by omega) _).alloc (by simp; omega) _).trans (Below.grow hgrow2 ((HO2.out.alloc _).alloc _) nl (by simp; omega));have HB3 := hide (HB2.out.trans (hgB.mono (by omega)));have HR3 := hide (HR2.out.below hgB ns);have HO3 := hide (show w2.ownsRow (w.heap.size + 1) 3 1 v2 (dS lo hi (k + 1)).length (aC (dS lo hi (k + 1))) by rw [HN.out]; simpa [aC] using hown2);clear hown2 hgrow2 hgB;go_wp2_with fail
    go_roundw
    case rel => exact ⟨k + 1, by omega, by go_num, HB3.out, HR3.out, HO3.out⟩
    case measure => simp [intOf]; omega
  ·obtain rfl : k = 99 := by omega
   go_wp2_with fail
   go_ret;exact ⟨_, rfl, by rw [← coilTo_all]; exact aJ HO.out (by omega), HB.out⟩
theorem bK {lo hi : Nat} {w : World} {v : Value} {a b : Int} (h : au lo hi w v [a, b]) : ∃ b0 o0 cap, v = .slice (some ⟨b0, o0, none⟩) 2 cap ∧ lo ≤ b0 ∧ b0 < hi ∧ w.cell? ⟨b0, o0, none⟩ = some (.int .i64 a) ∧ w.cell? ⟨b0, o0 + 1, none⟩ = some (.int .i64 b) := by
 obtain ⟨ao, cap, e, h1, h2, h3, h4⟩ := h;obtain ⟨b0, o0, rfl, b1, b2, hc⟩ := h4 (by simp);exact ⟨b0, o0, cap, e, b1, b2, (hc 0 (by simp)).1, (hc 1 (by simp)).1⟩
theorem lens_impl (v : Value) (a b : Int) (lo hi : Nat) (w : World) (H : au lo hi w v [a, b]) :
 Calls Tryz.prog 110 #[v] w fun e w' => e = .returned (.bool (dB a b)) ∧ w = w' := by
 obtain ⟨b0, o0, cap, rfl, -, -, c0, c1⟩ := bK H;clear H;have HW := hide (fun n l h W => aU n l h W);go_enter Tryz.func110, Tryz.ntmps110;go_wp2_with fail
 refine (HW.out 2 1 4 w).mono ?_;rintro e w1 ⟨rfl, rfl⟩;have hw : wi 2 1 4 = true := by decide
 rw [hw];go_wp2_with fail
 go_loop [3, 5, 12] (fun p _ i => (i = .int .i64 0 ∧ p = .int .i64 0) ∨ (i = .int .i64 1 ∧ p = .int .i64 a ∧ wi a 1 60 = true) ∨ (i = .int .i64 2 ∧ p = .int .i64 b ∧ dB a b = true)) (fun _ _ i => 2 - (intOf i).toNat)
 case atStart => exact .inl ⟨rfl, rfl⟩
 case round =>
  rcases hrel with ⟨rfl, rfl⟩ | ⟨rfl, rfl, h⟩ | ⟨rfl, rfl, h⟩
  ·go_wp2_with fail
   refine (HW.out a 1 60 w).mono ?_;rintro e w1 ⟨rfl, rfl⟩;cases h : wi a 1 60 with
   | false =>
    go_wp2_with fail
    go_ret;simp [dB, h]
   | true =>
    go_wp2_with fail
    go_round
    case rel => exact .inr (.inl ⟨rfl, rfl, h⟩)
    case measure => simp [intOf]
  ·have ha := (aN.1 h)
   have hp : IntKind.i64.wrap (a + 1) = a + 1 := IntWalk.i64_in _ (by omega);go_wp2_with fail
   refine (HW.out b (a + 1) 60 w).mono ?_;rintro e w1 ⟨rfl, rfl⟩;cases h2 : wi b (a + 1) 60 with
   | false =>
    go_wp2_with fail
    go_ret;simp [dB, h2]
   | true =>
    go_wp2_with fail
    go_round
    case rel => exact .inr (.inr ⟨rfl, rfl, by simp [dB, h, h2]⟩)
    case measure => simp [intOf]
  ·go_wp2_with fail
   go_ret;simp [h]
def wst1 (T : List Int) (a : Int) (k : Nat) : Int := if a ≤ k then min (k : Int) (T.getD ((k : Int) - a).toNat 0) else k
def wst2 (T : List Int) (a b : Int) (k : Nat) : Int := if b ≤ k then min (wst1 T a k) (T.getD ((k : Int) - b).toNat 0) else wst1 T a k
theorem wasteAt_eq (T : List Int) (a b : Int) (k : Nat) : wasteAt T a b k = wst2 T a b k := rfl
theorem tab_eq {a b : Int} (h : dB a b = true) {L k : Nat} (hk : k ≤ L) : (tab a b (L + 1)).getD k 0 = wst2 (tab a b (L + 1)) a b k := by
 obtain ⟨⟨h1, h2⟩, h3, h4⟩ := di.1 h;rw [tab_le a b (Nat.lt_succ_self k) (Nat.succ_le_succ hk), tab_new];have e1 : a ≤ k → (tab a b (L + 1)).getD ((k : Int) - a).toNat 0 = (tab a b k).getD ((k : Int) - a).toNat 0 := fun hle => tab_le a b (by omega) (by omega);have e2 : b ≤ k → (tab a b (L + 1)).getD ((k : Int) - b).toNat 0 = (tab a b k).getD ((k : Int) - b).toNat 0 := fun hle => tab_le a b (by omega) (by omega);rw [wasteAt_eq];unfold wst2 wst1;by_cases ha : a ≤ k
 ·by_cases hb : b ≤ k
  ·simp only [if_pos ha, if_pos hb, e1 ha, e2 hb]
  ·simp only [if_pos ha, if_neg hb, e1 ha]
 ·by_cases hb : b ≤ k
  ·simp only [if_neg ha, if_pos hb, e2 hb]
  ·simp only [if_neg ha, if_neg hb]
theorem cnt_yes {t : List Int} {x : Int} (hx : 1 ≤ x) {f : Nat} {left : Int} (h0 : 0 ≤ left) (hf : left < f) (h : eU t x left = true) : cnt t x f left = cnt t x f (left - x) + 1 := by
 obtain _ | f := f
 ·omega
 ·have hm := h
  unfold eU at hm;rw [Bool.and_eq_true, decide_eq_true_iff] at hm;rw [cnt, if_pos h, cnt_fuel t hx f (f + 1) (left - x) (by omega) (by omega) (by omega)]
theorem cnt_no {t : List Int} {x : Int} {f : Nat} {left : Int} (h : eU t x left = false) : cnt t x f left = 0 := by
 obtain _ | f := f
 ·rfl
 ·rw [cnt, if_neg (by rw [h]; simp)]
structure eH (T : List Int) (L : Nat) (x : Int) (n c : Nat) (left : Int) : Prop where
 pos : 0 ≤ left
 le : left ≤ L
 cnt : n = c + Go.Proofs.YtkhecelpafojdaaGreatDoor.cnt T x (L + 1) left
 same : T.getD left.toNat 0 = T.getD L 0
theorem eH.start {a b : Int} {L : Nat} : eH (tab a b (L + 1)) L b (bA L a b) 0 L := by
 refine ⟨by omega, by omega, ?_, by simp⟩;unfold bA; simp
theorem eH.next {a b : Int} {L : Nat} {left : Int} (H : eH (tab a b (L + 1)) L b (bA L a b) (bA L a b) left) (hl : left = L - bA L a b * b) : eH (tab a b (L + 1)) L a (dx L a b) 0 left := by
 refine ⟨H.pos, H.le, ?_, H.same⟩;unfold dx; rw [hl]; simp
theorem eH.more {T : List Int} {L : Nat} {x : Int} {n c : Nat} {left : Int} (hx : 1 ≤ x) (H : eH T L x n c left) (h : eU T x left = true) : eH T L x n (c + 1) (left - x) ∧ x ≤ left ∧ c + 1 ≤ n := by
 have hm := h;unfold eU at hm;rw [Bool.and_eq_true, decide_eq_true_iff, beq_iff_eq] at hm;have h1 := H.pos;have h2 := H.le;have h3 := H.cnt;rw [cnt_yes hx h1 (by omega) h] at h3;exact ⟨⟨by omega, by omega, by omega, hm.2.trans H.same⟩, hm.1, by omega⟩
theorem eH.done {T : List Int} {L : Nat} {x : Int} {n c : Nat} {left : Int} (H : eH T L x n c left) (h : eU T x left = false) : c = n := by
 have h3 := H.cnt;rw [cnt_no h] at h3;omega
end Go.Proofs.YtkhecelpafojdaaGreatDoor
