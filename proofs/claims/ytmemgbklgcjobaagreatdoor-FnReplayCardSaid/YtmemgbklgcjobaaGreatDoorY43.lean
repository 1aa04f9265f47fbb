/-
  Parts of the proofs over mills, of: CutT, MethR, DoI0. Conditions: each theorem states its own.
-/
import Derived.Test.YtmemgbklgcjobaaGreatDoorY20
import Derived.Test.YtmemgbklgcjobaaGreatDoorY42
set_option linter.unusedSimpArgs false
set_option linter.unusedVariables false
set_option maxRecDepth 10000
set_option maxHeartbeats 64000000
namespace Go.Proofs.YtmemgbklgcjobaaGreatDoor
open Go.RowKit
theorem wastes_impl (v : Value) (a b : Int) (lo hi L : Nat) (hL : L ≤ 60) (hv : lensB a b = true) (w : World) (H : IntsAt lo hi w v [a, b]) :
 Calls Tryz.prog 199 #[.int .i64 (L : Int), v] w (IntsNew w.heap.size (tab a b (L + 1)) w) := by
 have HH := hide H;have hlt := H.lt;obtain ⟨⟨ha1, ha2⟩, hb1, hb2⟩ := lensB_iff.1 hv;obtain ⟨T, hT⟩ : ∃ T, tab a b (L + 1) = T := ⟨_, rfl⟩;have HE := hide (show ∀ k : Nat, k ≤ L → T.getD k 0 = wst2 T a b k from fun k hk => hT ▸ tab_eq hv hk);have hTl : T.length = L + 1 := by rw [← hT, tab_len]
 have HTb := hide (show ∀ k : Nat, k ≤ L → 0 ≤ T.getD k 0 ∧ T.getD k 0 ≤ k from fun k hk => hT ▸ tab_bd (L + 1) k (by omega));rw [hT];obtain ⟨N, hN1, hN2⟩ : ∃ N : Nat, N ≤ L + 1 ∧ L + 1 ≤ N := ⟨_, Nat.le_refl _, Nat.le_refl _⟩;have hTn : T.length = N := by omega
 clear hTl;obtain ⟨b0, o0, cap, rfl, h1, h2, -, -⟩ := two_at H;have hmk : ∀ W : World, (Instr.makeSlice 27 (.int .i64 ((L : Int) + 1)) (.int .i64 ((L : Int) + 1))).run Tryz.prog W = .ok (.slice (some ⟨W.heap.size, 0, none⟩) N N) (W.alloc (.cells (madeCells (Value.int .i64 0).cells (N * 1)) 3)) := fun W => by
  rw [show (L : Int) + 1 = (N : Int) by omega];exact make_rowN (P := Tryz.prog) 27 3 _ _ _ Tryz.underlying27 info_int .i64 .i64 N (by omega) (by omega) W
 clear H hv hT;go_enter Tryz.func199, Tryz.ntmps199;go_wp2_with fail
 clear hmk
 go_loopw [6, 8, 14] (fun _ _ i wr => ∃ k : Nat, k ≤ N ∧ i = .int .i64 (k : Int) ∧ Below w.heap.size w wr ∧ ∃ f, wr.rowIs w.heap.size 3 N f ∧ ∀ j, j < k → f j = .int .i64 (T.getD j 0)) (fun _ _ i _ => N - (intOf i).toNat)
 case atStart =>
  obtain ⟨f, hf⟩ := rowIs_madeN w #[.int .i64 0] N 3;exact ⟨0, Nat.zero_le _, rfl, by go_grown, f, by simpa using hf, fun _ h => absurd h (Nat.not_lt_zero _)⟩
 case round =>
  obtain ⟨k, hk, rfl, hb, f, hrow, hall⟩ := hrel;have HB := hide hb;have HR := hide hrow;have HA := hide hall;have hz := hrow.lt;clear hall;by_cases hltk : k < N
  ·have hkI : (k : Int) < (N : Int) := by omega
   have hk0 : (0 : Int) ≤ (k : Int) := by omega
   have hgk := hrow.cell (i := k) hltk;have hgf := hrow.frozen k;clear hb hrow;go_wp2_with fail
   have hR2 := HR.out.set k (.int .i64 (k : Int));have hB2 : Below w.heap.size w (wr.setCell ⟨w.heap.size, k, none⟩ (.int .i64 (k : Int))) := HB.out.setCell nl _;obtain ⟨wo, hwo⟩ : ∃ wo : World, wo = wr.setCell ⟨w.heap.size, k, none⟩ (.int .i64 (k : Int)) := ⟨_, rfl⟩;rw [← hwo] at hR2 hB2 ⊢;clear hwo hgk hgf;have HR2 := hide hR2;have HB2 := hide hB2;clear hR2 hB2
   go_loopw [8, 23] (fun _ i wr => ∃ (x : Int) (f' : Nat → Value), wr.rowIs w.heap.size 3 N f' ∧ Below w.heap.size w wr ∧ f' k = .int .i64 x ∧ (∀ j, j < k → f' j = .int .i64 (T.getD j 0)) ∧ ((i = .int .i64 0 ∧ x = k) ∨ (i = .int .i64 1 ∧ x = wst1 T a k) ∨ (i = .int .i64 2 ∧ x = wst2 T a b k))) (fun _ i _ => 2 - (intOf i).toNat)
   case atStart =>
    exact ⟨k, _, HR2.out, HB2.out, by simp, fun j hj => by rw [if_neg (by omega)]; exact HA.out j hj, .inl ⟨rfl, rfl⟩⟩
   case round =>
    obtain ⟨x, f', hrow, hb, hfk, hfj, hcase⟩ := hrel;have hzz := hrow.lt;have cc := (two_at (HH.out.below hb));obtain ⟨b1, o1, cap1, e1, -, -, c0, c1⟩ := cc;cases e1;have hgk : wr.cell? ⟨w.heap.size, k, none⟩ = some (.int .i64 x) := by rw [hrow.cell (i := k) hltk, hfk]
    have hgf := hrow.frozen k;have HRr := hide hrow;have HBr := hide hb;have HFk := hide hfk;have HFj := hide hfj;rcases hcase with ⟨rfl, rfl⟩ | ⟨rfl, rfl⟩ | ⟨rfl, rfl⟩
    ·by_cases hle : a ≤ (k : Int)
     ·obtain ⟨d, hd⟩ : ∃ d : Nat, (k : Int) - a = d := ⟨((k : Int) - a).toNat, by omega⟩
      have hdk : d < k := by omega
      have hdI : (d : Int) < (N : Int) := by omega
      have hd0 : (0 : Int) ≤ (d : Int) := by omega
      have hwd : IntKind.i64.wrap ((k : Int) - a) = (d : Int) := by rw [hd]; exact IntWalk.i64_in _ (by omega)
      have hgd : wr.cell? ⟨w.heap.size, d, none⟩ = some (.int .i64 (T.getD d 0)) := by rw [hrow.cell (i := d) (by omega), hfj d hdk]
      obtain ⟨y, hy⟩ : ∃ y, T.getD d 0 = y := ⟨_, rfl⟩;rw [hy] at hgd;have HX := hide (show wst1 T a k = min (k : Int) y by
       unfold wst1;rw [if_pos hle, hd];simp [← hy])
      clear hrow hb hfk hfj hy hd;go_wp2_with fail
      go_still_tail 14, (by kernel_rfl)
      change wpList _ _ _ _ _ wr.drew;go_wp2_with fail
      go_roundw
      case rel => exact ⟨wst1 T a k, _, (HRr.out.drew).set k _, (HBr.out.drew).setCell nl _, by rw [HX.out]; simp, fun j hj => by rw [if_neg (by omega)]; exact HFj.out j hj, .inr (.inl ⟨rfl, rfl⟩)⟩
      case measure => simp [intOf]
     ·have HX := hide (show wst1 T a k = k by unfold wst1; rw [if_neg hle])
      clear hrow hb hfk hfj;go_wp2_with fail
      go_roundw
      case rel => exact ⟨_, f', HRr.out, HBr.out, HFk.out, HFj.out, .inr (.inl ⟨rfl, HX.out.symm⟩)⟩
      case measure => simp [intOf]
    ·by_cases hle : b ≤ (k : Int)
     ·obtain ⟨d, hd⟩ : ∃ d : Nat, (k : Int) - b = d := ⟨((k : Int) - b).toNat, by omega⟩
      have hdk : d < k := by omega
      have hdI : (d : Int) < (N : Int) := by omega
      have hd0 : (0 : Int) ≤ (d : Int) := by omega
      have hwd : IntKind.i64.wrap ((k : Int) - b) = (d : Int) := by rw [hd]; exact IntWalk.i64_in _ (by omega)
      have hgd : wr.cell? ⟨w.heap.size, d, none⟩ = some (.int .i64 (T.getD d 0)) := by rw [hrow.cell (i := d) (by omega), hfj d hdk]
      obtain ⟨y, hy⟩ : ∃ y, T.getD d 0 = y := ⟨_, rfl⟩;rw [hy] at hgd;obtain ⟨x1, hx1⟩ : ∃ x1, wst1 T a k = x1 := ⟨_, rfl⟩;have HX := hide (show wst2 T a b k = min x1 y by
       unfold wst2;rw [if_pos hle, hd, hx1];simp [← hy])
      rw [hx1] at hgk;clear hx1;clear hrow hb hfk hfj hy hd;go_wp2_with fail
      go_still_tail 14, (by kernel_rfl)
      change wpList _ _ _ _ _ wr.drew;go_wp2_with fail
      go_roundw
      case rel => exact ⟨wst2 T a b k, _, (HRr.out.drew).set k _, (HBr.out.drew).setCell nl _, by rw [HX.out]; simp, fun j hj => by rw [if_neg (by omega)]; exact HFj.out j hj, .inr (.inr ⟨rfl, rfl⟩)⟩
      case measure => simp [intOf]
     ·have HX := hide (show wst2 T a b k = wst1 T a k by unfold wst2; rw [if_neg hle])
      clear hrow hb hfk hfj;go_wp2_with fail
      go_roundw
      case rel => exact ⟨_, f', HRr.out, HBr.out, HFk.out, HFj.out, .inr (.inr ⟨rfl, HX.out.symm⟩)⟩
      case measure => simp [intOf]
    ·clear hrow hb hfk hfj
     go_wp2_with fail
     go_roundw
     case rel =>
      refine ⟨k + 1, by omega, by go_num, HBr.out, f', HRr.out, fun j hj => ?_⟩;by_cases e : j = k
      ·subst e
       rw [HFk.out, HE.out j (by omega)]
      ·exact HFj.out j (by omega)
     case measure => simp [intOf]; omega
  ·obtain rfl : k = N := by omega
   have hkk : ¬ (k : Int) < (k : Int) := by omega
   clear hb hrow;go_wp2_with fail
   go_ret;refine ⟨_, rfl, ?_, HB.out⟩;have := own_of_row (n := k) (sz := 1) (cs := flatI T) (f := f) (by simpa using HR.out) nl (by omega) (by rw [flatI_len, hTn, Nat.mul_one]) (fun i hi => by
    have hi2 : i < T.length := by omega
    rw [HA.out i (by omega)];simp [flatI, hi2])
   rw [hTn];exact this
theorem roll_meth {base B : Nat} {w : World} {s p l h : Value} {m : Mi} (id n : Int) (H : MillBox base B w s p l h m) (hl : m.pieces.length ≤ 1000000) (hn : n ≤ 9223372036854775807) :
 Calls Tryz.prog 109 #[.pointer (some ⟨B, 0, none⟩), .int .i64 id, .int .i64 n] w (Meth base B (rollD m id n) w) := by
 by_cases hn0 : 0 ≤ n
 ·have hnb : ¬ n < 0 := by omega
  have HH := hide H;have hr := H.row;have hlt := hr.lt;have hbz := H.got.hb;have HL := hide (H.got.all.low);have HG := hide (H.got.all.high);have c8 : w.cell? ⟨B, 8, none⟩ = some p := hr.cell 8 (by simp [millC]);have c9 : w.cell? ⟨B, 9, none⟩ = some l := hr.cell 9 (by simp [millC]);have c10 : w.cell? ⟨B, 10, none⟩ = some h := hr.cell 10 (by simp [millC]);have hhas := has_any B p m id 0 w H.got.all.pieces c8 hl;cases hhb : hasB m id 0 with
  | false =>
   have hN := hide (rollD_no2 (n := n) hhb);rw [hhb] at hhas;clear hhb hr H;go_enter Tryz.func109, Tryz.ntmps109;go_wp2_with fail
   refine hhas.mono ?_;rintro e w1 ⟨rfl, rfl⟩;go_wp2_with fail
   go_ret;rw [hN.out];exact Meth.no (Below.refl _ _)
  | true =>
   rw [hhb] at hhas;have HB2 := hide hhb;obtain ⟨k, rfl, hk, hs0⟩ := hasB_iff.1 hhb;have HHAS := hide hhas;obtain ⟨⟨q, r⟩, hQ⟩ : ∃ Q, putR m.low m.high (spotTop n) (spotPlace n) ((k : Int) + 1) = Q := ⟨_, rfl⟩;have HQ := hide hQ;have HA := hide (fun W => spotN_impl n W hn0 hn);have hlf := fun (W : World) (kk : Below w.heap.size w W) => put_impl l h m.low m.high (spotTop n) (spotPlace n) ((k : Int) + 1) W ((HL.out.below kk).mono nl kk.size nl) ((HG.out.below kk).mono nl kk.size nl);rw [hQ] at hlf;unfold pileV at hlf;have HLF := hide hlf;obtain ⟨ta, hta⟩ : ∃ t, spotTop n = t := ⟨_, rfl⟩;obtain ⟨pa, hpa⟩ : ∃ t, spotPlace n = t := ⟨_, rfl⟩;rw [hta, hpa] at HA HLF;clear hQ hlf hta hpa hr H hhas hhb hs0;go_enter Tryz.func109, Tryz.ntmps109;go_wp2_with fail
   refine HHAS.out.mono ?_;rintro e w1 ⟨rfl, rfl⟩;go_wp2_with fail
   have hI : w.drew.cell? ⟨B, 9, none⟩ = some l ∧ w.drew.cell? ⟨B, 10, none⟩ = some h := ⟨c9, c10⟩;have hK : Below w.heap.size w w.drew := (Below.refl _ _).drew
   go_cut [7, 8] from 17 to 27 (fun bx ok wr => BoxGot w.heap.size wr q bx ∧ ok = .bool r ∧ Below w.heap.size w wr)
   case first =>
    go_region_held (fun W => (W.cell? ⟨B, 9, none⟩ = some l ∧ W.cell? ⟨B, 10, none⟩ = some h) ∧ Below w.heap.size w W) (first | exact ⟨hI, hK⟩ | assumption | exact held_alloc hlt (by assumption) | exact held_store hlt (by first | exact Nat.le_refl _ | omega) (by assumption) | (trace_state; fail)) (first
     | (go_at_call 166; (with_reducible refine (HA.out _).mono ?_); rintro e w5 ⟨rfl, hb5⟩; have hS5 := held_call hlt hb5 (by assumption); have hz5 := hS5.2.size; obtain ⟨hc5, hf5⟩ := bcell hb5; have hzz5 := hb5.size; (try simp at hzz5); (try have hx50 : w.heap.size < w5.heap.size := by omega))
     | (go_at_call 165; (with_reducible refine (HLF.out _ (And.right (by assumption))).mono ?_); rintro e w7 ⟨lx, hx, rfl, own, hb7⟩; have hS7 := held_call hlt hb7 (by assumption); have hz7 := hS7.2.size; obtain ⟨hc7, hf7⟩ := bcell hb7; have hzz7 := hb7.size; (try simp at hzz7); (try have hx70 : w.heap.size < w7.heap.size := by omega); (try have hx71 : w5.heap.size < w7.heap.size := by omega); obtain ⟨alx, clx, hlx, -, -⟩ := own.lo.form; obtain ⟨ahx, chx, hhx, -, -⟩ := own.ho.form; subst hlx hhx; simp only [pileV]))
    all_goals
     have hwd : w.drew.heap.size = w.heap.size := rfl;clear hnb;go_wp2_with fail
     go_meet
    ·exact ⟨box_new (base := w.heap.size) own (by omega) (by omega), rfl, And.right (by assumption)⟩
    ·exact ⟨box_old ((RowL.new w5 _ _).below hb7 (by simp)) own (by omega) (by simp), rfl, And.right (by assumption)⟩
    ·exact ⟨box_old (((RowL.new w.drew _ _).below hb5 (by simp)).below hb7 (by omega)) own (by omega) (by omega), rfl, And.right (by assumption)⟩
   obtain ⟨⟨G, lx, hx, rfl, hG, hrow, hown⟩, rfl, hbw⟩ := hcut;have HR := hide hrow;have HO := hide hown;have HBW := hide hbw;have hGz := hrow.lt;have g0 : wc.cell? ⟨G, 0, none⟩ = some lx := hrow.cell 0 (by simp);have g1 : wc.cell? ⟨G, 1, none⟩ = some hx := hrow.cell 1 (by simp);have R_c := HH.out.row.below hbw hlt;have f9 := R_c.frozen 9;have f10 := R_c.frozen 10;have d9 : wc.cell? ⟨B, 9, none⟩ = some l := R_c.cell 9 (by simp [millC]);have d10 : wc.cell? ⟨B, 10, none⟩ = some h := R_c.cell 10 (by simp [millC]);have d8 : wc.cell? ⟨B, 8, none⟩ = some p := R_c.cell 8 (by simp [millC]);have hltc := R_c.lt;have hRc := hide R_c;obtain ⟨alx, clx, rfl, -, -⟩ := hown.lo.form;obtain ⟨ahx, chx, rfl, -, -⟩ := hown.ho.form;have GC := HH.out.got.below hbw;obtain ⟨g, cp, hpf, hgb, hgz, hgc⟩ := got_block GC (by omega);have hgB : g ≠ B := fun e => HH.out.off.2.1 (by rw [hpf, e]; rfl);have hBg : B ≠ g := fun e => hgB e.symm;have HPF := hide hpf;obtain ⟨hgc1, hgf1⟩ := hgc k hk;rw [hpf] at d8;have hkI : (k : Int) < (m.pieces.length : Int) := by omega
   have hk0 : (0 : Int) ≤ (k : Int) := by omega
   have hsub : IntKind.i64.wrap ((k : Int) + 1 - 1) = (k : Int) := by rw [show (k : Int) + 1 - 1 = (k : Int) by omega]; exact IntWalk.i64_in _ (by omega)
   clear hrow hown hbw R_c hI hK c8 c9 c10 GC hgc hpf;cases r with
   | false =>
    have HN := hide (rollD_no3 (m := m) (id := (k : Int) + 1) (n := n) (by rw [HQ.out]));go_wp2_with fail
    go_ret;rw [HN.out];exact Meth.no (HBW.out.mono hbz)
   | true =>
    have HY := hide (rollD_yes (m := m) hn0 HB2.out HQ.out);go_wp2_with fail
    go_ret;rw [HY.out];have G_2 := HH.out.got.yard HBW.out nl HO.out;have O_2 := notIn_new HH.out.off hlt HO.out;obtain ⟨r1, k1, b1⟩ := box_set hRc.out G_2 O_2 HH.out.hB (j := 9) (by simp [millC]) (.slice alx q.1.length clx);obtain ⟨r2, k2, b2⟩ := box_set r1 k1 O_2 HH.out.hB (j := 10) (by simp [millC]) (.slice ahx q.2.length chx);obtain ⟨k3, b3⟩ := got_state k2 (k := k) hk (g := g) (by rw [HPF.out]; rfl) 1;refine ⟨rfl, (((HBW.out.mono hbz).trans b1).trans b2).trans b3, fun x hx => ?_⟩;obtain rfl := Option.some.inj hx;exact ⟨_, _, _, _, r2.other (lo := g) (hi := g + 1) ((Other.refl _ _ _).setCell (p := ⟨g, k * 2 + 1, none⟩) nl (Nat.lt_succ_self _) _) (by omega), k3⟩
 ·have hN := hide (rollD_no1 (m := m) (id := id) (n := n) hn0)
  have hna : n < 0 := by omega
  go_enter Tryz.func109, Tryz.ntmps109;go_wp2_with fail
  go_ret;rw [hN.out];exact Meth.no (Below.refl _ _)
theorem do_i0 (s p l h : Value) (m : Mi) (a b : Int) (w : World) (H : MillIn 0 w.heap.size w s p l h m) (ha : a ≤ 9223372036854775807) (hb : b ≤ 9223372036854775807) :
 Calls Tryz.prog 44 #[millV s p l h m, .agg #[.int .i64 0, .int .i64 a, .int .i64 b]] w (DoGot w.heap.size (doR m ⟨0, a, b⟩) w) := by
 obtain ⟨ao1, cap1, rfl, -, -, -, -⟩ := id H.store;obtain ⟨ao2, cap2, rfl, -, -, -, -⟩ := id H.pieces;obtain ⟨ao3, cap3, rfl, -, -, -, -⟩ := id H.low;obtain ⟨ao4, cap4, rfl, -, -, -, -⟩ := id H.high;have HM := hide H;have HA := hide (And.intro ha hb);clear H ha hb;unfold millV;go_enter Tryz.func44, Tryz.ntmps44;go_wp2_with fail
 refine calls_at fun wx hwx => ?_;have A_0 : RowL wx (w.heap.size) 31 [.slice ao1 m.store.length cap1, .int .i64 m.rule.lc, .int .i64 m.rule.hc, .int .i64 m.rule.lm, .int .i64 m.rule.hm, .int .i64 m.rule.ls, .int .i64 m.rule.hs, .int .i64 m.strand, .slice ao2 m.pieces.length cap2, .slice ao3 m.low.length cap3, .slice ao4 m.high.length cap4, .int .i64 m.scrap] := by rw [hwx]; exact (((RowL.new _ _ _).alloc _).alloc _)
 have D_0 : RowL wx (w.heap.size + 1) 48 [.int .i64 0, .int .i64 a, .int .i64 b] := by rw [hwx]; simpa using ((RowL.new (World.alloc _ _) 48 [.int .i64 0, .int .i64 a, .int .i64 b]).alloc _)
 have R_0 : RowL wx (w.heap.size + 1 + 1) 31 [.slice none 0 0, .int .i64 0, .int .i64 0, .int .i64 0, .int .i64 0, .int .i64 0, .int .i64 0, .int .i64 0, .slice none 0 0, .slice none 0 0, .slice none 0 0, .int .i64 0] := by rw [hwx]; simpa using (RowL.new (World.alloc (World.alloc _ _) _) 31 [.slice none 0 0, .int .i64 0, .int .i64 0, .int .i64 0, .int .i64 0, .int .i64 0, .int .i64 0, .int .i64 0, .slice none 0 0, .slice none 0 0, .slice none 0 0, .int .i64 0])
 have B_0 : Below w.heap.size w wx := by rw [hwx]; go_grown
 clear hwx;have hL0 := R_0.lt;have V_0 := hide (HM.out.below B_0);have k1 := mill_impl _ _ _ _ m wx V_0.out.all;unfold millV at k1;cases hv : millB m with
 | false =>
  rw [hv] at k1;have HZ := hide (do_bad hv ⟨0, a, b⟩);clear hv;refine k1.mono ?_;rintro e w1 ⟨rfl, hb⟩;have R_1 := R_0.below hb R_0.lt;have B_1 := hide (Below.step B_0 hb nl);clear hb k1;obtain ⟨cR0, cR1, cR2, cR3, cR4, cR5, cR6, cR7, cR8, cR9, cR10, cR11⟩ := row12_c R_1;obtain ⟨fR0, fR1, fR2, fR3, fR4, fR5, fR6, fR7, fR8, fR9, fR10, fR11⟩ := row12_f R_1;go_wp2_with fail
  refine bodyPost_ret (by simp [results, Tryz.results44, go_sem, cR0, cR1, cR2, cR3, cR4, cR5, cR6, cR7, cR8, cR9, cR10, cR11]; try rfl) rfl ?_;rw [HZ.out];exact ⟨_, _, _, _, rfl, zero_got B_1.out nl (by omega) _ _ _ _ _ _ _ _ _ _ _ _⟩
 | true =>
  rw [hv] at k1;obtain ⟨n1, n2, n3, n4⟩ := few_of hv;have HV := hide hv;have hD := do_good hv 0 a b;rw [step_0] at hD;clear hv;refine k1.mono ?_;rintro e w1 ⟨rfl, hb⟩;have A_1 := A_0.below hb A_0.lt;have D_1 := D_0.below hb D_0.lt;have R_1 := R_0.below hb R_0.lt;have V_1 := hide (V_0.out.below hb);have B_1 := hide (Below.step B_0 hb nl);have hz1 := hb.size;clear hb k1;obtain ⟨cA0, cA1, cA2, cA3, cA4, cA5, cA6, cA7, cA8, cA9, cA10, cA11⟩ := row12_c A_1;go_wp2_with fail
  clear cA0 cA1 cA2 cA3 cA4 cA5 cA6 cA7 cA8 cA9 cA10 cA11;have k2 := copyMill_any _ _ _ _ m w1 V_1.out.all n1 n2 n3 n4;unfold millV at k2;refine k2.mono ?_;clear k2;rintro e w2 ⟨s2, p2, l2, h2, rfl, G, hb⟩;have A_2 := A_1.below hb A_1.lt;have D_2 := D_1.below hb D_1.lt;have R_2 := R_1.below hb R_1.lt;have V_2 := hide (V_1.out.below hb);have B_2 := hide (Below.step B_1.out hb nl);have hz2 := hb.size;have hL2 := R_2.lt;have hLD := D_2.lt;have hLA := A_2.lt;clear hb;have G_2 := hide G;obtain ⟨aS, cs, rfl, -, -⟩ := G.so.form;obtain ⟨ap, cp, rfl, -, -⟩ := G.po.form;obtain ⟨al, cl, rfl, -, -⟩ := G.lo.form;obtain ⟨ah, ch, rfl, -, -⟩ := G.ho.form;clear G;unfold millV;have cD0 := D_2.c 0 rfl;have cD1 := D_2.c 1 rfl;have cD2 := D_2.c 2 rfl;go_wp2_with fail
  refine calls_at fun wy hwy => ?_;have C_y : RowL wy w2.heap.size 31 (millC (.slice aS m.store.length cs) (.slice ap m.pieces.length cp) (.slice al m.low.length cl) (.slice ah m.high.length ch) m) := by
   rw [hwy];first
    | exact (RowL.new w2 31 (millC (.slice aS m.store.length cs) (.slice ap m.pieces.length cp) (.slice al m.low.length cl) (.slice ah m.high.length ch) m))
    | exact (row12 (RowL.new w2 31 [.slice none 0 0, .int .i64 0, .int .i64 0, .int .i64 0, .int .i64 0, .int .i64 0, .int .i64 0, .int .i64 0, .slice none 0 0, .slice none 0 0, .slice none 0 0, .int .i64 0]) rfl _ _ _ _ _ _ _ _ _ _ _ _)
  have hby : Below w2.heap.size w2 wy := by
   rw [hwy];first
    | exact ((Below.refl _ _).alloc nl _)
    | exact (((Below.refl _ _).alloc nl _).trans ((other12 w2.heap.size _ _ _ _ _ _ _ _ _ _ _ _ _).below nl (by simp)))
  have A_y := A_2.below hby A_2.lt;have R_y := R_2.below hby R_2.lt;have V_y := hide (V_2.out.below hby);have B_y := hide (Below.step B_2.out hby nl);have G_y := hide (G_2.out.below hby);have hzy := hby.size;clear hwy hby;have MB : MillBox w1.heap.size w2.heap.size wy _ _ _ _ m := ⟨C_y, G_y.out, ⟨fun e => Nat.lt_irrefl _ (G_2.out.so.lt _ e).2, fun e => Nat.lt_irrefl _ (G_2.out.po.lt _ e).2, fun e => Nat.lt_irrefl _ (G_2.out.lo.lt _ e).2, fun e => Nat.lt_irrefl _ (G_2.out.ho.lt _ e).2⟩, hz2⟩;have k3 := melt_impl a MB;obtain ⟨o, ho⟩ : ∃ o, meltD m a = o := ⟨_, rfl⟩;rw [ho] at k3 hD;have HD := hide hD;clear hD ho MB cD0 cD1 cD2;refine k3.mono ?_;clear k3;rintro e w4 ⟨rfl, hb, hx⟩;have A_4 := A_y.below hb (by omega);have R_4 := R_y.below hb (by omega);have V_4 := hide (V_y.out.low_keep hb (by omega));have B_4 := hide (B_y.out.trans (hb.mono (by omega)));have hz4 := hb.size;clear hb;rcases o with _ | x;rotate_left
  ·obtain ⟨s4, p4, l4, h4, C_4, G⟩ := hx x rfl
   have HZ := hide (show doR m ⟨0, a, b⟩ = (x, true) from HD.out);have G_4 := hide G;obtain ⟨aS4, cs4, rfl, -, -⟩ := G.so.form;obtain ⟨ap4, cp4, rfl, -, -⟩ := G.po.form;obtain ⟨al4, cl4, rfl, -, -⟩ := G.lo.form;obtain ⟨ah4, ch4, rfl, -, -⟩ := G.ho.form;clear G hx;unfold millC at C_4;obtain ⟨cC0, cC1, cC2, cC3, cC4, cC5, cC6, cC7, cC8, cC9, cC10, cC11⟩ := row12_c C_4;obtain ⟨cR0, cR1, cR2, cR3, cR4, cR5, cR6, cR7, cR8, cR9, cR10, cR11⟩ := row12_c R_4;obtain ⟨fR0, fR1, fR2, fR3, fR4, fR5, fR6, fR7, fR8, fR9, fR10, fR11⟩ := row12_f R_4;go_wp2_with fail
   refine bodyPost_ret (by simp [results, Tryz.results44, go_sem, cR0, cR1, cR2, cR3, cR4, cR5, cR6, cR7, cR8, cR9, cR10, cR11]; try rfl) rfl ?_;rw [HZ.out];exact ⟨_, _, _, _, rfl, put_got G_4.out B_4.out (by omega) (by omega) nl _ _ _ _ _ _ _ _ _ _ _ _⟩
  ·clear hx
   have HZ := hide (show doR m ⟨0, a, b⟩ = (m, false) from HD.out);obtain ⟨cA0, cA1, cA2, cA3, cA4, cA5, cA6, cA7, cA8, cA9, cA10, cA11⟩ := row12_c A_4;go_wp2_with fail
   clear cA0 cA1 cA2 cA3 cA4 cA5 cA6 cA7 cA8 cA9 cA10 cA11;have k5 := copyMill_any _ _ _ _ m w4 V_4.out.all n1 n2 n3 n4;unfold millV at k5;refine k5.mono ?_;clear k5;rintro e w5 ⟨s5, p5, l5, h5, rfl, G, hb⟩;have R_5 := R_4.below hb R_4.lt;have B_5 := hide (Below.step B_4.out hb nl);clear hb;have G_5 := hide G;obtain ⟨aS5, cs5, rfl, -, -⟩ := G.so.form;obtain ⟨ap5, cp5, rfl, -, -⟩ := G.po.form;obtain ⟨al5, cl5, rfl, -, -⟩ := G.lo.form;obtain ⟨ah5, ch5, rfl, -, -⟩ := G.ho.form;clear G;unfold millV;obtain ⟨cR0, cR1, cR2, cR3, cR4, cR5, cR6, cR7, cR8, cR9, cR10, cR11⟩ := row12_c R_5;obtain ⟨fR0, fR1, fR2, fR3, fR4, fR5, fR6, fR7, fR8, fR9, fR10, fR11⟩ := row12_f R_5;go_wp2_with fail
   refine bodyPost_ret (by simp [results, Tryz.results44, go_sem, cR0, cR1, cR2, cR3, cR4, cR5, cR6, cR7, cR8, cR9, cR10, cR11]; try rfl) rfl ?_;rw [HZ.out];exact ⟨_, _, _, _, rfl, put_got G_5.out B_5.out (by omega) (by omega) nl _ _ _ _ _ _ _ _ _ _ _ _⟩
theorem do_ix (s p l h : Value) (m : Mi) (k a b : Int) (w : World) (H : MillIn 0 w.heap.size w s p l h m) (ha : a ≤ 9223372036854775807) (hb : b ≤ 9223372036854775807) (e0 : (k == 0) = false) (e1 : (k == 1) = false) (e2 : (k == 2) = false) (e3 : (k == 3) = false) (e4 : (k == 4) = false) :
 Calls Tryz.prog 44 #[millV s p l h m, .agg #[.int .i64 k, .int .i64 a, .int .i64 b]] w (DoGot w.heap.size (doR m ⟨k, a, b⟩) w) := by
 obtain ⟨ao1, cap1, rfl, -, -, -, -⟩ := id H.store;obtain ⟨ao2, cap2, rfl, -, -, -, -⟩ := id H.pieces;obtain ⟨ao3, cap3, rfl, -, -, -, -⟩ := id H.low;obtain ⟨ao4, cap4, rfl, -, -, -, -⟩ := id H.high;have HM := hide H;have HA := hide (And.intro ha hb);clear H ha hb;unfold millV;go_enter Tryz.func44, Tryz.ntmps44;go_wp2_with fail
 refine calls_at fun wx hwx => ?_;have A_0 : RowL wx (w.heap.size) 31 [.slice ao1 m.store.length cap1, .int .i64 m.rule.lc, .int .i64 m.rule.hc, .int .i64 m.rule.lm, .int .i64 m.rule.hm, .int .i64 m.rule.ls, .int .i64 m.rule.hs, .int .i64 m.strand, .slice ao2 m.pieces.length cap2, .slice ao3 m.low.length cap3, .slice ao4 m.high.length cap4, .int .i64 m.scrap] := by rw [hwx]; exact (((RowL.new _ _ _).alloc _).alloc _)
 have D_0 : RowL wx (w.heap.size + 1) 48 [.int .i64 k, .int .i64 a, .int .i64 b] := by rw [hwx]; simpa using ((RowL.new (World.alloc _ _) 48 [.int .i64 k, .int .i64 a, .int .i64 b]).alloc _)
 have R_0 : RowL wx (w.heap.size + 1 + 1) 31 [.slice none 0 0, .int .i64 0, .int .i64 0, .int .i64 0, .int .i64 0, .int .i64 0, .int .i64 0, .int .i64 0, .slice none 0 0, .slice none 0 0, .slice none 0 0, .int .i64 0] := by rw [hwx]; simpa using (RowL.new (World.alloc (World.alloc _ _) _) 31 [.slice none 0 0, .int .i64 0, .int .i64 0, .int .i64 0, .int .i64 0, .int .i64 0, .int .i64 0, .int .i64 0, .slice none 0 0, .slice none 0 0, .slice none 0 0, .int .i64 0])
 have B_0 : Below w.heap.size w wx := by rw [hwx]; go_grown
 clear hwx;have hL0 := R_0.lt;have V_0 := hide (HM.out.below B_0);have k1 := mill_impl _ _ _ _ m wx V_0.out.all;unfold millV at k1;cases hv : millB m with
 | false =>
  rw [hv] at k1;have HZ := hide (do_bad hv ⟨k, a, b⟩);clear hv;refine k1.mono ?_;rintro e w1 ⟨rfl, hb⟩;have R_1 := R_0.below hb R_0.lt;have B_1 := hide (Below.step B_0 hb nl);clear hb k1;obtain ⟨cR0, cR1, cR2, cR3, cR4, cR5, cR6, cR7, cR8, cR9, cR10, cR11⟩ := row12_c R_1;obtain ⟨fR0, fR1, fR2, fR3, fR4, fR5, fR6, fR7, fR8, fR9, fR10, fR11⟩ := row12_f R_1;go_wp2_with fail
  refine bodyPost_ret (by simp [results, Tryz.results44, go_sem, cR0, cR1, cR2, cR3, cR4, cR5, cR6, cR7, cR8, cR9, cR10, cR11]; try rfl) rfl ?_;rw [HZ.out];exact ⟨_, _, _, _, rfl, zero_got B_1.out nl (by omega) _ _ _ _ _ _ _ _ _ _ _ _⟩
 | true =>
  rw [hv] at k1;obtain ⟨n1, n2, n3, n4⟩ := few_of hv;have HV := hide hv;have hD := do_good hv k a b;rw [step_x e0 e1 e2 e3 e4] at hD;have HZ := hide (show doR m ⟨k, a, b⟩ = (m, false) from hD);clear hD;clear hv;refine k1.mono ?_;rintro e w1 ⟨rfl, hb⟩;have A_1 := A_0.below hb A_0.lt;have D_1 := D_0.below hb D_0.lt;have R_1 := R_0.below hb R_0.lt;have V_1 := hide (V_0.out.below hb);have B_1 := hide (Below.step B_0 hb nl);have hz1 := hb.size;clear hb k1;obtain ⟨cA0, cA1, cA2, cA3, cA4, cA5, cA6, cA7, cA8, cA9, cA10, cA11⟩ := row12_c A_1;go_wp2_with fail
  clear cA0 cA1 cA2 cA3 cA4 cA5 cA6 cA7 cA8 cA9 cA10 cA11;have k2 := copyMill_any _ _ _ _ m w1 V_1.out.all n1 n2 n3 n4;unfold millV at k2;refine k2.mono ?_;clear k2;rintro e w2 ⟨s2, p2, l2, h2, rfl, G, hb⟩;have A_2 := A_1.below hb A_1.lt;have D_2 := D_1.below hb D_1.lt;have R_2 := R_1.below hb R_1.lt;have V_2 := hide (V_1.out.below hb);have B_2 := hide (Below.step B_1.out hb nl);have hz2 := hb.size;have hL2 := R_2.lt;have hLD := D_2.lt;have hLA := A_2.lt;clear hb;have G_2 := hide G;obtain ⟨aS, cs, rfl, -, -⟩ := G.so.form;obtain ⟨ap, cp, rfl, -, -⟩ := G.po.form;obtain ⟨al, cl, rfl, -, -⟩ := G.lo.form;obtain ⟨ah, ch, rfl, -, -⟩ := G.ho.form;clear G;unfold millV;have cD0 := D_2.c 0 rfl;have cD1 := D_2.c 1 rfl;have cD2 := D_2.c 2 rfl;obtain ⟨cA0, cA1, cA2, cA3, cA4, cA5, cA6, cA7, cA8, cA9, cA10, cA11⟩ := row12_c A_2;go_wp2_with fail
  refine calls_at fun wy hwy => ?_;have hby : Below w2.heap.size w2 wy := by
   rw [hwy];first
    | exact (Below.refl _ _).alloc nl _
    | exact ((Below.refl _ _).alloc nl _).trans ((other12 w2.heap.size _ _ _ _ _ _ _ _ _ _ _ _ _).below nl (by simp))
  have A_4 := A_2.below hby A_2.lt;have R_4 := R_2.below hby R_2.lt;have V_4 := hide (V_2.out.below hby);have B_4 := hide (Below.step B_2.out hby nl);have hz4 := hby.size;clear hwy hby cD0 cD1 cD2 cA0 cA1 cA2 cA3 cA4 cA5 cA6 cA7 cA8 cA9 cA10 cA11;have k5 := copyMill_any _ _ _ _ m wy V_4.out.all n1 n2 n3 n4;unfold millV at k5;refine k5.mono ?_;clear k5;rintro e w5 ⟨s5, p5, l5, h5, rfl, G, hb⟩;have R_5 := R_4.below hb R_4.lt;have B_5 := hide (Below.step B_4.out hb nl);clear hb;have G_5 := hide G;obtain ⟨aS5, cs5, rfl, -, -⟩ := G.so.form;obtain ⟨ap5, cp5, rfl, -, -⟩ := G.po.form;obtain ⟨al5, cl5, rfl, -, -⟩ := G.lo.form;obtain ⟨ah5, ch5, rfl, -, -⟩ := G.ho.form;clear G;unfold millV;obtain ⟨cR0, cR1, cR2, cR3, cR4, cR5, cR6, cR7, cR8, cR9, cR10, cR11⟩ := row12_c R_5;obtain ⟨fR0, fR1, fR2, fR3, fR4, fR5, fR6, fR7, fR8, fR9, fR10, fR11⟩ := row12_f R_5;go_wp2_with fail
  refine bodyPost_ret (by simp [results, Tryz.results44, go_sem, cR0, cR1, cR2, cR3, cR4, cR5, cR6, cR7, cR8, cR9, cR10, cR11]; try rfl) rfl ?_;rw [HZ.out];exact ⟨_, _, _, _, rfl, put_got G_5.out B_5.out (by omega) (by omega) nl _ _ _ _ _ _ _ _ _ _ _ _⟩
end Go.Proofs.YtmemgbklgcjobaaGreatDoor
