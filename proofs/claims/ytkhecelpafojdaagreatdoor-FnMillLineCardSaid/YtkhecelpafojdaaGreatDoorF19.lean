/-
  Parts of the proofs over mills, of: BestMS, Meth. Conditions: each theorem states its own.
-/
import Derived.Test.YtkhecelpafojdaaGreatDoorF17
import Derived.Test.YtkhecelpafojdaaGreatDoorF18
set_option linter.unusedSimpArgs false
set_option linter.unusedVariables false
set_option maxRecDepth 10000
set_option maxHeartbeats 64000000
namespace Go.Proofs.YtkhecelpafojdaaGreatDoor
open Go.RowKit
theorem allM_bd : ∀ (ss : List Int), (∀ s ∈ ss, s ≤ 9) → ∀ t, ∀ mix ∈ allM ss t, ∀ x ∈ mix, 0 ≤ x ∧ x ≤ 60
 | [], _, t, mix, hm, x, hx => by
  unfold allM at hm;split at hm
  ·obtain rfl := List.mem_singleton.1 hm
   cases hx
  ·cases hm
 | s :: ss, h, t, mix, hm, x, hx => by
  have hs := h s (by simp);rw [allM_cons, part, List.mem_flatMap] at hm;obtain ⟨n, hn, hm⟩ := hm;rw [mem_ups] at hn;obtain ⟨r, hr, rfl⟩ := List.mem_map.1 hm;rcases List.mem_cons.1 hx with rfl | hx
  ·omega
  ·exact allM_bd ss (fun s hs => h s (by simp [hs])) _ r hr x hx
def SBest (base : Nat) (W : World) (sts : List St) (b : Option (List Int × Int)) (bv fv : Value) : Prop :=
 match b with
 | none => fv = .bool false ∧ ∃ g, bv = .slice (some ⟨g, 0, none⟩) 0 0
 | some (x, y) => fv = .bool true ∧ fH sts x = y ∧ au base W.heap.size W bv x
theorem SBest.below {base : Nat} {W W' : World} {sts : List St} {b : Option (List Int × Int)} {bv fv : Value} (h : SBest base W sts b bv fv) (k : Below W.heap.size W W') : SBest base W' sts b bv fv := by
 rcases b with _ | ⟨x, y⟩
 ·exact h
 ·exact ⟨h.1, h.2.1, (h.2.2.below k).mono nl k.size nl⟩
theorem lists_at {lo base : Nat} {w : World} {v : Value} {us : List Value} {xss : List (List Int)} (ho : w.ownsRow base 27 1 v us.length us) (h : Lists lo w v us xss) {k : Nat} (hk : k < xss.length) :
 ∃ g cap ao c, v = .slice (some ⟨g, 0, none⟩) us.length cap ∧ base ≤ g ∧ g < w.heap.size ∧ w.cell? ⟨g, k, none⟩ = some (.slice ao (xss.getD k []).length c) ∧ au lo w.heap.size w (.slice ao (xss.getD k []).length c) (xss.getD k []) := by
 obtain ⟨u, a, z, h1, h2, h3, -⟩ := h.2 k hk;have hl := h.1;rcases id ho.2 with ⟨-, h0⟩ | ⟨g, cap, cur, rfl, hb, hc, -, -, -, ht⟩
 ·omega
 ·have hg : xss.getD k [] = xss[k] := by simp [hk]
  rw [hg];have h3' := h3;obtain ⟨ao, c, rfl⟩ := iF h3;refine ⟨g, cap, ao, c, rfl, hb, (Array.getElem?_eq_some_iff.1 hc).1, ?_, h3'.mono h2 h3'.lt nl⟩;rw [Go.Joins.cell_of_block hc];have hj : k < us.length * 1 := by omega
  rw [← ht, List.getElem?_take_of_lt hj] at h1;simpa using h1
structure Kept (S : World → Prop) where
 wd : World
 ok : S wd
theorem gG {P : Program} {id : Nat} {Q : Exit → Act → World → Prop} {a : Act} {w : World} {l : List Oper} {C : World → Prop} (hm : P.follows .mixedOrders = true) (hB : Region.lexB .any l.toArray = true) (hC : C { w with drawn := w.drawn + 1 })
 (h : wpQuiet P l.toArray C (fun a' => ∀ w', C w' → Q .normal a' w') l a) : (Code.region id l.toArray true).wp P Q a w :=
 wp_region_quiet hm hB hC (by simpa using h)
def RegS (w : World) (g k A : Nat) (u v0 v1 v2 v3 v4 v5 : Value) (W : World) : Prop :=
 (W.cell? ⟨g, k, none⟩ = some u ∧ (W.cell? ⟨A, 0, none⟩ = some v0 ∧ W.cell? ⟨A, 1, none⟩ = some v1 ∧ W.cell? ⟨A, 2, none⟩ = some v2 ∧ W.cell? ⟨A, 3, none⟩ = some v3 ∧ W.cell? ⟨A, 4, none⟩ = some v4 ∧ W.cell? ⟨A, 5, none⟩ = some v5)) ∧ Below w.heap.size w W
theorem RegS.call {w W W' : World} {g k A : Nat} {u v0 v1 v2 v3 v4 v5 : Value} (H : RegS w g k A u v0 v1 v2 v3 v4 v5 W) (h1 : g < w.heap.size) (h2 : A < w.heap.size) (q : Below W.heap.size W W') : RegS w g k A u v0 v1 v2 v3 v4 v5 W' := by
 obtain ⟨⟨c, d0, d1, d2, d3, d4, d5⟩, b⟩ := H;have l1 := Nat.lt_of_lt_of_le h1 b.size;have l2 := Nat.lt_of_lt_of_le h2 b.size;exact ⟨⟨(q.cell (p := ⟨g, k, none⟩) l1).trans c, (q.cell (p := ⟨A, 0, none⟩) l2).trans d0, (q.cell (p := ⟨A, 1, none⟩) l2).trans d1, (q.cell (p := ⟨A, 2, none⟩) l2).trans d2, (q.cell (p := ⟨A, 3, none⟩) l2).trans d3, (q.cell (p := ⟨A, 4, none⟩) l2).trans d4, (q.cell (p := ⟨A, 5, none⟩) l2).trans d5⟩, Below.step b q nl⟩
theorem kept_call {w : World} {g k A : Nat} {u v0 v1 v2 v3 v4 v5 : Value} {P : Program} {f : FuncId} {args : Array Value} {r : Value} (h1 : g < w.heap.size) (h2 : A < w.heap.size)
 (H : ∀ W, Below w.heap.size w W → Calls P f args W fun e w' => e = .returned r ∧ Below W.heap.size W w') (n : Kept (RegS w g k A u v0 v1 v2 v3 v4 v5)) :
 Calls P f args n.wd fun e w' => e = .returned r ∧ ∃ m : Kept (RegS w g k A u v0 v1 v2 v3 v4 v5), w' = m.wd :=
 (H n.wd n.ok.2).mono fun _ w' ⟨he, hb⟩ => ⟨he, ⟨w', n.ok.call h1 h2 hb⟩, rfl⟩
theorem fold_take {sts : List St} {g : Gr} {xss : List (List Int)} {k : Nat} (h : k < xss.length) : fD sts g none (xss.take (k + 1)) = gu sts g (fD sts g none (xss.take k)) (xss.getD k []) := by
 rw [List.take_succ_eq_append_getElem h, foldM_snoc];simp [h]
theorem best_spec (sv : Value) (sts : List St) (g : Gr) (tons : Int) (w : World) (Hs : bW 0 w.heap.size w sv sts) :
 Calls Tryz.prog 122 #[sv, grV g, .int .i64 tons] w (BestGot w.heap.size (dM sts g tons) w) := by
 have HS := hide Hs;have HVV := hide (fun W lo hi H => stsv_spec sv sts lo hi W H);have HTT := hide (fun W => aY tons 1 12 W);have hg := fun W => grv_spec g W;have hmt := fun mv mix W H1 H2 H3 H4 => meets_spec sv mv sts mix g W H1 H2 H3 H4;have HCO := hide (fun mv mix W H1 H2 => cost_spec sv mv sts mix W H1 H2);obtain ⟨aos, cps, rfl, -, -, -, -⟩ := Hs;unfold grV at hg hmt ⊢;have HG := hide hg;have HMT := hide hmt;clear hg hmt;go_enter Tryz.func122, Tryz.ntmps122;go_wp2_with fail
 refine aj fun wx hwx => ?_;have A_0 : ae wx (w.heap.size) 25 [.int .i64 g.lc, .int .i64 g.hc, .int .i64 g.lm, .int .i64 g.hm, .int .i64 g.ls, .int .i64 g.hs] := by rw [hwx]; exact (ae.new _ _ _).alloc _
 have B_0 : Below w.heap.size w wx := by rw [hwx]; go_grown
 clear hwx;have VS_0 := hide (HS.out.below B_0);have k1 := HVV.out wx _ _ VS_0.out;cases c1 : dY sts with
 | false =>
  have HZ := hide (best_no1 (g := g) (t := tons) c1);rw [c1] at k1;clear c1;refine (k1).mono ?_;rintro e w1 ⟨rfl, hb⟩;have B_1 := bs B_0 hb;clear hb k1;go_wp2_with fail
  go_ret2
  exact ⟨_, _, _, by rw [HZ.out]; rfl, by rw [HZ.out]; (intro mix h; cases h), B_1.out⟩
 | true =>
 have C1 := hide c1;have hl4 := dG c1;rw [c1] at k1;clear c1;refine (k1).mono ?_;rintro e w1 ⟨rfl, hb⟩;have A_1 := A_0.below hb A_0.lt;have VS_1 := hide (VS_0.out.below hb);have B_1 := bs B_0 hb;clear hb k1;have cA0 := A_1.c 0 rfl;have cA1 := A_1.c 1 rfl;have cA2 := A_1.c 2 rfl;have cA3 := A_1.c 3 rfl;have cA4 := A_1.c 4 rfl;have cA5 := A_1.c 5 rfl;go_wp2_with fail
 have k2 := HG.out w1;cases c2 : grB g with
 | false =>
  have HZ := hide (best_no2 (sts := sts) (t := tons) c2);rw [c2] at k2;clear c2;refine (k2).mono ?_;rintro e w2 ⟨rfl, hb⟩;have B_2 := bs B_1.out hb;clear hb k2 cA0 cA1 cA2 cA3 cA4 cA5;go_wp2_with fail
  go_ret2
  exact ⟨_, _, _, by rw [HZ.out]; rfl, by rw [HZ.out]; (intro mix h; cases h), B_2.out⟩
 | true =>
 have C2 := hide c2;rw [c2] at k2;clear c2;refine (k2).mono ?_;rintro e w2 ⟨rfl, hb⟩;have A_2 := A_1.below hb A_1.lt;have VS_2 := hide (VS_1.out.below hb);have B_2 := bs B_1.out hb;clear hb k2 cA0 cA1 cA2 cA3 cA4 cA5;have k3 := HTT.out w2;go_wp2_with fail
 cases c3 : wi tons 1 12 with
 | false =>
  have HZ := hide (best_no3 (sts := sts) (g := g) c3);rw [c3] at k3;clear c3;refine (k3).mono ?_;rintro e w3 ⟨rfl, rfl⟩;clear k3;go_wp2_with fail
  go_ret2
  exact ⟨_, _, _, by rw [HZ.out]; rfl, by rw [HZ.out]; (intro mix h; cases h), B_2.out⟩
 | true =>
 have C3 := hide c3;rw [c3] at k3;clear c3;refine (k3).mono ?_;rintro e w3 ⟨rfl, rfl⟩;clear k3;have HE := hide (best_yes C1.out C2.out C3.out);obtain ⟨ht1, ht2⟩ := aN.1 C3.out;go_wp2_with fail
 refine aj fun wy hwy => ?_;have hby : Below w2.heap.size w2 wy := by rw [hwy]; exact (Below.refl _ _).alloc nl _
 have A_y := A_2.below hby A_2.lt;have VS_y := hide (VS_2.out.below hby);have B_y := bs B_2.out hby;have hz2 := B_2.out.size;have hzy := hby.size;clear hwy hby;refine (all_any _ C1.out sts.length 0 (by omega) wy w.heap.size _ [] tons (by omega) (VS_y.out.mono nl (by omega) nl) (au.none _ _ _ _ _ (by omega) nl) rfl (by omega) ht2).mono ?_;rintro e w4 ⟨v, us, rfl, hown, hls, hb⟩;have A_4 := A_y.below hb A_y.lt;have VS_4 := hide (VS_y.out.below hb);have B_4 := bs B_y.out hb;have hz4 := hb.size;have HBD := hide (show ∀ mix ∈ dH [] (allM (bN sts 0) tons), (mix.length ≤ 4 ∧ ∀ x ∈ mix, 0 ≤ x ∧ x ≤ 60) from fun mix hm => by
  rw [withP_none] at hm;have h1 := (allM_mem _ _ _ hm).1;have h2 : (bN sts 0).length = sts.length := by simp [bN]
  refine ⟨by omega, allM_bd _ (fun s hs => ?_) _ _ hm⟩;rw [stocks_zero] at hs;obtain ⟨x, hx, rfl⟩ := List.mem_map.1 hs;obtain ⟨i, hi, rfl⟩ := List.getElem_of_mem hx;exact (stB_k (stsB_at C1.out hi)).2)
 have hxl := all_len C1.out [] 0 tons;obtain ⟨xss, hxs⟩ : ∃ xss, dH [] (allM (bN sts 0) tons) = xss := ⟨_, rfl⟩;rw [hxs] at hls hxl HE HBD;have hlen := hls.1;have HO := hide hown;have HLs := hide hls;obtain ⟨aov, cpv, rfl, -, -⟩ := aB hown;clear hxs hown hls hb;go_wp2_with fail
 go_loopw [8, 9, 11] (fun bv fv i wr => ∃ kk : Nat, kk ≤ xss.length ∧ i = .int .i64 (kk : Int) ∧ Below w4.heap.size w4 wr ∧ SBest w.heap.size wr sts (fD sts g none (xss.take kk)) bv fv) (fun _ _ i _ => xss.length - (intOf i).toNat)
 case atStart => exact ⟨0, Nat.zero_le _, rfl, Below.refl _ _, ⟨rfl, _, rfl⟩⟩
 case round =>
  obtain ⟨kk, hkk, rfl, hb, hsb⟩ := hrel;have B_r := hide (B_4.out.trans (hb.mono (by have := B_4.out.size; omega)));have hBs := B_r.out.size;by_cases hlt : kk < xss.length
  ·have A_r := A_4.below hb A_4.lt
   have VS_r := hide ((VS_4.out.below hb).mono nl hBs nl);obtain ⟨gb, cap, ao, c, e1, -, hgl, hcell, hmix⟩ := lists_at (ownsRow_below HO.out hb nl) (HLs.out.below hb) hlt;obtain ⟨hm4, hm60⟩ := HBD.out (xss.getD kk []) (by rw [List.getD_eq_getElem?_getD, List.getElem?_eq_getElem hlt]; exact List.getElem_mem _);have HF := hide (fold_take (sts := sts) (g := g) hlt);obtain ⟨mix, hmx⟩ : ∃ mix, xss.getD kk [] = mix := ⟨_, rfl⟩;rw [hmx] at hcell hmix hm4 hm60 HF;cases e1;obtain ⟨b, hbb⟩ : ∃ b, fD sts g none (xss.take kk) = b := ⟨_, rfl⟩;rw [hbb] at hsb HF;have HMI := hide (hmix.mono (Nat.zero_le _) nl nl);have HMX := hide hmix;have hAl := A_r.lt;have hI : RegS wr gb kk w.heap.size (.slice ao mix.length c) (.int .i64 g.lc) (.int .i64 g.hc) (.int .i64 g.lm) (.int .i64 g.hm) (.int .i64 g.ls) (.int .i64 g.hs) wr.drew := ⟨⟨hcell, A_r.cell 0 (by simp), A_r.cell 1 (by simp), A_r.cell 2 (by simp), A_r.cell 3 (by simp), A_r.cell 4 (by simp), A_r.cell 5 (by simp)⟩, (Below.refl _ _).drew⟩;obtain ⟨RR, hRR⟩ : ∃ RR, RegS wr gb kk w.heap.size (.slice ao mix.length c) (.int .i64 g.lc) (.int .i64 g.hc) (.int .i64 g.lm) (.int .i64 g.hm) (.int .i64 g.ls) (.int .i64 g.hs) = RR := ⟨_, rfl⟩;have hKC := fun {P : Program} {f : FuncId} {args : Array Value} {r : Value} H n => kept_call (u := .slice ao mix.length c) (v0 := .int .i64 g.lc) (v1 := .int .i64 g.hc) (v2 := .int .i64 g.lm) (v3 := .int .i64 g.hm) (v4 := .int .i64 g.ls) (v5 := .int .i64 g.hs) (k := kk) (P := P) (f := f) (args := args) (r := r) hgl hAl H n;have hK0 : ∀ n : Kept RR, RegS wr gb kk w.heap.size (.slice ao mix.length c) (.int .i64 g.lc) (.int .i64 g.hc) (.int .i64 g.lm) (.int .i64 g.hm) (.int .i64 g.ls) (.int .i64 g.hs) n.wd := by rw [← hRR]; exact fun n => n.ok
   have f0 : ∀ n : Kept RR, n.wd.cell? ⟨gb, kk, none⟩ = some (.slice ao mix.length c) := fun n => (hK0 n).1.1;have f1 : ∀ n : Kept RR, n.wd.cell? ⟨w.heap.size, 0, none⟩ = some (.int .i64 g.lc) := fun n => (hK0 n).1.2.1;have f2 : ∀ n : Kept RR, n.wd.cell? ⟨w.heap.size, 1, none⟩ = some (.int .i64 g.hc) := fun n => (hK0 n).1.2.2.1;have f3 : ∀ n : Kept RR, n.wd.cell? ⟨w.heap.size, 2, none⟩ = some (.int .i64 g.lm) := fun n => (hK0 n).1.2.2.2.1;have f4 : ∀ n : Kept RR, n.wd.cell? ⟨w.heap.size, 3, none⟩ = some (.int .i64 g.hm) := fun n => (hK0 n).1.2.2.2.2.1;have f5 : ∀ n : Kept RR, n.wd.cell? ⟨w.heap.size, 4, none⟩ = some (.int .i64 g.ls) := fun n => (hK0 n).1.2.2.2.2.2.1;have f6 : ∀ n : Kept RR, n.wd.cell? ⟨w.heap.size, 5, none⟩ = some (.int .i64 g.hs) := fun n => (hK0 n).1.2.2.2.2.2.2;have fB : ∀ n : Kept RR, Below wr.heap.size wr n.wd := fun n => (hK0 n).2;clear hK0;rw [hRR] at hI hKC;have hN0 : Nonempty (Kept RR) := ⟨⟨_, hI⟩⟩;have FB := hide fB;have HKC := hide (fun (f : FuncId) (args : Array Value) (r : Value) => @hKC Tryz.prog f args r);clear hRR fB hKC;have hme := fun (W : World) (q : Below wr.heap.size wr W) => HMT.out (.slice ao mix.length c) mix W ((VS_r.out.below q).mono nl q.size nl) ((HMI.out.below q).mono nl q.size nl) hm4 (fun k hk => by rw [List.getD_eq_getElem?_getD, List.getElem?_eq_getElem hk]; exact hm60 _ (List.getElem_mem _));have hgeI : (kk : Int) < (us.length : Int) := by omega
   have hk0 : (0 : Int) ≤ (kk : Int) := by omega
   have hw1 : IntKind.i64.wrap ((kk : Int) + 1) = ((kk + 1 : Nat) : Int) := by rw [show (kk : Int) + 1 = ((kk + 1 : Nat) : Int) by omega]; exact IntWalk.i64_in _ (by omega)
   clear hmx hbb hmix hm60;cases hmt : dP sts mix g with
   | false =>
    rw [hmt] at hme;have HME := hide (HKC.out _ _ _ hme);have HN := hide (show gu sts g b mix = b by simp [gu, hmt]);have HSB := hide hsb;clear hmt hme hsb;go_wp2_with fail
    refine gG (C := fun w' => ∃ n : Kept RR, w' = n.wd) (by kernel_rfl) (by kernel_rfl) ⟨⟨_, hI⟩, rfl⟩ ?_
    repeat (go_big_quiet_step (first
     | (go_at_call 148; with_reducible exact HME.out _)))
    refine wpQuiet_nil ?_;intro _ hw';obtain ⟨nq, rfl⟩ := hw';have hbw := FB.out nq;have hgw := Nat.lt_of_lt_of_le hgl hbw.size;go_wp2_with fail
    go_roundw
    case rel => exact ⟨kk + 1, by omega, by go_num, hb.trans (hbw.mono hb.size), by rw [HF.out, HN.out]; exact HSB.out.below hbw⟩
    case measure => simp [intOf]; omega
   | true =>
    rw [hmt] at hme;have HME := hide (HKC.out _ _ _ hme);have HMM := hide hmt;clear hmt hme;rcases b with _ | ⟨x, y⟩
    ·obtain ⟨rfl, gz, rfl⟩ := hsb
     have HN := hide (show gu sts g none mix = some (mix, fH sts mix) by simp [gu, HMM.out]);go_wp2_with fail
     refine gG (C := fun w' => ∃ n : Kept RR, w' = n.wd) (by kernel_rfl) (by kernel_rfl) ⟨⟨_, hI⟩, rfl⟩ ?_
     repeat (go_big_quiet_step (first
      | (go_at_call 148; with_reducible exact HME.out _)))
     refine wpQuiet_nil ?_;intro _ hw';obtain ⟨nq, rfl⟩ := hw';have hbw := FB.out nq;have hgw := Nat.lt_of_lt_of_le hgl hbw.size;go_wp2_with fail
     go_roundw
     case rel => exact ⟨kk + 1, by omega, by go_num, hb.trans (hbw.mono hb.size), by rw [HF.out, HN.out]; exact ⟨rfl, rfl, (HMX.out.below hbw).mono nl hbw.size nl⟩⟩
     case measure => simp [intOf]; omega
    ·obtain ⟨rfl, hxy, hbx⟩ := hsb
     obtain ⟨aob, cpb, rfl⟩ := iF hbx;have HXY := hide hxy;have HBX := hide hbx;have hc1 := fun (W : World) (q : Below wr.heap.size wr W) => HCO.out (.slice ao mix.length c) mix W ((VS_r.out.below q).mono nl q.size nl) ((HMI.out.below q).mono nl q.size nl);have hc2 := fun (W : World) (q : Below wr.heap.size wr W) => HCO.out (.slice aob x.length cpb) x W ((VS_r.out.below q).mono nl q.size nl) ((HBX.out.below q).mono (Nat.zero_le _) q.size nl);rw [hxy] at hc2;have HC2 := hide (HKC.out _ _ _ hc2);have hst : gu sts g (some (x, y)) mix = if fH sts mix < y then some (mix, fH sts mix) else some (x, y) := by simp [gu, HMM.out]
     obtain ⟨z, hz⟩ : ∃ z, fH sts mix = z := ⟨_, rfl⟩;rw [hz] at hst hc1;have HC1 := hide (HKC.out _ _ _ hc1);have HZ := hide hz;clear hz hxy hbx hc1 hc2;by_cases hzy : z < y
     ·have hzB : decide (z < y) = true := by simpa using hzy
      rw [if_pos hzy] at hst;have HN := hide hst;clear hst hzy;go_wp2_with fail
      refine gG (C := fun w' => ∃ n : Kept RR, w' = n.wd) (by kernel_rfl) (by kernel_rfl) ⟨⟨_, hI⟩, rfl⟩ ?_
      repeat (go_big_quiet_step (first
       | (go_at_call 148; with_reducible exact HME.out _)
       | (go_at_call 149; with_reducible exact HC1.out _)
       | (go_at_call 149; with_reducible exact HC2.out _)))
      refine wpQuiet_nil ?_;intro _ hw';obtain ⟨nq, rfl⟩ := hw';have hbw := FB.out nq;have hgw := Nat.lt_of_lt_of_le hgl hbw.size;go_wp2_with fail
      go_roundw
      case rel => exact ⟨kk + 1, by omega, by go_num, hb.trans (hbw.mono hb.size), by rw [HF.out, HN.out]; exact ⟨rfl, HZ.out, (HMX.out.below hbw).mono nl hbw.size nl⟩⟩
      case measure => simp [intOf]; omega
     ·have hzB : decide (z < y) = false := by simpa using hzy
      rw [if_neg hzy] at hst;have HN := hide hst;clear hst hzy;go_wp2_with fail
      refine gG (C := fun w' => ∃ n : Kept RR, w' = n.wd) (by kernel_rfl) (by kernel_rfl) ⟨⟨_, hI⟩, rfl⟩ ?_
      repeat (go_big_quiet_step (first
       | (go_at_call 148; with_reducible exact HME.out _)
       | (go_at_call 149; with_reducible exact HC1.out _)
       | (go_at_call 149; with_reducible exact HC2.out _)))
      refine wpQuiet_nil ?_;intro _ hw';obtain ⟨nq, rfl⟩ := hw';have hbw := FB.out nq;have hgw := Nat.lt_of_lt_of_le hgl hbw.size;go_wp2_with fail
      go_roundw
      case rel => exact ⟨kk + 1, by omega, by go_num, hb.trans (hbw.mono hb.size), by rw [HF.out, HN.out]; exact ⟨rfl, HXY.out, (HBX.out.below hbw).mono nl hbw.size nl⟩⟩
      case measure => simp [intOf]; omega
  ·obtain rfl : kk = xss.length := by omega
   rw [List.take_length] at hsb;have hgeI : ¬ (xss.length : Int) < (us.length : Int) := by omega
   generalize fD sts g none xss = b at hsb HE;rcases b with _ | ⟨x, y⟩
   ·obtain ⟨rfl, gz, rfl⟩ := hsb
    go_wp2_with fail
    go_ret2
    exact ⟨_, _, _, by rw [HE.out]; rfl, by rw [HE.out]; (intro mix h; cases h), B_r.out⟩
   ·obtain ⟨rfl, -, hbx⟩ := hsb
    obtain ⟨aob, cpb, rfl⟩ := iF hbx;have HBX := hide hbx;clear hbx;go_wp2_with fail
    go_ret2
    refine ⟨_, _, _, by rw [HE.out]; rfl, fun mix h => ?_, B_r.out⟩;rw [HE.out] at h;obtain rfl := Option.some.inj h;exact HBX.out
def az (s p l h : Value) (m : Mi) : List Value :=
 [s, .int .i64 m.rule.lc, .int .i64 m.rule.hc, .int .i64 m.rule.lm, .int .i64 m.rule.hm, .int .i64 m.rule.ls, .int .i64 m.rule.hs, .int .i64 m.strand, p, l, h, .int .i64 m.scrap]
def NotIn (B : Nat) (s p l h : Value) : Prop := s.ownBlock ≠ some B ∧ p.ownBlock ≠ some B ∧ l.ownBlock ≠ some B ∧ h.ownBlock ≠ some B
structure dm (base B : Nat) (w : World) (s p l h : Value) (m : Mi) : Prop where
 row : ae w B 31 (az s p l h m)
 got : ak base w s p l h m
 off : NotIn B s p l h
 hB : base ≤ B
theorem dm.below {base B : Nat} {w w' : World} {s p l h : Value} {m : Mi} (H : dm base B w s p l h m) (k : Below w.heap.size w w') : dm base B w' s p l h m :=
 ⟨H.row.below k H.row.lt, H.got.below k, H.off, H.hB⟩
def jy (base B : Nat) (o : Option Mi) (w : World) (e : Ending) (w' : World) : Prop :=
 e = .returned (.bool o.isSome) ∧ Below base w w' ∧ ∀ x, o = some x → ∃ s p l h, ae w' B 31 (az s p l h x) ∧ ak base w' s p l h x
theorem jy.no {base B : Nat} {w w' : World} (h : Below base w w') : jy base B none w (.returned (.bool false)) w' := ⟨rfl, h, fun _ e => by cases e⟩
theorem iq {B B' : Nat} {w' : World} {s p l h l' h' : Value} {xs ys : List Int} (o : NotIn B s p l h) (hB : B < B') (q : aL B' w' l' h' xs ys) : NotIn B s p l' h' :=
 ⟨o.1, o.2.1, fun e => by have := (q.lo.lt B e).1; omega, fun e => by have := (q.ho.lt B e).1; omega⟩
theorem notIn_store {B B' n : Nat} {w' : World} {s s' p l h : Value} {T sz : Nat} {cs : List Value} (o : NotIn B s p l h) (hB : B < B') (q : aK B' T sz w' s' n cs) : NotIn B s' p l h :=
 ⟨fun e => by have := (q.lt B e).1; omega, o.2⟩
theorem df {base B j T : Nat} {w : World} {s p l h : Value} {m : Mi} {vs : List Value} (r : ae w B T vs) (H : ak base w s p l h m) (o : NotIn B s p l h) (hb : base ≤ B) (hj : j < vs.length) (x : Value) :
 ae (w.setCell ⟨B, j, none⟩ x) B T (vs.set j x) ∧ ak base (w.setCell ⟨B, j, none⟩ x) s p l h m ∧ Below base w (w.setCell ⟨B, j, none⟩ x) := by
 have k : ai B (B + 1) w (w.setCell ⟨B, j, none⟩ x) := (ai.refl _ _ _).setCell (p := ⟨B, j, none⟩) nl ns _;have hd : ∀ {v : Value}, v.ownBlock ≠ some B → ∀ g, v.ownBlock = some g → g < B ∨ B + 1 ≤ g := fun hne g hg => by
  rcases Nat.lt_trichotomy g B with h1 | h1 | h1
  ·exact .inl h1
  ·exact absurd (h1 ▸ hg) hne
  ·exact .inr h1
 refine ⟨r.set j x hj, ⟨Nat.le_trans H.hb k.size, H.so.other k (hd o.1), H.po.other k (hd o.2.1), H.lo.other k (hd o.2.2.1), H.ho.other k (hd o.2.2.2), H.sp, H.sl, H.sh, H.pl, H.ph, H.lh⟩, k.below (B := base) hb H.hb⟩
theorem flatP_setS : ∀ (xs : List Pc) (k : Nat) (_ : k < xs.length) (st : Int), (bO xs).set (k * 2 + 1) (.int .i64 st) = bO (gp xs ((k : Int) + 1) st)
 | x :: xs, 0, _, st => rfl
 | x :: xs, k + 1, h, st => by
  have ih := flatP_setS xs k (by simpa using h) st;have e : bO (x :: xs) = pcL x ++ bO xs := rfl;have i1 : ((k : Int) + 1 - 1).toNat = k := by omega
  have i2 : (((k + 1 : Nat) : Int) + 1 - 1).toNat = k + 1 := by omega
  have e2 : bO (gp (x :: xs) (((k + 1 : Nat) : Int) + 1) st) = pcL x ++ bO (gp xs ((k : Int) + 1) st) := by
   unfold gp;rw [i1, i2];rfl
  rw [e, e2, ← ih, List.set_append_right _ _ (by simp [pcL]; omega)];have : (k + 1) * 2 + 1 - (pcL x).length = k * 2 + 1 := by simp [pcL]; omega
  rw [this]
theorem jI {base : Nat} {w : World} {s p l h : Value} {m : Mi} (H : ak base w s p l h m) {k : Nat} (hk : k < m.pieces.length) {g : Nat} (hg : p.ownBlock = some g) (st : Int) :
 ak base (w.setCell ⟨g, k * 2 + 1, none⟩ (.int .i64 st)) s p l h { m with pieces := gp m.pieces ((k : Int) + 1) st } ∧ Below base w (w.setCell ⟨g, k * 2 + 1, none⟩ (.int .i64 st)) := by
 obtain ⟨h1, h2⟩ := H.po.put (by omega) hg (j := k * 2 + 1) (.int .i64 st);have hlt := H.po.lt g hg;have hd : ∀ {v : Value}, Apart v p → ∀ k, v.ownBlock = some k → k < g ∨ g + 1 ≤ k := fun ha k hk => by
  rcases Nat.lt_trichotomy k g with h1 | h1 | h1
  ·exact .inl h1
  ·exact absurd hg (ha g (h1 ▸ hk))
  ·exact .inr h1
 rw [flatP_setS _ _ hk] at h1;refine ⟨⟨Nat.le_trans H.hb h2.size, H.so.other h2 (hd H.sp), ?_, H.lo.other h2 (hd H.pl.symm), H.ho.other h2 (hd H.ph.symm), H.sp, H.sl, H.sh, H.pl, H.ph, H.lh⟩, h2.below (B := base) hlt.1 H.hb⟩;show aK base _ 2 _ p (gp m.pieces ((k : Int) + 1) st).length _
 rw [dC];exact h1
theorem got_block {base : Nat} {w : World} {s p l h : Value} {m : Mi} (H : ak base w s p l h m) (hk : 0 < m.pieces.length) : ∃ g cap, p = .slice (some ⟨g, 0, none⟩) m.pieces.length cap ∧ base ≤ g ∧ g < w.heap.size ∧
 ∀ k, k < m.pieces.length → (w.cell? ⟨g, k * 2 + 1, none⟩ = some (.int .i64 (m.pieces.getD k pc0).s) ∧ w.frozen? ⟨g, k * 2 + 1, none⟩ = false) := by
 obtain ⟨a, z, h1, h2, h3, h4, h5, h6⟩ := ownE_P H.po rfl H.hb;obtain ⟨ao, cap, rfl, q1, q2, q3, q4⟩ := h4;obtain ⟨b, o, rfl, b1, b2, hc⟩ := q4 hk;rcases H.po with hp | ⟨g, -, -, -, e, -⟩
 ·rcases hp.2 with ⟨e, -⟩ | ⟨g, cap', cur, e, -⟩
  ·cases e
  ·cases e
   refine ⟨b, cap, rfl, by omega, by omega, fun k hk => ?_⟩;have := hc k hk;have hg : m.pieces.getD k pc0 = m.pieces[k] := by simp [hk]
   rw [hg];have e0 : 0 + k * 2 + 1 = k * 2 + 1 := by omega
   rw [← e0];exact ⟨this.1.2, this.2.2⟩
 ·omega
end Go.Proofs.YtkhecelpafojdaaGreatDoor
