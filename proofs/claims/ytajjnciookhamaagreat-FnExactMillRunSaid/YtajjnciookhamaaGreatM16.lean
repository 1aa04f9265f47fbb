/-
  Parts of the proof, of 5 texts: what MillG, MixB, MixC, CutA, PlainCut2 show. Conditions: each theorem states its own.
-/
import Derived.StillTailTactics
import Derived.Test.YtajjnciookhamaaGreatM14
import Derived.Test.YtajjnciookhamaaGreatM15
import Derived.Test.YtajjnciookhamaaGreatM13
import Derived.Test.YtajjnciookhamaaGreatM03
import Derived.Test.YtajjnciookhamaaGreatM11
namespace Go.Proofs.YtajjnciookhamaaGreat
open Go.RowKit
/-- A slice that is the call's own, at a world. -/
structure OwnV (base T sz : Nat) (w : World) (v : Value) (n : Nat) (cs : List Value) : Prop where
  own : OwnE base T sz w v n cs
  lt : base ≤ w.heap.size
theorem OwnV.below {base T sz n : Nat} {w w' : World} {v : Value} {cs : List Value} (h : OwnV base T sz w v n cs) (k : Below w.heap.size w w') : OwnV base T sz w' v n cs :=
  ⟨h.own.below k (Nat.le_refl _), Nat.le_trans h.lt k.size⟩
theorem OwnV.other {base T sz n a z : Nat} {w w' : World} {v : Value} {cs : List Value} (h : OwnV base T sz w v n cs) (k : Other a z w w') (hd : z ≤ base) : OwnV base T sz w' v n cs :=
  ⟨h.own.other k fun g hg => by have := (h.own.lt g hg).1; omega, Nat.le_trans h.lt k.size⟩
/-- The slices of a mill are the call's own, and apart. -/
structure MillGot (base : Nat) (w : World) (s p l h : Value) (m : Mi) : Prop where
  hb : base ≤ w.heap.size
  so : OwnE base 110 5 w s m.store.length (flatS m.store)
  po : OwnE base 71 2 w p m.pieces.length (flatP m.pieces)
  lo : OwnE base 3 1 w l m.low.length (flatI m.low)
  ho : OwnE base 3 1 w h m.high.length (flatI m.high)
  sp : Apart s p
  sl : Apart s l
  sh : Apart s h
  pl : Apart p l
  ph : Apart p h
  lh : Apart l h
theorem MillGot.at {base : Nat} {w : World} {s p l h : Value} {m : Mi} (H : MillGot base w s p l h m) : MillIn base w.heap.size w s p l h m := by
  obtain ⟨a1, z1, h1, h2, h3, h4, -⟩ := ownE_S H.so rfl H.hb
  obtain ⟨a2, z2, k1, k2, k3, k4, -⟩ := ownE_P H.po rfl H.hb
  exact ⟨h4.mono h1 h3 (Nat.le_refl _), k4.mono k1 k3 (Nat.le_refl _), ownE_ints H.lo rfl H.hb, ownE_ints H.ho rfl H.hb⟩
theorem MillGot.all {base : Nat} {w : World} {s p l h : Value} {m : Mi} (H : MillGot base w s p l h m) : MillIn 0 w.heap.size w s p l h m :=
  H.at.mono (Nat.zero_le _) (Nat.le_refl _) (Nat.le_refl _)
theorem MillGot.lt {base : Nat} {w : World} {s p l h : Value} {m : Mi} (H : MillGot base w s p l h m) : base ≤ w.heap.size := H.hb
theorem MillGot.below {base : Nat} {w w' : World} {s p l h : Value} {m : Mi} (H : MillGot base w s p l h m) (k : Below w.heap.size w w') : MillGot base w' s p l h m :=
  ⟨Nat.le_trans H.hb k.size, H.so.below k (Nat.le_refl _), H.po.below k (Nat.le_refl _), H.lo.below k (Nat.le_refl _), H.ho.below k (Nat.le_refl _), H.sp, H.sl, H.sh, H.pl, H.ph, H.lh⟩
theorem MillGot.other {base a z : Nat} {w w' : World} {s p l h : Value} {m : Mi} (H : MillGot base w s p l h m) (k : Other a z w w') (hd : z ≤ base) : MillGot base w' s p l h m := by
  have hd' : ∀ {T sz n : Nat} {v : Value} {cs : List Value}, OwnE base T sz w v n cs → ∀ g, v.ownBlock = some g → g < a ∨ z ≤ g := fun ho g hg => by
    have := (ho.lt g hg).1; omega
  exact ⟨Nat.le_trans H.hb k.size, H.so.other k (hd' H.so), H.po.other k (hd' H.po), H.lo.other k (hd' H.lo), H.ho.other k (hd' H.ho), H.sp, H.sl, H.sh, H.pl, H.ph, H.lh⟩
theorem MillGot.mono {base base' : Nat} {w : World} {s p l h : Value} {m : Mi} (H : MillGot base w s p l h m) (hb : base' ≤ base) : MillGot base' w s p l h m :=
  ⟨Nat.le_trans hb H.hb, H.so.mono hb, H.po.mono hb, H.lo.mono hb, H.ho.mono hb, H.sp, H.sl, H.sh, H.pl, H.ph, H.lh⟩
/-- The numbers of a mill are no matter of its slices. -/
theorem MillGot.nums {base : Nat} {w : World} {s p l h : Value} {m : Mi} (H : MillGot base w s p l h m) (r : Gr) (x y : Int) : MillGot base w s p l h { m with rule := r, strand := x, scrap := y } :=
  ⟨H.hb, H.so, H.po, H.lo, H.ho, H.sp, H.sl, H.sh, H.pl, H.ph, H.lh⟩
/-- The store is new. -/
theorem MillGot.store {base B : Nat} {w w' : World} {s s' p l h : Value} {m : Mi} {xs : List St} (H : MillGot base w s p l h m) (k : Below w.heap.size w w') (hB : w.heap.size ≤ B) (n : OwnE B 110 5 w' s' xs.length (flatS xs)) (y : Int) :
    MillGot base w' s' p l h { m with store := xs, strand := y } :=
  ⟨Nat.le_trans H.hb k.size, n.mono (Nat.le_trans H.hb hB), H.po.below k (Nat.le_refl _), H.lo.below k (Nat.le_refl _), H.ho.below k (Nat.le_refl _), (H.po.apart n hB).symm, (H.lo.apart n hB).symm, (H.ho.apart n hB).symm, H.pl, H.ph, H.lh⟩
/-- The pile is new. -/
theorem MillGot.yard {base B : Nat} {w w' : World} {s p l h l' h' : Value} {m : Mi} {xs ys : List Int} (H : MillGot base w s p l h m) (k : Below w.heap.size w w') (hB : w.heap.size ≤ B) (q : PileOwn B w' l' h' xs ys) :
    MillGot base w' s p l' h' { m with low := xs, high := ys } :=
  ⟨Nat.le_trans H.hb k.size, H.so.below k (Nat.le_refl _), H.po.below k (Nat.le_refl _), q.lo.mono (Nat.le_trans H.hb hB), q.ho.mono (Nat.le_trans H.hb hB), H.sp, H.so.apart q.lo hB, H.so.apart q.ho hB, H.po.apart q.lo hB, H.po.apart q.ho hB, q.ap⟩
def CopyGot (base : Nat) (m : Mi) (w : World) (e : Ending) (w' : World) : Prop := ∃ s p l h, e = .returned (millV s p l h m) ∧ MillGot base w' s p l h m ∧ Below base w w'
def DoGot (base : Nat) (x : Mi × Bool) (w : World) (e : Ending) (w' : World) : Prop := ∃ s p l h, e = .returned (.tuple #[millV s p l h x.1, .bool x.2]) ∧ MillGot base w' s p l h x.1 ∧ Below base w w'
def RunGot (base : Nat) (x : Mi × Int) (w : World) (e : Ending) (w' : World) : Prop := ∃ s p l h, e = .returned (.tuple #[millV s p l h x.1, .int .i64 x.2]) ∧ MillGot base w' s p l h x.1 ∧ Below base w w'
/-- Blocks of the call's own were written last. -/
theorem got_put {base b a z : Nat} {w wk W : World} {s p l h : Value} {m : Mi} (H : MillGot b wk s p l h m) (hB : Below base w wk) (T : Other a z wk W) (h1 : z ≤ b) (h2 : base ≤ a) (h3 : base ≤ b) (h4 : base ≤ w.heap.size) : MillGot base W s p l h m ∧ Below base w W :=
  ⟨(H.other T h1).mono h3, hB.trans (T.below (B := base) h2 (by have := hB.size; omega))⟩
/-- The zero mill. -/
theorem millGot_zero {base : Nat} {w : World} (h : base ≤ w.heap.size) (z : Mi) (h1 : z.store = []) (h2 : z.pieces = []) (h3 : z.low = []) (h4 : z.high = []) : MillGot base w (.slice none 0 0) (.slice none 0 0) (.slice none 0 0) (.slice none 0 0) z := by
  refine ⟨h, ?_, ?_, ?_, ?_, apart_nil _ _, apart_nil _ _, apart_nil _ _, apart_nil _ _, apart_nil _ _, apart_nil _ _⟩
  · rw [h1]; exact OwnE.own (World.ownsRow_nil _ _ _ _)
  · rw [h2]; exact OwnE.own (World.ownsRow_nil _ _ _ _)
  · rw [h3]; exact OwnE.own (World.ownsRow_nil _ _ _ _)
  · rw [h4]; exact OwnE.own (World.ownsRow_nil _ _ _ _)
end Go.Proofs.YtajjnciookhamaaGreat
namespace Go.Proofs.YtajjnciookhamaaGreat
open Go.RowKit
/-- What MixMeets asks of the sums. -/
def meetS (g : Gr) (T a b c : Int) : Bool := wi a (g.lc * T) (g.hc * T) && (wi b (g.lm * T) (g.hm * T) && wi c (g.ls * T) (g.hs * T))
theorem meet_eq {sts : List St} {mix : List Int} {g : Gr} (h1 : mixB sts mix = true) (h2 : grB g = true) (h3 : 0 < tonsR mix) : meetR sts mix g = meetS g (tonsR mix) (sumsR St.c sts mix) (sumsR St.m sts mix) (sumsR St.s sts mix) := by
  have h3' : decide (0 < tonsR mix) = true := by simpa using h3
  simp only [meetR, meetS, h1, h2, h3', Bool.true_and]
theorem meet_low {sts : List St} {mix : List Int} {g : Gr} (h3 : ¬ 0 < tonsR mix) : meetR sts mix g = false := by
  have h3' : decide (0 < tonsR mix) = false := by simpa using h3
  simp [meetR, h3']
theorem tons_bd {sts : List St} {mix : List Int} (h : mixB sts mix = true) : 0 ≤ tonsR mix ∧ tonsR mix ≤ 36 := by
  have h1 := sumTo_bd h mix.length (Nat.le_refl _)
  have h2 := mix_len4 h
  unfold tonsR
  omega
theorem mix_60 {sts : List St} {mix : List Int} (h : mixB sts mix = true) : ∀ k, k < mix.length → 0 ≤ mix.getD k 0 ∧ mix.getD k 0 ≤ 60 := fun k hk => by
  have := mix_bd h hk
  omega
theorem gr_mul {x T : Int} (h1 : 0 ≤ x) (h2 : x ≤ 999) (h3 : 0 ≤ T) (h4 : T ≤ 36) : IntKind.i64.wrap (x * T) = x * T := by
  have := mul_bd h1 h2 h3 h4
  exact IntWalk.i64_in _ (by omega)
set_option maxRecDepth 10000 in
set_option maxHeartbeats 1600000 in
theorem meets_impl (sv mv : Value) (sts : List St) (mix : List Int) (g : Gr) (w : World) (Hs : StAt 0 w.heap.size w sv sts) (Hm : IntsAt 0 w.heap.size w mv mix) :
    Calls Tryz.prog 139 #[sv, mv, grV g] w fun e w' => e = .returned (.bool (meetR sts mix g)) ∧ Below w.heap.size w w' := by
  have HS := hide Hs
  have HM := hide Hm
  clear Hs Hm
  have HV := hide (fun W H1 H2 => mixv_impl sv mv sts mix W H1 H2)
  have HU := hide (fun W H1 H2 => sums_impl sv mv sts mix W H1 H2)
  have hg := fun W => grv_impl g W
  unfold grV at hg ⊢
  have HG := hide hg
  clear hg
  go_enter Tryz.func139, Tryz.ntmps139
  go_wp2_with fail
  refine calls_at fun wx hwx => ?_
  have A_0 : RowL wx (w.heap.size) 35 [.int .i64 g.lc, .int .i64 g.hc, .int .i64 g.lm, .int .i64 g.hm, .int .i64 g.ls, .int .i64 g.hs] := by rw [hwx]; exact (RowL.new _ 35 [.int .i64 g.lc, .int .i64 g.hc, .int .i64 g.lm, .int .i64 g.hm, .int .i64 g.ls, .int .i64 g.hs])
  have B_0 : Below w.heap.size w wx := by rw [hwx]; go_grown
  clear hwx
  have hL0 := A_0.lt
  have VS_0 := hide (HS.out.below B_0)
  have VM_0 := hide (HM.out.below B_0)
  have k1 := HV.out wx ((VS_0.out).mono (Nat.le_refl _) (VS_0.out).lt (Nat.le_refl _)) ((VM_0.out).mono (Nat.le_refl _) (VM_0.out).lt (Nat.le_refl _))
  cases c1 : mixB sts mix with
  | false =>
    rw [c1] at k1
    have HZ := hide (show meetR sts mix g = false by simp [meetR, c1])
    clear c1
    refine (k1).mono ?_
    rintro e w1 ⟨rfl, hb⟩
    have A_1 := A_0.below hb A_0.lt
    have VS_1 := hide (VS_0.out.below hb)
    have VM_1 := hide (VM_0.out.below hb)
    have B_1 := hide (Below.step B_0 hb (Nat.le_refl _))
    have hz1 := hb.size
    clear hb
    go_wp2_with fail
    go_ret
    exact ⟨by rw [HZ.out]; rfl, B_1.out⟩
  | true =>
    rw [c1] at k1
    have C1 := hide c1
    have hl4 := mix_len4 c1
    clear c1
    refine (k1).mono ?_
    rintro e w1 ⟨rfl, hb⟩
    have A_1 := A_0.below hb A_0.lt
    have VS_1 := hide (VS_0.out.below hb)
    have VM_1 := hide (VM_0.out.below hb)
    have B_1 := hide (Below.step B_0 hb (Nat.le_refl _))
    have hz1 := hb.size
    clear hb
    have cA0 := A_1.c 0 rfl
    have cA1 := A_1.c 1 rfl
    have cA2 := A_1.c 2 rfl
    have cA3 := A_1.c 3 rfl
    have cA4 := A_1.c 4 rfl
    have cA5 := A_1.c 5 rfl
    go_wp2_with fail
    have k2 := HG.out w1
    cases c2 : grB g with
    | false =>
      rw [c2] at k2
      have HZ := hide (show meetR sts mix g = false by simp [meetR, c2])
      clear c2
      refine (k2).mono ?_
      rintro e w2 ⟨rfl, hb⟩
      have A_2 := A_1.below hb A_1.lt
      have VS_2 := hide (VS_1.out.below hb)
      have VM_2 := hide (VM_1.out.below hb)
      have B_2 := hide (Below.step B_1.out hb (Nat.le_refl _))
      have hz2 := hb.size
      clear hb
      go_wp2_with fail
      go_ret
      exact ⟨by rw [HZ.out]; rfl, B_2.out⟩
    | true =>
      rw [c2] at k2
      have C2 := hide c2
      clear c2
      refine (k2).mono ?_
      rintro e w2 ⟨rfl, hb⟩
      have A_2 := A_1.below hb A_1.lt
      have VS_2 := hide (VS_1.out.below hb)
      have VM_2 := hide (VM_1.out.below hb)
      have B_2 := hide (Below.step B_1.out hb (Nat.le_refl _))
      have hz2 := hb.size
      clear hb
      go_wp2_with fail
      have k3 := hide (tons_impl mv mix _ _ w2 VM_2.out hl4 (mix_60 C1.out))
      refine k3.out.mono ?_
      rintro e wq ⟨rfl, rfl⟩
      obtain ⟨T1, T2⟩ := tons_bd C1.out
      by_cases hT : 0 < tonsR mix
      rotate_left
      · have HZ := hide (meet_low (sts := sts) (g := g) hT)
        obtain ⟨T, hTT⟩ : ∃ T, tonsR mix = T := ⟨_, rfl⟩
        rw [hTT] at hT T1 T2 ⊢
        have hT1 : T < 1 := by omega
        clear hTT
        go_wp2_with fail
        go_ret
        exact ⟨by rw [HZ.out]; rfl, B_2.out⟩
      have HE := hide (meet_eq C1.out C2.out hT)
      have k4 := HU.out w2 ((VS_2.out).mono (Nat.le_refl _) (VS_2.out).lt (Nat.le_refl _)) ((VM_2.out).mono (Nat.le_refl _) (VM_2.out).lt (Nat.le_refl _))
      obtain ⟨T, hTT⟩ : ∃ T, tonsR mix = T := ⟨_, rfl⟩
      obtain ⟨a, ha⟩ : ∃ a, sumsR St.c sts mix = a := ⟨_, rfl⟩
      obtain ⟨b, hb⟩ : ∃ b, sumsR St.m sts mix = b := ⟨_, rfl⟩
      obtain ⟨c, hc⟩ : ∃ c, sumsR St.s sts mix = c := ⟨_, rfl⟩
      rw [hTT] at hT T1 T2 HE ⊢
      rw [ha, hb, hc] at HE k4
      have hT1 : ¬ T < 1 := by omega
      have HK4 := hide k4
      clear hTT ha hb hc k4
      go_wp2_with fail
      refine (HK4.out).mono ?_
      rintro e w3 ⟨rfl, hb⟩
      have A_3 := A_2.below hb A_2.lt
      have VS_3 := hide (VS_2.out.below hb)
      have VM_3 := hide (VM_2.out.below hb)
      have B_3 := hide (Below.step B_2.out hb (Nat.le_refl _))
      have hz3 := hb.size
      clear hb
      have cA0 := A_3.c 0 rfl
      have cA1 := A_3.c 1 rfl
      have cA2 := A_3.c 2 rfl
      have cA3 := A_3.c 3 rfl
      have cA4 := A_3.c 4 rfl
      have cA5 := A_3.c 5 rfl
      obtain ⟨⟨q1, q2⟩, ⟨q3, q4⟩, ⟨q5, q6⟩, ⟨q7, q8⟩, ⟨q9, q10⟩, q11, q12⟩ := grB_iff.1 C2.out
      have hw0 : IntKind.i64.wrap (g.lc * T) = g.lc * T := gr_mul (by omega) (by omega) T1 T2
      have hw1 : IntKind.i64.wrap (g.hc * T) = g.hc * T := gr_mul (by omega) (by omega) T1 T2
      have hw2 : IntKind.i64.wrap (g.lm * T) = g.lm * T := gr_mul (by omega) (by omega) T1 T2
      have hw3 : IntKind.i64.wrap (g.hm * T) = g.hm * T := gr_mul (by omega) (by omega) T1 T2
      have hw4 : IntKind.i64.wrap (g.ls * T) = g.ls * T := gr_mul (by omega) (by omega) T1 T2
      have hw5 : IntKind.i64.wrap (g.hs * T) = g.hs * T := gr_mul (by omega) (by omega) T1 T2
      clear q1 q2 q3 q4 q5 q6 q7 q8 q9 q10 q11 q12 hT hT1
      go_wp2_with fail
      have kk := within_any a (g.lc * T) (g.hc * T)
      cases d1 : wi a (g.lc * T) (g.hc * T) with
      | false =>
        rw [d1] at kk
        have HZ := hide (show meetR sts mix g = false by rw [HE.out, meetS, d1]; simp)
        clear d1 HE
        refine (kk _).mono ?_
        rintro e wq ⟨rfl, rfl⟩
        clear kk
        go_wp2_with fail
        go_ret
        exact ⟨by rw [HZ.out]; rfl, B_3.out⟩
      | true =>
        rw [d1] at kk
        have D1 := hide d1
        clear d1
        refine (kk _).mono ?_
        rintro e wq ⟨rfl, rfl⟩
        clear kk
        go_wp2_with fail
        have kk := within_any b (g.lm * T) (g.hm * T)
        cases d2 : wi b (g.lm * T) (g.hm * T) with
        | false =>
          rw [d2] at kk
          have HZ := hide (show meetR sts mix g = false by rw [HE.out, meetS, d2]; simp)
          clear d2 HE
          refine (kk _).mono ?_
          rintro e wq ⟨rfl, rfl⟩
          clear kk
          go_wp2_with fail
          go_ret
          exact ⟨by rw [HZ.out]; rfl, B_3.out⟩
        | true =>
          rw [d2] at kk
          have D2 := hide d2
          clear d2
          refine (kk _).mono ?_
          rintro e wq ⟨rfl, rfl⟩
          clear kk
          go_wp2_with fail
          have kk := within_any c (g.ls * T) (g.hs * T)
          cases d3 : wi c (g.ls * T) (g.hs * T) with
          | false =>
            rw [d3] at kk
            have HZ := hide (show meetR sts mix g = false by rw [HE.out, meetS, d3]; simp)
            clear d3 HE
            refine (kk _).mono ?_
            rintro e wq ⟨rfl, rfl⟩
            clear kk
            go_wp2_with fail
            go_ret
            exact ⟨by rw [HZ.out]; rfl, B_3.out⟩
          | true =>
            rw [d3] at kk
            have D3 := hide d3
            clear d3
            refine (kk _).mono ?_
            rintro e wq ⟨rfl, rfl⟩
            clear kk
            go_wp2_with fail
            have HZ := hide (show meetR sts mix g = true by rw [HE.out, meetS, D1.out, D2.out, D3.out]; rfl)
            go_ret
            exact ⟨by rw [HZ.out]; rfl, B_3.out⟩
set_option maxRecDepth 10000 in
set_option maxHeartbeats 1600000 in
theorem meets_spec (sv mv : Value) (sts : List St) (mix : List Int) (g : Gr) (w : World) (Hs : StAt 0 w.heap.size w sv sts) (Hm : IntsAt 0 w.heap.size w mv mix) (hl4 : mix.length ≤ 4) (h60 : ∀ k, k < mix.length → 0 ≤ mix.getD k 0 ∧ mix.getD k 0 ≤ 60) :
    Calls Tryz.prog 101 #[sv, mv, grV g] w fun e w' => e = .returned (.bool (meetR sts mix g)) ∧ Below w.heap.size w w' := by
  have HS := hide Hs
  have HM := hide Hm
  clear Hs Hm
  have HV := hide (fun W H1 H2 => mixv_spec sv mv sts mix W H1 H2)
  have HU := hide (fun W H1 H2 => sums_spec sv mv sts mix W H1 H2)
  have hg := fun W => grv_spec g W
  have H60 := hide h60
  clear h60
  unfold grV at hg ⊢
  have HG := hide hg
  clear hg
  go_enter Tryz.func101, Tryz.ntmps101
  go_wp2_with fail
  refine calls_at fun wx hwx => ?_
  have A_0 : RowL wx (w.heap.size) 35 [.int .i64 g.lc, .int .i64 g.hc, .int .i64 g.lm, .int .i64 g.hm, .int .i64 g.ls, .int .i64 g.hs] := by rw [hwx]; exact (RowL.new _ 35 [.int .i64 g.lc, .int .i64 g.hc, .int .i64 g.lm, .int .i64 g.hm, .int .i64 g.ls, .int .i64 g.hs])
  have B_0 : Below w.heap.size w wx := by rw [hwx]; go_grown
  clear hwx
  have hL0 := A_0.lt
  have VS_0 := hide (HS.out.below B_0)
  have VM_0 := hide (HM.out.below B_0)
  have k1 := hide (HU.out wx ((VS_0.out).mono (Nat.le_refl _) (VS_0.out).lt (Nat.le_refl _)) ((VM_0.out).mono (Nat.le_refl _) (VM_0.out).lt (Nat.le_refl _)))
  obtain ⟨a, ha⟩ : ∃ a, sumsR St.c sts mix = a := ⟨_, rfl⟩
  obtain ⟨b, hb⟩ : ∃ b, sumsR St.m sts mix = b := ⟨_, rfl⟩
  obtain ⟨c, hc⟩ : ∃ c, sumsR St.s sts mix = c := ⟨_, rfl⟩
  rw [ha, hb, hc] at k1
  have HA := hide ha
  have HBB := hide hb
  have HC := hide hc
  clear ha hb hc
  refine (k1.out).mono ?_
  rintro e w1 ⟨rfl, hb⟩
  have A_1 := A_0.below hb A_0.lt
  have VS_1 := hide (VS_0.out.below hb)
  have VM_1 := hide (VM_0.out.below hb)
  have B_1 := hide (Below.step B_0 hb (Nat.le_refl _))
  have hz1 := hb.size
  clear hb
  go_wp2_with fail
  have k3 := hide (tons_spec mv mix _ _ w1 VM_1.out hl4 H60.out)
  obtain ⟨T, hTT⟩ : ∃ T, tonsR mix = T := ⟨_, rfl⟩
  have HT := hide hTT
  rw [hTT] at k3
  clear hTT
  refine k3.out.mono ?_
  rintro e wq ⟨rfl, rfl⟩
  go_wp2_with fail
  have k4 := HV.out w1 ((VS_1.out).mono (Nat.le_refl _) (VS_1.out).lt (Nat.le_refl _)) ((VM_1.out).mono (Nat.le_refl _) (VM_1.out).lt (Nat.le_refl _))
  cases c1 : mixB sts mix with
  | false =>
    rw [c1] at k4
    have HZ := hide (show meetR sts mix g = false by simp [meetR, c1])
    clear c1
    refine (k4).mono ?_
    rintro e w2 ⟨rfl, hb⟩
    have A_2 := A_1.below hb A_1.lt
    have VS_2 := hide (VS_1.out.below hb)
    have VM_2 := hide (VM_1.out.below hb)
    have B_2 := hide (Below.step B_1.out hb (Nat.le_refl _))
    have hz2 := hb.size
    clear hb
    go_wp2_with fail
    go_ret
    exact ⟨by rw [HZ.out]; rfl, B_2.out⟩
  | true =>
    rw [c1] at k4
    have C1 := hide c1
    clear c1
    refine (k4).mono ?_
    rintro e w2 ⟨rfl, hb⟩
    have A_2 := A_1.below hb A_1.lt
    have VS_2 := hide (VS_1.out.below hb)
    have VM_2 := hide (VM_1.out.below hb)
    have B_2 := hide (Below.step B_1.out hb (Nat.le_refl _))
    have hz2 := hb.size
    clear hb
    have cA0 := A_2.c 0 rfl
    have cA1 := A_2.c 1 rfl
    have cA2 := A_2.c 2 rfl
    have cA3 := A_2.c 3 rfl
    have cA4 := A_2.c 4 rfl
    have cA5 := A_2.c 5 rfl
    go_wp2_with fail
    have k2 := HG.out w2
    cases c2 : grB g with
    | false =>
      rw [c2] at k2
      have HZ := hide (show meetR sts mix g = false by simp [meetR, c2])
      clear c2
      refine (k2).mono ?_
      rintro e w3 ⟨rfl, hb⟩
      have A_3 := A_2.below hb A_2.lt
      have VS_3 := hide (VS_2.out.below hb)
      have VM_3 := hide (VM_2.out.below hb)
      have B_3 := hide (Below.step B_2.out hb (Nat.le_refl _))
      have hz3 := hb.size
      clear hb
      go_wp2_with fail
      go_ret
      exact ⟨by rw [HZ.out]; rfl, B_3.out⟩
    | true =>
      rw [c2] at k2
      have C2 := hide c2
      clear c2
      refine (k2).mono ?_
      rintro e w3 ⟨rfl, hb⟩
      have A_3 := A_2.below hb A_2.lt
      have VS_3 := hide (VS_2.out.below hb)
      have VM_3 := hide (VM_2.out.below hb)
      have B_3 := hide (Below.step B_2.out hb (Nat.le_refl _))
      have hz3 := hb.size
      clear hb
      have cA0 := A_3.c 0 rfl
      have cA1 := A_3.c 1 rfl
      have cA2 := A_3.c 2 rfl
      have cA3 := A_3.c 3 rfl
      have cA4 := A_3.c 4 rfl
      have cA5 := A_3.c 5 rfl
      obtain ⟨T1, T2⟩ := tons_bd C1.out
      rw [HT.out] at T1 T2
      by_cases hT : 0 < T
      rotate_left
      · have HZ := hide (meet_low (sts := sts) (g := g) (mix := mix) (by rw [HT.out]; exact hT))
        go_wp2_with fail
        go_ret
        exact ⟨by rw [HZ.out]; rfl, B_3.out⟩
      have HE := hide (meet_eq C1.out C2.out (by rw [HT.out]; exact hT))
      rw [HT.out, HA.out, HBB.out, HC.out] at HE
      obtain ⟨⟨q1, q2⟩, ⟨q3, q4⟩, ⟨q5, q6⟩, ⟨q7, q8⟩, ⟨q9, q10⟩, q11, q12⟩ := grB_iff.1 C2.out
      have hw0 : IntKind.i64.wrap (T * g.lc) = g.lc * T := by rw [Int.mul_comm]; exact gr_mul (by omega) (by omega) T1 T2
      have hw1 : IntKind.i64.wrap (T * g.hc) = g.hc * T := by rw [Int.mul_comm]; exact gr_mul (by omega) (by omega) T1 T2
      have hw2 : IntKind.i64.wrap (T * g.lm) = g.lm * T := by rw [Int.mul_comm]; exact gr_mul (by omega) (by omega) T1 T2
      have hw3 : IntKind.i64.wrap (T * g.hm) = g.hm * T := by rw [Int.mul_comm]; exact gr_mul (by omega) (by omega) T1 T2
      have hw4 : IntKind.i64.wrap (T * g.ls) = g.ls * T := by rw [Int.mul_comm]; exact gr_mul (by omega) (by omega) T1 T2
      have hw5 : IntKind.i64.wrap (T * g.hs) = g.hs * T := by rw [Int.mul_comm]; exact gr_mul (by omega) (by omega) T1 T2
      clear q1 q2 q3 q4 q5 q6 q7 q8 q9 q10 q11 q12
      go_wp2_with fail
      have kk := l1In_any a (g.lc * T) (g.hc * T)
      cases d1 : wi a (g.lc * T) (g.hc * T) with
      | false =>
        rw [d1] at kk
        have HZ := hide (show meetR sts mix g = false by rw [HE.out, meetS, d1]; simp)
        clear d1 HE
        refine (kk _).mono ?_
        rintro e wq ⟨rfl, rfl⟩
        clear kk
        go_wp2_with fail
        go_ret
        exact ⟨by rw [HZ.out]; rfl, B_3.out⟩
      | true =>
        rw [d1] at kk
        have D1 := hide d1
        clear d1
        refine (kk _).mono ?_
        rintro e wq ⟨rfl, rfl⟩
        clear kk
        go_wp2_with fail
        have kk := l1In_any b (g.lm * T) (g.hm * T)
        cases d2 : wi b (g.lm * T) (g.hm * T) with
        | false =>
          rw [d2] at kk
          have HZ := hide (show meetR sts mix g = false by rw [HE.out, meetS, d2]; simp)
          clear d2 HE
          refine (kk _).mono ?_
          rintro e wq ⟨rfl, rfl⟩
          clear kk
          go_wp2_with fail
          go_ret
          exact ⟨by rw [HZ.out]; rfl, B_3.out⟩
        | true =>
          rw [d2] at kk
          have D2 := hide d2
          clear d2
          refine (kk _).mono ?_
          rintro e wq ⟨rfl, rfl⟩
          clear kk
          go_wp2_with fail
          have kk := l1In_any c (g.ls * T) (g.hs * T)
          cases d3 : wi c (g.ls * T) (g.hs * T) with
          | false =>
            rw [d3] at kk
            have HZ := hide (show meetR sts mix g = false by rw [HE.out, meetS, d3]; simp)
            clear d3 HE
            refine (kk _).mono ?_
            rintro e wq ⟨rfl, rfl⟩
            clear kk
            go_wp2_with fail
            go_ret
            exact ⟨by rw [HZ.out]; rfl, B_3.out⟩
          | true =>
            rw [d3] at kk
            have D3 := hide d3
            clear d3
            refine (kk _).mono ?_
            rintro e wq ⟨rfl, rfl⟩
            clear kk
            go_wp2_with fail
            have HZ := hide (show meetR sts mix g = true by rw [HE.out, meetS, D1.out, D2.out, D3.out]; rfl)
            go_ret
            exact ⟨by rw [HZ.out]; rfl, B_3.out⟩
end Go.Proofs.YtajjnciookhamaaGreat
namespace Go.Proofs.YtajjnciookhamaaGreat
open Go.RowKit
/-- What make laid and the call filled is its own. -/
theorem own_of_row {w : World} {base g T sz n : Nat} {f : Nat → Value} {cs : List Value} (h : w.rowIs g T (n * sz) f) (hb : base ≤ g) (hm : n ≤ 9223372036854775807) (hl : cs.length = n * sz) (hx : ∀ i, i < n * sz → cs[i]? = some (f i)) :
    w.ownsRow base T sz (.slice (some ⟨g, 0, none⟩) n n) n cs := by
  obtain ⟨c, h1, h2, h3⟩ := h
  refine ⟨hl, .inr ⟨g, n, c, rfl, hb, h1, Nat.le_refl _, by unfold maxLen; exact hm, h2, ?_⟩⟩
  refine List.ext_getElem? fun i => ?_
  rw [List.getElem?_take]
  split
  · rename_i hi
    rw [hx i hi, ← h3 i hi]; simp
  · rename_i hi
    rw [List.getElem?_eq_none (by omega)]
/-- The first ones taken from. -/
def takeTo (sts : List St) (mix : List Int) (k : Nat) : List St := (List.range sts.length).map fun j => if j < k then { sts.getD j st0 with k := (sts.getD j st0).k - mix.getD j 0 } else sts.getD j st0
theorem takeTo_len (sts : List St) (mix : List Int) (k : Nat) : (takeTo sts mix k).length = sts.length := by simp [takeTo]
theorem takeTo_zero (sts : List St) (mix : List Int) : takeTo sts mix 0 = sts := by
  refine List.ext_getElem (by simp [takeTo]) fun i h1 h2 => ?_
  simp [takeTo, h2]
theorem takeTo_all (sts : List St) (mix : List Int) : takeTo sts mix sts.length = takeM sts mix := by
  refine List.ext_getElem (by simp [takeTo, takeM]) fun i h1 h2 => ?_
  have : i < sts.length := by simpa [takeTo] using h1
  simp [takeTo, takeM, this]
theorem takeTo_at {sts : List St} {mix : List Int} {k : Nat} (hk : k < sts.length) : (takeTo sts mix k).getD k st0 = sts.getD k st0 := by
  simp [takeTo, hk]
theorem takeTo_succ (sts : List St) (mix : List Int) (k : Nat) : takeTo sts mix (k + 1) = (takeTo sts mix k).set k { sts.getD k st0 with k := (sts.getD k st0).k - mix.getD k 0 } := by
  refine List.ext_getElem (by simp [takeTo]) fun i h1 h2 => ?_
  have hi : i < sts.length := by simpa [takeTo] using h1
  rw [List.getElem_set]
  by_cases e : k = i
  · subst e
    simp [takeTo]
  · rw [if_neg e]
    have : (i < k + 1) = (i < k) := by rw [eq_iff_iff]; omega
    simp [takeTo, this]
theorem flatS_setk : ∀ (xs : List St) (i : Nat) (_ : i < xs.length) (y : Int), (flatS xs).set (i * 5 + 4) (.int .i64 y) = flatS (xs.set i { xs.getD i st0 with k := y })
  | x :: xs, 0, _, y => rfl
  | x :: xs, i + 1, h, y => by
    have ih := flatS_setk xs i (by simpa using h) y
    have e : flatS (x :: xs) = stL x ++ flatS xs := rfl
    have e2 : flatS ((x :: xs).set (i + 1) { (x :: xs).getD (i + 1) st0 with k := y }) = stL x ++ flatS (xs.set i { xs.getD i st0 with k := y }) := rfl
    rw [e, e2, ← ih, List.set_append_right _ _ (by simp [stL]; omega)]
    have : (i + 1) * 5 + 4 - (stL x).length = i * 5 + 4 := by simp [stL]; omega
    rw [this]
/-- Stuffs of the call's own, and the report. -/
def TakeGot (base : Nat) (xs : List St) (w : World) (e : Ending) (w' : World) : Prop := ∃ v, e = .returned (.tuple #[v, .bool true]) ∧ w'.ownsRow base 110 5 v xs.length (flatS xs) ∧ Below base w w'
set_option maxRecDepth 10000 in
set_option maxHeartbeats 1600000 in
theorem take_impl (sv mv : Value) (sts : List St) (mix : List Int) (w : World) (Hs : StAt 0 w.heap.size w sv sts) (Hm : IntsAt 0 w.heap.size w mv mix) (hv : mixB sts mix = true) :
    Calls Tryz.prog 81 #[sv, mv] w (TakeGot w.heap.size (takeM sts mix) w) := by
  have HS := hide Hs
  have HM := hide Hm
  obtain ⟨hvs, hlen, -⟩ := mixB_parts hv
  have hl4 := stsB_len hvs
  have hlo : mix.length ≤ sts.length := by omega
  have hlo2 : sts.length ≤ mix.length := by omega
  have HV := hide hv
  obtain ⟨ao1, cap1, rfl, -, -, -, -⟩ := Hs
  obtain ⟨ao2, cap2, rfl, -, -, -, -⟩ := Hm
  have k1 := mixv_impl (.slice ao1 sts.length cap1) (.slice ao2 mix.length cap2) sts mix w HS.out HM.out
  rw [hv] at k1
  have HVS := hide hvs
  clear hv hvs hlen
  have hmk := fun W => make_rowN (P := Tryz.prog) 34 110 _ _ _ Tryz.underlying34 info_St .i64 .i64 sts.length (by omega) (by omega) W
  go_enter Tryz.func81, Tryz.ntmps81
  go_wp2_with fail
  refine k1.mono ?_
  rintro e w1 ⟨rfl, hb⟩
  have HB := hide hb
  have VS := hide (HS.out.below hb)
  have VM := hide (HM.out.below hb)
  have hz1 := hb.size
  clear hb k1
  go_wp2_with fail
  clear hmk
  go_loopw [7, 8, 18] (fun _ _ i wr => ∃ k : Nat, k ≤ sts.length ∧ i = .int .i64 k ∧ Below w1.heap.size w1 wr ∧ ∃ f, wr.rowIs w1.heap.size 110 (sts.length * 5) f ∧ (∀ j, j < k → f (j * 5) = .int .i64 (sts.getD j st0).c ∧ f (j * 5 + 1) = .int .i64 (sts.getD j st0).m ∧ f (j * 5 + 2) = .int .i64 (sts.getD j st0).s ∧ f (j * 5 + 3) = .int .i64 (sts.getD j st0).p ∧ f (j * 5 + 4) = .int .i64 ((sts.getD j st0).k - mix.getD j 0))) (fun _ _ i _ => sts.length - (intOf i).toNat)
  case atStart =>
    obtain ⟨f, hf⟩ := rowIs_madeN w1 (Value.agg #[Value.int .i64 0, Value.int .i64 0, Value.int .i64 0, Value.int .i64 0, Value.int .i64 0]).cells (sts.length * 5) 110
    exact ⟨0, Nat.zero_le _, rfl, by go_grown, f, hf, fun _ h => absurd h (Nat.not_lt_zero _)⟩
  case round =>
    obtain ⟨k, hk, rfl, hbr, f, hrow, hall⟩ := hrel
    have HBr := hide hbr
    have Ha := hide hall
    have Hr := hide hrow
    have VSr := hide (VS.out.below hbr)
    have VMr := hide (VM.out.below hbr)
    have hgz := hrow.lt
    have hzr := hbr.size
    clear hbr hall hrow
    by_cases hlt : k < sts.length
    · have hk9 := mix_bd HV.out (show k < mix.length by omega)
      have hs9 := stB_k (stsB_getD HVS.out hlt)
      obtain ⟨b1, o1, _, e1, -, hbz1, r1⟩ := st_at VSr.out hlt
      obtain ⟨b2, o2, _, e2, -, hbz2, r2, -⟩ := ints_at VMr.out (show k < mix.length by omega)
      simp only [Value.slice.injEq] at e1 e2
      obtain ⟨rfl, -, rfl⟩ := e1
      obtain ⟨rfl, -, rfl⟩ := e2
      obtain ⟨r10, r11, r12, r13, r14⟩ := r1
      have hkI : (k : Int) < (sts.length : Int) := by omega
      have hkI2 : (k : Int) < (mix.length : Int) := by omega
      have HG := hide (show sts.getD k st0 = ⟨(sts.getD k st0).c, (sts.getD k st0).m, (sts.getD k st0).s, (sts.getD k st0).p, (sts.getD k st0).k⟩ from rfl)
      obtain ⟨y0, h0⟩ : ∃ y, (sts.getD k st0).c = y := ⟨_, rfl⟩
      obtain ⟨y1, h1⟩ : ∃ y, (sts.getD k st0).m = y := ⟨_, rfl⟩
      obtain ⟨y2, h2⟩ : ∃ y, (sts.getD k st0).s = y := ⟨_, rfl⟩
      obtain ⟨y3, h3⟩ : ∃ y, (sts.getD k st0).p = y := ⟨_, rfl⟩
      obtain ⟨y4, h4⟩ : ∃ y, (sts.getD k st0).k = y := ⟨_, rfl⟩
      obtain ⟨x, hx⟩ : ∃ x, mix.getD k 0 = x := ⟨_, rfl⟩
      rw [h0] at r10
      rw [h1] at r11
      rw [h2] at r12
      rw [h3] at r13
      rw [h4] at r14 hs9
      rw [hx] at r2 hk9
      have H0 := hide h0
      have H1 := hide h1
      have H2 := hide h2
      have H3 := hide h3
      have H4 := hide h4
      have HX := hide hx
      have hw : IntKind.i64.wrap (y4 - x) = y4 - x := IntWalk.i64_in _ (by omega)
      clear h0 h1 h2 h3 h4 hx hs9 hk9 HG
      go_wp2_with fail
      obtain ⟨wx, hwx⟩ : ∃ wx, wx = wr.alloc (.cells #[.int .i64 y0, .int .i64 y1, .int .i64 y2, .int .i64 y3, .int .i64 y4] 110) := ⟨_, rfl⟩
      rw [← hwx]
      have RX : RowL wx wr.heap.size 110 [.int .i64 y0, .int .i64 y1, .int .i64 y2, .int .i64 y3, .int .i64 y4] := by rw [hwx]; exact RowL.new _ _ _
      have hbx : Below wr.heap.size wr wx := by rw [hwx]; exact (Below.refl _ _).alloc (Nat.le_refl _) _
      have hX := rowIs_below Hr.out hbx hgz
      have q2 : wx.cell? ⟨b2, o2 + k, none⟩ = some (.int .i64 x) := (hbx.cell (p := ⟨b2, o2 + k, none⟩) (show b2 < wr.heap.size by omega)).trans r2
      have x4 : wx.cell? ⟨wr.heap.size, 4, none⟩ = some (.int .i64 y4) := RX.cell 4 (by simp)
      have xf := RX.frozen 4
      have HRX := hide RX
      have HXR := hide hX
      have HBX := hide hbx
      have hne : wr.heap.size ≠ w1.heap.size := by omega
      have hne' : w1.heap.size ≠ wr.heap.size := by omega
      clear hwx RX hbx hX r10 r11 r12 r13 r14 r2
      go_still_tail 8, (by kernel_rfl)
      change wpList _ _ _ _ _ (World.drew _)
      clear hw q2
      go_upto_region 8 with fail
      obtain ⟨wy, hwy⟩ : ∃ wy, wy = (wx.setCell ⟨wr.heap.size, 4, none⟩ (.int .i64 (y4 - x))).drew := ⟨_, rfl⟩
      rw [← hwy]
      have RY : RowL wy wr.heap.size 110 [.int .i64 y0, .int .i64 y1, .int .i64 y2, .int .i64 y3, .int .i64 (y4 - x)] := by rw [hwy]; exact (HRX.out.set 4 _ (by simp)).drew
      have hY : wy.rowIs w1.heap.size 110 (sts.length * 5) f := by rw [hwy]; exact (World.rowIs.setOther HXR.out (a := ⟨wr.heap.size, 4, none⟩) hne' _).drew
      have hby : Below w1.heap.size w1 wy := by rw [hwy]; exact ((HBr.out.trans (HBX.out.mono (Nat.le_of_lt hgz))).setCell (Nat.le_of_lt hgz) _).drew
      have hzy : wy.heap.size = wx.heap.size := by rw [hwy]; simp
      have HY := hide hY
      have HBY := hide hby
      have x0 : wy.cell? ⟨wr.heap.size, 0, none⟩ = some (.int .i64 y0) := RY.cell 0 (by simp)
      have x1 : wy.cell? ⟨wr.heap.size, 1, none⟩ = some (.int .i64 y1) := RY.cell 1 (by simp)
      have x2 : wy.cell? ⟨wr.heap.size, 2, none⟩ = some (.int .i64 y2) := RY.cell 2 (by simp)
      have x3 : wy.cell? ⟨wr.heap.size, 3, none⟩ = some (.int .i64 y3) := RY.cell 3 (by simp)
      have x4 : wy.cell? ⟨wr.heap.size, 4, none⟩ = some (.int .i64 (y4 - x)) := RY.cell 4 (by simp)
      have g0 := hY.cell (i := k * 5) (by omega)
      have g1 := hY.cell (i := k * 5 + 1) (by omega)
      have g2 := hY.cell (i := k * 5 + 2) (by omega)
      have g3 := hY.cell (i := k * 5 + 3) (by omega)
      have g4 := hY.cell (i := k * 5 + 4) (by omega)
      have f0 := hY.frozen (k * 5)
      have f1 := hY.frozen (k * 5 + 1)
      have f2 := hY.frozen (k * 5 + 2)
      have f3 := hY.frozen (k * 5 + 3)
      have f4 := hY.frozen (k * 5 + 4)
      clear hwy RY hY hby hzy
      go_wp2_with fail
      obtain ⟨f', hr', e0, e1, e2, e3, e4, eo⟩ := rowIs_put5 HY.out (k * 5) (.int .i64 y0) (.int .i64 y1) (.int .i64 y2) (.int .i64 y3) (.int .i64 (y4 - x))
      go_roundw
      case rel =>
        refine ⟨k + 1, by omega, by go_num, (((((HBY.out.setCell (Nat.le_refl _) _).setCell (Nat.le_refl _) _).setCell (Nat.le_refl _) _).setCell (Nat.le_refl _) _).setCell (Nat.le_refl _) _), f', hr', fun j hj => ?_⟩
        by_cases e : j = k
        · subst e
          rw [H0.out, H1.out, H2.out, H3.out, H4.out, HX.out]
          exact ⟨e0, e1, e2, e3, e4⟩
        · rw [eo _ (by omega) (by omega) (by omega) (by omega) (by omega), eo _ (by omega) (by omega) (by omega) (by omega) (by omega), eo _ (by omega) (by omega) (by omega) (by omega) (by omega), eo _ (by omega) (by omega) (by omega) (by omega) (by omega), eo _ (by omega) (by omega) (by omega) (by omega) (by omega)]
          exact Ha.out j (by omega)
      case measure => simp [intOf]; omega
    · obtain rfl : k = sts.length := by omega
      have hown : wr.ownsRow w.heap.size 110 5 (.slice (some ⟨w1.heap.size, 0, none⟩) sts.length sts.length) sts.length (flatS (takeM sts mix)) := by
        refine own_of_row Hr.out hz1 (by omega) (by rw [flatS_len, takeM_len]) fun i hi => ?_
        have hj : i / 5 < sts.length := by omega
        obtain ⟨a0, a1, a2, a3, a4⟩ := Ha.out (i / 5) hj
        obtain ⟨c0, c1, c2, c3, c4⟩ := flatS_at (takeM sts mix) (i / 5) (by rw [takeM_len]; exact hj)
        have hg : (takeM sts mix)[i / 5]'(by rw [takeM_len]; exact hj) = { sts.getD (i / 5) st0 with k := (sts.getD (i / 5) st0).k - mix.getD (i / 5) 0 } := by
          rw [← takeM_getD hj]; simp [takeM_len, hj]
        rw [hg] at c0 c1 c2 c3 c4
        have hr : i = i / 5 * 5 ∨ i = i / 5 * 5 + 1 ∨ i = i / 5 * 5 + 2 ∨ i = i / 5 * 5 + 3 ∨ i = i / 5 * 5 + 4 := by omega
        generalize i / 5 = d at *
        rcases hr with rfl | rfl | rfl | rfl | rfl
        · rw [c0, a0]
        · rw [c1, a1]
        · rw [c2, a2]
        · rw [c3, a3]
        · rw [c4, a4]
      have HO := hide hown
      clear hown
      go_wp2_with fail
      go_ret2
      exact ⟨_, rfl, by rw [takeM_len]; exact HO.out, Below.step HB.out HBr.out (Nat.le_refl _)⟩
set_option maxRecDepth 10000 in
set_option maxHeartbeats 1600000 in
theorem take_spec (sv mv : Value) (sts : List St) (mix : List Int) (w : World) (Hs : StAt 0 w.heap.size w sv sts) (Hm : IntsAt 0 w.heap.size w mv mix) (hv : mixB sts mix = true) :
    Calls Tryz.prog 62 #[sv, mv] w (TakeGot w.heap.size (takeM sts mix) w) := by
  have HS := hide Hs
  have HM := hide Hm
  obtain ⟨hvs, hlen, -⟩ := mixB_parts hv
  have hl4 := stsB_len hvs
  have hlo : mix.length ≤ sts.length := by omega
  have hlo2 : sts.length ≤ mix.length := by omega
  have HV := hide hv
  obtain ⟨ao1, cap1, rfl, -, -, -, -⟩ := Hs
  obtain ⟨ao2, cap2, rfl, -, -, -, -⟩ := Hm
  have k1 := mixv_spec (.slice ao1 sts.length cap1) (.slice ao2 mix.length cap2) sts mix w HS.out HM.out
  rw [hv] at k1
  have HVS := hide hvs
  obtain ⟨i0, hi0, hz0, hi1, hi2⟩ := info_parts info_St
  clear hv hvs hlen
  go_enter Tryz.func62, Tryz.ntmps62
  go_wp2_with fail
  refine k1.mono ?_
  rintro e w1 ⟨rfl, hb⟩
  have HB := hide hb
  have VS := hide (HS.out.below hb)
  have VM := hide (HM.out.below hb)
  have hz1 := hb.size
  clear hb k1
  go_wp2_with (at_builtin; refine wpList_append_view rfl _ _ 34 rfl w1.heap.size 110 i0 _ 5 40 Tryz.underlying34 hi0 hz0 hi1 hi2 rfl (by decide) _ _ _ rfl (World.ownsRow_made w1 #[] 0 (Nat.le_refl _) (Nat.zero_le _) rfl) (.slice ao1 sts.length cap1) sts.length (flatS sts) rfl ?c0 ?c1 ?c2 ?c3 ?_)
  case c0 => exact VS.out.source.below ((Below.refl _ _).alloc (Nat.le_refl _) _) (Nat.le_refl _)
  case c1 => unfold maxLen; omega
  case c2 => omega
  case c3 => simp
  intro v2 w2 hown2 hgrow2 _
  have HB2 := hide (((Below.refl w1.heap.size w1).alloc (Nat.le_refl _) (.cells #[] 110)).trans (Below.grow hgrow2 (World.ownsRow_made (size := 5) w1 #[] 0 (Nat.le_refl _) (Nat.zero_le _) rfl) (Nat.le_refl _) (by simp)))
  have HO := hide (show w2.ownsRow w1.heap.size 110 5 v2 sts.length (flatS (takeTo sts mix 0)) by rw [takeTo_zero]; simpa using hown2)
  obtain ⟨ao3, cap3, rfl, hc3, hc3'⟩ := own_slice HO.out
  clear hown2 hgrow2
  go_wp2_with fail
  go_loopw [7] (fun i wr => ∃ k : Nat, k ≤ sts.length ∧ i = .int .i64 k ∧ Below w1.heap.size w1 wr ∧ wr.ownsRow w1.heap.size 110 5 (.slice ao3 sts.length cap3) sts.length (flatS (takeTo sts mix k))) (fun i _ => sts.length - (intOf i).toNat)
  case atStart => exact ⟨0, Nat.zero_le _, rfl, HB2.out, HO.out⟩
  case round =>
    obtain ⟨k, hk, rfl, hbr, hown⟩ := hrel
    have HBr := hide hbr
    have HOr := hide hown
    have VMr := hide (VM.out.below hbr)
    have VOr := hide (ownSt_at hown (takeTo_len _ _ _).symm hbr.size)
    clear hbr hown
    by_cases hlt : k < sts.length
    · have hk9 := mix_bd HV.out (show k < mix.length by omega)
      have hs9 := stB_k (stsB_getD HVS.out hlt)
      obtain ⟨b1, o1, _, e1, hblo, hbz1, r1⟩ := st_at VOr.out (show k < (takeTo sts mix k).length by rw [takeTo_len]; exact hlt)
      obtain ⟨b2, o2, _, e2, -, hbz2, r2, -⟩ := ints_at VMr.out (show k < mix.length by omega)
      rw [takeTo_len] at e1
      simp only [Value.slice.injEq] at e1 e2
      obtain ⟨rfl, -, rfl⟩ := e1
      obtain ⟨rfl, -, rfl⟩ := e2
      rw [takeTo_at hlt] at r1
      obtain ⟨-, -, -, -, r14⟩ := r1
      obtain ⟨g, cap', ef, hf⟩ : ∃ g cap', (Value.slice (some ⟨b1, o1, none⟩) sts.length cap3) = .slice (some ⟨g, 0, none⟩) sts.length cap' ∧ ∀ j, wr.frozen? ⟨g, j, none⟩ = false := by
        have h := HOr.out
        rcases id h.2 with ⟨e, h0⟩ | ⟨g, cap', cur, e, -⟩
        · omega
        · refine ⟨g, cap', e, fun j => ?_⟩
          rw [e] at h
          exact h.frozenAt j
      simp only [Value.slice.injEq, Option.some.injEq, Addr.mk.injEq] at ef
      obtain ⟨⟨rfl, rfl, -⟩, -, rfl⟩ := ef
      have hfk := hf (k * 5 + 4)
      rw [Nat.zero_add] at r14
      have hkI : (k : Int) < (sts.length : Int) := by omega
      have hkI2 : (k : Int) < (mix.length : Int) := by omega
      obtain ⟨y4, h4⟩ : ∃ y, (sts.getD k st0).k = y := ⟨_, rfl⟩
      obtain ⟨x, hx⟩ : ∃ x, mix.getD k 0 = x := ⟨_, rfl⟩
      rw [h4] at r14 hs9
      rw [hx] at r2 hk9
      have hw : IntKind.i64.wrap (y4 - x) = y4 - x := IntWalk.i64_in _ (by omega)
      have hput := own_put HOr.out (g := b1) (j := k * 5 + 4) rfl (.int .i64 (y4 - x))
      have hset : (flatS (takeTo sts mix k)).set (k * 5 + 4) (.int .i64 (y4 - x)) = flatS (takeTo sts mix (k + 1)) := by
        rw [flatS_setk _ _ (by rw [takeTo_len]; exact hlt), takeTo_succ, takeTo_at hlt, h4, hx]
      rw [hset] at hput
      have HP := hide hput
      clear h4 hx hs9 hk9 hput hset hf
      go_wp2_with fail
      go_still_tail 14, (by kernel_rfl)
      change wpList _ _ _ _ _ (World.drew _)
      clear hw
      go_wp2_with fail
      go_roundw
      case rel => exact ⟨k + 1, by omega, by go_num, (HBr.out.drew).setCell hblo _, HP.out.1⟩
      case measure => simp [intOf]; omega
    · obtain rfl : k = sts.length := by omega
      have HOZ := hide (ownsRow_mono HOr.out hz1)
      go_wp2_with fail
      go_ret2
      exact ⟨_, rfl, by rw [takeM_len, ← takeTo_all]; exact HOZ.out, Below.step HB.out HBr.out (Nat.le_refl _)⟩
end Go.Proofs.YtajjnciookhamaaGreat
namespace Go.Proofs.YtajjnciookhamaaGreat
open Go.RowKit
/-- Two lengths read at a value. -/
theorem two_at {lo hi : Nat} {w : World} {v : Value} {a b : Int} (h : IntsAt lo hi w v [a, b]) : ∃ b0 o0 cap, v = .slice (some ⟨b0, o0, none⟩) 2 cap ∧ lo ≤ b0 ∧ b0 < hi ∧ w.cell? ⟨b0, o0, none⟩ = some (.int .i64 a) ∧ w.cell? ⟨b0, o0 + 1, none⟩ = some (.int .i64 b) := by
  obtain ⟨ao, cap, e, h1, h2, h3, h4⟩ := h
  obtain ⟨b0, o0, rfl, b1, b2, hc⟩ := h4 (by simp)
  exact ⟨b0, o0, cap, e, b1, b2, (hc 0 (by simp)).1, (hc 1 (by simp)).1⟩
set_option linter.unusedSimpArgs false in
set_option maxRecDepth 10000 in
set_option maxHeartbeats 1600000 in
theorem lens_impl (v : Value) (a b : Int) (lo hi : Nat) (w : World) (H : IntsAt lo hi w v [a, b]) :
    Calls Tryz.prog 82 #[v] w fun e w' => e = .returned (.bool (lensB a b)) ∧ w = w' := by
  obtain ⟨b0, o0, cap, rfl, -, -, c0, c1⟩ := two_at H
  clear H
  have HW := hide (fun n l h W => within_any n l h W)
  go_enter Tryz.func82, Tryz.ntmps82
  go_wp2_with fail
  refine (HW.out 2 1 4 w).mono ?_
  rintro e w1 ⟨rfl, rfl⟩
  have hw : wi 2 1 4 = true := by decide
  rw [hw]
  go_wp2_with fail
  go_loop [3, 5, 12] (fun p _ i => (i = .int .i64 0 ∧ p = .int .i64 0) ∨ (i = .int .i64 1 ∧ p = .int .i64 a ∧ wi a 1 60 = true) ∨ (i = .int .i64 2 ∧ p = .int .i64 b ∧ lensB a b = true)) (fun _ _ i => 2 - (intOf i).toNat)
  case atStart => exact .inl ⟨rfl, rfl⟩
  case round =>
    rcases hrel with ⟨rfl, rfl⟩ | ⟨rfl, rfl, h⟩ | ⟨rfl, rfl, h⟩
    · go_wp2_with fail
      refine (HW.out a 1 60 w).mono ?_
      rintro e w1 ⟨rfl, rfl⟩
      cases h : wi a 1 60 with
      | false =>
        go_wp2_with fail
        go_ret
        simp [lensB, h]
      | true =>
        go_wp2_with fail
        go_round
        case rel => exact .inr (.inl ⟨rfl, rfl, h⟩)
        case measure => simp [intOf]
    · have ha := (wi_iff.1 h)
      have hp : IntKind.i64.wrap (a + 1) = a + 1 := IntWalk.i64_in _ (by omega)
      go_wp2_with fail
      refine (HW.out b (a + 1) 60 w).mono ?_
      rintro e w1 ⟨rfl, rfl⟩
      cases h2 : wi b (a + 1) 60 with
      | false =>
        go_wp2_with fail
        go_ret
        simp [lensB, h2]
      | true =>
        go_wp2_with fail
        go_round
        case rel => exact .inr (.inr ⟨rfl, rfl, by simp [lensB, h, h2]⟩)
        case measure => simp [intOf]
    · go_wp2_with fail
      go_ret
      simp [h]
end Go.Proofs.YtajjnciookhamaaGreat
namespace Go.Proofs.YtajjnciookhamaaGreat
open Go.RowKit
/-- The least waste at a length, by what the table tells of lesser ones: with the first length, with both. -/
def wst1 (T : List Int) (a : Int) (k : Nat) : Int := if a ≤ k then min (k : Int) (T.getD ((k : Int) - a).toNat 0) else k
def wst2 (T : List Int) (a b : Int) (k : Nat) : Int := if b ≤ k then min (wst1 T a k) (T.getD ((k : Int) - b).toNat 0) else wst1 T a k
theorem wasteAt_eq (T : List Int) (a b : Int) (k : Nat) : wasteAt T a b k = wst2 T a b k := rfl
theorem tab_eq {a b : Int} (h : lensB a b = true) {L k : Nat} (hk : k ≤ L) : (tab a b (L + 1)).getD k 0 = wst2 (tab a b (L + 1)) a b k := by
  obtain ⟨⟨h1, h2⟩, h3, h4⟩ := lensB_iff.1 h
  rw [tab_le a b (Nat.lt_succ_self k) (Nat.succ_le_succ hk), tab_new]
  have e1 : a ≤ k → (tab a b (L + 1)).getD ((k : Int) - a).toNat 0 = (tab a b k).getD ((k : Int) - a).toNat 0 := fun hle => tab_le a b (by omega) (by omega)
  have e2 : b ≤ k → (tab a b (L + 1)).getD ((k : Int) - b).toNat 0 = (tab a b k).getD ((k : Int) - b).toNat 0 := fun hle => tab_le a b (by omega) (by omega)
  rw [wasteAt_eq]
  unfold wst2 wst1
  by_cases ha : a ≤ k
  · by_cases hb : b ≤ k
    · simp only [if_pos ha, if_pos hb, e1 ha, e2 hb]
    · simp only [if_pos ha, if_neg hb, e1 ha]
  · by_cases hb : b ≤ k
    · simp only [if_neg ha, if_pos hb, e2 hb]
    · simp only [if_neg ha, if_neg hb]
theorem cnt_yes {t : List Int} {x : Int} (hx : 1 ≤ x) {f : Nat} {left : Int} (h0 : 0 ≤ left) (hf : left < f) (h : moreB t x left = true) : cnt t x f left = cnt t x f (left - x) + 1 := by
  obtain _ | f := f
  · omega
  · have hm := h
    unfold moreB at hm
    rw [Bool.and_eq_true, decide_eq_true_iff] at hm
    rw [cnt, if_pos h, cnt_fuel t hx f (f + 1) (left - x) (by omega) (by omega) (by omega)]
theorem cnt_no {t : List Int} {x : Int} {f : Nat} {left : Int} (h : moreB t x left = false) : cnt t x f left = 0 := by
  obtain _ | f := f
  · rfl
  · rw [cnt, if_neg (by rw [h]; simp)]
/-- A cut of slabs of the length x under way: c of them are cut, n there will be. -/
structure CutSt (T : List Int) (L : Nat) (x : Int) (n c : Nat) (left : Int) : Prop where
  pos : 0 ≤ left
  le : left ≤ L
  cnt : n = c + Go.Proofs.YtajjnciookhamaaGreat.cnt T x (L + 1) left
  same : T.getD left.toNat 0 = T.getD L 0
theorem CutSt.start {a b : Int} {L : Nat} : CutSt (tab a b (L + 1)) L b (many1 L a b) 0 L := by
  refine ⟨by omega, by omega, ?_, by simp⟩
  unfold many1; simp
theorem CutSt.next {a b : Int} {L : Nat} {left : Int} (H : CutSt (tab a b (L + 1)) L b (many1 L a b) (many1 L a b) left) (hl : left = L - many1 L a b * b) : CutSt (tab a b (L + 1)) L a (many0 L a b) 0 left := by
  refine ⟨H.pos, H.le, ?_, H.same⟩
  unfold many0; rw [hl]; simp
theorem CutSt.more {T : List Int} {L : Nat} {x : Int} {n c : Nat} {left : Int} (hx : 1 ≤ x) (H : CutSt T L x n c left) (h : moreB T x left = true) : CutSt T L x n (c + 1) (left - x) ∧ x ≤ left ∧ c + 1 ≤ n := by
  have hm := h
  unfold moreB at hm
  rw [Bool.and_eq_true, decide_eq_true_iff, beq_iff_eq] at hm
  have h1 := H.pos
  have h2 := H.le
  have h3 := H.cnt
  rw [cnt_yes hx h1 (by omega) h] at h3
  exact ⟨⟨by omega, by omega, by omega, hm.2.trans H.same⟩, hm.1, by omega⟩
theorem CutSt.done {T : List Int} {L : Nat} {x : Int} {n c : Nat} {left : Int} (H : CutSt T L x n c left) (h : moreB T x left = false) : c = n := by
  have h3 := H.cnt
  rw [cnt_no h] at h3
  omega
end Go.Proofs.YtajjnciookhamaaGreat
