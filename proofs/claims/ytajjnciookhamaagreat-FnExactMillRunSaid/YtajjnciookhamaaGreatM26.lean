/-
  Parts of the proof, of 2 texts: what BestMI, HelpN show. Conditions: each theorem states its own.
-/
import Derived.BigRegion
import Derived.BigQuiet
import Derived.Test.YtajjnciookhamaaGreatM19
import Derived.Test.YtajjnciookhamaaGreatM25
namespace Go.Proofs.YtajjnciookhamaaGreat
open Go.RowKit
/-- What MixBest returns: a mixture that can be read, or the report that there is none. -/
def BestGot (base : Nat) (r : Option (List Int)) (w : World) (e : Ending) (w' : World) : Prop :=
  ∃ ao n cap, e = .returned (.tuple #[.slice ao n cap, .bool r.isSome]) ∧ (∀ mix, r = some mix → IntsAt base w'.heap.size w' (.slice ao n cap) mix) ∧ Below base w w'
theorem best_no1 {sts : List St} {g : Gr} {t : Int} (h : stsB sts = false) : mixBest sts g t = none := by simp [mixBest, h]
theorem best_no2 {sts : List St} {g : Gr} {t : Int} (h : grB g = false) : mixBest sts g t = none := by simp [mixBest, h]
theorem best_no3 {sts : List St} {g : Gr} {t : Int} (h : wi t 1 12 = false) : mixBest sts g t = none := by simp [mixBest, h]
theorem best_yes {sts : List St} {g : Gr} {t : Int} (h1 : stsB sts = true) (h2 : grB g = true) (h3 : wi t 1 12 = true) : mixBest sts g t = (foldM sts g none (withP [] (allM (stocks sts 0) t))).map (·.1) := by
  simp [mixBest, h1, h2, h3, withP_none, stocks_zero]
theorem rowL_made (w : World) (n : Nat) : RowL (w.alloc (.cells (madeCells #[.int .i64 0] n) 3)) w.heap.size 3 (flatI (List.replicate n 0)) := by
  have h := World.rowIs_made w (.int .i64 0) n 3
  unfold RowL
  rw [flatI_len, List.length_replicate]
  exact h.congr fun i hi => by simp [flatI, hi]
theorem rep_zero (n k : Nat) : (List.replicate n (0 : Int)).getD k 0 = 0 := by
  rw [List.getD_eq_getElem?_getD, List.getElem?_replicate]
  split <;> rfl
/-- The search at its start. -/
theorem srch_start {base B M : Nat} {w : World} {stv : Value} {sts : List St} {g : Gr} (h1 : RowL w B 136 (srchC stv (.slice none 0 0) g M sts.length 0 false)) (h2 : RowL w M 3 (flatI (List.replicate sts.length 0))) (hs : StAt 0 base w stv sts) (hB : base ≤ B) (hM : base ≤ M) (hne : B ≠ M) :
    Srch base w.heap.size B M w stv sts g (List.replicate sts.length 0) none :=
  ⟨⟨.slice none 0 0, 0, false, by rw [List.length_replicate]; exact h1, rfl, rfl⟩, h2, hs, ⟨hB, h1.lt⟩, ⟨hM, h2.lt⟩, hne, Nat.le_refl _⟩
set_option linter.unusedSimpArgs false in
set_option maxRecDepth 10000 in
set_option maxHeartbeats 1600000 in
theorem best_impl (sv : Value) (sts : List St) (g : Gr) (tons : Int) (w : World) (Hs : StAt 0 w.heap.size w sv sts) :
    Calls Tryz.prog 80 #[sv, grV g, .int .i64 tons] w (BestGot w.heap.size (mixBest sts g tons) w) := by
  have HS := hide Hs
  have hsl := Hs.len
  have HVV := hide (fun W lo hi H => stsv_impl sv sts lo hi W H)
  have HTT := hide (fun W => within_any tons 1 12 W)
  have hg := fun W => grv_impl g W
  obtain ⟨aos, cps, rfl, -, -, -, -⟩ := Hs
  unfold grV at hg ⊢
  have HG := hide hg
  clear hg
  go_enter Tryz.func80, Tryz.ntmps80
  go_wp2_with fail
  refine calls_at fun wx hwx => ?_
  have A_0 : RowL wx (w.heap.size) 35 [.int .i64 g.lc, .int .i64 g.hc, .int .i64 g.lm, .int .i64 g.hm, .int .i64 g.ls, .int .i64 g.hs] := by rw [hwx]; exact (RowL.new _ _ _)
  have B_0 : Below w.heap.size w wx := by rw [hwx]; go_grown
  clear hwx
  have VS_0 := hide (HS.out.below B_0)
  have k1 := HVV.out wx _ _ VS_0.out
  cases c1 : stsB sts with
  | false =>
    have HZ := hide (best_no1 (g := g) (t := tons) c1)
    rw [c1] at k1
    clear c1
    refine (k1).mono ?_
    rintro e w1 ⟨rfl, hb⟩
    have B_1 := hide (Below.step B_0 hb (Nat.le_refl _))
    clear hb k1
    go_wp2_with fail
    go_ret2
    exact ⟨_, _, _, by rw [HZ.out]; rfl, by rw [HZ.out]; (intro mix h; cases h), B_1.out⟩
  | true =>
  have C1 := hide c1
  have hl4 := stsB_len c1
  rw [c1] at k1
  clear c1
  refine (k1).mono ?_
  rintro e w1 ⟨rfl, hb⟩
  have A_1 := A_0.below hb A_0.lt
  have VS_1 := hide (VS_0.out.below hb)
  have B_1 := hide (Below.step B_0 hb (Nat.le_refl _))
  clear hb k1
  have cA0 := A_1.c 0 rfl
  have cA1 := A_1.c 1 rfl
  have cA2 := A_1.c 2 rfl
  have cA3 := A_1.c 3 rfl
  have cA4 := A_1.c 4 rfl
  have cA5 := A_1.c 5 rfl
  go_wp2_with fail
  have k2 := HG.out w1
  cases c2 : grB g with
  | false =>
    have HZ := hide (best_no2 (sts := sts) (t := tons) c2)
    rw [c2] at k2
    clear c2
    refine (k2).mono ?_
    rintro e w2 ⟨rfl, hb⟩
    have B_2 := hide (Below.step B_1.out hb (Nat.le_refl _))
    clear hb k2 cA0 cA1 cA2 cA3 cA4 cA5
    go_wp2_with fail
    go_ret2
    exact ⟨_, _, _, by rw [HZ.out]; rfl, by rw [HZ.out]; (intro mix h; cases h), B_2.out⟩
  | true =>
  have C2 := hide c2
  rw [c2] at k2
  clear c2
  refine (k2).mono ?_
  rintro e w2 ⟨rfl, hb⟩
  have A_2 := A_1.below hb A_1.lt
  have VS_2 := hide (VS_1.out.below hb)
  have B_2 := hide (Below.step B_1.out hb (Nat.le_refl _))
  clear hb k2 cA0 cA1 cA2 cA3 cA4 cA5
  have k3 := HTT.out w2
  go_wp2_with fail
  cases c3 : wi tons 1 12 with
  | false =>
    have HZ := hide (best_no3 (sts := sts) (g := g) c3)
    rw [c3] at k3
    clear c3
    refine (k3).mono ?_
    rintro e w3 ⟨rfl, rfl⟩
    clear k3
    go_wp2_with fail
    go_ret2
    exact ⟨_, _, _, by rw [HZ.out]; rfl, by rw [HZ.out]; (intro mix h; cases h), B_2.out⟩
  | true =>
  have C3 := hide c3
  rw [c3] at k3
  clear c3
  refine (k3).mono ?_
  rintro e w3 ⟨rfl, rfl⟩
  clear k3
  have cA0 := A_2.c 0 rfl
  have cA1 := A_2.c 1 rfl
  have cA2 := A_2.c 2 rfl
  have cA3 := A_2.c 3 rfl
  have cA4 := A_2.c 4 rfl
  have cA5 := A_2.c 5 rfl
  have hL := A_2.lt
  have hmk := fun W => make_rowN (P := Tryz.prog) 26 3 _ _ _ Tryz.underlying26 info_int .i64 .i64 sts.length (by omega) (by omega) W
  go_wp2_with fail
  go_region
  · clear hmk cA0 cA1 cA2 cA3 cA4 cA5 A_1 A_2
    go_wp2_with fail
    refine calls_at fun wx hwx => ?_
    have SR : Srch w2.heap.size wx.heap.size (w2.heap.size + 1) (w2.heap.size) wx (.slice aos sts.length cps) sts g (List.replicate sts.length 0) none := by
      refine srch_start ?_ ?_ ?_ (by omega) (by omega) (by omega)
      · rw [hwx]; exact RowL.drew (by have h := RowL.new (w2.alloc (.cells (madeCells #[.int .i64 0] sts.length) 3)) 136 (srchC (.slice aos sts.length cps) (.slice none 0 0) g w2.heap.size sts.length 0 false); rw [show (w2.alloc (.cells (madeCells #[.int .i64 0] sts.length) 3)).heap.size = w2.heap.size + 1 by simp] at h; exact h)
      · rw [hwx]; exact RowL.drew ((rowL_made w2 sts.length).alloc _)
      · rw [hwx]; exact ((VS_2.out.mono (Nat.le_refl _) B_2.out.size (Nat.le_refl _)).below ((((Below.refl _ _).alloc (Nat.le_refl _) _).alloc (by simp) _).drew))
    have HBx := hide (show Below w2.heap.size w2 wx by rw [hwx]; exact (((Below.refl _ _).alloc (Nat.le_refl _) _).alloc (by simp) _).drew)
    clear hwx
    obtain ⟨ht1, ht2⟩ := wi_iff.1 C3.out
    refine (from_any C1.out sts.length 0 (by omega) wx (List.replicate sts.length 0) none tons SR (by simp) (fun k _ => rep_zero _ _) (by omega) ht2).mono ?_
    rintro e w3 ⟨rfl, K, hb3⟩
    have HK := hide K
    have HB3 := hide (B_2.out.trans ((HBx.out.trans hb3).mono B_2.out.size))
    have hB2 := hide B_2.out.size
    clear hb3 SR
    obtain ⟨bv, c, f, r, q⟩ := K.box
    have d8 : w3.cell? ⟨w2.heap.size + 1, 8, none⟩ = some bv := r.cell 8 (by simp [srchC])
    have d10 : w3.cell? ⟨w2.heap.size + 1, 10, none⟩ = some (.bool f) := r.cell 10 (by simp [srchC])
    have hE := best_yes C1.out C2.out C3.out
    clear K r
    rw [List.take_zero] at q
    generalize foldM sts g none (withP [] (allM (stocks sts 0) tons)) = b at q hE
    have HE := hide hE
    have HQ := hide q
    clear hE q
    go_wp2_with fail
    go_quiet (fail)
    go_wp2_with fail
    rcases b with _ | ⟨x, y⟩
    · obtain ⟨rfl, rfl⟩ := HQ.out
      go_ret2
      exact ⟨none, 0, 0, by rw [HE.out]; rfl, by rw [HE.out]; (intro mix h; cases h), below_drewN HB3.out _⟩
    · obtain ⟨rfl, rfl, own⟩ := HQ.out
      obtain ⟨ao, cap, rfl, -, -⟩ := own.form
      go_ret2
      refine ⟨ao, x.length, cap, by rw [HE.out]; rfl, fun mix h => ?_, below_drewN HB3.out _⟩
      rw [HE.out] at h
      obtain rfl := Option.some.inj h
      have hLx := HK.out.hL
      exact (ownE_ints own rfl hLx).mono (by have := HBx.out.size; have := B_2.out.size; omega) (Nat.le_refl _) (Nat.le_refl _)
  · clear hmk cA0 cA1 cA2 cA3 cA4 cA5 A_1 A_2
    go_wp2_with fail
    refine calls_at fun wx hwx => ?_
    have SR : Srch w2.heap.size wx.heap.size (w2.heap.size) (w2.heap.size + 1) wx (.slice aos sts.length cps) sts g (List.replicate sts.length 0) none := by
      refine srch_start ?_ ?_ ?_ (by omega) (by omega) (by omega)
      · rw [hwx]; exact RowL.drew ((RowL.new w2 136 (srchC (.slice aos sts.length cps) (.slice none 0 0) g (w2.heap.size + 1) sts.length 0 false)).alloc _)
      · rw [hwx]; exact RowL.drew (by have h := rowL_made (w2.alloc (.cells (srchC (.slice aos sts.length cps) (.slice none 0 0) g (w2.heap.size + 1) sts.length 0 false).toArray 136)) sts.length; rw [show (w2.alloc (.cells (srchC (.slice aos sts.length cps) (.slice none 0 0) g (w2.heap.size + 1) sts.length 0 false).toArray 136)).heap.size = w2.heap.size + 1 by simp] at h; exact h)
      · rw [hwx]; exact ((VS_2.out.mono (Nat.le_refl _) B_2.out.size (Nat.le_refl _)).below ((((Below.refl _ _).alloc (Nat.le_refl _) _).alloc (by simp) _).drew))
    have HBx := hide (show Below w2.heap.size w2 wx by rw [hwx]; exact (((Below.refl _ _).alloc (Nat.le_refl _) _).alloc (by simp) _).drew)
    clear hwx
    obtain ⟨ht1, ht2⟩ := wi_iff.1 C3.out
    refine (from_any C1.out sts.length 0 (by omega) wx (List.replicate sts.length 0) none tons SR (by simp) (fun k _ => rep_zero _ _) (by omega) ht2).mono ?_
    rintro e w3 ⟨rfl, K, hb3⟩
    have HK := hide K
    have HB3 := hide (B_2.out.trans ((HBx.out.trans hb3).mono B_2.out.size))
    have hB2 := hide B_2.out.size
    clear hb3 SR
    obtain ⟨bv, c, f, r, q⟩ := K.box
    have d8 : w3.cell? ⟨w2.heap.size, 8, none⟩ = some bv := r.cell 8 (by simp [srchC])
    have d10 : w3.cell? ⟨w2.heap.size, 10, none⟩ = some (.bool f) := r.cell 10 (by simp [srchC])
    have hE := best_yes C1.out C2.out C3.out
    clear K r
    rw [List.take_zero] at q
    generalize foldM sts g none (withP [] (allM (stocks sts 0) tons)) = b at q hE
    have HE := hide hE
    have HQ := hide q
    clear hE q
    go_wp2_with fail
    go_quiet (fail)
    go_wp2_with fail
    rcases b with _ | ⟨x, y⟩
    · obtain ⟨rfl, rfl⟩ := HQ.out
      go_ret2
      exact ⟨none, 0, 0, by rw [HE.out]; rfl, by rw [HE.out]; (intro mix h; cases h), below_drewN HB3.out _⟩
    · obtain ⟨rfl, rfl, own⟩ := HQ.out
      obtain ⟨ao, cap, rfl, -, -⟩ := own.form
      go_ret2
      refine ⟨ao, x.length, cap, by rw [HE.out]; rfl, fun mix h => ?_, below_drewN HB3.out _⟩
      rw [HE.out] at h
      obtain rfl := Option.some.inj h
      have hLx := HK.out.hL
      exact (ownE_ints own rfl hLx).mono (by have := HBx.out.size; have := B_2.out.size; omega) (Nat.le_refl _) (Nat.le_refl _)
end Go.Proofs.YtajjnciookhamaaGreat
namespace Go.Proofs.YtajjnciookhamaaGreat
open Go.RowKit
set_option maxHeartbeats 400000 in
theorem eqIntS_any (v v' : Value) (xs ys : List Int) (lo hi lo' hi' : Nat) (w : World) (h : IntsAt lo hi w v xs) (h' : IntsAt lo' hi' w v' ys) :
    Calls Tryz.prog 94 #[v, v'] w fun e w' => e = .returned (.bool (decide (xs = ys))) ∧ Below w.heap.size w w' := by
  obtain ⟨ao, cap, rfl, hlc, hcap, hhi, hc⟩ := h
  obtain ⟨ao', cap', rfl, hlc', hcap', hhi', hc'⟩ := h'
  have Hc := hide hc
  have Hc' := hide hc'
  clear hc hc'
  by_cases hl : xs.length = ys.length
  · have HL := hide hl
    have hlB : ((xs.length : Int) != (ys.length : Int)) = false := by simp [hl]
    clear hl
    go_enter Tryz.func94, Tryz.ntmps94
    go_wp2_with fail
    go_loopw [5] (fun i wr => ∃ k : Nat, k ≤ xs.length ∧ i = .int .i64 k ∧ Below w.heap.size w wr ∧ xs.take k = ys.take k) (fun i _ => xs.length - (intOf i).toNat)
    case atStart => exact ⟨0, Nat.zero_le _, rfl, Below.refl _ _, rfl⟩
    case round =>
      obtain ⟨k, hk, rfl, hb, hall⟩ := hrel
      have Ha := hide hall
      clear hall
      by_cases hlt : k < xs.length
      · have hlt' : k < ys.length := by have := HL.out; omega
        obtain ⟨b, o, rfl, hb1, hb2, hcs⟩ := Hc.out (by omega)
        obtain ⟨b', o', rfl, hb1', hb2', hcs'⟩ := Hc'.out (by omega)
        obtain ⟨h1, -⟩ := hcs k hlt
        obtain ⟨h1', -⟩ := hcs' k hlt'
        rw [← hb.cell (p := ⟨_, _, none⟩) (by simpa using by omega)] at h1 h1'
        clear hcs hcs'
        have hi1 : (k : Int) < (xs.length : Int) := by omega
        have hi2 : (k : Int) < (ys.length : Int) := by omega
        by_cases hq : xs[k] = ys[k]
        · have hqB : (xs[k] != ys[k]) = false := by simp [hq]
          have hall' : xs.take (k + 1) = ys.take (k + 1) := by
            rw [List.take_succ_eq_append_getElem hlt, List.take_succ_eq_append_getElem hlt', Ha.out, hq]
          have Ha' := hide hall'
          clear hq hall'
          go_wp2_with fail
          go_quiet (fail)
          go_wp2_with fail
          go_roundw
          case rel => exact ⟨k + 1, by omega, by go_num, below_drewN hb _, Ha'.out⟩
          case measure => simp [intOf]; omega
        · have hqB : (xs[k] != ys[k]) = true := by simp [hq]
          have HQ := hide hq
          clear hq
          go_wp2_with fail
          go_quiet (fail)
          go_wp2_with fail
          go_ret
          refine ⟨?_, below_drewN hb _⟩
          have hne : xs ≠ ys := by
            intro e
            subst e
            exact HQ.out rfl
          simp [hne]
      · go_wp2_with fail
        go_ret
        refine ⟨?_, hb⟩
        have e : xs = ys := by
          have := Ha.out
          rw [List.take_of_length_le (by omega), List.take_of_length_le (by have := HL.out; omega)] at this
          exact this
        simp [e]
  · have hlB : ((xs.length : Int) != (ys.length : Int)) = true := by simp; omega
    go_enter Tryz.func94, Tryz.ntmps94
    go_wp2_with fail
    go_ret
    exact ⟨by simp; intro h; exact hl (by rw [h]), Below.refl _ _⟩
theorem eqPile_same (l h l' h' : Value) (lo hi : List Int) (w : World) (Hl : IntsAt 0 w.heap.size w l lo) (Hh : IntsAt 0 w.heap.size w h hi) (Hl' : IntsAt 0 w.heap.size w l' lo) (Hh' : IntsAt 0 w.heap.size w h' hi) :
    Calls Tryz.prog 46 #[pileV l h, pileV l' h'] w fun e w' => e = .returned (.bool true) ∧ Below w.heap.size w w' := by
  have HL := hide Hl
  have HH := hide Hh
  have HL' := hide Hl'
  have HH' := hide Hh'
  unfold pileV
  clear Hl Hh Hl' Hh'
  go_enter Tryz.func46, Tryz.ntmps46
  go_wp2_with fail
  refine calls_at fun wx hwx => ?_
  have R1 : RowL wx w.heap.size 37 [l, h] := by rw [hwx]; exact (RowL.new _ _ _).alloc _
  have R2 : RowL wx (w.heap.size + 1) 37 [l', h'] := by rw [hwx]; simpa using RowL.new (w.alloc _) 37 [l', h']
  have hb0 : Below w.heap.size w wx := by rw [hwx]; go_grown
  clear hwx
  refine (eqIntS_any l l' lo lo _ _ _ _ _ (HL.out.below hb0) (HL'.out.below hb0)).mono ?_
  rintro e w1 ⟨rfl, hb1⟩
  have hdec : decide (lo = lo) = true := by simp
  rw [hdec]
  have R1b := R1.below hb1 R1.lt
  have R2b := R2.below hb1 R2.lt
  have HB1 := hide (Below.step hb0 hb1 (Nat.le_refl _))
  have c1 : w1.cell? ⟨w.heap.size, 1, none⟩ = some h := R1b.cell 1 (by simp)
  have c2 : w1.cell? ⟨w.heap.size + 1, 1, none⟩ = some h' := R2b.cell 1 (by simp)
  clear hb1 hdec
  go_wp2_with fail
  refine (eqIntS_any h h' hi hi _ _ _ _ _ (HH.out.below HB1.out) (HH'.out.below HB1.out)).mono ?_
  rintro e w2 ⟨rfl, hb2⟩
  have hdec : decide (hi = hi) = true := by simp
  rw [hdec]
  have HB2 := hide (Below.step HB1.out hb2 (Nat.le_refl _))
  clear hb2 hdec c1 c2
  go_wp2_with fail
  go_ret
  exact ⟨rfl, HB2.out⟩
theorem szIntS_any (v : Value) (xs : List Int) (lo hi : Nat) (left : Int) (w : World) (h : IntsAt lo hi w v xs) (h1 : 0 ≤ left) (h2 : left ≤ 1048576) :
    Calls Tryz.prog 54 #[v, .int .i64 left] w fun e w' => e = .returned (.int .i64 (szI left xs.length)) ∧ w = w' := by
  have hl := h.len
  obtain ⟨ao, cap, rfl, hlc, hcap, hhi, hc⟩ := h
  have Hc := hide hc
  clear hc
  go_enter Tryz.func54, Tryz.ntmps54
  go_wp2
  all_goals
    go_ret
    refine ⟨?_, rfl⟩
    unfold szI
    first | (rw [if_pos (by omega)]; rfl) | (rw [if_neg (by omega)]; rfl)
theorem szI_no {left : Int} {n : Nat} (h : left < (n : Int)) : szI left n = -1 := by unfold szI; rw [if_pos (by omega)]
theorem szI_yes {left : Int} {n : Nat} (h : (n : Int) ≤ left) : szI left n = left - n := by unfold szI; rw [if_neg (by omega)]
theorem szPile_any (l h : Value) (lo hi : List Int) (left : Int) (w : World) (Hl : IntsAt 0 w.heap.size w l lo) (Hh : IntsAt 0 w.heap.size w h hi) (h1 : 0 ≤ left) (h2 : left ≤ 1048576) :
    Calls Tryz.prog 21 #[pileV l h, .int .i64 left] w fun e w' => e = .returned (.int .i64 (szI left (lo.length + hi.length))) ∧ Below w.heap.size w w' := by
  have HL := hide Hl
  have HH := hide Hh
  unfold pileV
  clear Hl Hh
  by_cases g1 : (lo.length : Int) ≤ left
  · by_cases g2 : ((lo.length + hi.length : Nat) : Int) ≤ left
    · rw [szI_yes g2]
      go_enter Tryz.func21, Tryz.ntmps21
      go_wp2_with fail
      refine (szIntS_any l lo _ _ left _ (HL.out.below ((Below.refl _ _).alloc (Nat.le_refl _) _)) h1 h2).mono ?_
      rw [szI_yes g1]
      rintro e w1 ⟨rfl, rfl⟩
      go_wp2_with fail
      refine (szIntS_any h hi _ _ (left - lo.length) _ (HH.out.below ((Below.refl _ _).alloc (Nat.le_refl _) _)) (by omega) (by omega)).mono ?_
      rw [szI_yes (show (hi.length : Int) ≤ left - lo.length by omega)]
      rintro e w1 ⟨rfl, rfl⟩
      go_wp2_with fail
      go_ret
      exact ⟨by rw [Int.natCast_add, ← Int.sub_sub]; rfl, by go_grown⟩
    · rw [szI_no (by omega)]
      go_enter Tryz.func21, Tryz.ntmps21
      go_wp2_with fail
      refine (szIntS_any l lo _ _ left _ (HL.out.below ((Below.refl _ _).alloc (Nat.le_refl _) _)) h1 h2).mono ?_
      rw [szI_yes g1]
      rintro e w1 ⟨rfl, rfl⟩
      go_wp2_with fail
      refine (szIntS_any h hi _ _ (left - lo.length) _ (HH.out.below ((Below.refl _ _).alloc (Nat.le_refl _) _)) (by omega) (by omega)).mono ?_
      rw [szI_no (by omega)]
      rintro e w1 ⟨rfl, rfl⟩
      go_wp2_with fail
      go_ret
      exact ⟨rfl, by go_grown⟩
  · rw [szI_no (by omega)]
    go_enter Tryz.func21, Tryz.ntmps21
    go_wp2_with fail
    refine (szIntS_any l lo _ _ left _ (HL.out.below ((Below.refl _ _).alloc (Nat.le_refl _) _)) h1 h2).mono ?_
    rw [szI_no (by omega)]
    rintro e w1 ⟨rfl, rfl⟩
    go_wp2_with fail
    go_ret
    exact ⟨rfl, by go_grown⟩
/-- How many elements a mill has. -/
def sizeM (m : Mi) : Nat := m.store.length + m.pieces.length + (m.low.length + m.high.length)
set_option maxRecDepth 10000 in
theorem szMill_any (s p l h : Value) (m : Mi) (left : Int) (w : World) (H : MillIn 0 w.heap.size w s p l h m) (h1 : 0 ≤ left) (h2 : left ≤ 1048576) :
    Calls Tryz.prog 5 #[millV s p l h m, .int .i64 left] w fun e w' => e = .returned (.int .i64 (szI left (sizeM m))) ∧ Below w.heap.size w w' := by
  have VS := hide H.store
  have VP := hide H.pieces
  have VL := hide H.low
  have VH := hide H.high
  clear H
  unfold millV
  have hc : (¬ (m.store.length : Int) ≤ left) ∨ ((m.store.length : Int) ≤ left ∧ ¬ (m.pieces.length : Int) ≤ left - m.store.length) ∨ ((m.store.length : Int) ≤ left ∧ (m.pieces.length : Int) ≤ left - m.store.length ∧ ¬ ((m.low.length + m.high.length : Nat) : Int) ≤ left - m.store.length - m.pieces.length) ∨
      ((m.store.length : Int) ≤ left ∧ (m.pieces.length : Int) ≤ left - m.store.length ∧ ((m.low.length + m.high.length : Nat) : Int) ≤ left - m.store.length - m.pieces.length) := by omega
  have e : szI left (sizeM m) = if (m.store.length : Int) ≤ left ∧ (m.pieces.length : Int) ≤ left - m.store.length ∧ ((m.low.length + m.high.length : Nat) : Int) ≤ left - m.store.length - m.pieces.length then left - m.store.length - m.pieces.length - (m.low.length + m.high.length : Nat) else -1 := by
    unfold szI sizeM
    split <;> split <;> omega
  rw [e]
  rcases hc with g1 | ⟨g1, g2⟩ | ⟨g1, g2, g3⟩ | ⟨g1, g2, g3⟩
  · rw [if_neg (fun h => g1 h.1)]
    go_enter Tryz.func5, Tryz.ntmps5
    go_wp2_with fail
    refine (szStuffS_any s m.store _ _ left _ (VS.out.below ((Below.refl _ _).alloc (Nat.le_refl _) _)) h1 h2).mono ?_
    rw [szI_no (by omega)]
    rintro e w1 ⟨rfl, rfl⟩
    go_wp2_with fail
    go_ret
    exact ⟨rfl, by go_grown⟩
  · rw [if_neg (fun h => g2 h.2.1)]
    go_enter Tryz.func5, Tryz.ntmps5
    go_wp2_with fail
    refine (szStuffS_any s m.store _ _ left _ (VS.out.below ((Below.refl _ _).alloc (Nat.le_refl _) _)) h1 h2).mono ?_
    rw [szI_yes g1]
    rintro e w1 ⟨rfl, rfl⟩
    go_wp2_with fail
    refine (szPieceS_any p m.pieces _ _ (left - m.store.length) _ (VP.out.below ((Below.refl _ _).alloc (Nat.le_refl _) _)) (by omega) (by omega)).mono ?_
    rw [szI_no (by omega)]
    rintro e w1 ⟨rfl, rfl⟩
    go_wp2_with fail
    go_ret
    exact ⟨rfl, by go_grown⟩
  · rw [if_neg (fun h => g3 h.2.2)]
    go_enter Tryz.func5, Tryz.ntmps5
    go_wp2_with fail
    refine (szStuffS_any s m.store _ _ left _ (VS.out.below ((Below.refl _ _).alloc (Nat.le_refl _) _)) h1 h2).mono ?_
    rw [szI_yes g1]
    rintro e w1 ⟨rfl, rfl⟩
    go_wp2_with fail
    refine (szPieceS_any p m.pieces _ _ (left - m.store.length) _ (VP.out.below ((Below.refl _ _).alloc (Nat.le_refl _) _)) (by omega) (by omega)).mono ?_
    rw [szI_yes g2]
    rintro e w1 ⟨rfl, rfl⟩
    go_wp2_with fail
    refine calls_at fun wx hwx => ?_
    have hb0 : Below w.heap.size w wx := by rw [hwx]; go_grown
    clear hwx
    refine (szPile_any l h m.low m.high (left - m.store.length - m.pieces.length) _ ((VL.out.below hb0).mono (Nat.le_refl _) hb0.size (Nat.le_refl _)) ((VH.out.below hb0).mono (Nat.le_refl _) hb0.size (Nat.le_refl _)) (by omega) (by omega)).mono ?_
    rw [szI_no (by omega)]
    rintro e w1 ⟨rfl, hb1⟩
    have HB1 := hide (Below.step hb0 hb1 (Nat.le_refl _))
    clear hb1
    go_wp2_with fail
    go_ret
    exact ⟨rfl, HB1.out⟩
  · rw [if_pos ⟨g1, g2, g3⟩]
    go_enter Tryz.func5, Tryz.ntmps5
    go_wp2_with fail
    refine (szStuffS_any s m.store _ _ left _ (VS.out.below ((Below.refl _ _).alloc (Nat.le_refl _) _)) h1 h2).mono ?_
    rw [szI_yes g1]
    rintro e w1 ⟨rfl, rfl⟩
    go_wp2_with fail
    refine (szPieceS_any p m.pieces _ _ (left - m.store.length) _ (VP.out.below ((Below.refl _ _).alloc (Nat.le_refl _) _)) (by omega) (by omega)).mono ?_
    rw [szI_yes g2]
    rintro e w1 ⟨rfl, rfl⟩
    go_wp2_with fail
    refine calls_at fun wx hwx => ?_
    have hb0 : Below w.heap.size w wx := by rw [hwx]; go_grown
    clear hwx
    refine (szPile_any l h m.low m.high (left - m.store.length - m.pieces.length) _ ((VL.out.below hb0).mono (Nat.le_refl _) hb0.size (Nat.le_refl _)) ((VH.out.below hb0).mono (Nat.le_refl _) hb0.size (Nat.le_refl _)) (by omega) (by omega)).mono ?_
    rw [szI_yes g3]
    rintro e w1 ⟨rfl, hb1⟩
    have HB1 := hide (Below.step hb0 hb1 (Nat.le_refl _))
    have hr : 0 ≤ left - m.store.length - m.pieces.length - (m.low.length + m.high.length : Nat) := by omega
    clear hb1
    go_wp2_with fail
    go_ret
    exact ⟨rfl, HB1.out⟩
end Go.Proofs.YtajjnciookhamaaGreat
