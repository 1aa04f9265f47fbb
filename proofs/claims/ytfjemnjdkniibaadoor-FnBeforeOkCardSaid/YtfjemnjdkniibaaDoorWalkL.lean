/-
  The walks over the program's BeforeBest and awaited.
-/
import Derived.Test.YtfjemnjdkniibaaDoorWalkK
namespace Go.Proofs.YtfjemnjdkniibaaDoor
open Go.RowKit

def waitB (bs : List Int) (f : Nat → Bool) (x : Int) (j : Nat) : Bool := (bs.getD j 0 != x) || f j
theorem waitB_at {bs : List Int} {f : Nat → Bool} {x : Int} {j : Nat} (hj : j < bs.length) : waitB bs f x j = ((bs[j] != x) || f j) := by simp [waitB, hj]

set_option maxHeartbeats 400000 in
theorem awaited_any (v : Value) (bs : List Int) (lo hi : Nat) (g n : Nat) (f : Nat → Bool) (x : Int) (w : World) (h : IntsAt lo hi w v bs) (hr : w.rowIs g 4 n (fun i => .bool (f i))) (hn : bs.length ≤ n) (hn2 : n ≤ 2097152) :
    Calls Tryd.prog 86 #[v, .slice (some ⟨g, 0, none⟩) n n, .int .i64 x] w fun e w' => e = .returned (.bool (!upTo bs.length (waitB bs f x))) ∧ w = w' := by
  obtain ⟨ao, cap, rfl, hlc, hcap, hhi, hc⟩ := h
  have Hc := hide hc
  have Hr := hide hr
  clear hc hr
  go_enter Tryd.func86, Tryd.ntmps86
  go_wp2_with fail
  go_loop [11] (fun i => ∃ k : Nat, k ≤ bs.length ∧ i = .int .i64 k ∧ (∀ j, j < k → waitB bs f x j = true)) (fun i => bs.length - (intOf i).toNat)
  case atStart => exact ⟨0, Nat.zero_le _, rfl, fun _ h => absurd h (Nat.not_lt_zero _)⟩
  case round =>
    obtain ⟨k, hk, rfl, hall⟩ := hrel
    have Ha := hide hall
    clear hall
    by_cases hlt : k < bs.length
    · obtain ⟨b, o, rfl, hb1, hb2, hcs⟩ := Hc.out (by omega)
      obtain ⟨h1, -⟩ := hcs k hlt
      have hg := Hr.out.cell (i := k) (by omega)
      clear hcs
      have HW := hide (waitB_at (f := f) (x := x) hlt)
      have hkn : (k : Int) < (n : Int) := by omega
      by_cases hq : bs[k] = x
      · have hqB : (bs[k] == x) = true := by simp [hq]
        have hqn : (bs[k] != x) = false := by simp [hq]
        cases hf : f k with
        | true =>
          rw [hf] at hg
          have HT := hide (show waitB bs f x k = true by rw [HW.out, hf]; simp)
          clear hq
          go_wp2_with fail
          go_round
          case rel => exact ⟨k + 1, by omega, by go_num, upTo_snoc Ha.out HT.out⟩
          case measure => simp [intOf]; omega
        | false =>
          rw [hf] at hg
          have HF := hide (upTo_false hlt (show waitB bs f x k = false by rw [HW.out, hf, hqn]; rfl))
          clear hq hqn
          go_wp2_with fail
          go_ret
          exact ⟨by rw [HF.out]; rfl, rfl⟩
      · have hqB : (bs[k] == x) = false := by simp [hq]
        have HT := hide (show waitB bs f x k = true by rw [HW.out]; simp [hq])
        clear hq
        go_wp2_with fail
        go_round
        case rel => exact ⟨k + 1, by omega, by go_num, upTo_snoc Ha.out HT.out⟩
        case measure => simp [intOf]; omega
    · have HT := hide (upTo_true (n := bs.length) (p := waitB bs f x) fun j hj => Ha.out j (by omega))
      go_wp2_with fail
      go_ret
      exact ⟨by rw [HT.out]; rfl, rfl⟩

theorem freeTo_wait (bs out : List Int) (k n : Nat) : freeTo bs out k n = (!hasI out k && upTo n (waitB bs (fun j => hasI out j) k)) := rfl

theorem place_set (q : Nat) (out : List Int) (x : Int) (j : Nat) : (List.replicate q 0 ++ x :: out).getD j 0 = if j = q then x else (List.replicate (q + 1) 0 ++ out).getD j 0 := by
  simp only [List.getD, List.getElem?_append, List.length_replicate, List.getElem?_replicate]
  by_cases h1 : j = q
  · subst h1; simp
  · rw [if_neg h1]
    by_cases h2 : j < q
    · have : j < q + 1 := by omega
      simp [h2, this]
    · have : ¬ j < q + 1 := by omega
      rw [if_neg h2, if_neg this]
      obtain ⟨d, rfl⟩ : ∃ d, j = q + 1 + d := ⟨j - (q + 1), by omega⟩
      rw [show q + 1 + d - q = d + 1 by omega, show q + 1 + d - (q + 1) = d by omega]
      simp

set_option maxHeartbeats 1600000 in
theorem beforeBest_impl_ok (v : Value) (js : List J) (lo hi : Nat) (v1 : Value) (bs : List Int) (lo1 hi1 : Nat) (w : World) (h : JobsAt lo hi w v js) (h1 : IntsAt lo1 hi1 w v1 bs) (hv : bfB js bs = true) :
    Calls Tryd.prog 43 #[v, v1] w fun e w' => ∃ r, e = .returned r ∧ IntsAt w.heap.size w'.heap.size w' r (bbTo js bs js.length) ∧ Below w.heap.size w w' := by
  have hl := jsvB_len (bfB_jsv hv)
  have hbl := bfB_len hv
  have Hbl := hide hbl
  obtain ⟨ao, cap, rfl, hlc, hcap, hhi, hc⟩ := id h
  obtain ⟨ao1, cap1, rfl, hlc1, hcap1, hhi1, hc1⟩ := id h1
  have Hc := hide hc
  have HH := hide h
  have HH1 := hide h1
  have HV := hide hv
  clear hc hc1 h h1 hv hbl
  have hmk := fun W => make_rowN (P := Tryd.prog) 36 3 _ _ _ Tryd.underlying36 info_int .i64 .i64 js.length (by omega) (by omega) W
  have hmk2 := fun W => make_rowN (P := Tryd.prog) 63 4 _ _ _ Tryd.underlying63 info_bool .i64 .i64 js.length (by omega) (by omega) W
  go_enter Tryd.func43, Tryd.ntmps43
  go_wp2_with fail
  refine (before_impl _ js _ _ _ bs _ _ _ HH.out HH1.out).mono ?_
  rw [HV.out]
  rintro e w1 ⟨rfl, hb1⟩
  have hz1 := hb1.size
  go_wp2_with fail
  clear hmk hmk2
  go_loopw [7] (fun i wr => ∃ p : Nat, p ≤ js.length ∧ i = .int .i64 ((p : Int) - 1) ∧ Below w.heap.size w wr ∧ wr.rowIs w1.heap.size 3 js.length (fun j => .int .i64 ((List.replicate p 0 ++ bbTo js bs (js.length - p)).getD j 0)) ∧ wr.rowIs (w1.heap.size + 1) 4 js.length (fun j => .bool (hasI (bbTo js bs (js.length - p)) j))) (fun i _ => (intOf i + 1).toNat)
  case atStart =>
    refine ⟨js.length, Nat.le_refl _, rfl, (hb1.alloc hz1 _).alloc (by simp; omega) _, ?_, ?_⟩
    · have := (World.rowIs_made w1 (.int .i64 0) js.length 3).alloc (.cells (madeCells #[.bool false] js.length) 4)
      exact this.congr fun i hi => by simp [bbTo, hi]
    · have := World.rowIs_made (w1.alloc (.cells (madeCells #[.int .i64 0] js.length) 3)) (.bool false) js.length 4
      rw [World.size_alloc] at this
      exact this.congr fun i hi => by simp [bbTo, hasI]
  case round =>
    obtain ⟨p, hp, rfl, hb, hrow1, hrow2⟩ := hrel
    obtain ⟨wo, rfl⟩ : ∃ wo : World, wo = wr := ⟨_, rfl⟩
    have Hr1 := hide hrow1
    have Hr2 := hide hrow2
    have hz2 : w1.heap.size + 1 < wo.heap.size := hrow2.lt
    clear hrow1 hrow2
    by_cases hp0 : p = 0
    · subst hp0
      go_wp2_with fail
      go_ret
      refine ⟨_, rfl, ?_, hb⟩
      have hlen := bbTo_len js bs js.length
      have hat := IntsAt.of_row (xs := bbTo js bs js.length) Hr1.out (by omega) (by omega) (fun i hi => by simp [hi]) hz1
      rw [hlen] at hat
      exact hat
    · obtain ⟨q, rfl⟩ : ∃ q, p = q + 1 := ⟨p - 1, by omega⟩
      have e0 : ((q + 1 : Nat) : Int) - 1 = q := by omega
      rw [e0]
      obtain ⟨m, hm⟩ : ∃ m, js.length - (q + 1) = m := ⟨_, rfl⟩
      have hm1 : js.length - q = m + 1 := by omega
      have hml : m < js.length := by omega
      rw [hm] at Hr1 Hr2
      have Hm1 := hide hm1
      clear hm e0 hp0 hm1
      go_wp2_with fail
      go_loopw [8, 30] (fun b i wx => ∃ k : Nat, k ≤ js.length ∧ i = .int .i64 k ∧ b = .int .i64 (selTo js bs (bbTo js bs m) k) ∧ Below wo.heap.size wo wx) (fun _ i _ => js.length - (intOf i).toNat)
      case atStart => exact ⟨0, Nat.zero_le _, rfl, rfl, Below.refl _ _⟩
      case round =>
        obtain ⟨k, hk, rfl, hb7, hbx⟩ := hrel
        obtain ⟨z, hz⟩ : ∃ z, selTo js bs (bbTo js bs m) k = z := ⟨_, rfl⟩
        rw [hz] at hb7
        subst hb7
        have Hz := hide hz
        clear hz
        have hb0 : Below w.heap.size w wr := Below.step hb hbx (Nat.le_refl _)
        have Hr2x := hide (rowIs_below Hr2.out hbx hz2)
        have Hr1x := hide (rowIs_below Hr1.out hbx (by omega))
        by_cases hlk : k < js.length
        · obtain ⟨b, o, rfl, hx1, hx2, hcs⟩ := Hc.out (by omega)
          obtain ⟨⟨p1, p2, p3⟩, -⟩ := hcs k hlk
          rw [← hb0.cell (p := ⟨b, _, none⟩) (by simpa using by omega)] at p1 p2 p3
          have hkI : (k : Int) < (js.length : Int) := by omega
          have Hcs := hide hcs
          have hg := Hr2x.out.cell (i := k) hlk
          have hs0 := hb0.size
          have hsx := hbx.size
          have hzr : w1.heap.size + 1 < wr.heap.size := by omega
          clear hcs
          obtain ⟨W, hW⟩ : ∃ W, W = wr.alloc (.cells #[.int .i64 js[k].s, .int .i64 js[k].d, .int .i64 js[k].g] 24) := ⟨_, rfl⟩
          have hbW : Below wo.heap.size wo W := by rw [hW]; exact hbx.alloc hsx _
          have hWd : W.cell? ⟨wr.heap.size, 1, none⟩ = some (.int .i64 js[k].d) := by rw [hW]; simp [go_sem]
          have hrW : W.rowIs (w1.heap.size + 1) 4 js.length (fun j => .bool (hasI (bbTo js bs m) j)) := by rw [hW]; exact Hr2x.out.alloc _
          have HrW := hide hrW
          have hcW : ∀ (b o : Nat), b < w.heap.size → W.cell? ⟨b, o, none⟩ = w.cell? ⟨b, o, none⟩ := fun b o hb' => by
            have := (hb0.alloc hs0 (.cells #[.int .i64 js[k].s, .int .i64 js[k].d, .int .i64 js[k].g] 24))
            rw [hW]; exact this.cell (p := ⟨b, o, none⟩) hb'
          have HcW := hide hcW
          have HAt := hide (show IntsAt lo1 hi1 W (.slice ao1 bs.length cap1) bs by
            refine IntsAt.keep HH1.out (Keeps.of_below (B := w.heap.size) ?_ hhi1) (by rw [hW]; simp; omega)
            rw [hW]; exact hb0.alloc hs0 _)
          have hgW := HrW.out.cell (i := k) hlk
          clear hrW hcW
          have hfd : freeTo bs (bbTo js bs m) k js.length = (!hasI (bbTo js bs m) k && upTo bs.length (waitB bs (fun j => hasI (bbTo js bs m) j) k)) := by rw [freeTo_wait, Hbl.out]
          have Hfd := hide hfd
          clear hfd
          cases hh : hasI (bbTo js bs m) k with
          | true =>
            rw [hh] at hg hgW
            have HN := hide (show selTo js bs (bbTo js bs m) (k + 1) = z by
              have hfr : freeTo bs (bbTo js bs m) k js.length = false := by rw [Hfd.out, hh]; rfl
              simp only [selTo, hfr, Bool.false_and, Bool.false_eq_true, if_false]; exact Hz.out)
            have HW := hide hW
            clear hW
            clear hgW hWd
            go_wp2_with fail
            go_roundw
            case rel => exact ⟨k + 1, by omega, by go_num, by rw [HN.out], hbx.alloc hsx _⟩
            case measure => simp [intOf]; omega
          | false =>
            rw [hh] at hg hgW
            have HW := hide hW
            clear hW
            go_wp2_with fail
            rw [← HW.out]
            refine (awaited_any _ bs _ _ _ _ _ _ _ HAt.out HrW.out (by rw [Hbl.out]; omega) (by omega)).mono ?_
            cases hu : upTo bs.length (waitB bs (fun j => hasI (bbTo js bs m) j) k) with
            | false =>
              have HN := hide (show selTo js bs (bbTo js bs m) (k + 1) = z by
                have hfr : freeTo bs (bbTo js bs m) k js.length = false := by rw [Hfd.out, hh, hu]; rfl
                simp only [selTo, hfr, Bool.false_and, Bool.false_eq_true, if_false]; exact Hz.out)
              rintro e W' ⟨rfl, rfl⟩
              clear hu hh
              go_wp2_with fail
              go_roundw
              case rel => exact ⟨k + 1, by omega, by go_num, by rw [HN.out], hbW⟩
              case measure => simp [intOf]; omega
            | true =>
              have hfr : freeTo bs (bbTo js bs m) k js.length = true := by rw [Hfd.out, hh, hu]; rfl
              rintro e W' ⟨rfl, rfl⟩
              have hcase := selTo_cases js bs (bbTo js bs m) k
              rw [Hz.out] at hcase
              rcases hcase with rfl | ⟨x, rfl, hxk, -⟩
              · have HN := hide (show selTo js bs (bbTo js bs m) (k + 1) = k by simp only [selTo, hfr, Hz.out]; simp)
                clear hfr hu hh
                go_wp2_with fail
                go_quiet (fail)
                go_wp2_with fail
                go_roundw
                case rel => exact ⟨k + 1, by omega, by go_num, by rw [HN.out], below_drewN hbW _⟩
                case measure => simp [intOf]; omega
              · obtain ⟨⟨s1, s2, s3⟩, -⟩ := Hcs.out x (by omega)
                rw [← HcW.out b _ (by omega)] at s2
                clear s1 s3
                have hxI : (x : Int) < (js.length : Int) := by omega
                have hx0 : decide ((x : Int) < 0) = false := by simp
                have hxl : x < js.length := by omega
                by_cases hq : js[x].d ≤ js[k].d
                · have hqB : decide (js[x].d ≤ js[k].d) = true := by simp [hq]
                  have HN := hide (show selTo js bs (bbTo js bs m) (k + 1) = k by simp [selTo, hfr, Hz.out, hlk, hxl, hq])
                  clear hfr hu hh
                  go_wp2_with fail
                  go_quiet (fail)
                  go_wp2_with fail
                  go_roundw
                  case rel => exact ⟨k + 1, by omega, by go_num, by rw [HN.out], below_drewN hbW _⟩
                  case measure => simp [intOf]; omega
                · have hqB : decide (js[x].d ≤ js[k].d) = false := by simp only [decide_eq_false_iff_not]; exact hq
                  have HN := hide (show selTo js bs (bbTo js bs m) (k + 1) = x by simp [selTo, hfr, Hz.out, hlk, hxl, hq]; omega)
                  clear hq hfr hu hh
                  go_wp2_with fail
                  go_quiet (fail)
                  go_wp2_with fail
                  go_roundw
                  case rel => exact ⟨k + 1, by omega, by go_num, by rw [HN.out], below_drewN hbW _⟩
                  case measure => simp [intOf]; omega
        · obtain rfl : k = js.length := by omega
          obtain ⟨x, hx, hxl, -⟩ := sel_ok HV.out hml
          have hzx := Hz.out.symm.trans hx
          subst hzx
          have HBB := hide (show bbTo js bs (js.length - q) = (x : Int) :: bbTo js bs m by rw [Hm1.out]; simp only [bbTo]; rw [hx])
          have g1 := Hr1x.out.cell (i := q) (by omega)
          have g2 := Hr2x.out.cell (i := x) hxl
          have f1 := Hr1x.out.frozen q
          have f2 := Hr2x.out.frozen x
          have hqI : (q : Int) < (js.length : Int) := by omega
          have hxI : (x : Int) < (js.length : Int) := by omega
          clear hx
          go_wp2_with fail
          go_roundw
          case rel =>
            refine ⟨q, by omega, rfl, (hb0.setCell hz1 _).setCell (by simp; omega) _, ?_, ?_⟩
            · refine ((Hr1x.out.set q _).setOther (by simp) _).congr fun i hi => ?_
              rw [HBB.out, place_set]
              by_cases e : i = q
              · simp [e]
              · simp [e]
            · refine ((Hr2x.out.setOther (by simp) _).set x _).congr fun i hi => ?_
              rw [HBB.out]
              by_cases e : i = x
              · subst e; simp [hasI]
              · have : ((x : Int) == (i : Int)) = false := by rw [beq_eq_false_iff_ne]; omega
                simp [e, hasI, this]
          case measure => simp [intOf]

theorem beforeBest_impl (v : Value) (js : List J) (lo hi : Nat) (v1 : Value) (bs : List Int) (lo1 hi1 : Nat) (w : World) (h : JobsAt lo hi w v js) (h1 : IntsAt lo1 hi1 w v1 bs) :
    Calls Tryd.prog 43 #[v, v1] w fun e w' => ∃ r, e = .returned r ∧ IntsAt w.heap.size w'.heap.size w' r (bbR js bs) ∧ Below w.heap.size w w' := by
  cases hv : bfB js bs with
  | true =>
    have e : bbR js bs = bbTo js bs js.length := by simp [bbR, hv]
    rw [e]
    exact beforeBest_impl_ok v js lo hi v1 bs lo1 hi1 w h h1 hv
  | false =>
    have e : bbR js bs = [] := by simp [bbR, hv]
    rw [e]
    clear e
    go_enter Tryd.func43, Tryd.ntmps43
    go_wp2_with fail
    refine (before_impl _ js _ _ _ bs _ _ _ h h1).mono ?_
    rw [hv]
    rintro e w1 ⟨rfl, hb1⟩
    go_wp2_with fail
    go_ret
    exact ⟨_, rfl, IntsAt.nil _ _ _, hb1⟩
end Go.Proofs.YtfjemnjdkniibaaDoor
