/-
  Parts of the proofs over mills, of: DrawMA, PileD, DrawMP, Has, MethA. Conditions: each theorem states its own.
-/
import Derived.Test.YtmemgbklgcjobaaGreatDoorB08
import Derived.Test.YtmemgbklgcjobaaGreatDoorB09
set_option linter.unusedSimpArgs false
set_option linter.unusedVariables false
set_option maxRecDepth 10000
namespace Go.Proofs.YtmemgbklgcjobaaGreatDoor
open Go.RowKit
theorem odd_none (R : Nat) (w : World) :
    Calls Tryz.prog 120 #[.pointer (some ⟨R, 0, none⟩), .int .i64 0] w fun e w' => e = .returned (.bool false) ∧ Below w.heap.size w w' := by
  go_enter Tryz.func120, Tryz.ntmps120
  go_wp2_with fail
  go_ret
  exact ⟨rfl, by go_grown⟩
set_option maxHeartbeats 800000 in
theorem l20Stuff_any (R k : Nat) (w : World) (h : Rd R k w) (hk : k ≤ 100000) :
    Calls Tryz.prog 178 #[.pointer (some ⟨R, 0, none⟩), .int .i64 0] w fun e w' => ∃ s : St, e = .returned (.agg #[.int .i64 s.c, .int .i64 s.m, .int .i64 s.s, .int .i64 s.p, .int .i64 s.k]) ∧ stB s = true ∧ Other R (R + 1) w w' ∧ Rd R (k + 5) w' := by
  have hlt := h.lt
  have HRx := hide h
  clear h
  go_enter Tryz.func178, Tryz.ntmps178
  go_wp2_with fail
  refine calls_at fun wx hwx => ?_
  have Z0 : RowL wx w.heap.size 65 [.int .i64 0, .int .i64 0, .int .i64 0, .int .i64 0, .int .i64 0] := by rw [hwx]; exact RowL.new _ _ _
  have hb : Below w.heap.size w wx := by rw [hwx]; go_grown
  have HO0 := hide (Other.of_below (lo := R) (hi := R + 1) hb)
  have HR0 := hide (HRx.out.keep hb hlt)
  have hz0 := hb.size
  have hZl := Z0.lt
  clear hwx hb
  refine (pick_in R _ 9 wx HR0.out (by omega) (by omega) (by omega)).mono ?_
  rintro e w1 ⟨a, rfl, aa, ab, ho, hr⟩
  have HO1 := hide (HO0.out.trans ho)
  have Z1 := Z0.other ho (by omega)
  have hz1 := ho.size
  have HR1 := hide hr
  clear ho hr
  go_wp2_with fail
  refine (pick_in R _ 7 w1 HR1.out (by omega) (by omega) (by omega)).mono ?_
  rintro e w2 ⟨b, rfl, ba, bb, ho, hr⟩
  have HO2 := hide (HO1.out.trans ho)
  have Z2 := Z1.other ho (by omega)
  have hz2 := ho.size
  have HR2 := hide hr
  clear ho hr
  go_wp2_with fail
  refine (pick_in R _ 5 w2 HR2.out (by omega) (by omega) (by omega)).mono ?_
  rintro e w3 ⟨c, rfl, ca, cb, ho, hr⟩
  have HO3 := hide (HO2.out.trans ho)
  have Z3 := Z2.other ho (by omega)
  have hz3 := ho.size
  have HR3 := hide hr
  clear ho hr
  go_wp2_with fail
  refine (pick_in R _ 30 w3 HR3.out (by omega) (by omega) (by omega)).mono ?_
  rintro e w4 ⟨d, rfl, da, db, ho, hr⟩
  have HO4 := hide (HO3.out.trans ho)
  have Z4 := Z3.other ho (by omega)
  have hz4 := ho.size
  have HR4 := hide hr
  clear ho hr
  go_wp2_with fail
  refine (pick_in R _ 10 w4 HR4.out (by omega) (by omega) (by omega)).mono ?_
  rintro e w5 ⟨g, rfl, ga, gb, ho, hr⟩
  have HO5 := hide (HO4.out.trans ho)
  have Z5 := Z4.other ho (by omega)
  have hz5 := ho.size
  have HR5 := hide hr
  clear ho hr
  go_wp2_with fail
  refine calls_at fun wy hwy => ?_
  have S0 : RowL wy w5.heap.size 65 [.int .i64 (a * 5), .int .i64 (b * 10), .int .i64 (c * 10), .int .i64 d, .int .i64 g] := by rw [hwy]; exact RowL.new _ _ _
  have hb : Below w5.heap.size w5 wy := by rw [hwy]; exact (Below.refl _ _).alloc (Nat.le_refl _) _
  have HOy := hide (HO5.out.step hb (by omega))
  have HRy := hide (HR5.out.keep hb (by omega))
  have Zy := Z5.below hb Z5.lt
  have hzy := hb.size
  clear hwy hb
  refine (odd_none R wy).mono ?_
  rintro e wz ⟨rfl, hb⟩
  have HOz := hide (HOy.out.step hb (by omega))
  have HRz := hide (HRy.out.keep hb (by omega))
  have Zz := Zy.below hb Zy.lt
  have Sz := S0.below hb S0.lt
  have hzz := hb.size
  clear hb
  have cS0 : wz.cell? ⟨w5.heap.size, 0, none⟩ = some (.int .i64 (a * 5)) := Sz.cell 0 (by simp)
  have cS1 : wz.cell? ⟨w5.heap.size, 1, none⟩ = some (.int .i64 (b * 10)) := Sz.cell 1 (by simp)
  have cS2 : wz.cell? ⟨w5.heap.size, 2, none⟩ = some (.int .i64 (c * 10)) := Sz.cell 2 (by simp)
  have cS3 : wz.cell? ⟨w5.heap.size, 3, none⟩ = some (.int .i64 d) := Sz.cell 3 (by simp)
  have cS4 : wz.cell? ⟨w5.heap.size, 4, none⟩ = some (.int .i64 g) := Sz.cell 4 (by simp)

  have cZ0 : wz.cell? ⟨w.heap.size, 0, none⟩ = some (.int .i64 0) := Zz.cell 0 (by simp)
  have fZ0 := Zz.frozen 0
  have cZ1 : wz.cell? ⟨w.heap.size, 1, none⟩ = some (.int .i64 0) := Zz.cell 1 (by simp)
  have fZ1 := Zz.frozen 1
  have cZ2 : wz.cell? ⟨w.heap.size, 2, none⟩ = some (.int .i64 0) := Zz.cell 2 (by simp)
  have fZ2 := Zz.frozen 2
  have cZ3 : wz.cell? ⟨w.heap.size, 3, none⟩ = some (.int .i64 0) := Zz.cell 3 (by simp)
  have fZ3 := Zz.frozen 3
  have cZ4 : wz.cell? ⟨w.heap.size, 4, none⟩ = some (.int .i64 0) := Zz.cell 4 (by simp)
  have fZ4 := Zz.frozen 4

  go_wp2_with fail
  refine bodyPost_ret (by simp [results, Tryz.results178, go_sem, cZ0, cZ1, cZ2, cZ3, cZ4]; try rfl) rfl ?_
  refine ⟨⟨a * 5, b * 10, c * 10, d, g⟩, rfl, stB_iff.2 ⟨by constructor <;> dsimp only <;> omega, by constructor <;> dsimp only <;> omega, by constructor <;> dsimp only <;> omega, by constructor <;> dsimp only <;> omega, by constructor <;> dsimp only <;> omega⟩, HOz.out.step (B := w.heap.size) (by go_grown) (Nat.le_refl _), HRz.out.keep (B := w.heap.size) (by go_grown) hlt⟩
def findV : Option (Bool × Int) → Value
  | none => .tuple #[.agg #[.bool false, .int .i64 0], .bool false]
  | some (t, p) => .tuple #[.agg #[.bool t, .int .i64 p], .bool true]
theorem idx_first : ∀ {l : List Int} {x : Int} {k : Nat} (hk : k < l.length), l[k] = x → (∀ j (_ : j < l.length), j < k → l[j] ≠ x) → l.idxOf x = k
  | [], _, k, hk, _, _ => absurd hk (Nat.not_lt_zero _)
  | a :: l, x, 0, _, h, _ => by
    have : a = x := h
    rw [this, List.idxOf_cons_self]
  | a :: l, x, k + 1, hk, h, hn => by
    have ha : (a == x) = false := by
      have := hn 0 (by simp) (by omega)
      simpa using this
    have := idx_first (l := l) (x := x) (k := k) (by simpa using hk) (by simpa using h) (fun j hj hjk => by
      have := hn (j + 1) (by simpa using hj) (by omega)
      simpa using this)
    rw [List.idxOf_cons, ha, cond_false, this]
theorem find_bad {lo hi : List Int} {id : Int} (h : pileB lo hi = false) : findR lo hi id = none := by simp [findR, h]
theorem find_low {lo hi : List Int} {id : Int} (h : id ≤ 0) : findR lo hi id = none := by
  unfold findR
  rw [if_neg (by simp; omega)]
theorem find_lo {lo hi : List Int} {id : Int} (hv : pileB lo hi = true) (h1 : 0 < id) {k : Nat} (hk : k < lo.length) (h : lo[k] = id) (hn : ∀ j (_ : j < lo.length), j < k → lo[j] ≠ id) : findR lo hi id = some (false, (k : Int)) := by
  unfold findR
  rw [if_pos (by rw [hv]; simp; omega), if_pos (hasI_iff.2 (by rw [← h]; exact List.getElem_mem _)), idx_first hk h hn]
theorem find_hi {lo hi : List Int} {id : Int} (hv : pileB lo hi = true) (h1 : 0 < id) {k : Nat} (hk : k < hi.length) (h : hi[k] = id) (hn : ∀ j (_ : j < hi.length), j < k → hi[j] ≠ id) : findR lo hi id = some (true, (k : Int)) := by
  have hm : id ∈ hi := by rw [← h]; exact List.getElem_mem _
  have := (take_hi (pileB_iff.1 hv) (id := id) (mem_nz.2 ⟨hm, by omega⟩)).1
  rw [this, idx_first hk h hn]
theorem find_no {lo hi : List Int} {id : Int} (h1 : ∀ j (_ : j < lo.length), lo[j] ≠ id) (h2 : ∀ j (_ : j < hi.length), hi[j] ≠ id) : findR lo hi id = none := by
  have n1 : id ∉ lo := fun hm => by obtain ⟨j, hj, e⟩ := List.getElem_of_mem hm; exact h1 j hj e
  have n2 : id ∉ hi := fun hm => by obtain ⟨j, hj, e⟩ := List.getElem_of_mem hm; exact h2 j hj e
  unfold findR
  split
  · rw [if_neg (by rw [hasI_iff]; exact n1), if_neg (by rw [hasI_iff]; exact n2)]
  · rfl
set_option maxHeartbeats 1600000 in
theorem find_spec (l h : Value) (lo hi : List Int) (id : Int) (w : World) (Hl : IntsAt 0 w.heap.size w l lo) (Hh : IntsAt 0 w.heap.size w h hi) :
    Calls Tryz.prog 118 #[pileV l h, .int .i64 id] w fun e w' => e = .returned (findV (findR lo hi id)) ∧ Below w.heap.size w w' := by
  have HL := hide Hl
  have HH := hide Hh
  have hl1 := Hl.len
  have hl2 := Hh.len
  obtain ⟨ao1, cap1, rfl, -, -, -, -⟩ := Hl
  obtain ⟨ao2, cap2, rfl, -, -, -, -⟩ := Hh
  have hP := fun W H1 H2 => pile_spec (.slice ao1 lo.length cap1) (.slice ao2 hi.length cap2) lo hi W H1 H2
  unfold pileV at hP ⊢
  have HP := hide hP
  clear hP
  go_enter Tryz.func118, Tryz.ntmps118
  go_wp2_with fail
  go_loopw [6] (fun i wr => ∃ k : Nat, k ≤ lo.length ∧ i = .int .i64 k ∧ Below w.heap.size w wr ∧ RowL wr w.heap.size 29 [.slice ao1 lo.length cap1, .slice ao2 hi.length cap2] ∧ RowL wr (w.heap.size + 1) 128 [.bool false, .int .i64 0] ∧
    (0 < k → 0 < id ∧ pileB lo hi = true) ∧ (∀ j (_ : j < lo.length), j < k → lo[j] ≠ id) ∧ (∀ j (_ : j < hi.length), j < k → hi[j] ≠ id)) (fun i _ => lo.length - (intOf i).toNat)
  case atStart =>
    refine ⟨0, Nat.zero_le _, rfl, by go_grown, (RowL.new _ _ _).alloc _, ?_, fun h => absurd h (Nat.lt_irrefl _), fun _ _ h => absurd h (Nat.not_lt_zero _), fun _ _ h => absurd h (Nat.not_lt_zero _)⟩
    simpa using RowL.new (w.alloc _) 128 [.bool false, .int .i64 0]
  case round =>
    obtain ⟨k, hk, rfl, hb, hr1, hr2, hpos, hlo, hhi⟩ := hrel
    have HB := hide hb
    have HR1 := hide hr1
    have HR2 := hide hr2
    have HPOS := hide hpos
    have HLO := hide hlo
    have HHI := hide hhi
    have hz2 := hr2.lt
    have hp0 := hr1.cell 0 (by simp)
    have hp1 := hr1.cell 1 (by simp)
    have hs0 := hr2.cell 0 (by simp)
    have hs1 := hr2.cell 1 (by simp)
    have hf0 := hr2.frozen 0
    have hf1 := hr2.frozen 1
    simp only [List.getD_cons_zero, List.getD_cons_succ] at hp0 hp1 hs0 hs1
    clear hb hr1 hr2 hpos hlo hhi
    by_cases hlt : k < lo.length
    · by_cases hid : 0 < id
      · have HLr := hide ((HL.out.below HB.out).mono (Nat.le_refl _) HB.out.size (Nat.le_refl _))
        have HHr := hide ((HH.out.below HB.out).mono (Nat.le_refl _) HB.out.size (Nat.le_refl _))
        cases hv : pileB lo hi with
        | false =>
          have HF := hide (find_bad (id := id) hv)
          go_wp2_with fail
          refine (HP.out wr HLr.out HHr.out).mono ?_
          rw [hv]
          rintro e w1 ⟨rfl, hb1⟩
          have RR := HR2.out.below hb1 HR2.out.lt
          have hs0 := RR.c 0 rfl
          have hs1 := RR.c 1 rfl
          have hf0 := RR.frozen 0
          have hf1 := RR.frozen 1
          have HB2 := hide (Below.step HB.out hb1 (Nat.le_refl _))
          clear hb1 hp0 hp1 RR hv
          go_wp2_with fail
          refine bodyPost_ret (by simp [results, Tryz.results118, go_sem, hs0, hs1]; try rfl) rfl ?_
          exact ⟨by rw [HF.out]; rfl, (HB2.out.setCell (by simp) _).setCell (by simp) _⟩
        | true =>
          obtain ⟨_, _, e1, -, -, -, hcl⟩ := HLr.out
          simp only [Value.slice.injEq] at e1
          obtain ⟨rfl, -, rfl⟩ := e1
          obtain ⟨b1, o1, rfl, -, hbl, hcs1⟩ := hcl (by omega)
          obtain ⟨r1, -⟩ := hcs1 k hlt
          have HV := hide hv
          have hkI : (k : Int) < (lo.length : Int) := by omega
          obtain ⟨x, hx⟩ : ∃ x, lo[k] = x := ⟨_, rfl⟩
          rw [hx] at r1
          have HX := hide hx
          clear hcl hcs1 hx
          go_wp2_with fail
          refine (HP.out wr HLr.out HHr.out).mono ?_
          rw [hv]
          rintro e w1 ⟨rfl, hb1⟩
          have RR := HR2.out.below hb1 HR2.out.lt
          have RP := HR1.out.below hb1 HR1.out.lt
          have HRR := hide RR
          have HRP := hide RP
          have hs0 := RR.c 0 rfl
          have hs1 := RR.c 1 rfl
          have hf0 := RR.frozen 0
          have hf1 := RR.frozen 1
          have hp0 := RP.cell 0 (by simp)
          have hp1 := RP.cell 1 (by simp)
          simp only [List.getD_cons_zero, List.getD_cons_succ] at hp0 hp1
          rw [← hb1.cell (p := ⟨b1, _, none⟩) (by simpa using hbl)] at r1
          have HB2 := hide (Below.step HB.out hb1 (Nat.le_refl _))
          have HHr2 := hide (HHr.out.below hb1)
          clear hb1 RR RP hv
          by_cases hq : x = id
          · have hqB : (x == id) = true := by simp [hq]
            have HF := hide (find_lo (hi := hi) HV.out hid hlt (by rw [HX.out]; exact hq) HLO.out)
            clear hq
            go_wp2_with fail
            refine bodyPost_ret (by simp [results, Tryz.results118, go_sem, hs0, hs1]; try rfl) rfl ?_
            exact ⟨by rw [HF.out]; rfl, (HB2.out.setCell (by simp) _).setCell (by simp) _⟩
          · have hqB : (x == id) = false := by simp [hq]
            have HQ := hide hq
            clear hq
            by_cases hlt2 : k < hi.length
            · obtain ⟨_, _, e2, -, -, -, hch⟩ := HHr2.out
              simp only [Value.slice.injEq] at e2
              obtain ⟨rfl, -, rfl⟩ := e2
              obtain ⟨b2, o2, rfl, -, -, hcs2⟩ := hch (by omega)
              obtain ⟨r2, -⟩ := hcs2 k hlt2
              obtain ⟨y, hy⟩ : ∃ y, hi[k] = y := ⟨_, rfl⟩
              rw [hy] at r2
              have HY := hide hy
              have hkI2 : (k : Int) < (hi.length : Int) := by omega
              clear hch hcs2 hy
              by_cases hq2 : y = id
              · have hqB2 : (y == id) = true := by simp [hq2]
                have HF := hide (find_hi (lo := lo) HV.out hid hlt2 (by rw [HY.out]; exact hq2) HHI.out)
                clear hq2
                go_wp2_with fail
                refine bodyPost_ret (by simp [results, Tryz.results118, go_sem, hs0, hs1]; try rfl) rfl ?_
                exact ⟨by rw [HF.out]; rfl, (HB2.out.setCell (by simp) _).setCell (by simp) _⟩
              · have hqB2 : (y == id) = false := by simp [hq2]
                have HQ2 := hide hq2
                clear hq2
                go_wp2_with fail
                go_roundw
                case rel =>
                  refine ⟨k + 1, by omega, by go_num, HB2.out, HRP.out, HRR.out, fun _ => ⟨hid, by first | trivial | exact HV.out⟩, fun j hj hjk => ?_, fun j hj hjk => ?_⟩
                  · rcases Nat.lt_or_ge j k with h | h
                    · exact HLO.out j hj h
                    · obtain rfl : j = k := by omega
                      rw [HX.out]; exact HQ.out
                  · rcases Nat.lt_or_ge j k with h | h
                    · exact HHI.out j hj h
                    · obtain rfl : j = k := by omega
                      rw [HY.out]; exact HQ2.out
                case measure => simp [intOf]; omega
            · have hkI2 : decide ((k : Int) < (hi.length : Int)) = false := by simp; omega
              go_wp2_with fail
              go_roundw
              case rel =>
                refine ⟨k + 1, by omega, by go_num, HB2.out, HRP.out, HRR.out, fun _ => ⟨hid, by first | trivial | exact HV.out⟩, fun j hj hjk => ?_, fun j hj hjk => HHI.out j hj (by omega)⟩
                rcases Nat.lt_or_ge j k with h | h
                · exact HLO.out j hj h
                · obtain rfl : j = k := by omega
                  rw [HX.out]; exact HQ.out
              case measure => simp [intOf]; omega
      · have hidB : decide (0 < id) = false := by simp; omega
        have HF := hide (find_low (lo := lo) (hi := hi) (show id ≤ 0 by omega))
        clear hid
        go_wp2_with fail
        refine bodyPost_ret (by simp [results, Tryz.results118, go_sem, hs0, hs1]; try rfl) rfl ?_
        exact ⟨by rw [HF.out]; rfl, (HB.out.setCell (by simp) _).setCell (by simp) _⟩
    · obtain rfl : k = lo.length := by omega
      have hkB : decide ((lo.length : Int) < (lo.length : Int)) = false := by simp
      have hF : findR lo hi id = none := by
        cases hv : pileB lo hi with
        | false => exact find_bad hv
        | true =>
          have := (pileB_iff.1 hv).lh
          exact find_no (fun j hj => HLO.out j hj hj) (fun j hj => HHI.out j hj (by omega))
      have HF := hide hF
      clear hF
      go_wp2_with fail
      refine bodyPost_ret (by simp [results, Tryz.results118, go_sem, hs0, hs1]; try rfl) rfl ?_
      exact ⟨by rw [HF.out]; rfl, (HB.out.setCell (by simp) _).setCell (by simp) _⟩
theorem do_small {m : Mi} {d : J} (h : (doR m d).2 = true) : (doR m d).1.pieces.length ≤ 30 ∧ (doR m d).1.low.length ≤ 6 := by
  cases hv : millB m
  · rw [do_bad hv] at h; cases h
  · have hx := millB_iff.1 (do_law hv h).2.1
    exact ⟨hx.len, hx.pile.l6⟩
structure Few (m : Mi) : Prop where
  p : m.pieces.length ≤ 40
  l : m.low.length ≤ 10
structure Tight (m : Mi) : Prop where
  p : m.pieces.length ≤ 30
  l : m.low.length ≤ 6
theorem Tight.few {m : Mi} (h : Tight m) : Few m := ⟨by have := h.p; omega, by have := h.l; omega⟩
theorem tight_do {m : Mi} {d : J} (h : (doR m d).2 = true) : Tight (doR m d).1 := by
  obtain ⟨h1, h2⟩ := do_small h
  exact ⟨h1, h2⟩
set_option maxHeartbeats 1600000 in
theorem state_any (s p l h : Value) (m : Mi) (id st : Int) (w : World) (HM : MillIn 0 w.heap.size w s p l h m) (hl : m.pieces.length ≤ 1000000) :
    Calls Tryz.prog 114 #[millV s p l h m, .int .i64 id, .int .i64 st] w fun e w' => e = .returned (.bool (hasB m id st)) ∧ Below w.heap.size w w' := by
  have hp := HM.pieces
  have HP := hide hp
  have hp2 := hp
  have HMM := hide HM
  clear HM
  unfold millV
  obtain ⟨ap, cp, rfl, -, -, -, -⟩ := hp2
  clear hp
  have hW := fun W => l1In_any id 1 (m.pieces.length : Int) W
  by_cases hi : wi id 1 (m.pieces.length : Int) = true
  · have HI := hide hi
    rw [hi] at hW
    obtain ⟨h1, h2⟩ := wi_iff.1 hi
    obtain ⟨k, rfl⟩ : ∃ k : Nat, id = k + 1 := ⟨(id - 1).toNat, by omega⟩
    have hk : k < m.pieces.length := by omega
    obtain ⟨b2, o, cp2, e, -, hb2, c0, c1⟩ := pc_at HP.out hk
    cases e
    have hsub : IntKind.i64.wrap ((k : Int) + 1 - 1) = (k : Int) := by rw [show (k : Int) + 1 - 1 = (k : Int) by omega]; exact IntWalk.i64_in _ (by omega)
    have hkI : (k : Int) < (m.pieces.length : Int) := by omega
    have HW := hide hW
    clear hW hi
    go_enter Tryz.func114, Tryz.ntmps114
    have hj0 : (0 : Int) ≤ (k : Int) := by omega
    go_wp2_with fail
    refine (HW.out _).mono ?_
    rintro e w1 ⟨rfl, rfl⟩
    go_wp2_with fail
    go_ret
    have hg : hasB m ((k : Int) + 1) st = (m.pieces[k].s == st) := by
      have : ((k : Int) + 1 - 1).toNat = k := by omega
      simp [hasB, HI.out, hk]
    exact ⟨by simp [hg], by go_grown⟩
  · have hi' : wi id 1 (m.pieces.length : Int) = false := by simpa using hi
    rw [hi'] at hW
    have HI := hide hi'
    have HW := hide hW
    clear hW hi hi'
    go_enter Tryz.func114, Tryz.ntmps114
    go_wp2_with fail
    refine (HW.out _).mono ?_
    rintro e w1 ⟨rfl, rfl⟩
    go_wp2_with fail
    go_ret
    exact ⟨by simp [hasB, HI.out], by go_grown⟩
def SpecGot (base : Nat) (p : Value) (x : Mi × Bool) (w : World) (e : Ending) (w' : World) : Prop :=
  DoGot base x w e w' ∧ ∀ B T vs, RowL w B T vs → p.ownBlock ≠ some B → RowL w' B T vs
def orOld (m : Mi) (o : Option Mi) : Mi × Bool := match o with | none => (m, false) | some x => (x, true)
theorem melt_no1 {m : Mi} {t : Int} (h : m.strand ≠ 0) : meltD m t = none := by simp [meltD, h]
theorem melt_no2 {m : Mi} {t : Int} (h : mixBest m.store m.rule t = none) : meltD m t = none := by simp [meltD, h]
theorem melt_yes {m : Mi} {t : Int} {mix : List Int} (h1 : m.strand = 0) (h2 : mixBest m.store m.rule t = some mix) : meltD m t = some { m with store := takeM m.store mix, strand := 4 * t } := by simp [meltD, h1, h2]
end Go.Proofs.YtmemgbklgcjobaaGreatDoor
