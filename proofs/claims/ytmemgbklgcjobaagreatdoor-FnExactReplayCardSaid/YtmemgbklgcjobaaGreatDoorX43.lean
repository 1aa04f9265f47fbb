/-
  Parts of the proofs over mills, of: TextE. Conditions: each theorem states its own.
-/
import Derived.Test.YtmemgbklgcjobaaGreatDoorX33
import Derived.Test.YtmemgbklgcjobaaGreatDoorX42
set_option linter.unusedSimpArgs false
set_option linter.unusedVariables false
set_option maxRecDepth 10000
namespace Go.Proofs.YtmemgbklgcjobaaGreatDoor
open Go.RowKit
structure RdSt (w0 w : World) (r D g : Nat) (xs : List ByteArray) (k o t : Int) : Prop where
  r0 : w.cell? ⟨r, 0, none⟩ = some (.int .i64 0)
  r1 : w.cell? ⟨r, 1, none⟩ = some (.int .i64 0)
  r2 : w.cell? ⟨r, 2, none⟩ = some (.int .i64 0)
  fr0 : w.frozen? ⟨r, 0, none⟩ = false
  fr1 : w.frozen? ⟨r, 1, none⟩ = false
  fr2 : w.frozen? ⟨r, 2, none⟩ = false
  d0 : w.cell? ⟨D, 0, none⟩ = some (.int .i64 k)
  d1 : w.cell? ⟨D, 1, none⟩ = some (.int .i64 o)
  d2 : w.cell? ⟨D, 2, none⟩ = some (.int .i64 t)
  fd0 : w.frozen? ⟨D, 0, none⟩ = false
  fd1 : w.frozen? ⟨D, 1, none⟩ = false
  fd2 : w.frozen? ⟨D, 2, none⟩ = false
  strs : StrsAt w g xs
  lr : r < w.heap.size
  ld : D < w.heap.size
  ne : r ≠ D
  ng : g ≠ D
  br : w0.heap.size ≤ r
  bd : w0.heap.size ≤ D
  below : Below w0.heap.size w0 w
theorem RdSt.step {w0 w w' : World} {r D g : Nat} {xs : List ByteArray} {k o t : Int} (h : RdSt w0 w r D g xs k o t) (hb : Below w.heap.size w w') : RdSt w0 w' r D g xs k o t :=
  ⟨by rw [hb.cell h.lr]; exact h.r0, by rw [hb.cell h.lr]; exact h.r1, by rw [hb.cell h.lr]; exact h.r2, by rw [hb.frozen h.lr]; exact h.fr0, by rw [hb.frozen h.lr]; exact h.fr1, by rw [hb.frozen h.lr]; exact h.fr2,
    by rw [hb.cell h.ld]; exact h.d0, by rw [hb.cell h.ld]; exact h.d1, by rw [hb.cell h.ld]; exact h.d2, by rw [hb.frozen h.ld]; exact h.fd0, by rw [hb.frozen h.ld]; exact h.fd1, by rw [hb.frozen h.ld]; exact h.fd2,
    ⟨Nat.lt_of_lt_of_le h.strs.1 hb.size, fun i hi => by rw [hb.cell h.strs.1]; exact h.strs.2 i hi⟩, Nat.lt_of_lt_of_le h.lr hb.size, Nat.lt_of_lt_of_le h.ld hb.size, h.ne, h.ng, h.br, h.bd, Below.step h.below hb (Nat.le_refl _)⟩
theorem quiet_leftT {P : Program} {f : FuncId} {args : Array Value} {w : World} {n : Nat} {v : Value}
    (h : Calls P f args (w.drewN n) fun e w' => e = .returned v ∧ w.drewN n = w') : Calls P f args (w.drewN n) fun e w'' => e = .returned v ∧ ∃ m, w'' = w.drewN m :=
  h.mono fun _ _ ⟨he, hm⟩ => ⟨he, n, hm.symm⟩
theorem size_set (w : World) (p : Addr) (v : Value) : (w.setCell p v).heap.size = w.heap.size := by simp [World.setCell]
theorem frozen_set (w : World) (p q : Addr) (v : Value) : (w.setCell p v).frozen? q = w.frozen? q := by simp [go_sem]
theorem far {w : World} {a b i j : Nat} {v : Value} (h : a ≠ b) : (w.setCell ⟨a, i, none⟩ v).cell? ⟨b, j, none⟩ = w.cell? ⟨b, j, none⟩ := by
  apply World.cell?_setCell_other
  intro e
  exact h (congrArg Addr.block e)
theorem far' {w : World} {a i j : Nat} {v : Value} (h : i ≠ j) : (w.setCell ⟨a, i, none⟩ v).cell? ⟨a, j, none⟩ = w.cell? ⟨a, j, none⟩ := by
  apply World.cell?_setCell_other
  intro e
  exact h (congrArg Addr.off e)
theorem same' {w : World} {a i : Nat} {u v : Value} (h : w.cell? ⟨a, i, none⟩ = some u) : (w.setCell ⟨a, i, none⟩ v).cell? ⟨a, i, none⟩ = some v := by
  apply World.cell?_setCell_same
  exact h
theorem RdSt.set0 {w0 w : World} {r D g : Nat} {xs : List ByteArray} {k o t : Int} (h : RdSt w0 w r D g xs k o t) (k' : Int) : RdSt w0 (w.setCell ⟨D, 0, none⟩ (.int .i64 k')) r D g xs k' o t :=
  ⟨by rw [far h.ne.symm]; exact h.r0, by rw [far h.ne.symm]; exact h.r1, by rw [far h.ne.symm]; exact h.r2, by rw [frozen_set]; exact h.fr0, by rw [frozen_set]; exact h.fr1, by rw [frozen_set]; exact h.fr2,
    same' h.d0, by rw [far' (by omega)]; exact h.d1, by rw [far' (by omega)]; exact h.d2, by rw [frozen_set]; exact h.fd0, by rw [frozen_set]; exact h.fd1, by rw [frozen_set]; exact h.fd2,
    ⟨by rw [size_set]; exact h.strs.1, fun i hi => by rw [far h.ng.symm]; exact h.strs.2 i hi⟩, by rw [size_set]; exact h.lr, by rw [size_set]; exact h.ld, h.ne, h.ng, h.br, h.bd, h.below.setCell h.bd _⟩
theorem RdSt.set1 {w0 w : World} {r D g : Nat} {xs : List ByteArray} {k o t : Int} (h : RdSt w0 w r D g xs k o t) (k' : Int) : RdSt w0 (w.setCell ⟨D, 1, none⟩ (.int .i64 k')) r D g xs k k' t :=
  ⟨by rw [far h.ne.symm]; exact h.r0, by rw [far h.ne.symm]; exact h.r1, by rw [far h.ne.symm]; exact h.r2, by rw [frozen_set]; exact h.fr0, by rw [frozen_set]; exact h.fr1, by rw [frozen_set]; exact h.fr2,
    by rw [far' (by omega)]; exact h.d0, same' h.d1, by rw [far' (by omega)]; exact h.d2, by rw [frozen_set]; exact h.fd0, by rw [frozen_set]; exact h.fd1, by rw [frozen_set]; exact h.fd2,
    ⟨by rw [size_set]; exact h.strs.1, fun i hi => by rw [far h.ng.symm]; exact h.strs.2 i hi⟩, by rw [size_set]; exact h.lr, by rw [size_set]; exact h.ld, h.ne, h.ng, h.br, h.bd, h.below.setCell h.bd _⟩
theorem RdSt.set2 {w0 w : World} {r D g : Nat} {xs : List ByteArray} {k o t : Int} (h : RdSt w0 w r D g xs k o t) (k' : Int) : RdSt w0 (w.setCell ⟨D, 2, none⟩ (.int .i64 k')) r D g xs k o k' :=
  ⟨by rw [far h.ne.symm]; exact h.r0, by rw [far h.ne.symm]; exact h.r1, by rw [far h.ne.symm]; exact h.r2, by rw [frozen_set]; exact h.fr0, by rw [frozen_set]; exact h.fr1, by rw [frozen_set]; exact h.fr2,
    by rw [far' (by omega)]; exact h.d0, by rw [far' (by omega)]; exact h.d1, same' h.d2, by rw [frozen_set]; exact h.fd0, by rw [frozen_set]; exact h.fd1, by rw [frozen_set]; exact h.fd2,
    ⟨by rw [size_set]; exact h.strs.1, fun i hi => by rw [far h.ng.symm]; exact h.strs.2 i hi⟩, by rw [size_set]; exact h.lr, by rw [size_set]; exact h.ld, h.ne, h.ng, h.br, h.bd, h.below.setCell h.bd _⟩
def rdS (xs : List ByteArray) (s : ByteArray) : Option (Int × Int × Int) :=
  let k := kindB (xs.getD 0 ⟨#[]⟩)
  let o := if 1 < xs.length then lrNum (xs.getD 1 ⟨#[]⟩) else 0
  let t := if 2 < xs.length then lrNum (xs.getD 2 ⟨#[]⟩) else 0
  if s.size = 0 ∨ dtB k o t ≠ s then none else some (k, o, t)
theorem kind_nat (a : ByteArray) (j : Nat) (hj : j ≤ 4) : (a.toList == (nameB j).toList) = decide (kindB a = j) := by
  rw [beqL]
  have n01 : nameB 0 ≠ nameB 1 := by decide
  have n02 : nameB 0 ≠ nameB 2 := by decide
  have n03 : nameB 0 ≠ nameB 3 := by decide
  have n04 : nameB 0 ≠ nameB 4 := by decide
  have n12 : nameB 1 ≠ nameB 2 := by decide
  have n13 : nameB 1 ≠ nameB 3 := by decide
  have n14 : nameB 1 ≠ nameB 4 := by decide
  have n23 : nameB 2 ≠ nameB 3 := by decide
  have n24 : nameB 2 ≠ nameB 4 := by decide
  have n34 : nameB 3 ≠ nameB 4 := by decide
  have hj' : j = 0 ∨ j = 1 ∨ j = 2 ∨ j = 3 ∨ j = 4 := by omega
  have hc : a = nameB 0 ∨ a = nameB 1 ∨ a = nameB 2 ∨ a = nameB 3 ∨ a = nameB 4 ∨ (a ≠ nameB 0 ∧ a ≠ nameB 1 ∧ a ≠ nameB 2 ∧ a ≠ nameB 3 ∧ a ≠ nameB 4) := by
    by_cases h0 : a = nameB 0; · simp [h0]
    by_cases h1 : a = nameB 1; · simp [h1]
    by_cases h2 : a = nameB 2; · simp [h2]
    by_cases h3 : a = nameB 3; · simp [h3]
    by_cases h4 : a = nameB 4; · simp [h4]
    right; right; right; right; right; exact ⟨h0, h1, h2, h3, h4⟩
  have k0 : kindB (nameB 0) = 0 := by decide
  have k1 : kindB (nameB 1) = 1 := by decide
  have k2 : kindB (nameB 2) = 2 := by decide
  have k3 : kindB (nameB 3) = 3 := by decide
  have k4 : kindB (nameB 4) = 4 := by decide
  rcases hc with rfl | rfl | rfl | rfl | rfl | ⟨h0, h1, h2, h3, h4⟩
  · rw [k0]; rcases hj' with rfl | rfl | rfl | rfl | rfl <;> decide
  · rw [k1]; rcases hj' with rfl | rfl | rfl | rfl | rfl <;> decide
  · rw [k2]; rcases hj' with rfl | rfl | rfl | rfl | rfl <;> decide
  · rw [k3]; rcases hj' with rfl | rfl | rfl | rfl | rfl <;> decide
  · rw [k4]; rcases hj' with rfl | rfl | rfl | rfl | rfl <;> decide
  · have e : kindB a = -1 := by rw [kindB, if_neg h0, if_neg h1, if_neg h2, if_neg h3, if_neg h4]
    rw [e]
    rcases hj' with rfl | rfl | rfl | rfl | rfl
    · show decide (a = nameB 0) = _; rw [decide_eq_false h0]; decide
    · show decide (a = nameB 1) = _; rw [decide_eq_false h1]; decide
    · show decide (a = nameB 2) = _; rw [decide_eq_false h2]; decide
    · show decide (a = nameB 3) = _; rw [decide_eq_false h3]; decide
    · show decide (a = nameB 4) = _; rw [decide_eq_false h4]; decide
theorem glue_le {N : Nat} (b : UInt8) (c : List (List UInt8)) (h : ∀ p ∈ c, p.length ≤ N) : ∀ p ∈ glue [b] c, p.length ≤ N + 1 := by
  intro p hp
  cases c with
  | nil => simp [glue] at hp; subst hp; simp
  | cons q qs =>
    simp only [glue, List.mem_cons] at hp
    rcases hp with rfl | hp
    · have := h q (by simp); simp; omega
    · have := h p (by simp [hp]); omega
theorem cut32_le (l : List UInt8) : ∀ p ∈ cut32 l, p.length ≤ l.length := by
  induction l with
  | nil => intro p hp; simp [cut32] at hp; subst hp; simp
  | cons b l ih =>
    intro p hp
    rw [cut32] at hp
    split at hp
    · rcases List.mem_cons.1 hp with rfl | hp
      · simp
      · have := ih p hp; simp; omega
    · have := glue_le b _ ih p hp; simpa using this
set_option maxHeartbeats 1600000 in
theorem readDeed_spec (s : ByteArray) (w : World) (hs : s.size < 4294967281) :
    Calls Tryz.prog 77 #[.string s] w fun e w' => (∃ xs : List ByteArray, xs.map (·.data.toList) = cut32 s.data.toList ∧ e = .returned (deedV (rdS xs s))) ∧ Below w.heap.size w w' := by
  go_enter Tryz.func77, Tryz.ntmps77
  go_wp2_with fail
  obtain ⟨wx, hwx⟩ : ∃ wx, wx = w.alloc (Obj.cells #[Value.int IntKind.i64 0, Value.int IntKind.i64 0, Value.int IntKind.i64 0] 48) := ⟨_, rfl⟩
  rw [← hwx]
  have hdb : Below w.heap.size w wx := by rw [hwx]; exact (Below.refl _ _).alloc (Nat.le_refl _) _
  have hd0 : wx.cell? ⟨w.heap.size, 0, none⟩ = some (.int .i64 0) := by rw [hwx]; simp [go_sem]
  have hd1 : wx.cell? ⟨w.heap.size, 1, none⟩ = some (.int .i64 0) := by rw [hwx]; simp [go_sem]
  have hd2 : wx.cell? ⟨w.heap.size, 2, none⟩ = some (.int .i64 0) := by rw [hwx]; simp [go_sem]
  have hf0 : wx.frozen? ⟨w.heap.size, 0, none⟩ = false := by rw [hwx]; simp [go_sem]
  have hf1 : wx.frozen? ⟨w.heap.size, 1, none⟩ = false := by rw [hwx]; simp [go_sem]
  have hf2 : wx.frozen? ⟨w.heap.size, 2, none⟩ = false := by rw [hwx]; simp [go_sem]
  have hdl : w.heap.size < wx.heap.size := by rw [hwx]; simp
  clear hwx
  refine (l1Cut_any s _ hs).mono ?_
  rintro e w2 ⟨xs, g, cap, rfl, hxs, hc1, hc2, hgb, hst, hb2⟩
  have hX := hide hxs
  have hlen1 : 1 ≤ xs.length := by
    rcases Nat.lt_or_ge 0 xs.length with h | h
    · exact h
    · have e : xs = [] := List.length_eq_zero_iff.1 (by omega)
      rw [e] at hxs
      exact absurd hxs.symm (cut32_ne _)
  clear hxs
  obtain ⟨a0, ha0⟩ : ∃ a, xs.getD 0 ⟨#[]⟩ = a := ⟨_, rfl⟩
  have ha0' : xs[0]'hlen1 = a0 := by rw [← ha0]; simp [List.getD, List.getElem?_eq_getElem hlen1]
  have HA0 := hide ha0
  have HA0' := hide ha0'
  obtain ⟨K, hK⟩ : ∃ K, kindB a0 = K := ⟨_, rfl⟩
  have hKr := kindB_range a0
  rw [hK] at hKr
  have HK := hide hK
  have hB2 := Below.step hdb hb2 (Nat.le_refl _)
  have hr2 : w.heap.size < w2.heap.size := Nat.lt_of_lt_of_le hdl hb2.size
  have hst0 : RdSt w (w2.alloc (Obj.cells #[Value.int IntKind.i64 (-1), Value.int IntKind.i64 0, Value.int IntKind.i64 0] 48)) w.heap.size w2.heap.size g xs (-1) 0 0 := by
    have hb3 : Below w2.heap.size w2 (w2.alloc (Obj.cells #[Value.int IntKind.i64 (-1), Value.int IntKind.i64 0, Value.int IntKind.i64 0] 48)) := (Below.refl _ _).alloc (Nat.le_refl _) _
    have hbx := Below.step hb2 hb3 (Nat.le_refl _)
    exact ⟨by rw [hbx.cell hdl]; exact hd0, by rw [hbx.cell hdl]; exact hd1, by rw [hbx.cell hdl]; exact hd2, by rw [hbx.frozen hdl]; exact hf0, by rw [hbx.frozen hdl]; exact hf1, by rw [hbx.frozen hdl]; exact hf2,
      by simp [go_sem], by simp [go_sem], by simp [go_sem], by simp [go_sem], by simp [go_sem], by simp [go_sem],
      ⟨by simp; have := hst.1; omega, fun i hi => by rw [hb3.cell hst.1]; exact hst.2 i hi⟩, by simp; omega, by simp, by omega, by have := hst.1; omega, Nat.le_refl _, by omega, Below.step hB2 hb3 (Nat.le_refl _)⟩
  have HS0 := hide hst0
  obtain ⟨D, hD⟩ : ∃ D, w2.heap.size = D := ⟨_, rfl⟩
  have HDD := hide hD
  clear hst0 hst ha0 ha0' hK hb2 hB2 hd0 hd1 hd2 hf0 hf1 hf2 hgb hdl hdb hr2
  have hL0 : (0 : Int) < (xs.length : Int) := by omega
  rw [HDD.out] at HS0
  go_wp2_with fail
  clear hD
  go_loopw [6] (fun i wr => ∃ j : Nat, j ≤ 5 ∧ i = .int .i64 j ∧ RdSt w wr w.heap.size D g xs (if K < j then K else -1) 0 0) (fun i _ => 5 - (intOf i).toNat)
  case atStart => exact ⟨0, by omega, rfl, by rw [show (if K < ((0 : Nat) : Int) then K else -1) = -1 by split <;> omega]; exact HS0.out⟩
  case round =>
    obtain ⟨j, hj, rfl, hrs⟩ := hrel
    have HR := hide hrs
    by_cases hlt : j ≤ 4
    · have hjB : decide ((j : Int) ≤ 4) = true := by simp; omega
      have p0 := hrs.strs.2 0 hlen1
      rw [HA0'.out] at p0
      have q0 := hrs.d0
      have z0 := hrs.fd0
      clear hrs
      by_cases hq : K = j
      · have hqB : (a0.toList == (nameB j).toList) = true := by rw [kind_nat _ _ hlt]; exact decide_eq_true (by rw [HK.out]; exact hq)
        have HN := hide (HR.out.set0 (j : Int))
        go_wp2_with fail
        go_quiet ((go_at_call 130; exact quiet_leftT (l8Name_any _ _)))
        go_wp2_with fail
        go_roundw
        case rel =>
          refine ⟨j + 1, by omega, by go_num, ?_⟩
          rw [show (if K < ((j + 1 : Nat) : Int) then K else -1) = (j : Int) by rw [if_pos (by omega)]; exact hq]
          exact (HR.out.step (below_drewN (Below.refl _ _) _)).set0 (j : Int)
        case measure => simp [intOf]; omega
      · have hqB : (a0.toList == (nameB j).toList) = false := by rw [kind_nat _ _ hlt]; exact decide_eq_false (by rw [HK.out]; exact hq)
        have HQ := hide hq
        clear hq
        go_wp2_with fail
        go_quiet ((go_at_call 130; exact quiet_leftT (l8Name_any _ _)))
        go_wp2_with fail
        go_roundw
        case rel =>
          refine ⟨j + 1, by omega, by go_num, ?_⟩
          rw [show (if K < ((j + 1 : Nat) : Int) then K else -1) = (if K < (j : Int) then K else -1) by have := HQ.out; split <;> split <;> omega]
          exact HR.out.step (below_drewN (Below.refl _ _) _)
        case measure => simp [intOf]; omega
    · have hjB : decide ((j : Int) ≤ 4) = false := by simp; omega
      rw [show (if K < (j : Int) then K else -1) = K by rw [if_pos (by omega)]] at hrs
      have HR2 := hide hrs
      have hld := hrs.ld
      clear hrs HR
      by_cases hl1 : 1 < xs.length
      · by_cases hl2 : 2 < xs.length
        · have hl1B : decide ((1 : Int) < (xs.length : Int)) = true := by simp; omega
          have hl1I : (1 : Int) < (xs.length : Int) := by omega
          obtain ⟨a1, ha1⟩ : ∃ a, xs[1]'hl1 = a := ⟨_, rfl⟩
          have hg1 : xs.getD 1 ⟨#[]⟩ = a1 := by rw [← ha1]; simp [List.getD, List.getElem?_eq_getElem hl1]
          have p1 := HR2.out.strs.2 1 hl1
          rw [ha1] at p1
          have z1 := HR2.out.d1
          have zz1 := HR2.out.fd1
          obtain ⟨n1, hn1⟩ : ∃ n, lrNum a1 = n := ⟨_, rfl⟩
          have hs1 : a1.size ≤ 9223372036854775807 := by
            have hm : a1.data.toList ∈ cut32 s.data.toList := by
              rw [← hX.out, ← ha1]
              exact List.mem_map_of_mem (List.getElem_mem _)
            have := cut32_le _ _ hm
            rw [size_len, size_len] at this
            omega
          have hC1 := fun w => l1Read_any a1 w hs1
          rw [hn1] at hC1
          have HG1 := hide hg1
          have HN1 := hide hn1
          have HR3 := hide (HR2.out.set1 n1)
          clear hg1 hn1 ha1 hs1
          go_wp2_with fail
          refine (hC1 _).mono ?_
          rintro e w1 ⟨rfl, rfl⟩
          have hl2B : decide ((2 : Int) < (xs.length : Int)) = true := by simp; omega
          have hl2I : (2 : Int) < (xs.length : Int) := by omega
          obtain ⟨a2, ha2⟩ : ∃ a, xs[2]'hl2 = a := ⟨_, rfl⟩
          have hg2 : xs.getD 2 ⟨#[]⟩ = a2 := by rw [← ha2]; simp [List.getD, List.getElem?_eq_getElem hl2]
          have p2 := HR3.out.strs.2 2 hl2
          rw [ha2] at p2
          have z2 := HR3.out.d2
          have zz2 := HR3.out.fd2
          obtain ⟨n2, hn2⟩ : ∃ n, lrNum a2 = n := ⟨_, rfl⟩
          have hs2 : a2.size ≤ 9223372036854775807 := by
            have hm : a2.data.toList ∈ cut32 s.data.toList := by
              rw [← hX.out, ← ha2]
              exact List.mem_map_of_mem (List.getElem_mem _)
            have := cut32_le _ _ hm
            rw [size_len, size_len] at this
            omega
          have hC2 := fun w => l1Read_any a2 w hs2
          rw [hn2] at hC2
          have HG2 := hide hg2
          have HN2 := hide hn2
          have HR4 := hide (HR3.out.set2 n2)
          clear hg2 hn2 ha2 hs2
          go_wp2_with fail
          refine (hC2 _).mono ?_
          rintro e w1 ⟨rfl, rfl⟩
          have HRD := hide (show rdS xs s = if s.size = 0 ∨ dtB K n1 n2 ≠ s then none else some (K, n1, n2) by unfold rdS; simp only [HA0.out, HK.out, if_pos hl1, if_pos hl2, HG1.out, HN1.out, HG2.out, HN2.out])
          have hem := empty_iff s
          by_cases hz : s.size = 0
          · rw [decide_eq_true hz] at hem
            have HF := hide (show rdS xs s = none by rw [HRD.out, if_pos (.inl hz)])
            have c0 := HR4.out.r0
            have c1 := HR4.out.r1
            have c2 := HR4.out.r2
            have y0 := HR4.out.fr0
            have y1 := HR4.out.fr1
            have y2 := HR4.out.fr2
            have HBB := hide HR4.out.below
            clear hz
            go_wp2_with fail
            refine bodyPost_ret (by simp [results, Tryz.results77, go_sem, c0, c1, c2]; try rfl) rfl ?_
            exact ⟨⟨xs, hX.out, by rw [HF.out]; rfl⟩, by have := HBB.out; go_grown⟩
          rw [decide_eq_false hz] at hem
          have hd0 := HR4.out.d0
          have hd1 := HR4.out.d1
          have hd2 := HR4.out.d2
          have HZ := hide hz
          clear hz
          go_wp2_with fail
          clear hd0 hd1 hd2
          refine (dt_spec K n1 n2 _).mono ?_
          rintro e w5 ⟨rfl, hb5⟩
          have HW := hide (HR4.out.step hb5)
          clear hb5
          have c0 := HW.out.r0
          have c1 := HW.out.r1
          have c2 := HW.out.r2
          have y0 := HW.out.fr0
          have y1 := HW.out.fr1
          have y2 := HW.out.fr2
          have hd0 := HW.out.d0
          have hd1 := HW.out.d1
          have hd2 := HW.out.d2
          have HBB := hide HW.out.below
          by_cases heq : dtB K n1 n2 = s
          · have hqB : ((dtB K n1 n2).toList == s.toList) = true := by rw [beqL]; exact decide_eq_true heq
            have HF := hide (show rdS xs s = some (K, n1, n2) by rw [HRD.out, if_neg (fun h => h.elim HZ.out (fun h => h heq))])
            clear heq
            go_wp2_with fail
            refine bodyPost_ret (by simp [results, Tryz.results77, go_sem, c0, c1, c2]; try rfl) rfl ?_
            exact ⟨⟨xs, hX.out, by rw [HF.out]; rfl⟩, by have := HBB.out; go_grown⟩
          · have hqB : ((dtB K n1 n2).toList == s.toList) = false := by rw [beqL]; exact decide_eq_false heq
            have HF := hide (show rdS xs s = none by rw [HRD.out, if_pos (.inr heq)])
            clear heq
            go_wp2_with fail
            refine bodyPost_ret (by simp [results, Tryz.results77, go_sem, c0, c1, c2]; try rfl) rfl ?_
            exact ⟨⟨xs, hX.out, by rw [HF.out]; rfl⟩, by have := HBB.out; go_grown⟩
        · have hl2B : decide ((2 : Int) < (xs.length : Int)) = false := by simp; omega
          have hl1B : decide ((1 : Int) < (xs.length : Int)) = true := by simp; omega
          have hl1I : (1 : Int) < (xs.length : Int) := by omega
          obtain ⟨a1, ha1⟩ : ∃ a, xs[1]'hl1 = a := ⟨_, rfl⟩
          have hg1 : xs.getD 1 ⟨#[]⟩ = a1 := by rw [← ha1]; simp [List.getD, List.getElem?_eq_getElem hl1]
          have p1 := HR2.out.strs.2 1 hl1
          rw [ha1] at p1
          have z1 := HR2.out.d1
          have zz1 := HR2.out.fd1
          obtain ⟨n1, hn1⟩ : ∃ n, lrNum a1 = n := ⟨_, rfl⟩
          have hs1 : a1.size ≤ 9223372036854775807 := by
            have hm : a1.data.toList ∈ cut32 s.data.toList := by
              rw [← hX.out, ← ha1]
              exact List.mem_map_of_mem (List.getElem_mem _)
            have := cut32_le _ _ hm
            rw [size_len, size_len] at this
            omega
          have hC1 := fun w => l1Read_any a1 w hs1
          rw [hn1] at hC1
          have HG1 := hide hg1
          have HN1 := hide hn1
          have HR3 := hide (HR2.out.set1 n1)
          clear hg1 hn1 ha1 hs1
          go_wp2_with fail
          refine (hC1 _).mono ?_
          rintro e w1 ⟨rfl, rfl⟩
          have HRD := hide (show rdS xs s = if s.size = 0 ∨ dtB K n1 0 ≠ s then none else some (K, n1, 0) by unfold rdS; simp only [HA0.out, HK.out, if_pos hl1, if_neg hl2, HG1.out, HN1.out])
          have hem := empty_iff s
          by_cases hz : s.size = 0
          · rw [decide_eq_true hz] at hem
            have HF := hide (show rdS xs s = none by rw [HRD.out, if_pos (.inl hz)])
            have c0 := HR3.out.r0
            have c1 := HR3.out.r1
            have c2 := HR3.out.r2
            have y0 := HR3.out.fr0
            have y1 := HR3.out.fr1
            have y2 := HR3.out.fr2
            have HBB := hide HR3.out.below
            clear hz
            go_wp2_with fail
            refine bodyPost_ret (by simp [results, Tryz.results77, go_sem, c0, c1, c2]; try rfl) rfl ?_
            exact ⟨⟨xs, hX.out, by rw [HF.out]; rfl⟩, by have := HBB.out; go_grown⟩
          rw [decide_eq_false hz] at hem
          have hd0 := HR3.out.d0
          have hd1 := HR3.out.d1
          have hd2 := HR3.out.d2
          have HZ := hide hz
          clear hz
          go_wp2_with fail
          clear hd0 hd1 hd2
          refine (dt_spec K n1 0 _).mono ?_
          rintro e w5 ⟨rfl, hb5⟩
          have HW := hide (HR3.out.step hb5)
          clear hb5
          have c0 := HW.out.r0
          have c1 := HW.out.r1
          have c2 := HW.out.r2
          have y0 := HW.out.fr0
          have y1 := HW.out.fr1
          have y2 := HW.out.fr2
          have hd0 := HW.out.d0
          have hd1 := HW.out.d1
          have hd2 := HW.out.d2
          have HBB := hide HW.out.below
          by_cases heq : dtB K n1 0 = s
          · have hqB : ((dtB K n1 0).toList == s.toList) = true := by rw [beqL]; exact decide_eq_true heq
            have HF := hide (show rdS xs s = some (K, n1, 0) by rw [HRD.out, if_neg (fun h => h.elim HZ.out (fun h => h heq))])
            clear heq
            go_wp2_with fail
            refine bodyPost_ret (by simp [results, Tryz.results77, go_sem, c0, c1, c2]; try rfl) rfl ?_
            exact ⟨⟨xs, hX.out, by rw [HF.out]; rfl⟩, by have := HBB.out; go_grown⟩
          · have hqB : ((dtB K n1 0).toList == s.toList) = false := by rw [beqL]; exact decide_eq_false heq
            have HF := hide (show rdS xs s = none by rw [HRD.out, if_pos (.inr heq)])
            clear heq
            go_wp2_with fail
            refine bodyPost_ret (by simp [results, Tryz.results77, go_sem, c0, c1, c2]; try rfl) rfl ?_
            exact ⟨⟨xs, hX.out, by rw [HF.out]; rfl⟩, by have := HBB.out; go_grown⟩
      · have hl1B : decide ((1 : Int) < (xs.length : Int)) = false := by simp; omega
        have hl2B : decide ((2 : Int) < (xs.length : Int)) = false := by simp; omega
        have HRD := hide (show rdS xs s = if s.size = 0 ∨ dtB K 0 0 ≠ s then none else some (K, 0, 0) by unfold rdS; simp only [HA0.out, HK.out, if_neg hl1, if_neg (show ¬ 2 < xs.length by omega)])
        have hem := empty_iff s
        by_cases hz : s.size = 0
        · rw [decide_eq_true hz] at hem
          have HF := hide (show rdS xs s = none by rw [HRD.out, if_pos (.inl hz)])
          have c0 := HR2.out.r0
          have c1 := HR2.out.r1
          have c2 := HR2.out.r2
          have y0 := HR2.out.fr0
          have y1 := HR2.out.fr1
          have y2 := HR2.out.fr2
          have HBB := hide HR2.out.below
          clear hz
          go_wp2_with fail
          refine bodyPost_ret (by simp [results, Tryz.results77, go_sem, c0, c1, c2]; try rfl) rfl ?_
          exact ⟨⟨xs, hX.out, by rw [HF.out]; rfl⟩, by have := HBB.out; go_grown⟩
        rw [decide_eq_false hz] at hem
        have hd0 := HR2.out.d0
        have hd1 := HR2.out.d1
        have hd2 := HR2.out.d2
        have HZ := hide hz
        clear hz
        go_wp2_with fail
        clear hd0 hd1 hd2
        refine (dt_spec K 0 0 _).mono ?_
        rintro e w5 ⟨rfl, hb5⟩
        have HW := hide (HR2.out.step hb5)
        clear hb5
        have c0 := HW.out.r0
        have c1 := HW.out.r1
        have c2 := HW.out.r2
        have y0 := HW.out.fr0
        have y1 := HW.out.fr1
        have y2 := HW.out.fr2
        have hd0 := HW.out.d0
        have hd1 := HW.out.d1
        have hd2 := HW.out.d2
        have HBB := hide HW.out.below
        by_cases heq : dtB K 0 0 = s
        · have hqB : ((dtB K 0 0).toList == s.toList) = true := by rw [beqL]; exact decide_eq_true heq
          have HF := hide (show rdS xs s = some (K, 0, 0) by rw [HRD.out, if_neg (fun h => h.elim HZ.out (fun h => h heq))])
          clear heq
          go_wp2_with fail
          refine bodyPost_ret (by simp [results, Tryz.results77, go_sem, c0, c1, c2]; try rfl) rfl ?_
          exact ⟨⟨xs, hX.out, by rw [HF.out]; rfl⟩, by have := HBB.out; go_grown⟩
        · have hqB : ((dtB K 0 0).toList == s.toList) = false := by rw [beqL]; exact decide_eq_false heq
          have HF := hide (show rdS xs s = none by rw [HRD.out, if_pos (.inr heq)])
          clear heq
          go_wp2_with fail
          refine bodyPost_ret (by simp [results, Tryz.results77, go_sem, c0, c1, c2]; try rfl) rfl ?_
          exact ⟨⟨xs, hX.out, by rw [HF.out]; rfl⟩, by have := HBB.out; go_grown⟩
end Go.Proofs.YtmemgbklgcjobaaGreatDoor
