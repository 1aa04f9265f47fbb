/-
  Parts of the proofs over mills, of: MillG, DrawMG, Has, MillC, CutA, PlainCut2. Conditions: each theorem states its own.
-/
import Derived.Sort.OwnSortedInts
import Derived.Test.YtmemgbklgcjobaaGreatDoorX13
set_option linter.unusedSimpArgs false
set_option linter.unusedVariables false
set_option maxRecDepth 10000
namespace Go.Proofs.YtmemgbklgcjobaaGreatDoor
open Go.RowKit
structure OwnV (base T sz : Nat) (w : World) (v : Value) (n : Nat) (cs : List Value) : Prop where
  own : OwnE base T sz w v n cs
  lt : base ≤ w.heap.size
theorem OwnV.below {base T sz n : Nat} {w w' : World} {v : Value} {cs : List Value} (h : OwnV base T sz w v n cs) (k : Below w.heap.size w w') : OwnV base T sz w' v n cs :=
  ⟨h.own.below k (Nat.le_refl _), Nat.le_trans h.lt k.size⟩
theorem OwnV.other {base T sz n a z : Nat} {w w' : World} {v : Value} {cs : List Value} (h : OwnV base T sz w v n cs) (k : Other a z w w') (hd : z ≤ base) : OwnV base T sz w' v n cs :=
  ⟨h.own.other k fun g hg => by have := (h.own.lt g hg).1; omega, Nat.le_trans h.lt k.size⟩
structure MillGot (base : Nat) (w : World) (s p l h : Value) (m : Mi) : Prop where
  hb : base ≤ w.heap.size
  so : OwnE base 65 5 w s m.store.length (flatS m.store)
  po : OwnE base 73 2 w p m.pieces.length (flatP m.pieces)
  lo : OwnE base 3 1 w l m.low.length (flatI m.low)
  ho : OwnE base 3 1 w h m.high.length (flatI m.high)
  sp : Apart s p
  sl : Apart s l
  sh : Apart s h
  pl : Apart p l
  ph : Apart p h
  lh : Apart l h
theorem MillGot.at {base : Nat} {w : World} {s p l h : Value} {m : Mi} (H : MillGot base w s p l h m) : MillIn base w.heap.size w s p l h m := by
  obtain ⟨a1, z1, h1, h2, h3, h4, -⟩ := ownE_S H.so rfl H.hb
  obtain ⟨a2, z2, k1, k2, k3, k4, -⟩ := ownE_P H.po rfl H.hb
  exact ⟨h4.mono h1 h3 (Nat.le_refl _), k4.mono k1 k3 (Nat.le_refl _), ownE_ints H.lo rfl H.hb, ownE_ints H.ho rfl H.hb⟩
theorem MillGot.all {base : Nat} {w : World} {s p l h : Value} {m : Mi} (H : MillGot base w s p l h m) : MillIn 0 w.heap.size w s p l h m :=
  H.at.mono (Nat.zero_le _) (Nat.le_refl _) (Nat.le_refl _)
theorem MillGot.lt {base : Nat} {w : World} {s p l h : Value} {m : Mi} (H : MillGot base w s p l h m) : base ≤ w.heap.size := H.hb
theorem MillGot.below {base : Nat} {w w' : World} {s p l h : Value} {m : Mi} (H : MillGot base w s p l h m) (k : Below w.heap.size w w') : MillGot base w' s p l h m :=
  ⟨Nat.le_trans H.hb k.size, H.so.below k (Nat.le_refl _), H.po.below k (Nat.le_refl _), H.lo.below k (Nat.le_refl _), H.ho.below k (Nat.le_refl _), H.sp, H.sl, H.sh, H.pl, H.ph, H.lh⟩
theorem MillGot.other {base a z : Nat} {w w' : World} {s p l h : Value} {m : Mi} (H : MillGot base w s p l h m) (k : Other a z w w') (hd : z ≤ base) : MillGot base w' s p l h m := by
  have hd' : ∀ {T sz n : Nat} {v : Value} {cs : List Value}, OwnE base T sz w v n cs → ∀ g, v.ownBlock = some g → g < a ∨ z ≤ g := fun ho g hg => by
    have := (ho.lt g hg).1; omega
  exact ⟨Nat.le_trans H.hb k.size, H.so.other k (hd' H.so), H.po.other k (hd' H.po), H.lo.other k (hd' H.lo), H.ho.other k (hd' H.ho), H.sp, H.sl, H.sh, H.pl, H.ph, H.lh⟩
theorem MillGot.mono {base base' : Nat} {w : World} {s p l h : Value} {m : Mi} (H : MillGot base w s p l h m) (hb : base' ≤ base) : MillGot base' w s p l h m :=
  ⟨Nat.le_trans hb H.hb, H.so.mono hb, H.po.mono hb, H.lo.mono hb, H.ho.mono hb, H.sp, H.sl, H.sh, H.pl, H.ph, H.lh⟩
theorem MillGot.nums {base : Nat} {w : World} {s p l h : Value} {m : Mi} (H : MillGot base w s p l h m) (r : Gr) (x y : Int) : MillGot base w s p l h { m with rule := r, strand := x, scrap := y } :=
  ⟨H.hb, H.so, H.po, H.lo, H.ho, H.sp, H.sl, H.sh, H.pl, H.ph, H.lh⟩
theorem MillGot.store {base B : Nat} {w w' : World} {s s' p l h : Value} {m : Mi} {xs : List St} (H : MillGot base w s p l h m) (k : Below w.heap.size w w') (hB : w.heap.size ≤ B) (n : OwnE B 65 5 w' s' xs.length (flatS xs)) (y : Int) :
    MillGot base w' s' p l h { m with store := xs, strand := y } :=
  ⟨Nat.le_trans H.hb k.size, n.mono (Nat.le_trans H.hb hB), H.po.below k (Nat.le_refl _), H.lo.below k (Nat.le_refl _), H.ho.below k (Nat.le_refl _), (H.po.apart n hB).symm, (H.lo.apart n hB).symm, (H.ho.apart n hB).symm, H.pl, H.ph, H.lh⟩
theorem MillGot.yard {base B : Nat} {w w' : World} {s p l h l' h' : Value} {m : Mi} {xs ys : List Int} (H : MillGot base w s p l h m) (k : Below w.heap.size w w') (hB : w.heap.size ≤ B) (q : PileOwn B w' l' h' xs ys) :
    MillGot base w' s p l' h' { m with low := xs, high := ys } :=
  ⟨Nat.le_trans H.hb k.size, H.so.below k (Nat.le_refl _), H.po.below k (Nat.le_refl _), q.lo.mono (Nat.le_trans H.hb hB), q.ho.mono (Nat.le_trans H.hb hB), H.sp, H.so.apart q.lo hB, H.so.apart q.ho hB, H.po.apart q.lo hB, H.po.apart q.ho hB, q.ap⟩
def CopyGot (base : Nat) (m : Mi) (w : World) (e : Ending) (w' : World) : Prop := ∃ s p l h, e = .returned (millV s p l h m) ∧ MillGot base w' s p l h m ∧ Below base w w'
def DoGot (base : Nat) (x : Mi × Bool) (w : World) (e : Ending) (w' : World) : Prop := ∃ s p l h, e = .returned (.tuple #[millV s p l h x.1, .bool x.2]) ∧ MillGot base w' s p l h x.1 ∧ Below base w w'
def RunGot (base : Nat) (x : Mi × Int) (w : World) (e : Ending) (w' : World) : Prop := ∃ s p l h, e = .returned (.tuple #[millV s p l h x.1, .int .i64 x.2]) ∧ MillGot base w' s p l h x.1 ∧ Below base w w'
theorem got_put {base b a z : Nat} {w wk W : World} {s p l h : Value} {m : Mi} (H : MillGot b wk s p l h m) (hB : Below base w wk) (T : Other a z wk W) (h1 : z ≤ b) (h2 : base ≤ a) (h3 : base ≤ b) (h4 : base ≤ w.heap.size) : MillGot base W s p l h m ∧ Below base w W :=
  ⟨(H.other T h1).mono h3, hB.trans (T.below (B := base) h2 (by have := hB.size; omega))⟩
theorem millGot_zero {base : Nat} {w : World} (h : base ≤ w.heap.size) (z : Mi) (h1 : z.store = []) (h2 : z.pieces = []) (h3 : z.low = []) (h4 : z.high = []) : MillGot base w (.slice none 0 0) (.slice none 0 0) (.slice none 0 0) (.slice none 0 0) z := by
  refine ⟨h, ?_, ?_, ?_, ?_, apart_nil _ _, apart_nil _ _, apart_nil _ _, apart_nil _ _, apart_nil _ _, apart_nil _ _⟩
  · rw [h1]; exact OwnE.own (World.ownsRow_nil _ _ _ _)
  · rw [h2]; exact OwnE.own (World.ownsRow_nil _ _ _ _)
  · rw [h3]; exact OwnE.own (World.ownsRow_nil _ _ _ _)
  · rw [h4]; exact OwnE.own (World.ownsRow_nil _ _ _ _)
def eightL : List Int := [0, 1, 1, 2, 2, 2, 3, 4]
theorem eight_cell (w : World) (j : Nat) (z : Int) (h : eightL[j]? = some z) : (w.alloc (.cells #[.int .i64 0, .int .i64 1, .int .i64 1, .int .i64 2, .int .i64 2, .int .i64 2, .int .i64 3, .int .i64 4] 3)).cell? ⟨w.heap.size, j, none⟩ = some (.int .i64 z) := by
  have := lit_cells w (flatI eightL) 3 j (.int .i64 z) (by simp [flatI, h])
  rw [adds] at this
  exact this
def LitAt (W : World) (b : Nat) : Prop := b < W.heap.size ∧ ∀ (j : Nat) (z : Int), eightL[j]? = some z → W.cell? ⟨b, j, none⟩ = some (.int .i64 z)
theorem LitAt.new (W : World) : LitAt (W.alloc (.cells #[.int .i64 0, .int .i64 1, .int .i64 1, .int .i64 2, .int .i64 2, .int .i64 2, .int .i64 3, .int .i64 4] 3)) W.heap.size := ⟨by simp, fun j z h => eight_cell W j z h⟩
theorem LitAt.below {W W' : World} {b : Nat} (h : LitAt W b) (k : Below W.heap.size W W') : LitAt W' b := ⟨Nat.lt_of_lt_of_le h.1 k.size, fun j z hz => by rw [k.cell (p := ⟨b, j, none⟩) h.1]; exact h.2 j z hz⟩
theorem LitAt.other {R : Nat} {W W' : World} {b : Nat} (h : LitAt W b) (k : Other R (R + 1) W W') (hb : b ≠ R) : LitAt W' b := ⟨Nat.lt_of_lt_of_le h.1 k.size, fun j z hz => by rw [World.cell?_of_block (k.block b h.1 (by omega))]; exact h.2 j z hz⟩
theorem LitAt.alloc {W : World} {b : Nat} (h : LitAt W b) (o : Obj) : LitAt (W.alloc o) b := h.below ((Below.refl _ _).alloc (Nat.le_refl _) o)
theorem LitAt.drew {W : World} {b : Nat} (h : LitAt W b) : LitAt W.drew b := h
structure OnWay (R k : Nat) (w W : World) : Prop where
  o : Other R (R + 1) w W
  r : Rd R k W
theorem OnWay.alloc {R k : Nat} {w W : World} (h : OnWay R k w W) (x : Obj) : OnWay R k w (W.alloc x) :=
  ⟨h.o.step ((Below.refl _ _).alloc (Nat.le_refl _) x) h.o.size, h.r.keep ((Below.refl _ _).alloc (Nat.le_refl _) x) h.r.lt⟩
theorem OnWay.drew {R k : Nat} {w W : World} (h : OnWay R k w W) : OnWay R k w W.drew :=
  ⟨h.o.step ((Below.refl W.heap.size W).drew) h.o.size, h.r.keep ((Below.refl W.heap.size W).drew) h.r.lt⟩
theorem OnWay.put {R k : Nat} {w W : World} (h : OnWay R k w W) {b : Nat} (i : Nat) (x : Value) (hb : w.heap.size ≤ b) (hR : R < w.heap.size) : OnWay R k w (W.setCell ⟨b, i, none⟩ x) :=
  ⟨h.o.step (B := w.heap.size) ((Below.refl _ _).setCell (p := ⟨b, i, none⟩) hb _) (Nat.le_refl _), h.r.keep (B := w.heap.size) ((Below.refl _ _).setCell (p := ⟨b, i, none⟩) hb _) hR⟩
set_option maxHeartbeats 1600000 in
theorem has_any (b : Nat) (p : Value) (m : Mi) (id st : Int) (w : World) (hp : PcAt 0 w.heap.size w p m.pieces) (hc : w.cell? ⟨b, 8, none⟩ = some p) (hl : m.pieces.length ≤ 1000000) :
    Calls Tryz.prog 164 #[.pointer (some ⟨b, 0, none⟩), .int .i64 id, .int .i64 st] w fun e w' => e = .returned (.bool (hasB m id st)) ∧ w = w' := by
  have HP := hide hp
  have hp2 := hp
  obtain ⟨ap, cp, rfl, -, -, -, -⟩ := hp2
  clear hp
  have hW := fun W => within_any id 1 (m.pieces.length : Int) W
  by_cases hi : wi id 1 (m.pieces.length : Int) = true
  · have HI := hide hi
    rw [hi] at hW
    obtain ⟨h1, h2⟩ := wi_iff.1 hi
    obtain ⟨k, rfl⟩ : ∃ k : Nat, id = k + 1 := ⟨(id - 1).toNat, by omega⟩
    have hk : k < m.pieces.length := by omega
    obtain ⟨b2, o, cp2, e, -, -, c0, c1⟩ := pc_at HP.out hk
    cases e
    have hsub : IntKind.i64.wrap ((k : Int) + 1 - 1) = (k : Int) := by rw [show (k : Int) + 1 - 1 = (k : Int) by omega]; exact IntWalk.i64_in _ (by omega)
    have hkI : (k : Int) < (m.pieces.length : Int) := by omega
    have HW := hide hW
    clear hW hi
    go_enter Tryz.func164, Tryz.ntmps164
    have hj0 : (0 : Int) ≤ (k : Int) := by omega
    go_wp2_with fail
    refine (HW.out w).mono ?_
    rintro e w1 ⟨rfl, rfl⟩
    go_wp2_with fail
    go_ret
    have hg : hasB m ((k : Int) + 1) st = (m.pieces[k].s == st) := by
      have : ((k : Int) + 1 - 1).toNat = k := by omega
      simp [hasB, HI.out, hk]
    simp [hg]
  · have hi' : wi id 1 (m.pieces.length : Int) = false := by simpa using hi
    rw [hi'] at hW
    have HI := hide hi'
    have HW := hide hW
    clear hW hi hi'
    go_enter Tryz.func164, Tryz.ntmps164
    go_wp2_with fail
    refine (HW.out w).mono ?_
    rintro e w1 ⟨rfl, rfl⟩
    go_wp2_with fail
    go_ret
    simp [hasB, HI.out]
set_option maxHeartbeats 1600000 in
theorem state_any (s p l h : Value) (m : Mi) (id st : Int) (w : World) (HM : MillIn 0 w.heap.size w s p l h m) (hl : m.pieces.length ≤ 1000000) :
    Calls Tryz.prog 114 #[millV s p l h m, .int .i64 id, .int .i64 st] w fun e w' => e = .returned (.bool (hasB m id st)) ∧ Below w.heap.size w w' := by
  have hp := HM.pieces
  have HP := hide hp
  have hp2 := hp
  have HMM := hide HM
  clear HM
  unfold millV
  obtain ⟨ap, cp, rfl, -, -, -, -⟩ := hp2
  clear hp
  have hW := fun W => l1In_any id 1 (m.pieces.length : Int) W
  by_cases hi : wi id 1 (m.pieces.length : Int) = true
  · have HI := hide hi
    rw [hi] at hW
    obtain ⟨h1, h2⟩ := wi_iff.1 hi
    obtain ⟨k, rfl⟩ : ∃ k : Nat, id = k + 1 := ⟨(id - 1).toNat, by omega⟩
    have hk : k < m.pieces.length := by omega
    obtain ⟨b2, o, cp2, e, -, hb2, c0, c1⟩ := pc_at HP.out hk
    cases e
    have hsub : IntKind.i64.wrap ((k : Int) + 1 - 1) = (k : Int) := by rw [show (k : Int) + 1 - 1 = (k : Int) by omega]; exact IntWalk.i64_in _ (by omega)
    have hkI : (k : Int) < (m.pieces.length : Int) := by omega
    have HW := hide hW
    clear hW hi
    go_enter Tryz.func114, Tryz.ntmps114
    have hj0 : (0 : Int) ≤ (k : Int) := by omega
    go_wp2_with fail
    refine (HW.out _).mono ?_
    rintro e w1 ⟨rfl, rfl⟩
    go_wp2_with fail
    go_ret
    have hg : hasB m ((k : Int) + 1) st = (m.pieces[k].s == st) := by
      have : ((k : Int) + 1 - 1).toNat = k := by omega
      simp [hasB, HI.out, hk]
    exact ⟨by simp [hg], by go_grown⟩
  · have hi' : wi id 1 (m.pieces.length : Int) = false := by simpa using hi
    rw [hi'] at hW
    have HI := hide hi'
    have HW := hide hW
    clear hW hi hi'
    go_enter Tryz.func114, Tryz.ntmps114
    go_wp2_with fail
    refine (HW.out _).mono ?_
    rintro e w1 ⟨rfl, rfl⟩
    go_wp2_with fail
    go_ret
    exact ⟨by simp [hasB, HI.out], by go_grown⟩
theorem equal_any (v v' : Value) (xs ys : List Int) (lo hi lo' hi' : Nat) (w : World) (h : IntsAt lo hi w v xs) (h' : IntsAt lo' hi' w v' ys) :
    Calls Tryz.prog 85 #[v, v'] w fun e w' => e = .returned (.bool (decide (xs = ys))) ∧ Below w.heap.size w w' := by
  have h1 := h.len
  have h2 := h'.len
  obtain ⟨ao, cap, rfl, -, -, -, hc⟩ := h
  obtain ⟨ao', cap', rfl, -, -, -, hc'⟩ := h'
  by_cases hl : xs.length = ys.length
  · rcases Nat.eq_zero_or_pos xs.length with h0 | h0
    · have e1 : xs = [] := List.eq_nil_of_length_eq_zero h0
      have e2 : ys = [] := List.eq_nil_of_length_eq_zero (by omega)
      subst e1 e2
      exact (Tryz.slices_Equal_int_empty ao ao' cap 0 cap' w (by omega)).mono fun e w' ⟨he, hw⟩ => ⟨by rw [List.length_nil] at *; rw [he]; rfl, by rw [hw]; exact Below.refl _ _⟩
    · obtain ⟨b, o, rfl, -, -, hcs⟩ := hc h0
      obtain ⟨b', o', rfl, -, -, hcs'⟩ := hc' (by omega)
      refine (Tryz.slices_Equal_int b o xs.length cap b' o' ys.length cap' xs ys w (Nat.le_refl _) (Nat.le_refl _) h1 h2 (fun j hj => by rw [(hcs j hj).1, getD_eq hj]) (fun j hj => by rw [(hcs' j hj).1, getD_eq hj])).mono ?_
      rintro e w' ⟨he, q, hw⟩
      refine ⟨?_, by rw [hw]; exact below_drewN (Below.refl _ _) _⟩
      rw [he, List.take_of_length_le (Nat.le_refl _), List.take_of_length_le (Nat.le_refl _)]
      congr 2
      rw [Bool.eq_iff_iff]; simp
  · exact (Tryz.slices_Equal_int_lens ao ao' xs.length cap ys.length cap' w hl).mono fun e w' ⟨he, hw⟩ => ⟨by rw [he]; have : xs ≠ ys := fun e => hl (by rw [e]); simp [this], by rw [hw]; exact Below.refl _ _⟩
set_option maxHeartbeats 800000 in
theorem idsIn_any (p : Value) (ps : List Pc) (st : Int) (lo hi : Nat) (w : World) (H : PcAt lo hi w p ps) (hl : ps.length ≤ 1000000) :
    Calls Tryz.prog 86 #[p, .int .i64 st] w (IntsNew w.heap.size (idsIn ps st) w) := by
  obtain ⟨ao, cap, rfl, hlc, hcap, hhi, hc⟩ := H
  have HC := hide hc
  obtain ⟨i0, hi0, hz0, hi1, hi2⟩ := info_parts info_int
  clear hc
  go_enter Tryz.func86, Tryz.ntmps86
  go_wp2_with fail
  go_loopw [5, 6, 7, 10] (fun o _ _ i wr => ∃ k : Nat, k ≤ ps.length ∧ i = .int .i64 k ∧ Below w.heap.size w wr ∧ wr.ownsRow w.heap.size 3 1 o (idsTo ps st k).length (flatI (idsTo ps st k))) (fun _ _ _ i _ => ps.length - (intOf i).toNat)
  case atStart => exact ⟨0, Nat.zero_le _, rfl, Below.refl _ _, World.ownsRow_nil _ _ _ _⟩
  case round =>
    obtain ⟨k, hk, rfl, hb, hown⟩ := hrel
    have HB := hide hb
    have HO := hide hown
    have hnl := idsTo_len ps st k
    have hszr := hb.size
    obtain ⟨aow, capw, rfl, -, -⟩ := own_slice hown
    clear hown
    by_cases hlt : k < ps.length
    · obtain ⟨b, o, rfl, hx1, hx2, hcs⟩ := HC.out (by omega)
      obtain ⟨⟨r1, r2⟩, -⟩ := hcs k hlt
      rw [← hb.cell (p := ⟨b, _, none⟩) (by simpa using by omega)] at r1 r2
      have hg : ps.getD k pc0 = ps[k] := by simp [hlt]
      have hN : idsTo ps st (k + 1) = if ps[k].s == st then idsTo ps st k ++ [(k : Int) + 1] else idsTo ps st k := by rw [idsTo, hg]
      have HN := hide hN
      obtain ⟨x, hx⟩ : ∃ x, ps[k].s = x := ⟨_, rfl⟩
      obtain ⟨y, hy⟩ : ∃ y, ps[k].l = y := ⟨_, rfl⟩
      rw [hx] at r2 HN
      rw [hy] at r1
      have hkI : (k : Int) < (ps.length : Int) := by omega
      clear hcs hx hy hb hg hN
      cases hq : (x == st) with
      | false =>
        have HN2 := hide (show idsTo ps st (k + 1) = idsTo ps st k by rw [HN.out, hq]; rfl)
        go_wp2_with fail
        go_roundw
        case rel => exact ⟨k + 1, by omega, by go_num, HB.out.alloc hszr _, by rw [HN2.out]; exact HO.out.alloc _⟩
        case measure => simp [intOf]; omega
      | true =>
        have HN2 := hide (show idsTo ps st (k + 1) = idsTo ps st k ++ [(k : Int) + 1] by rw [HN.out, hq]; rfl)
        go_wp2_with (at_builtin; refine wpList_append_view rfl _ _ 27 rfl w.heap.size 3 i0 (.int .i64 0) 1 8 Tryz.underlying27 hi0 hz0 hi1 hi2 rfl (by decide) _ _ _ rfl ((HO.out.alloc _).alloc _) (.slice (some ⟨wr.heap.size + 1, 0, none⟩) 1 1) 1 [.int .i64 ((k : Int) + 1)] rfl ?c0 ?c1 ?c2 ?c3 ?_)
        case c0 => simpa using Source.lit (World.alloc wr _) [.int .i64 ((k : Int) + 1)] 1 3 1 rfl (fun u hu => by simp at hu; subst hu; rfl) 1
        case c1 => unfold maxLen; omega
        case c2 => omega
        case c3 => simp; omega
        intro v2 w3 hown2 hgrow2 _
        have hB3 := ((HB.out.alloc hszr (.cells #[.int .i64 y, .int .i64 x] 73)).alloc (by simp; omega) (.cells #[.int .i64 ((k : Int) + 1)] 3)).trans (Below.grow hgrow2 ((HO.out.alloc _).alloc _) (Nat.le_refl _) (by simp; omega))
        have HB3 := hide hB3
        have HO3 := hide (show w3.ownsRow w.heap.size 3 1 v2 (idsTo ps st (k + 1)).length (flatI (idsTo ps st (k + 1))) by rw [HN2.out]; simpa [flatI] using hown2)
        clear hown2 hgrow2 hB3
        go_wp2_with fail
        go_roundw
        case rel => exact ⟨k + 1, by omega, by go_num, HB3.out, HO3.out⟩
        case measure => simp [intOf]; omega
    · obtain rfl : k = ps.length := by omega
      go_wp2_with fail
      go_ret
      exact ⟨_, rfl, HO.out, HB.out⟩
theorem two_at {lo hi : Nat} {w : World} {v : Value} {a b : Int} (h : IntsAt lo hi w v [a, b]) : ∃ b0 o0 cap, v = .slice (some ⟨b0, o0, none⟩) 2 cap ∧ lo ≤ b0 ∧ b0 < hi ∧ w.cell? ⟨b0, o0, none⟩ = some (.int .i64 a) ∧ w.cell? ⟨b0, o0 + 1, none⟩ = some (.int .i64 b) := by
  obtain ⟨ao, cap, e, h1, h2, h3, h4⟩ := h
  obtain ⟨b0, o0, rfl, b1, b2, hc⟩ := h4 (by simp)
  exact ⟨b0, o0, cap, e, b1, b2, (hc 0 (by simp)).1, (hc 1 (by simp)).1⟩
set_option maxHeartbeats 1600000 in
theorem lens_impl (v : Value) (a b : Int) (lo hi : Nat) (w : World) (H : IntsAt lo hi w v [a, b]) :
    Calls Tryz.prog 161 #[v] w fun e w' => e = .returned (.bool (lensB a b)) ∧ w = w' := by
  obtain ⟨b0, o0, cap, rfl, -, -, c0, c1⟩ := two_at H
  clear H
  have HW := hide (fun n l h W => within_any n l h W)
  go_enter Tryz.func161, Tryz.ntmps161
  go_wp2_with fail
  refine (HW.out 2 1 4 w).mono ?_
  rintro e w1 ⟨rfl, rfl⟩
  have hw : wi 2 1 4 = true := by decide
  rw [hw]
  go_wp2_with fail
  go_loop [3, 5, 12] (fun p _ i => (i = .int .i64 0 ∧ p = .int .i64 0) ∨ (i = .int .i64 1 ∧ p = .int .i64 a ∧ wi a 1 60 = true) ∨ (i = .int .i64 2 ∧ p = .int .i64 b ∧ lensB a b = true)) (fun _ _ i => 2 - (intOf i).toNat)
  case atStart => exact .inl ⟨rfl, rfl⟩
  case round =>
    rcases hrel with ⟨rfl, rfl⟩ | ⟨rfl, rfl, h⟩ | ⟨rfl, rfl, h⟩
    · go_wp2_with fail
      refine (HW.out a 1 60 w).mono ?_
      rintro e w1 ⟨rfl, rfl⟩
      cases h : wi a 1 60 with
      | false =>
        go_wp2_with fail
        go_ret
        simp [lensB, h]
      | true =>
        go_wp2_with fail
        go_round
        case rel => exact .inr (.inl ⟨rfl, rfl, h⟩)
        case measure => simp [intOf]
    · have ha := (wi_iff.1 h)
      have hp : IntKind.i64.wrap (a + 1) = a + 1 := IntWalk.i64_in _ (by omega)
      go_wp2_with fail
      refine (HW.out b (a + 1) 60 w).mono ?_
      rintro e w1 ⟨rfl, rfl⟩
      cases h2 : wi b (a + 1) 60 with
      | false =>
        go_wp2_with fail
        go_ret
        simp [lensB, h2]
      | true =>
        go_wp2_with fail
        go_round
        case rel => exact .inr (.inr ⟨rfl, rfl, by simp [lensB, h, h2]⟩)
        case measure => simp [intOf]
    · go_wp2_with fail
      go_ret
      simp [h]
def wst1 (T : List Int) (a : Int) (k : Nat) : Int := if a ≤ k then min (k : Int) (T.getD ((k : Int) - a).toNat 0) else k
def wst2 (T : List Int) (a b : Int) (k : Nat) : Int := if b ≤ k then min (wst1 T a k) (T.getD ((k : Int) - b).toNat 0) else wst1 T a k
theorem wasteAt_eq (T : List Int) (a b : Int) (k : Nat) : wasteAt T a b k = wst2 T a b k := rfl
theorem tab_eq {a b : Int} (h : lensB a b = true) {L k : Nat} (hk : k ≤ L) : (tab a b (L + 1)).getD k 0 = wst2 (tab a b (L + 1)) a b k := by
  obtain ⟨⟨h1, h2⟩, h3, h4⟩ := lensB_iff.1 h
  rw [tab_le a b (Nat.lt_succ_self k) (Nat.succ_le_succ hk), tab_new]
  have e1 : a ≤ k → (tab a b (L + 1)).getD ((k : Int) - a).toNat 0 = (tab a b k).getD ((k : Int) - a).toNat 0 := fun hle => tab_le a b (by omega) (by omega)
  have e2 : b ≤ k → (tab a b (L + 1)).getD ((k : Int) - b).toNat 0 = (tab a b k).getD ((k : Int) - b).toNat 0 := fun hle => tab_le a b (by omega) (by omega)
  rw [wasteAt_eq]
  unfold wst2 wst1
  by_cases ha : a ≤ k
  · by_cases hb : b ≤ k
    · simp only [if_pos ha, if_pos hb, e1 ha, e2 hb]
    · simp only [if_pos ha, if_neg hb, e1 ha]
  · by_cases hb : b ≤ k
    · simp only [if_neg ha, if_pos hb, e2 hb]
    · simp only [if_neg ha, if_neg hb]
theorem cnt_yes {t : List Int} {x : Int} (hx : 1 ≤ x) {f : Nat} {left : Int} (h0 : 0 ≤ left) (hf : left < f) (h : moreB t x left = true) : cnt t x f left = cnt t x f (left - x) + 1 := by
  obtain _ | f := f
  · omega
  · have hm := h
    unfold moreB at hm
    rw [Bool.and_eq_true, decide_eq_true_iff] at hm
    rw [cnt, if_pos h, cnt_fuel t hx f (f + 1) (left - x) (by omega) (by omega) (by omega)]
theorem cnt_no {t : List Int} {x : Int} {f : Nat} {left : Int} (h : moreB t x left = false) : cnt t x f left = 0 := by
  obtain _ | f := f
  · rfl
  · rw [cnt, if_neg (by rw [h]; simp)]
structure CutSt (T : List Int) (L : Nat) (x : Int) (n c : Nat) (left : Int) : Prop where
  pos : 0 ≤ left
  le : left ≤ L
  cnt : n = c + Go.Proofs.YtmemgbklgcjobaaGreatDoor.cnt T x (L + 1) left
  same : T.getD left.toNat 0 = T.getD L 0
theorem CutSt.start {a b : Int} {L : Nat} : CutSt (tab a b (L + 1)) L b (many1 L a b) 0 L := by
  refine ⟨by omega, by omega, ?_, by simp⟩
  unfold many1; simp
theorem CutSt.next {a b : Int} {L : Nat} {left : Int} (H : CutSt (tab a b (L + 1)) L b (many1 L a b) (many1 L a b) left) (hl : left = L - many1 L a b * b) : CutSt (tab a b (L + 1)) L a (many0 L a b) 0 left := by
  refine ⟨H.pos, H.le, ?_, H.same⟩
  unfold many0; rw [hl]; simp
theorem CutSt.more {T : List Int} {L : Nat} {x : Int} {n c : Nat} {left : Int} (hx : 1 ≤ x) (H : CutSt T L x n c left) (h : moreB T x left = true) : CutSt T L x n (c + 1) (left - x) ∧ x ≤ left ∧ c + 1 ≤ n := by
  have hm := h
  unfold moreB at hm
  rw [Bool.and_eq_true, decide_eq_true_iff, beq_iff_eq] at hm
  have h1 := H.pos
  have h2 := H.le
  have h3 := H.cnt
  rw [cnt_yes hx h1 (by omega) h] at h3
  exact ⟨⟨by omega, by omega, by omega, hm.2.trans H.same⟩, hm.1, by omega⟩
theorem CutSt.done {T : List Int} {L : Nat} {x : Int} {n c : Nat} {left : Int} (H : CutSt T L x n c left) (h : moreB T x left = false) : c = n := by
  have h3 := H.cnt
  rw [cnt_no h] at h3
  omega
end Go.Proofs.YtmemgbklgcjobaaGreatDoor
