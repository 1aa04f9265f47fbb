/-
  The walks over the laws' helpers: equal mills; marks of mills.
-/
import Derived.Test.YtbafifilklfafaaDoorHelpN
namespace Go.Proofs.YtbafifilklfafaaDoor
open Go.RowKit

theorem ret_i64 {a b : Int} (h : a = b) : Ending.returned (.int .i64 a) = .returned (.int .i64 b) := by rw [h]
theorem eqGrade_same (g : Gr) (w : World) :
    Calls Tryd.prog 59 #[grV g, grV g] w fun e w' => e = .returned (.bool true) ∧ Below w.heap.size w w' := by
  obtain ⟨a, b, c, d, f, h⟩ := g
  unfold grV
  go_enter Tryd.func59, Tryd.ntmps59
  go_wp2
  go_ret
  exact ⟨rfl, by go_grown⟩
theorem eqStuffS_same (v v' : Value) (xs : List St) (lo hi lo' hi' : Nat) (w : World) (h : StAt lo hi w v xs) (h' : StAt lo' hi' w v' xs) :
    Calls Tryd.prog 58 #[v, v'] w fun e w' => e = .returned (.bool true) ∧ Below w.heap.size w w' :=
  (eqStuffS_any v v' xs xs lo hi lo' hi' w h h').mono fun e w' ⟨he, hb⟩ => ⟨by rw [he]; simp, hb⟩
theorem eqPieceS_same (v v' : Value) (xs : List Pc) (lo hi lo' hi' : Nat) (w : World) (h : PcAt lo hi w v xs) (h' : PcAt lo' hi' w v' xs) :
    Calls Tryd.prog 60 #[v, v'] w fun e w' => e = .returned (.bool true) ∧ Below w.heap.size w w' :=
  (eqPieceS_any v v' xs xs lo hi lo' hi' w h h').mono fun e w' ⟨he, hb⟩ => ⟨by rw [he]; simp, hb⟩

set_option maxRecDepth 10000 in
set_option maxHeartbeats 800000 in
theorem eqMill_same (s p l h s' p' l' h' : Value) (m : Mi) (w : World) (H : MillIn 0 w.heap.size w s p l h m) (H' : MillIn 0 w.heap.size w s' p' l' h' m) :
    Calls Tryd.prog 20 #[millV s p l h m, millV s' p' l' h' m] w fun e w' => e = .returned (.bool true) ∧ Below w.heap.size w w' := by
  have VS := hide H.store
  have VP := hide H.pieces
  have VL := hide H.low
  have VH := hide H.high
  have VT := hide H'.store
  have VQ := hide H'.pieces
  have VM := hide H'.low
  have VI := hide H'.high
  clear H H'
  unfold millV
  go_enter Tryd.func20, Tryd.ntmps20
  go_wp2_with fail
  refine calls_at fun wx hwx => ?_
  have A_0 : RowL wx (w.heap.size) 52 [s, .int .i64 m.rule.lc, .int .i64 m.rule.hc, .int .i64 m.rule.lm, .int .i64 m.rule.hm, .int .i64 m.rule.ls, .int .i64 m.rule.hs, .int .i64 m.strand, p, l, h, .int .i64 m.scrap] := by rw [hwx]; exact ((RowL.new _ 52 [s, .int .i64 m.rule.lc, .int .i64 m.rule.hc, .int .i64 m.rule.lm, .int .i64 m.rule.hm, .int .i64 m.rule.ls, .int .i64 m.rule.hs, .int .i64 m.strand, p, l, h, .int .i64 m.scrap]).alloc _)
  have C_0 : RowL wx (w.heap.size + 1) 52 [s', .int .i64 m.rule.lc, .int .i64 m.rule.hc, .int .i64 m.rule.lm, .int .i64 m.rule.hm, .int .i64 m.rule.ls, .int .i64 m.rule.hs, .int .i64 m.strand, p', l', h', .int .i64 m.scrap] := by rw [hwx]; simpa using (RowL.new (World.alloc _ _) 52 [s', .int .i64 m.rule.lc, .int .i64 m.rule.hc, .int .i64 m.rule.lm, .int .i64 m.rule.hm, .int .i64 m.rule.ls, .int .i64 m.rule.hs, .int .i64 m.strand, p', l', h', .int .i64 m.scrap])
  have B_0 : Below w.heap.size w wx := by rw [hwx]; go_grown
  clear hwx
  have hL0 := C_0.lt
  have VS_0 := hide (VS.out.below B_0)
  have VP_0 := hide (VP.out.below B_0)
  have VL_0 := hide (VL.out.below B_0)
  have VH_0 := hide (VH.out.below B_0)
  have VT_0 := hide (VT.out.below B_0)
  have VQ_0 := hide (VQ.out.below B_0)
  have VM_0 := hide (VM.out.below B_0)
  have VI_0 := hide (VI.out.below B_0)
  refine (eqStuffS_same s s' m.store _ _ _ _ wx VS_0.out VT_0.out).mono ?_
  rintro e w1 ⟨rfl, hb⟩
  have A_1 := A_0.below hb A_0.lt
  have C_1 := C_0.below hb C_0.lt
  have VS_1 := hide (VS_0.out.below hb)
  have VP_1 := hide (VP_0.out.below hb)
  have VL_1 := hide (VL_0.out.below hb)
  have VH_1 := hide (VH_0.out.below hb)
  have VT_1 := hide (VT_0.out.below hb)
  have VQ_1 := hide (VQ_0.out.below hb)
  have VM_1 := hide (VM_0.out.below hb)
  have VI_1 := hide (VI_0.out.below hb)
  have B_1 := hide (Below.step B_0 hb (Nat.le_refl _))
  have hz1 := hb.size
  clear hb
  have cA1 : w1.cell? ⟨w.heap.size, 1, none⟩ = some (.int .i64 m.rule.lc) := A_1.cell 1 (by simp)
  have cA2 : w1.cell? ⟨w.heap.size, 2, none⟩ = some (.int .i64 m.rule.hc) := A_1.cell 2 (by simp)
  have cA3 : w1.cell? ⟨w.heap.size, 3, none⟩ = some (.int .i64 m.rule.lm) := A_1.cell 3 (by simp)
  have cA4 : w1.cell? ⟨w.heap.size, 4, none⟩ = some (.int .i64 m.rule.hm) := A_1.cell 4 (by simp)
  have cA5 : w1.cell? ⟨w.heap.size, 5, none⟩ = some (.int .i64 m.rule.ls) := A_1.cell 5 (by simp)
  have cA6 : w1.cell? ⟨w.heap.size, 6, none⟩ = some (.int .i64 m.rule.hs) := A_1.cell 6 (by simp)
  have cC1 : w1.cell? ⟨w.heap.size + 1, 1, none⟩ = some (.int .i64 m.rule.lc) := C_1.cell 1 (by simp)
  have cC2 : w1.cell? ⟨w.heap.size + 1, 2, none⟩ = some (.int .i64 m.rule.hc) := C_1.cell 2 (by simp)
  have cC3 : w1.cell? ⟨w.heap.size + 1, 3, none⟩ = some (.int .i64 m.rule.lm) := C_1.cell 3 (by simp)
  have cC4 : w1.cell? ⟨w.heap.size + 1, 4, none⟩ = some (.int .i64 m.rule.hm) := C_1.cell 4 (by simp)
  have cC5 : w1.cell? ⟨w.heap.size + 1, 5, none⟩ = some (.int .i64 m.rule.ls) := C_1.cell 5 (by simp)
  have cC6 : w1.cell? ⟨w.heap.size + 1, 6, none⟩ = some (.int .i64 m.rule.hs) := C_1.cell 6 (by simp)
  go_wp2_with fail
  refine (eqGrade_same m.rule w1).mono ?_
  rintro e w2 ⟨rfl, hb⟩
  have A_2 := A_1.below hb A_1.lt
  have C_2 := C_1.below hb C_1.lt
  have VS_2 := hide (VS_1.out.below hb)
  have VP_2 := hide (VP_1.out.below hb)
  have VL_2 := hide (VL_1.out.below hb)
  have VH_2 := hide (VH_1.out.below hb)
  have VT_2 := hide (VT_1.out.below hb)
  have VQ_2 := hide (VQ_1.out.below hb)
  have VM_2 := hide (VM_1.out.below hb)
  have VI_2 := hide (VI_1.out.below hb)
  have B_2 := hide (Below.step B_1.out hb (Nat.le_refl _))
  have hz2 := hb.size
  clear hb
  have cA7 : w2.cell? ⟨w.heap.size, 7, none⟩ = some (.int .i64 m.strand) := A_2.cell 7 (by simp)
  have cA8 : w2.cell? ⟨w.heap.size, 8, none⟩ = some (p) := A_2.cell 8 (by simp)
  have cC7 : w2.cell? ⟨w.heap.size + 1, 7, none⟩ = some (.int .i64 m.strand) := C_2.cell 7 (by simp)
  have cC8 : w2.cell? ⟨w.heap.size + 1, 8, none⟩ = some (p') := C_2.cell 8 (by simp)
  go_wp2_with fail
  refine (eqPieceS_same p p' m.pieces _ _ _ _ w2 VP_2.out VQ_2.out).mono ?_
  rintro e w3 ⟨rfl, hb⟩
  have A_3 := A_2.below hb A_2.lt
  have C_3 := C_2.below hb C_2.lt
  have VP_3 := hide (VP_2.out.below hb)
  have VL_3 := hide (VL_2.out.below hb)
  have VH_3 := hide (VH_2.out.below hb)
  have VQ_3 := hide (VQ_2.out.below hb)
  have VM_3 := hide (VM_2.out.below hb)
  have VI_3 := hide (VI_2.out.below hb)
  have B_3 := hide (Below.step B_2.out hb (Nat.le_refl _))
  have hz3 := hb.size
  clear hb
  have cA9 : w3.cell? ⟨w.heap.size, 9, none⟩ = some (l) := A_3.cell 9 (by simp)
  have cA10 : w3.cell? ⟨w.heap.size, 10, none⟩ = some (h) := A_3.cell 10 (by simp)
  have cC9 : w3.cell? ⟨w.heap.size + 1, 9, none⟩ = some (l') := C_3.cell 9 (by simp)
  have cC10 : w3.cell? ⟨w.heap.size + 1, 10, none⟩ = some (h') := C_3.cell 10 (by simp)
  go_wp2_with fail
  refine (eqPile_same l h l' h' m.low m.high w3 ((VL_3.out).mono (Nat.le_refl _) (VL_3.out).lt (Nat.le_refl _)) ((VH_3.out).mono (Nat.le_refl _) (VH_3.out).lt (Nat.le_refl _)) ((VM_3.out).mono (Nat.le_refl _) (VM_3.out).lt (Nat.le_refl _)) ((VI_3.out).mono (Nat.le_refl _) (VI_3.out).lt (Nat.le_refl _))).mono ?_
  rintro e w4 ⟨rfl, hb⟩
  have A_4 := A_3.below hb A_3.lt
  have C_4 := C_3.below hb C_3.lt
  have VP_4 := hide (VP_3.out.below hb)
  have VL_4 := hide (VL_3.out.below hb)
  have VH_4 := hide (VH_3.out.below hb)
  have VQ_4 := hide (VQ_3.out.below hb)
  have VM_4 := hide (VM_3.out.below hb)
  have VI_4 := hide (VI_3.out.below hb)
  have B_4 := hide (Below.step B_3.out hb (Nat.le_refl _))
  have hz4 := hb.size
  clear hb
  have cA11 : w4.cell? ⟨w.heap.size, 11, none⟩ = some (.int .i64 m.scrap) := A_4.cell 11 (by simp)
  have cC11 : w4.cell? ⟨w.heap.size + 1, 11, none⟩ = some (.int .i64 m.scrap) := C_4.cell 11 (by simp)
  go_wp2_with fail
  go_ret
  exact ⟨rfl, B_4.out⟩

def markSt (k : Int) (n : Nat) : List St := (List.range n).map fun (i : Nat) => mkSt (k + 5 * i)
def markPc (k : Int) (n : Nat) : List Pc := (List.range n).map fun (i : Nat) => mkPc (k + 2 * i)
def markI (k : Int) (n : Nat) : List Int := (List.range n).map fun (i : Nat) => k + i
theorem markSt_eq {k : Int} {n : Nat} {ys : List St} (hl : ys.length = n) (h : ∀ i (_ : i < ys.length), ys[i] = mkSt (k + 5 * i)) : ys = markSt k n := by
  refine List.ext_getElem (by simp [markSt, hl]) fun i h1 h2 => ?_
  rw [h i h1]; simp [markSt]
theorem markPc_eq {k : Int} {n : Nat} {ys : List Pc} (hl : ys.length = n) (h : ∀ i (_ : i < ys.length), ys[i] = mkPc (k + 2 * i)) : ys = markPc k n := by
  refine List.ext_getElem (by simp [markPc, hl]) fun i h1 h2 => ?_
  rw [h i h1]; simp [markPc]
theorem markI_eq {k : Int} {n : Nat} {ys : List Int} (hl : ys.length = n) (h : ∀ i (_ : i < ys.length), ys[i] = k + i) : ys = markI k n := by
  refine List.ext_getElem (by simp [markI, hl]) fun i h1 h2 => ?_
  rw [h i h1]; simp [markI]
theorem markSt_at (k : Int) (n : Nat) : ∀ i (_ : i < (markSt k n).length), (markSt k n)[i] = mkSt (k + 5 * i) := fun i _ => by simp [markSt]
theorem markPc_at (k : Int) (n : Nat) : ∀ i (_ : i < (markPc k n).length), (markPc k n)[i] = mkPc (k + 2 * i) := fun i _ => by simp [markPc]
theorem markI_at (k : Int) (n : Nat) : ∀ i (_ : i < (markI k n).length), (markI k n)[i] = k + i := fun i _ => by simp [markI]
/-- A mill overwritten with marks from k on. -/
def markedM (k : Int) (m : Mi) : Mi :=
  { m with store := markSt k m.store.length, pieces := markPc (k + 5 * m.store.length) m.pieces.length, low := markI (k + 5 * m.store.length + 2 * m.pieces.length) m.low.length, high := markI (k + 5 * m.store.length + 2 * m.pieces.length + m.low.length) m.high.length }
def marksM (m : Mi) : Int := 5 * m.store.length + 2 * m.pieces.length + m.low.length + m.high.length

/-- A mill was marked. -/
def MarkGot (lo hi : Nat) (s p l h : Value) (m : Mi) (k : Int) (w : World) (e : Ending) (w' : World) : Prop :=
  e = .returned (.int .i64 (k + marksM m)) ∧ Other lo hi w w' ∧ MillSep lo hi w' s p l h (markedM k m)
end Go.Proofs.YtbafifilklfafaaDoor
