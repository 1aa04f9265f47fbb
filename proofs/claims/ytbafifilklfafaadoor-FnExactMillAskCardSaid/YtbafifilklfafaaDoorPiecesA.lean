/-
  The walk over PiecesIn: the program's.
-/
import Derived.Test.YtbafifilklfafaaDoorMillD
namespace Go.Proofs.YtbafifilklfafaaDoor
open Go.RowKit

theorem pieces_len (m : Mi) (st : Int) : (piecesR m st).length ≤ 30 := by
  unfold piecesR
  split
  · rename_i h
    exact Nat.le_trans (idsTo_len m.pieces st m.pieces.length) (millB_iff.1 h).len
  · simp

set_option maxRecDepth 10000 in
set_option maxHeartbeats 1600000 in
theorem pieces_impl (s p l h : Value) (m : Mi) (st : Int) (w : World) (H : MillIn 0 w.heap.size w s p l h m) :
    Calls Tryd.prog 57 #[millV s p l h m, .int .i64 st] w (IntsNew w.heap.size (piecesR m st) w) := by
  obtain ⟨ao1, cap1, rfl, -, -, -, -⟩ := id H.store
  obtain ⟨ao2, cap2, rfl, -, -, -, -⟩ := id H.pieces
  obtain ⟨ao3, cap3, rfl, -, -, -, -⟩ := id H.low
  obtain ⟨ao4, cap4, rfl, -, -, -, -⟩ := id H.high
  have hpl := H.pieces.len
  unfold millV
  go_enter Tryd.func57, Tryd.ntmps57
  go_wp2_with fail
  refine calls_at fun wx hwx => ?_
  have A_0 : RowL wx (w.heap.size) 52 [.slice ao1 m.store.length cap1, .int .i64 m.rule.lc, .int .i64 m.rule.hc, .int .i64 m.rule.lm, .int .i64 m.rule.hm, .int .i64 m.rule.ls, .int .i64 m.rule.hs, .int .i64 m.strand, .slice ao2 m.pieces.length cap2, .slice ao3 m.low.length cap3, .slice ao4 m.high.length cap4, .int .i64 m.scrap] := by rw [hwx]; exact (RowL.new _ 52 [.slice ao1 m.store.length cap1, .int .i64 m.rule.lc, .int .i64 m.rule.hc, .int .i64 m.rule.lm, .int .i64 m.rule.hm, .int .i64 m.rule.ls, .int .i64 m.rule.hs, .int .i64 m.strand, .slice ao2 m.pieces.length cap2, .slice ao3 m.low.length cap3, .slice ao4 m.high.length cap4, .int .i64 m.scrap])
  have B_0 : Below w.heap.size w wx := by rw [hwx]; go_grown
  clear hwx
  have hL0 := A_0.lt
  have VV_0 := hide (H.below B_0)
  have KV := mill_impl _ _ _ _ m wx VV_0.out.all
  cases hv : millB m with
  | false =>
    rw [hv] at KV
    refine KV.mono ?_
    rintro e w1 ⟨rfl, hb⟩
    have HB := hide (Below.step B_0 hb (Nat.le_refl _))
    have HF := hide (show piecesR m st = [] by simp [piecesR, hv])
    clear hb KV hv
    go_wp2_with fail
    go_ret
    exact ⟨_, rfl, by rw [HF.out]; exact World.ownsRow_nil _ _ _ _, HB.out⟩
  | true =>
    rw [hv] at KV
    have HF := hide (show piecesR m st = idsIn m.pieces st by simp [piecesR, hv])
    have h5 := (millB_iff.1 hv).len
    clear hv
    refine (KV).mono ?_
    rintro e w1 ⟨rfl, hb⟩
    have A_1 := A_0.below hb A_0.lt
    have VV_1 := hide (VV_0.out.below hb)
    have B_1 := hide (Below.step B_0 hb (Nat.le_refl _))
    have hz1 := hb.size
    clear hb
    have cA8 : w1.cell? ⟨w.heap.size, 8, none⟩ = some (.slice ao2 m.pieces.length cap2) := A_1.cell 8 (by simp)
    clear KV
    have hzw := B_1.out.size
    go_wp2_with fail
    refine (idsIn_any _ m.pieces st _ _ w1 VV_1.out.pieces (by omega)).mono ?_
    rintro e w2 ⟨v, rfl, hown, hb⟩
    have HB := hide (Below.step B_1.out hb (Nat.le_refl _))
    have HO := hide (ownsRow_mono hown hzw)
    clear hown hb
    go_wp2_with fail
    go_ret
    exact ⟨_, rfl, by rw [HF.out]; exact HO.out, HB.out⟩
end Go.Proofs.YtbafifilklfafaaDoor
