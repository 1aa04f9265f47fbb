/-
  The walks over validity of mills: the program's.
-/
import Derived.Test.YtbafifilklfafaaDoorPileF
import Derived.Test.YtbafifilklfafaaDoorMillA
import Derived.Deep.RegionWith
namespace Go.Proofs.YtbafifilklfafaaDoor
open Go.RowKit

theorem equal_any (v v' : Value) (xs ys : List Int) (lo hi lo' hi' : Nat) (w : World) (h : IntsAt lo hi w v xs) (h' : IntsAt lo' hi' w v' ys) :
    Calls Tryd.prog 80 #[v, v'] w fun e w' => e = .returned (.bool (decide (xs = ys))) ∧ Below w.heap.size w w' := by
  have h1 := h.len
  have h2 := h'.len
  obtain ⟨ao, cap, rfl, -, -, -, hc⟩ := h
  obtain ⟨ao', cap', rfl, -, -, -, hc'⟩ := h'
  by_cases hl : xs.length = ys.length
  · rcases Nat.eq_zero_or_pos xs.length with h0 | h0
    · have e1 : xs = [] := List.eq_nil_of_length_eq_zero h0
      have e2 : ys = [] := List.eq_nil_of_length_eq_zero (by omega)
      subst e1 e2
      exact (Tryd.slices_Equal_int_empty ao ao' cap 0 cap' w (by omega)).mono fun e w' ⟨he, hw⟩ => ⟨by rw [List.length_nil] at *; rw [he]; rfl, by rw [hw]; exact Below.refl _ _⟩
    · obtain ⟨b, o, rfl, -, -, hcs⟩ := hc h0
      obtain ⟨b', o', rfl, -, -, hcs'⟩ := hc' (by omega)
      refine (Tryd.slices_Equal_int b o xs.length cap b' o' ys.length cap' xs ys w (Nat.le_refl _) (Nat.le_refl _) h1 h2 (fun j hj => by rw [(hcs j hj).1, getD_eq hj]) (fun j hj => by rw [(hcs' j hj).1, getD_eq hj])).mono ?_
      rintro e w' ⟨he, q, hw⟩
      refine ⟨?_, by rw [hw]; exact below_drewN (Below.refl _ _) _⟩
      rw [he, List.take_of_length_le (Nat.le_refl _), List.take_of_length_le (Nat.le_refl _)]
      congr 2
      rw [Bool.eq_iff_iff]; simp
  · exact (Tryd.slices_Equal_int_lens ao ao' xs.length cap ys.length cap' w hl).mono fun e w' ⟨he, hw⟩ => ⟨by rw [he]; have : xs ≠ ys := fun e => hl (by rw [e]); simp [this], by rw [hw]; exact Below.refl _ _⟩

set_option maxRecDepth 10000 in
set_option maxHeartbeats 800000 in
theorem idsIn_any (p : Value) (ps : List Pc) (st : Int) (lo hi : Nat) (w : World) (H : PcAt lo hi w p ps) (hl : ps.length ≤ 1000000) :
    Calls Tryd.prog 81 #[p, .int .i64 st] w (IntsNew w.heap.size (idsIn ps st) w) := by
  obtain ⟨ao, cap, rfl, hlc, hcap, hhi, hc⟩ := H
  have HC := hide hc
  obtain ⟨i0, hi0, hz0, hi1, hi2⟩ := info_parts info_int
  clear hc
  go_enter Tryd.func81, Tryd.ntmps81
  go_wp2_with fail
  go_loopw [5, 6, 7, 10] (fun o _ _ i wr => ∃ k : Nat, k ≤ ps.length ∧ i = .int .i64 k ∧ Below w.heap.size w wr ∧ wr.ownsRow w.heap.size 3 1 o (idsTo ps st k).length (flatI (idsTo ps st k))) (fun _ _ _ i _ => ps.length - (intOf i).toNat)
  case atStart => exact ⟨0, Nat.zero_le _, rfl, Below.refl _ _, World.ownsRow_nil _ _ _ _⟩
  case round =>
    obtain ⟨k, hk, rfl, hb, hown⟩ := hrel
    have HB := hide hb
    have HO := hide hown
    have hnl := idsTo_len ps st k
    have hszr := hb.size
    obtain ⟨aow, capw, rfl, -, -⟩ := own_slice hown
    clear hown
    by_cases hlt : k < ps.length
    · obtain ⟨b, o, rfl, hx1, hx2, hcs⟩ := HC.out (by omega)
      obtain ⟨⟨r1, r2⟩, -⟩ := hcs k hlt
      rw [← hb.cell (p := ⟨b, _, none⟩) (by simpa using by omega)] at r1 r2
      have hg : ps.getD k pc0 = ps[k] := by simp [hlt]
      have hN : idsTo ps st (k + 1) = if ps[k].s == st then idsTo ps st k ++ [(k : Int) + 1] else idsTo ps st k := by rw [idsTo, hg]
      have HN := hide hN
      obtain ⟨x, hx⟩ : ∃ x, ps[k].s = x := ⟨_, rfl⟩
      obtain ⟨y, hy⟩ : ∃ y, ps[k].l = y := ⟨_, rfl⟩
      rw [hx] at r2 HN
      rw [hy] at r1
      have hkI : (k : Int) < (ps.length : Int) := by omega
      clear hcs hx hy hb hg hN
      cases hq : (x == st) with
      | false =>
        have HN2 := hide (show idsTo ps st (k + 1) = idsTo ps st k by rw [HN.out, hq]; rfl)
        go_wp2_with fail
        go_roundw
        case rel => exact ⟨k + 1, by omega, by go_num, HB.out.alloc hszr _, by rw [HN2.out]; exact HO.out.alloc _⟩
        case measure => simp [intOf]; omega
      | true =>
        have HN2 := hide (show idsTo ps st (k + 1) = idsTo ps st k ++ [(k : Int) + 1] by rw [HN.out, hq]; rfl)
        go_wp2_with (at_builtin; refine wpList_append_view rfl _ _ 40 rfl w.heap.size 3 i0 (.int .i64 0) 1 8 Tryd.underlying40 hi0 hz0 hi1 hi2 rfl (by decide) _ _ _ rfl ((HO.out.alloc _).alloc _) (.slice (some ⟨wr.heap.size + 1, 0, none⟩) 1 1) 1 [.int .i64 ((k : Int) + 1)] rfl ?c0 ?c1 ?c2 ?c3 ?_)
        case c0 => simpa using Source.lit (World.alloc wr _) [.int .i64 ((k : Int) + 1)] 1 3 1 rfl (fun u hu => by simp at hu; subst hu; rfl) 1
        case c1 => unfold maxLen; omega
        case c2 => omega
        case c3 => simp; omega
        intro v2 w3 hown2 hgrow2 _
        have hB3 := ((HB.out.alloc hszr (.cells #[.int .i64 y, .int .i64 x] 109)).alloc (by simp; omega) (.cells #[.int .i64 ((k : Int) + 1)] 3)).trans (Below.grow hgrow2 ((HO.out.alloc _).alloc _) (Nat.le_refl _) (by simp; omega))
        have HB3 := hide hB3
        have HO3 := hide (show w3.ownsRow w.heap.size 3 1 v2 (idsTo ps st (k + 1)).length (flatI (idsTo ps st (k + 1))) by rw [HN2.out]; simpa [flatI] using hown2)
        clear hown2 hgrow2 hB3
        go_wp2_with fail
        go_roundw
        case rel => exact ⟨k + 1, by omega, by go_num, HB3.out, HO3.out⟩
        case measure => simp [intOf]; omega
    · obtain rfl : k = ps.length := by omega
      go_wp2_with fail
      go_ret
      exact ⟨_, rfl, HO.out, HB.out⟩
end Go.Proofs.YtbafifilklfafaaDoor
