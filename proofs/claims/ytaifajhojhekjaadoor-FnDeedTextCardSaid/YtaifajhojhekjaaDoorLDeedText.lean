/-
  The walk over the law FnDeedText: it answers true, whatever the code.
-/
import Derived.Test.YtaifajhojhekjaaDoorLExactReadDeed
import Derived.Test.YtaifajhojhekjaaDoorAlive
namespace Go.Proofs.YtaifajhojhekjaaDoor
open Go.RowKit

theorem old_frozen {r : Nat} (W : World) (o : Obj) (i : Nat) (h : r < W.heap.size) : (W.alloc o).frozen? ⟨r, i, none⟩ = W.frozen? ⟨r, i, none⟩ := by
  simp only [World.frozen?, World.alloc, Array.getElem?_push, Nat.ne_of_lt h, if_false]
/-- A deed was drawn. -/
def DeedGot (w : World) (e : Ending) (w' : World) : Prop := ∃ k o t : Int, e = .returned (.agg #[.int .i64 k, .int .i64 o, .int .i64 t]) ∧ Below w.heap.size w w'

set_option linter.unusedSimpArgs false in
set_option maxRecDepth 10000 in
set_option maxHeartbeats 800000 in
theorem drawDeedText (v : Value) (n : Nat) (w : World) (h : BytesAt 0 w.heap.size w v n) : Calls Tryd.prog 32 #[v] w (DeedGot w) := by
  have HB := hide h
  clear h
  go_enter Tryd.func32, Tryd.ntmps32
  go_wp2_with fail
  obtain ⟨wx, hwx⟩ : ∃ wx, wx = w.alloc (Obj.cells #[Value.int IntKind.i64 0, Value.int IntKind.i64 0, Value.int IntKind.i64 0] 32) := ⟨_, rfl⟩
  rw [← hwx]
  have hdb : Below w.heap.size w wx := by rw [hwx]; exact (Below.refl _ _).alloc (Nat.le_refl _) _
  have hrl : w.heap.size < wx.heap.size := by rw [hwx]; simp
  have c0 : wx.cell? ⟨w.heap.size, 0, none⟩ = some (.int .i64 0) := by rw [hwx]; simp [go_sem]
  have c1 : wx.cell? ⟨w.heap.size, 1, none⟩ = some (.int .i64 0) := by rw [hwx]; simp [go_sem]
  have c2 : wx.cell? ⟨w.heap.size, 2, none⟩ = some (.int .i64 0) := by rw [hwx]; simp [go_sem]
  have f0 : wx.frozen? ⟨w.heap.size, 0, none⟩ = false := by rw [hwx]; simp [go_sem]
  have f1 : wx.frozen? ⟨w.heap.size, 1, none⟩ = false := by rw [hwx]; simp [go_sem]
  have f2 : wx.frozen? ⟨w.heap.size, 2, none⟩ = false := by rw [hwx]; simp [go_sem]
  have HC := hide (And.intro c0 (And.intro c1 (And.intro c2 (And.intro f0 (And.intro f1 f2)))))
  clear hwx c0 c1 c2 f0 f1 f2
  refine (open_any v n _ (HB.out.stay hdb)).mono ?_
  rintro e w1 ⟨R, rfl, hR, hb1, hr1⟩
  have HFw1 := hide hb1
  clear hb1
  go_wp2_with fail
  refine (pick_in R _ 5 _ hr1 (by omega) (by omega) (by omega)).mono ?_
  rintro e w2 ⟨x1, rfl, px11, px12, ho, hrw2⟩
  have HFw2 := hide (HFw1.out.trans (ho.below hR HFw1.out.size))
  clear ho hr1
  go_wp2_with fail
  refine (pick_in R _ 12 _ hrw2 (by omega) (by omega) (by omega)).mono ?_
  rintro e w3 ⟨x2, rfl, px21, px22, ho, hrw3⟩
  have HFw3 := hide (HFw2.out.trans (ho.below hR HFw2.out.size))
  clear ho hrw2
  go_wp2_with fail
  refine (pick_in R _ 256 _ hrw3 (by omega) (by omega) (by omega)).mono ?_
  rintro e w4 ⟨x3, rfl, px31, px32, ho, hrw4⟩
  have HFw4 := hide (HFw3.out.trans (ho.below hR HFw3.out.size))
  clear ho hrw3
  go_wp2_with fail
  refine (pick_in R _ 40 _ hrw4 (by omega) (by omega) (by omega)).mono ?_
  rintro e w5 ⟨x4, rfl, px41, px42, ho, hrw5⟩
  have HFw5 := hide (HFw4.out.trans (ho.below hR HFw4.out.size))
  clear ho hrw4
  go_wp2_with fail
  refine (pick_in R _ 30 _ hrw5 (by omega) (by omega) (by omega)).mono ?_
  rintro e w6 ⟨x5, rfl, px51, px52, ho, hrw6⟩
  have HFw6 := hide (HFw5.out.trans (ho.below hR HFw5.out.size))
  clear ho hrw5
  go_wp2_with fail
  refine (pick_in R _ 90 _ hrw6 (by omega) (by omega) (by omega)).mono ?_
  rintro e w7 ⟨x6, rfl, px61, px62, ho, hrw7⟩
  have HFw7 := hide (HFw6.out.trans (ho.below hR HFw6.out.size))
  clear ho hrw6
  obtain ⟨c0, c1, c2, f0, f1, f2⟩ := HC.out
  have b7 := HFw7.out
  replace c0 : w7.cell? ⟨w.heap.size, 0, none⟩ = some (.int .i64 0) := by rw [b7.cell hrl]; exact c0
  replace c1 : w7.cell? ⟨w.heap.size, 1, none⟩ = some (.int .i64 0) := by rw [b7.cell hrl]; exact c1
  replace c2 : w7.cell? ⟨w.heap.size, 2, none⟩ = some (.int .i64 0) := by rw [b7.cell hrl]; exact c2
  replace f0 : w7.frozen? ⟨w.heap.size, 0, none⟩ = false := by rw [b7.frozen hrl]; exact f0
  replace f1 : w7.frozen? ⟨w.heap.size, 1, none⟩ = false := by rw [b7.frozen hrl]; exact f1
  replace f2 : w7.frozen? ⟨w.heap.size, 2, none⟩ = false := by rw [b7.frozen hrl]; exact f2
  have hr2 : w.heap.size < w7.heap.size := Nat.lt_of_lt_of_le hrl b7.size
  have HB7 := hide (Below.step hdb b7 (Nat.le_refl _))
  have HR7 := hide hrw7
  have hal := fun W o i => old_alloc (r := w.heap.size) W o i
  have HCC := hide (And.intro c0 (And.intro c1 (And.intro c2 (And.intro f0 (And.intro f1 f2)))))
  clear b7 hrw7
  go_wp2_with fail
  all_goals first
    | (refine bodyPost_ret (by simp [results, Tryd.results32, go_sem, hal, hr2, c0, c1, c2]; try rfl) rfl ?_
       exact ⟨_, _, _, rfl, by have := HB7.out; go_grown⟩)
    | (refine (pick_in R _ 8 _ (HR7.out.keep ((Below.refl w7.heap.size w7).alloc (Nat.le_refl _) _) HR7.out.lt) (by omega) (by omega) (by omega)).mono ?_
       rintro e w8 ⟨x7, rfl, px1, px2, ho, hr8⟩
       have hlt := HR7.out.lt
       have hrR : w.heap.size ≠ R := by omega
       have hsz : w7.heap.size + 1 ≤ w8.heap.size := by have := ho.size; simpa using this
       have hoc : ∀ i, w8.cell? ⟨w7.heap.size, i, none⟩ = World.cell? (World.alloc w7 _) ⟨w7.heap.size, i, none⟩ := fun i => World.cell?_of_block (ho.block w7.heap.size (by simp) (.inr (by omega)))
       have hof : ∀ i, w8.frozen? ⟨w7.heap.size, i, none⟩ = World.frozen? (World.alloc w7 _) ⟨w7.heap.size, i, none⟩ := fun i => World.frozen?_of_block (ho.block w7.heap.size (by simp) (.inr (by omega)))
       have hB8 := (HB7.out.alloc HB7.out.size _).trans (ho.below (B := w.heap.size) (by omega) (by simp; omega))
       have HB8 := hide hB8
       have e0 : w8.cell? ⟨w.heap.size, 0, none⟩ = some (.int .i64 0) := by rw [World.cell?_of_block (ho.block w.heap.size (by simp; omega) (.inl (by omega))), old_alloc _ _ _ hr2]; exact c0
       have e1 : w8.cell? ⟨w.heap.size, 1, none⟩ = some (.int .i64 0) := by rw [World.cell?_of_block (ho.block w.heap.size (by simp; omega) (.inl (by omega))), old_alloc _ _ _ hr2]; exact c1
       have e2 : w8.cell? ⟨w.heap.size, 2, none⟩ = some (.int .i64 0) := by rw [World.cell?_of_block (ho.block w.heap.size (by simp; omega) (.inl (by omega))), old_alloc _ _ _ hr2]; exact c2
       have y0 : w8.frozen? ⟨w.heap.size, 0, none⟩ = false := by rw [World.frozen?_of_block (ho.block w.heap.size (by simp; omega) (.inl (by omega))), old_frozen _ _ _ hr2]; exact f0
       have y1 : w8.frozen? ⟨w.heap.size, 1, none⟩ = false := by rw [World.frozen?_of_block (ho.block w.heap.size (by simp; omega) (.inl (by omega))), old_frozen _ _ _ hr2]; exact f1
       have y2 : w8.frozen? ⟨w.heap.size, 2, none⟩ = false := by rw [World.frozen?_of_block (ho.block w.heap.size (by simp; omega) (.inl (by omega))), old_frozen _ _ _ hr2]; exact f2
       have d0 := (hoc 0).trans (by rw [Go.Joins.cell_alloc_mark_at _ _ _ _ _ _ rfl])
       simp at d0
       have d1 := (hoc 1).trans (by rw [Go.Joins.cell_alloc_mark_at _ _ _ _ _ _ rfl])
       simp at d1
       have d2 := (hoc 2).trans (by rw [Go.Joins.cell_alloc_mark_at _ _ _ _ _ _ rfl])
       simp at d2
       have z2 : w8.frozen? ⟨w7.heap.size, 2, none⟩ = false := (hof 2).trans (by simp [go_sem])
       have hne : w7.heap.size ≠ w.heap.size := by omega
       have hne' : w.heap.size ≠ w7.heap.size := by omega
       clear HR7 hoc hof ho hr8 hB8 c0 c1 c2 f0 f1 f2 hal
       rcases hx7 : decide (0 < x7)
       all_goals
         go_wp2_with fail
         refine bodyPost_ret (by simp [results, Tryd.results32, go_sem, e0, e1, e2, hne, hne']; try rfl) rfl ?_
         exact ⟨_, _, _, rfl, by have := HB8.out; go_grown⟩)

theorem dtB_len {k o t : Int} (h : (dtB k o t).size ≠ 0) : (dtB k o t).size ≤ 100 := by
  obtain ⟨h1, h2, h3, h4⟩ := good_parts h rfl
  have ho := wi_iff.1 h2
  have ht := wi_iff.1 h3
  have l1 := name_len k
  have l2 := numB_len o (by omega) (by omega)
  have l3 := numB_len t (by omega) (by omega)
  unfold dtB
  split
  · split
    · simp only [ByteArray.size_append, spB]; show _ + 1 + _ + 1 + _ ≤ 100; omega
    · simp only [ByteArray.size_append, spB]; show _ + 1 + _ ≤ 100; omega
  · show 0 ≤ 100; omega

set_option maxRecDepth 10000 in
set_option maxHeartbeats 800000 in
theorem law_DeedText (v : Value) (n : Nat) (m : Int) (w : World) (h : BytesAt 0 w.heap.size w v n) (hm : w.cell? ⟨1, 0, none⟩ = some (.int .i64 m)) (hna : NamesIs w) (hpo : PowIs w) :
    Calls Tryd.prog 8 #[v] w fun e w' => e = .returned (.bool true) ∧ Below w.heap.size w w' := by
  have h1lt : 1 < w.heap.size := by
    rcases Nat.lt_or_ge 1 w.heap.size with h | h
    · exact h
    · simp [World.cell?, Array.getElem?_eq_none h] at hm
  obtain ⟨ao, cap, rfl, hnc, hcap, -, -⟩ := id h
  have HB := hide h
  clear h
  by_cases hlong : 1048576 < n
  · go_enter Tryd.func8, Tryd.ntmps8
    go_wp2_with fail
    go_ret
    exact ⟨rfl, by go_grown⟩
  go_enter Tryd.func8, Tryd.ntmps8
  go_wp2_with fail
  refine (drawDeedText _ n _ HB.out).mono ?_
  rintro e w1 ⟨k, o, t, rfl, hb1⟩
  go_wp2_with fail
  obtain ⟨wx, hwx⟩ : ∃ wx, wx = w1.alloc (Obj.cells #[Value.int IntKind.i64 k, Value.int IntKind.i64 o, Value.int IntKind.i64 t] 32) := ⟨_, rfl⟩
  rw [← hwx]
  have hdb : Below w.heap.size w wx := by rw [hwx]; exact hb1.alloc hb1.size _
  have hd0 : wx.cell? ⟨w1.heap.size, 0, none⟩ = some (.int .i64 k) := by rw [hwx]; simp [go_sem]
  have hd1 : wx.cell? ⟨w1.heap.size, 1, none⟩ = some (.int .i64 o) := by rw [hwx]; simp [go_sem]
  have hd2 : wx.cell? ⟨w1.heap.size, 2, none⟩ = some (.int .i64 t) := by rw [hwx]; simp [go_sem]
  have hdl : w1.heap.size < wx.heap.size := by rw [hwx]; simp
  clear hwx hb1
  refine (dt_impl k o t _ (hna.stays hdb) (hpo.stays hdb)).mono ?_
  rintro e w2 ⟨rfl, hb2⟩
  obtain ⟨⟨c0, c1, c2⟩, cl, cb⟩ := box3 hb2 hd0 hd1 hd2 hdl hdb
  clear hb2 hd0 hd1 hd2 hdl hdb
  go_wp2_with fail
  refine (dt_spec k o t _).mono ?_
  rintro e w3 ⟨rfl, hb3⟩
  obtain ⟨⟨d0, d1, d2⟩, dl, db⟩ := box3 hb3 c0 c1 c2 cl cb
  clear hb3 c0 c1 c2 cl cb
  have hem := empty_iff (dtB k o t)
  by_cases hz : (dtB k o t).size = 0
  · rw [decide_eq_true hz] at hem
    clear hz
    go_wp2_with fail
    refine (alive_any _).mono ?_
    rintro e w9 ⟨rfl, hb9⟩
    have HB9 := hide (Below.step db hb9 (Nat.le_refl _))
    clear hb9
    go_wp2_with fail
    go_ret
    exact ⟨rfl, HB9.out⟩
  rw [decide_eq_false hz] at hem
  have hl := dtB_len hz
  have hrd : rdI (partsB (dtB k o t)) = some (k, o, t) := (rdI_iff (parts_cut _) k o t).2 ⟨hz, rfl⟩
  have HRD := hide hrd
  have HL := hide hl
  clear hrd hl hz
  go_wp2_with fail
  refine (readDeed_impl _ m _ (by have := HL.out; omega) (by rw [db.cell h1lt]; exact hm) (hna.stays db)).mono ?_
  rintro e w4 ⟨rfl, hb4⟩
  rw [HRD.out]
  simp only [deedV]
  obtain ⟨⟨c0, c1, c2⟩, cl, cb⟩ := box3 hb4 d0 d1 d2 dl db
  clear hb4 d0 d1 d2 dl db
  go_wp2_with fail
  have HC := hide cb
  go_ret
  exact ⟨by simp, HC.out.alloc HC.out.size _⟩
end Go.Proofs.YtaifajhojhekjaaDoor
