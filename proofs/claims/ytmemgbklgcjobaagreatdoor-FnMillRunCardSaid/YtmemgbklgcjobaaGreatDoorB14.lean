/-
  Parts of the proofs over mills, of: DrawMG. Conditions: each theorem states its own.
-/
import Derived.Test.YtmemgbklgcjobaaGreatDoorB10
import Derived.Test.YtmemgbklgcjobaaGreatDoorB13
set_option linter.unusedSimpArgs false
set_option linter.unusedVariables false
set_option maxRecDepth 10000
namespace Go.Proofs.YtmemgbklgcjobaaGreatDoor
open Go.RowKit
def eightL : List Int := [0, 1, 1, 2, 2, 2, 3, 4]
theorem eight_at : ∀ j, j < 8 → ∃ z : Int, eightL[j]? = some z ∧ 0 ≤ z ∧ z ≤ 4
  | 0, _ => ⟨_, rfl, by decide⟩
  | 1, _ => ⟨_, rfl, by decide⟩
  | 2, _ => ⟨_, rfl, by decide⟩
  | 3, _ => ⟨_, rfl, by decide⟩
  | 4, _ => ⟨_, rfl, by decide⟩
  | 5, _ => ⟨_, rfl, by decide⟩
  | 6, _ => ⟨_, rfl, by decide⟩
  | 7, _ => ⟨_, rfl, by decide⟩
  | n + 8, h => absurd h (by omega)
theorem eight_cell (w : World) (j : Nat) (z : Int) (h : eightL[j]? = some z) : (w.alloc (.cells #[.int .i64 0, .int .i64 1, .int .i64 1, .int .i64 2, .int .i64 2, .int .i64 2, .int .i64 3, .int .i64 4] 3)).cell? ⟨w.heap.size, j, none⟩ = some (.int .i64 z) := by
  have := lit_cells w (flatI eightL) 3 j (.int .i64 z) (by simp [flatI, h])
  rw [adds] at this
  exact this
theorem tdiv01 {y n : Int} (h0 : 0 ≤ y) (h1 : y < n + 1) (hn : 1 ≤ n) : ∃ q, y.tdiv n = q ∧ 0 ≤ q ∧ q ≤ 1 := by
  refine ⟨_, rfl, Int.tdiv_nonneg h0 (by omega), ?_⟩
  rw [Int.tdiv_eq_ediv_of_nonneg h0]
  by_cases e : y = n
  · subst e; rw [Int.ediv_self (by omega)]; omega
  · rw [Int.ediv_eq_zero_of_lt h0 (by omega)]; omega
def LitAt (W : World) (b : Nat) : Prop := b < W.heap.size ∧ ∀ (j : Nat) (z : Int), eightL[j]? = some z → W.cell? ⟨b, j, none⟩ = some (.int .i64 z)
theorem LitAt.new (W : World) : LitAt (W.alloc (.cells #[.int .i64 0, .int .i64 1, .int .i64 1, .int .i64 2, .int .i64 2, .int .i64 2, .int .i64 3, .int .i64 4] 3)) W.heap.size := ⟨by simp, fun j z h => eight_cell W j z h⟩
theorem LitAt.below {W W' : World} {b : Nat} (h : LitAt W b) (k : Below W.heap.size W W') : LitAt W' b := ⟨Nat.lt_of_lt_of_le h.1 k.size, fun j z hz => by rw [k.cell (p := ⟨b, j, none⟩) h.1]; exact h.2 j z hz⟩
theorem LitAt.other {R : Nat} {W W' : World} {b : Nat} (h : LitAt W b) (k : Other R (R + 1) W W') (hb : b ≠ R) : LitAt W' b := ⟨Nat.lt_of_lt_of_le h.1 k.size, fun j z hz => by rw [World.cell?_of_block (k.block b h.1 (by omega))]; exact h.2 j z hz⟩
theorem LitAt.alloc {W : World} {b : Nat} (h : LitAt W b) (o : Obj) : LitAt (W.alloc o) b := h.below ((Below.refl _ _).alloc (Nat.le_refl _) o)
theorem LitAt.drew {W : World} {b : Nat} (h : LitAt W b) : LitAt W.drew b := h
theorem LitAt.new2 (W : World) (o : Obj) : LitAt ((W.alloc o).alloc (.cells #[.int .i64 0, .int .i64 1, .int .i64 1, .int .i64 2, .int .i64 2, .int .i64 2, .int .i64 3, .int .i64 4] 3)) (W.heap.size + 1) := by simpa using LitAt.new (W.alloc o)
theorem row_new2 (W : World) (o : Obj) (T : Nat) (vs : List Value) : RowL ((W.alloc o).alloc (.cells vs.toArray T)) (W.heap.size + 1) T vs := by simpa using RowL.new (W.alloc o) T vs
structure OnWay (R k : Nat) (w W : World) : Prop where
  o : Other R (R + 1) w W
  r : Rd R k W
theorem OnWay.alloc {R k : Nat} {w W : World} (h : OnWay R k w W) (x : Obj) : OnWay R k w (W.alloc x) :=
  ⟨h.o.step ((Below.refl _ _).alloc (Nat.le_refl _) x) h.o.size, h.r.keep ((Below.refl _ _).alloc (Nat.le_refl _) x) h.r.lt⟩
theorem OnWay.drew {R k : Nat} {w W : World} (h : OnWay R k w W) : OnWay R k w W.drew :=
  ⟨h.o.step ((Below.refl W.heap.size W).drew) h.o.size, h.r.keep ((Below.refl W.heap.size W).drew) h.r.lt⟩
theorem OnWay.put {R k : Nat} {w W : World} (h : OnWay R k w W) {b : Nat} (i : Nat) (x : Value) (hb : w.heap.size ≤ b) (hR : R < w.heap.size) : OnWay R k w (W.setCell ⟨b, i, none⟩ x) :=
  ⟨h.o.step (B := w.heap.size) ((Below.refl _ _).setCell (p := ⟨b, i, none⟩) hb _) (Nat.le_refl _), h.r.keep (B := w.heap.size) ((Below.refl _ _).setCell (p := ⟨b, i, none⟩) hb _) hR⟩
def Deeded (R k : Nat) (w : World) (v : Value) (W : World) : Prop := ∃ D x, v = .pointer (some ⟨D, 0, none⟩) ∧ w.heap.size ≤ D ∧ RowL W D 48 [.int .i64 x, .int .i64 0, .int .i64 0] ∧ OnWay R k w W
theorem deed_new {R k : Nat} {w W : World} (h : OnWay R k w W) (x : Int) : Deeded R k w (.pointer (some ⟨W.heap.size, 0, none⟩)) (W.alloc (.cells #[.int .i64 x, .int .i64 0, .int .i64 0] 48)) :=
  ⟨_, x, rfl, h.o.size, RowL.new _ _ _, h.alloc _⟩
theorem deed_new2 {R k : Nat} {w W : World} (h : OnWay R k w W) (o : Obj) (x : Int) : Deeded R k w (.pointer (some ⟨W.heap.size + 1, 0, none⟩)) ((W.alloc o).alloc (.cells #[.int .i64 x, .int .i64 0, .int .i64 0] 48)) :=
  ⟨_, x, rfl, by have := h.o.size; omega, row_new2 W o _ [.int .i64 x, .int .i64 0, .int .i64 0], (h.alloc _).alloc _⟩
theorem deed_new3 {R k : Nat} {w W : World} (h : OnWay R k w W) (o : Obj) (x : Int) : Deeded R k w (.pointer (some ⟨W.heap.size, 0, none⟩)) ((W.alloc (.cells #[.int .i64 x, .int .i64 0, .int .i64 0] 48)).alloc o) :=
  ⟨_, x, rfl, h.o.size, (RowL.new _ _ _).alloc _, (h.alloc _).alloc _⟩
theorem deed_put {R k b : Nat} {w W : World} {v0 v1 v2 : Value} (h : OnWay R k w W) (r : RowL W b 48 [v0, v1, v2]) (hb : w.heap.size ≤ b) (hR : R < w.heap.size) (x : Int) : Deeded R k w (.pointer (some ⟨b, 0, none⟩)) (((W.setCell ⟨b, 0, none⟩ (.int .i64 x)).setCell ⟨b, 1, none⟩ (.int .i64 0)).setCell ⟨b, 2, none⟩ (.int .i64 0)) :=
  ⟨_, x, rfl, hb, ((r.set 0 _ (by simp)).set 1 _ (by simp)).set 2 _ (by simp), ((h.put 0 _ hb hR).put 1 _ hb hR).put 2 _ hb hR⟩
theorem deed_put2 {R k b : Nat} {w W : World} {v0 v1 v2 : Value} (h : OnWay R k w W) (r : RowL W b 48 [v0, v1, v2]) (hb : w.heap.size ≤ b) (hR : R < w.heap.size) (o : Obj) (x : Int) : Deeded R k w (.pointer (some ⟨b, 0, none⟩)) ((((W.setCell ⟨b, 0, none⟩ (.int .i64 x)).setCell ⟨b, 1, none⟩ (.int .i64 0)).setCell ⟨b, 2, none⟩ (.int .i64 0)).alloc o) :=
  ⟨_, x, rfl, hb, (((r.set 0 _ (by simp)).set 1 _ (by simp)).set 2 _ (by simp)).alloc o, (((h.put 0 _ hb hR).put 1 _ hb hR).put 2 _ hb hR).alloc o⟩
theorem deed_put3 {R k b : Nat} {w W : World} {v0 v1 v2 : Value} (h : OnWay R k w W) (r : RowL W b 48 [v0, v1, v2]) (hb : w.heap.size ≤ b) (hR : R < w.heap.size) (o : Obj) (x : Int) : Deeded R k w (.pointer (some ⟨b, 0, none⟩)) ((((W.alloc o).setCell ⟨b, 0, none⟩ (.int .i64 x)).setCell ⟨b, 1, none⟩ (.int .i64 0)).setCell ⟨b, 2, none⟩ (.int .i64 0)) :=
  deed_put (h.alloc o) (r.alloc o) hb hR x
def DeedGot (R k : Nat) (w : World) (e : Ending) (w' : World) : Prop :=
  ∃ d : J, e = .returned (.agg #[.int .i64 d.s, .int .i64 d.d, .int .i64 d.g]) ∧ d.d ≤ 9223372036854775807 ∧ d.g ≤ 9223372036854775807 ∧ Other R (R + 1) w w' ∧ Rd R k w'
set_option maxHeartbeats 64000000 in
theorem l20MillDeed_any (R k : Nat) (s p l h : Value) (m : Mi) (w : World) (hrd : Rd R k w) (hk : k ≤ 40000) (H : MillIn 0 w.heap.size w s p l h m) (hf : Few m) :
    Calls Tryz.prog 106 #[.pointer (some ⟨R, 0, none⟩), millV s p l h m] w (DeedGot R (k + 8) w) := by
  have hlt := hrd.lt
  obtain ⟨ao1, cap1, rfl, -, -, -, -⟩ := id H.store
  obtain ⟨ao2, cap2, rfl, -, -, -, -⟩ := id H.pieces
  obtain ⟨ao3, cap3, rfl, -, -, -, -⟩ := id H.low
  obtain ⟨ao4, cap4, rfl, -, -, -, -⟩ := id H.high
  obtain ⟨q1, hq1, hq10, hq11⟩ : ∃ q : Int, max (m.low.length : Int) 1 = q ∧ 1 ≤ q ∧ q ≤ 10 := ⟨_, rfl, by omega, by have := hf.l; omega⟩
  obtain ⟨q2, hq2, hq20, hq21⟩ : ∃ q : Int, max (m.pieces.length : Int) 1 = q ∧ 1 ≤ q ∧ q ≤ 40 := ⟨_, rfl, by omega, by have := hf.p; omega⟩
  clear H
  unfold millV
  go_enter Tryz.func106, Tryz.ntmps106
  go_wp2_with fail
  obtain ⟨wx, hwx⟩ : ∃ uw : World, uw = (w.alloc (.cells #[.slice ao1 m.store.length cap1, .int .i64 m.rule.lc, .int .i64 m.rule.hc, .int .i64 m.rule.lm, .int .i64 m.rule.hm, .int .i64 m.rule.ls, .int .i64 m.rule.hs, .int .i64 m.strand, .slice ao2 m.pieces.length cap2, .slice ao3 m.low.length cap3, .slice ao4 m.high.length cap4, .int .i64 m.scrap] 31)).alloc (.cells #[.int .i64 0, .int .i64 0, .int .i64 0] 48) := ⟨_, rfl⟩
  rw [← hwx]
  have A_0 : RowL wx (w.heap.size) 31 [.slice ao1 m.store.length cap1, .int .i64 m.rule.lc, .int .i64 m.rule.hc, .int .i64 m.rule.lm, .int .i64 m.rule.hm, .int .i64 m.rule.ls, .int .i64 m.rule.hs, .int .i64 m.strand, .slice ao2 m.pieces.length cap2, .slice ao3 m.low.length cap3, .slice ao4 m.high.length cap4, .int .i64 m.scrap] := by rw [hwx]; exact (RowL.new _ _ _).alloc _
  have Z_0 : RowL wx (w.heap.size + 1) 48 [.int .i64 0, .int .i64 0, .int .i64 0] := by rw [hwx]; simpa using RowL.new (World.alloc _ _) 48 [.int .i64 0, .int .i64 0, .int .i64 0]
  have hbx : Below w.heap.size w wx := by rw [hwx]; go_grown
  have HO0 := hide (Other.of_below (lo := R) (hi := R + 1) hbx)
  have HR0 := hide (hrd.keep hbx hlt)
  have hz0 := Z_0.lt
  have hRx := HR0.out.lt
  have HI0 := hide (show OnWay R k wx wx from ⟨Other.refl _ _ _, HR0.out⟩)
  clear hwx hbx hrd
  go_cut [5] from 7 to 17 (fun v W => Deeded R (k + 2) wx v W)
  case first =>
    go_region_with (first
      | (go_at_call 61; first
          | ((with_reducible refine (pick_in R (k + 1) 60 w2 HI_w2.out.r (by omega) (by omega) (by omega)).mono ?_); rintro e w3 ⟨yw3, rfl, yaw3, ybw3, how3, hrw3⟩; have hzw3 := how3.size; (try simp at hzw3); have HI_w3 := hide (OnWay.mk (HI_w2.out.o.trans how3) hrw3); obtain ⟨q, hq, hqa, hqb⟩ := tdiv01 (n := 59) yaw3 (by omega) (by omega); (try have LB := LA.other how3 (by omega)); (try have hLB := LB.1); (try have cLB := LB.2 j z hz.out); (try have DB := DA.other how3 (by omega)); (try have hDB := DB.lt); (try have cDB_0 := DB.c 0 rfl); (try have fDB_0 := DB.frozen 0); (try have cDB_1 := DB.c 1 rfl); (try have fDB_1 := DB.frozen 1); (try have cDB_2 := DB.c 2 rfl); (try have fDB_2 := DB.frozen 2); have cNw3 := (LitAt.new w3).2 j z hz.out; have cMw3 := (LitAt.new2 w3 (.cells #[.int .i64 0, .int .i64 0, .int .i64 0] 48)).2 j z hz.out; have cOw3 := ((LitAt.new w3).alloc (.cells #[.int .i64 0, .int .i64 0, .int .i64 0] 48)).2 j z hz.out; clear how3 hrw3)
          | ((with_reducible refine (pick_in R (k + 1) 60 (w2.alloc (.cells #[.int .i64 0, .int .i64 1, .int .i64 1, .int .i64 2, .int .i64 2, .int .i64 2, .int .i64 3, .int .i64 4] 3)) (HI_w2.out.alloc _).r (by omega) (by omega) (by omega)).mono ?_); rintro e w3 ⟨yw3, rfl, yaw3, ybw3, how3, hrw3⟩; have hzw3 := how3.size; (try simp at hzw3); have HI_w3 := hide (OnWay.mk ((HI_w2.out.alloc _).o.trans how3) hrw3); obtain ⟨q, hq, hqa, hqb⟩ := tdiv01 (n := 59) yaw3 (by omega) (by omega); have LB : LitAt w3 (w2.heap.size) := ((LitAt.new w2)).other how3 (by omega); have hLB := LB.1; have cLB := LB.2 j z hz.out; (try have DB := (DA.alloc _).other how3 (by omega)); (try have hDB := DB.lt); (try have cDB_0 := DB.c 0 rfl); (try have fDB_0 := DB.frozen 0); (try have cDB_1 := DB.c 1 rfl); (try have fDB_1 := DB.frozen 1); (try have cDB_2 := DB.c 2 rfl); (try have fDB_2 := DB.frozen 2); have cNw3 := (LitAt.new w3).2 j z hz.out; have cMw3 := (LitAt.new2 w3 (.cells #[.int .i64 0, .int .i64 0, .int .i64 0] 48)).2 j z hz.out; have cOw3 := ((LitAt.new w3).alloc (.cells #[.int .i64 0, .int .i64 0, .int .i64 0] 48)).2 j z hz.out; clear how3 hrw3)
          | ((with_reducible refine (pick_in R (k + 1) 60 (w2.alloc (.cells #[.int .i64 0, .int .i64 0, .int .i64 0] 48)) (HI_w2.out.alloc _).r (by omega) (by omega) (by omega)).mono ?_); rintro e w3 ⟨yw3, rfl, yaw3, ybw3, how3, hrw3⟩; have hzw3 := how3.size; (try simp at hzw3); have HI_w3 := hide (OnWay.mk ((HI_w2.out.alloc _).o.trans how3) hrw3); obtain ⟨q, hq, hqa, hqb⟩ := tdiv01 (n := 59) yaw3 (by omega) (by omega); have DB : RowL w3 (w2.heap.size) 48 [.int .i64 0, .int .i64 0, .int .i64 0] := ((RowL.new w2 _ _)).other how3 (by omega); have hDB := DB.lt; have cDB_0 : w3.cell? ⟨w2.heap.size, 0, none⟩ = some (.int .i64 0) := DB.c 0 rfl; have fDB_0 : w3.frozen? ⟨w2.heap.size, 0, none⟩ = false := DB.frozen 0; have cDB_1 : w3.cell? ⟨w2.heap.size, 1, none⟩ = some (.int .i64 0) := DB.c 1 rfl; have fDB_1 : w3.frozen? ⟨w2.heap.size, 1, none⟩ = false := DB.frozen 1; have cDB_2 : w3.cell? ⟨w2.heap.size, 2, none⟩ = some (.int .i64 0) := DB.c 2 rfl; have fDB_2 : w3.frozen? ⟨w2.heap.size, 2, none⟩ = false := DB.frozen 2; (try have LB := (LA.alloc _).other how3 (by omega)); (try have hLB := LB.1); (try have cLB := LB.2 j z hz.out); have cNw3 := (LitAt.new w3).2 j z hz.out; have cMw3 := (LitAt.new2 w3 (.cells #[.int .i64 0, .int .i64 0, .int .i64 0] 48)).2 j z hz.out; have cOw3 := ((LitAt.new w3).alloc (.cells #[.int .i64 0, .int .i64 0, .int .i64 0] 48)).2 j z hz.out; clear how3 hrw3)
          | ((with_reducible refine (pick_in R (k + 1) 60 ((w2.alloc (.cells #[.int .i64 0, .int .i64 1, .int .i64 1, .int .i64 2, .int .i64 2, .int .i64 2, .int .i64 3, .int .i64 4] 3)).alloc (.cells #[.int .i64 0, .int .i64 0, .int .i64 0] 48)) ((HI_w2.out.alloc _).alloc _).r (by omega) (by omega) (by omega)).mono ?_); rintro e w3 ⟨yw3, rfl, yaw3, ybw3, how3, hrw3⟩; have hzw3 := how3.size; (try simp at hzw3); have HI_w3 := hide (OnWay.mk (((HI_w2.out.alloc _).alloc _).o.trans how3) hrw3); obtain ⟨q, hq, hqa, hqb⟩ := tdiv01 (n := 59) yaw3 (by omega) (by omega); have LB : LitAt w3 (w2.heap.size) := (((LitAt.new w2).alloc _)).other how3 (by omega); have hLB := LB.1; have cLB := LB.2 j z hz.out; have DB : RowL w3 (w2.heap.size + 1) 48 [.int .i64 0, .int .i64 0, .int .i64 0] := ((row_new2 w2 _ _ _)).other how3 (by omega); have hDB := DB.lt; have cDB_0 : w3.cell? ⟨w2.heap.size + 1, 0, none⟩ = some (.int .i64 0) := DB.c 0 rfl; have fDB_0 : w3.frozen? ⟨w2.heap.size + 1, 0, none⟩ = false := DB.frozen 0; have cDB_1 : w3.cell? ⟨w2.heap.size + 1, 1, none⟩ = some (.int .i64 0) := DB.c 1 rfl; have fDB_1 : w3.frozen? ⟨w2.heap.size + 1, 1, none⟩ = false := DB.frozen 1; have cDB_2 : w3.cell? ⟨w2.heap.size + 1, 2, none⟩ = some (.int .i64 0) := DB.c 2 rfl; have fDB_2 : w3.frozen? ⟨w2.heap.size + 1, 2, none⟩ = false := DB.frozen 2; have cNw3 := (LitAt.new w3).2 j z hz.out; have cMw3 := (LitAt.new2 w3 (.cells #[.int .i64 0, .int .i64 0, .int .i64 0] 48)).2 j z hz.out; have cOw3 := ((LitAt.new w3).alloc (.cells #[.int .i64 0, .int .i64 0, .int .i64 0] 48)).2 j z hz.out; clear how3 hrw3)
          | ((with_reducible refine (pick_in R (k + 1) 60 ((w2.alloc (.cells #[.int .i64 0, .int .i64 0, .int .i64 0] 48)).alloc (.cells #[.int .i64 0, .int .i64 1, .int .i64 1, .int .i64 2, .int .i64 2, .int .i64 2, .int .i64 3, .int .i64 4] 3)) ((HI_w2.out.alloc _).alloc _).r (by omega) (by omega) (by omega)).mono ?_); rintro e w3 ⟨yw3, rfl, yaw3, ybw3, how3, hrw3⟩; have hzw3 := how3.size; (try simp at hzw3); have HI_w3 := hide (OnWay.mk (((HI_w2.out.alloc _).alloc _).o.trans how3) hrw3); obtain ⟨q, hq, hqa, hqb⟩ := tdiv01 (n := 59) yaw3 (by omega) (by omega); have LB : LitAt w3 (w2.heap.size + 1) := ((LitAt.new2 w2 _)).other how3 (by omega); have hLB := LB.1; have cLB := LB.2 j z hz.out; have DB : RowL w3 (w2.heap.size) 48 [.int .i64 0, .int .i64 0, .int .i64 0] := (((RowL.new w2 _ _).alloc _)).other how3 (by omega); have hDB := DB.lt; have cDB_0 : w3.cell? ⟨w2.heap.size, 0, none⟩ = some (.int .i64 0) := DB.c 0 rfl; have fDB_0 : w3.frozen? ⟨w2.heap.size, 0, none⟩ = false := DB.frozen 0; have cDB_1 : w3.cell? ⟨w2.heap.size, 1, none⟩ = some (.int .i64 0) := DB.c 1 rfl; have fDB_1 : w3.frozen? ⟨w2.heap.size, 1, none⟩ = false := DB.frozen 1; have cDB_2 : w3.cell? ⟨w2.heap.size, 2, none⟩ = some (.int .i64 0) := DB.c 2 rfl; have fDB_2 : w3.frozen? ⟨w2.heap.size, 2, none⟩ = false := DB.frozen 2; have cNw3 := (LitAt.new w3).2 j z hz.out; have cMw3 := (LitAt.new2 w3 (.cells #[.int .i64 0, .int .i64 0, .int .i64 0] 48)).2 j z hz.out; have cOw3 := ((LitAt.new w3).alloc (.cells #[.int .i64 0, .int .i64 0, .int .i64 0] 48)).2 j z hz.out; clear how3 hrw3))
      | (go_at_call 61; first
          | ((with_reducible refine (pick_in R k 8 wx.drew HI0.out.drew.r (by omega) (by omega) (by omega)).mono ?_); rintro e w2 ⟨yw2, rfl, yaw2, ybw2, how2, hrw2⟩; have hzw2 := how2.size; (try simp at hzw2); have HI_w2 := hide (OnWay.mk (HI0.out.drew.o.trans how2) hrw2); obtain ⟨j, rfl⟩ : ∃ j : Nat, yw2 = j := ⟨yw2.toNat, by omega⟩; obtain ⟨z, hz_, hz0_, hz4⟩ := eight_at j (by omega); have hz := hide hz_; clear hz_; have cNw2 := (LitAt.new w2).2 j z hz.out; have cMw2 := (LitAt.new2 w2 (.cells #[.int .i64 0, .int .i64 0, .int .i64 0] 48)).2 j z hz.out; have cOw2 := ((LitAt.new w2).alloc (.cells #[.int .i64 0, .int .i64 0, .int .i64 0] 48)).2 j z hz.out; clear how2 hrw2)
          | ((with_reducible refine (pick_in R k 8 (wx.alloc (.cells #[.int .i64 0, .int .i64 1, .int .i64 1, .int .i64 2, .int .i64 2, .int .i64 2, .int .i64 3, .int .i64 4] 3)).drew (HI0.out.alloc _).drew.r (by omega) (by omega) (by omega)).mono ?_); rintro e w2 ⟨yw2, rfl, yaw2, ybw2, how2, hrw2⟩; have hzw2 := how2.size; (try simp at hzw2); have HI_w2 := hide (OnWay.mk ((HI0.out.alloc _).drew.o.trans how2) hrw2); obtain ⟨j, rfl⟩ : ∃ j : Nat, yw2 = j := ⟨yw2.toNat, by omega⟩; obtain ⟨z, hz_, hz0_, hz4⟩ := eight_at j (by omega); have hz := hide hz_; clear hz_; have LA : LitAt w2 (wx.heap.size) := ((LitAt.new wx).drew).other how2 (by omega); have hLA := LA.1; have cLA := LA.2 j z hz.out; have cNw2 := (LitAt.new w2).2 j z hz.out; have cMw2 := (LitAt.new2 w2 (.cells #[.int .i64 0, .int .i64 0, .int .i64 0] 48)).2 j z hz.out; have cOw2 := ((LitAt.new w2).alloc (.cells #[.int .i64 0, .int .i64 0, .int .i64 0] 48)).2 j z hz.out; clear how2 hrw2)
          | ((with_reducible refine (pick_in R k 8 (wx.alloc (.cells #[.int .i64 0, .int .i64 0, .int .i64 0] 48)).drew (HI0.out.alloc _).drew.r (by omega) (by omega) (by omega)).mono ?_); rintro e w2 ⟨yw2, rfl, yaw2, ybw2, how2, hrw2⟩; have hzw2 := how2.size; (try simp at hzw2); have HI_w2 := hide (OnWay.mk ((HI0.out.alloc _).drew.o.trans how2) hrw2); obtain ⟨j, rfl⟩ : ∃ j : Nat, yw2 = j := ⟨yw2.toNat, by omega⟩; obtain ⟨z, hz_, hz0_, hz4⟩ := eight_at j (by omega); have hz := hide hz_; clear hz_; have DA : RowL w2 (wx.heap.size) 48 [.int .i64 0, .int .i64 0, .int .i64 0] := ((RowL.new wx _ _).drew).other how2 (by omega); have hDA := DA.lt; have cDA_0 : w2.cell? ⟨wx.heap.size, 0, none⟩ = some (.int .i64 0) := DA.c 0 rfl; have fDA_0 : w2.frozen? ⟨wx.heap.size, 0, none⟩ = false := DA.frozen 0; have cDA_1 : w2.cell? ⟨wx.heap.size, 1, none⟩ = some (.int .i64 0) := DA.c 1 rfl; have fDA_1 : w2.frozen? ⟨wx.heap.size, 1, none⟩ = false := DA.frozen 1; have cDA_2 : w2.cell? ⟨wx.heap.size, 2, none⟩ = some (.int .i64 0) := DA.c 2 rfl; have fDA_2 : w2.frozen? ⟨wx.heap.size, 2, none⟩ = false := DA.frozen 2; have cNw2 := (LitAt.new w2).2 j z hz.out; have cMw2 := (LitAt.new2 w2 (.cells #[.int .i64 0, .int .i64 0, .int .i64 0] 48)).2 j z hz.out; have cOw2 := ((LitAt.new w2).alloc (.cells #[.int .i64 0, .int .i64 0, .int .i64 0] 48)).2 j z hz.out; clear how2 hrw2)
          | ((with_reducible refine (pick_in R k 8 ((wx.alloc (.cells #[.int .i64 0, .int .i64 1, .int .i64 1, .int .i64 2, .int .i64 2, .int .i64 2, .int .i64 3, .int .i64 4] 3)).alloc (.cells #[.int .i64 0, .int .i64 0, .int .i64 0] 48)).drew ((HI0.out.alloc _).alloc _).drew.r (by omega) (by omega) (by omega)).mono ?_); rintro e w2 ⟨yw2, rfl, yaw2, ybw2, how2, hrw2⟩; have hzw2 := how2.size; (try simp at hzw2); have HI_w2 := hide (OnWay.mk (((HI0.out.alloc _).alloc _).drew.o.trans how2) hrw2); obtain ⟨j, rfl⟩ : ∃ j : Nat, yw2 = j := ⟨yw2.toNat, by omega⟩; obtain ⟨z, hz_, hz0_, hz4⟩ := eight_at j (by omega); have hz := hide hz_; clear hz_; have LA : LitAt w2 (wx.heap.size) := (((LitAt.new wx).alloc _).drew).other how2 (by omega); have hLA := LA.1; have cLA := LA.2 j z hz.out; have DA : RowL w2 (wx.heap.size + 1) 48 [.int .i64 0, .int .i64 0, .int .i64 0] := ((row_new2 wx _ _ _).drew).other how2 (by omega); have hDA := DA.lt; have cDA_0 : w2.cell? ⟨wx.heap.size + 1, 0, none⟩ = some (.int .i64 0) := DA.c 0 rfl; have fDA_0 : w2.frozen? ⟨wx.heap.size + 1, 0, none⟩ = false := DA.frozen 0; have cDA_1 : w2.cell? ⟨wx.heap.size + 1, 1, none⟩ = some (.int .i64 0) := DA.c 1 rfl; have fDA_1 : w2.frozen? ⟨wx.heap.size + 1, 1, none⟩ = false := DA.frozen 1; have cDA_2 : w2.cell? ⟨wx.heap.size + 1, 2, none⟩ = some (.int .i64 0) := DA.c 2 rfl; have fDA_2 : w2.frozen? ⟨wx.heap.size + 1, 2, none⟩ = false := DA.frozen 2; have cNw2 := (LitAt.new w2).2 j z hz.out; have cMw2 := (LitAt.new2 w2 (.cells #[.int .i64 0, .int .i64 0, .int .i64 0] 48)).2 j z hz.out; have cOw2 := ((LitAt.new w2).alloc (.cells #[.int .i64 0, .int .i64 0, .int .i64 0] 48)).2 j z hz.out; clear how2 hrw2)
          | ((with_reducible refine (pick_in R k 8 ((wx.alloc (.cells #[.int .i64 0, .int .i64 0, .int .i64 0] 48)).alloc (.cells #[.int .i64 0, .int .i64 1, .int .i64 1, .int .i64 2, .int .i64 2, .int .i64 2, .int .i64 3, .int .i64 4] 3)).drew ((HI0.out.alloc _).alloc _).drew.r (by omega) (by omega) (by omega)).mono ?_); rintro e w2 ⟨yw2, rfl, yaw2, ybw2, how2, hrw2⟩; have hzw2 := how2.size; (try simp at hzw2); have HI_w2 := hide (OnWay.mk (((HI0.out.alloc _).alloc _).drew.o.trans how2) hrw2); obtain ⟨j, rfl⟩ : ∃ j : Nat, yw2 = j := ⟨yw2.toNat, by omega⟩; obtain ⟨z, hz_, hz0_, hz4⟩ := eight_at j (by omega); have hz := hide hz_; clear hz_; have LA : LitAt w2 (wx.heap.size + 1) := ((LitAt.new2 wx _).drew).other how2 (by omega); have hLA := LA.1; have cLA := LA.2 j z hz.out; have DA : RowL w2 (wx.heap.size) 48 [.int .i64 0, .int .i64 0, .int .i64 0] := (((RowL.new wx _ _).alloc _).drew).other how2 (by omega); have hDA := DA.lt; have cDA_0 : w2.cell? ⟨wx.heap.size, 0, none⟩ = some (.int .i64 0) := DA.c 0 rfl; have fDA_0 : w2.frozen? ⟨wx.heap.size, 0, none⟩ = false := DA.frozen 0; have cDA_1 : w2.cell? ⟨wx.heap.size, 1, none⟩ = some (.int .i64 0) := DA.c 1 rfl; have fDA_1 : w2.frozen? ⟨wx.heap.size, 1, none⟩ = false := DA.frozen 1; have cDA_2 : w2.cell? ⟨wx.heap.size, 2, none⟩ = some (.int .i64 0) := DA.c 2 rfl; have fDA_2 : w2.frozen? ⟨wx.heap.size, 2, none⟩ = false := DA.frozen 2; have cNw2 := (LitAt.new w2).2 j z hz.out; have cMw2 := (LitAt.new2 w2 (.cells #[.int .i64 0, .int .i64 0, .int .i64 0] 48)).2 j z hz.out; have cOw2 := ((LitAt.new w2).alloc (.cells #[.int .i64 0, .int .i64 0, .int .i64 0] 48)).2 j z hz.out; clear how2 hrw2)))
    all_goals
      go_wp2_with fail
      go_meet
      first
        | (with_reducible exact deed_new HI_w3.out _)
        | (with_reducible exact deed_new2 HI_w3.out _ _)
        | (with_reducible exact deed_new3 HI_w3.out _ _)
        | (with_reducible exact deed_put HI_w3.out DB (by omega) hRx _)
        | (with_reducible exact deed_put2 HI_w3.out DB (by omega) hRx _ _)
        | (with_reducible exact deed_put3 HI_w3.out DB (by omega) hRx _ _)
  obtain ⟨D, x, rfl, hD, D_c, hoc, hrc⟩ := hcut
  clear HI0
  have HOc := hide (HO0.out.trans hoc)
  have HRc := hide hrc
  have A_c := A_0.other hoc (by omega)
  have Z_c := Z_0.other hoc (by omega)
  have hzc := hoc.size
  have hDl := D_c.lt
  clear hoc hrc
  have cA8 : wc.cell? ⟨w.heap.size, 8, none⟩ = some (.slice ao2 m.pieces.length cap2) := A_c.c 8 rfl
  have cA9 : wc.cell? ⟨w.heap.size, 9, none⟩ = some (.slice ao3 m.low.length cap3) := A_c.c 9 rfl
  go_wp2_with fail
  clear cA8 cA9
  refine (pick_in R _ _ wc HRc.out (by omega) (by omega) (by omega)).mono ?_
  rintro e w11 ⟨u, rfl, ua, ub, ho, hr⟩
  have HO11 := hide (HOc.out.trans ho)
  have HR11 := hide hr
  have A_11 := A_c.other ho (by omega)
  have Z_11 := Z_c.other ho (by omega)
  have D_11 := D_c.other ho (by omega)
  have hz11 := ho.size
  clear ho hr
  have cD0 : w11.cell? ⟨D, 0, none⟩ = some (.int .i64 x) := D_11.c 0 rfl
  have cD1 : w11.cell? ⟨D, 1, none⟩ = some (.int .i64 0) := D_11.c 1 rfl
  have cD2 : w11.cell? ⟨D, 2, none⟩ = some (.int .i64 0) := D_11.c 2 rfl
  have fD1 := D_11.frozen 1
  by_cases e0 : x = 0
  · have hx0 : (x == 0) = true := by simp [e0]
    go_wp2_with fail
    clear cD0 cD1 cD2 fD1
    refine calls_at fun wp hwy => ?_
    have hon : Other D (D + 1) w11 wp := by rw [hwy]; exact (Other.refl _ _ _).setCell (p := ⟨D, 1, none⟩) (Nat.le_refl _) (Nat.lt_succ_self _) _
    have D_12 : RowL wp D 48 [.int .i64 x, .int .i64 (1 + u), .int .i64 0] := by rw [hwy]; exact D_11.set 1 _ (by simp)
    have HO12 := hide (HO11.out.step (hon.below (B := w.heap.size) (by omega) (by omega)) (Nat.le_refl _))
    have HR12 := hide (HR11.out.keep (hon.below (B := w.heap.size) (by omega) (by omega)) hlt)
    have A_12 := A_11.other hon (by omega)
    have Z_12 := Z_11.other hon (by omega)
    have hz12 := hon.size
    clear hwy hon
    refine (pick_in R _ 7 wp HR12.out (by omega) (by omega) (by omega)).mono ?_
    rintro e w13 ⟨a, rfl, aa, ab, ho, hr⟩
    have HO13 := hide (HO12.out.trans ho)
    have HR13 := hide hr
    have A_13 := A_12.other ho (by omega)
    have Z_13 := Z_12.other ho (by omega)
    have D_13 := D_12.other ho (by omega)
    have hz13 := ho.size
    clear ho hr
    have cZ0 : w13.cell? ⟨w.heap.size + 1, 0, none⟩ = some (.int .i64 0) := Z_13.c 0 rfl
    have cZ1 : w13.cell? ⟨w.heap.size + 1, 1, none⟩ = some (.int .i64 0) := Z_13.c 1 rfl
    have cZ2 : w13.cell? ⟨w.heap.size + 1, 2, none⟩ = some (.int .i64 0) := Z_13.c 2 rfl
    have fZ0 := Z_13.frozen 0
    have fZ1 := Z_13.frozen 1
    have fZ2 := Z_13.frozen 2
    have cD0 : w13.cell? ⟨D, 0, none⟩ = some (.int .i64 x) := D_13.c 0 rfl
    have cD1 : w13.cell? ⟨D, 1, none⟩ = some (.int .i64 (1 + u)) := D_13.c 1 rfl
    have cD2 : w13.cell? ⟨D, 2, none⟩ = some (.int .i64 0) := D_13.c 2 rfl
    have fD0 := D_13.frozen 0
    have fD1 := D_13.frozen 1
    have fD2 := D_13.frozen 2
    go_wp2_with fail
    refine bodyPost_ret (by simp [results, Tryz.results106, go_sem, cZ0, cZ1, cZ2]; try rfl) rfl ?_
    exact ⟨⟨_, 1 + a, 0⟩, rfl, by dsimp only; omega, by dsimp only; omega, HO13.out.step (B := w.heap.size) (by go_grown) (Nat.le_refl _), (HR13.out.keep (B := w.heap.size) (by go_grown) hlt).mono (by omega)⟩
  by_cases e1 : x = 1
  · have hx0 : (x == 0) = false := by simp [e0]
    have hx1 : (x == 1) = true := by simp [e1]
    go_wp2_with fail
    clear cD0 cD1 cD2 fD1
    refine calls_at fun wp hwy => ?_
    have hon : Other D (D + 1) w11 wp := by rw [hwy]; exact (Other.refl _ _ _).setCell (p := ⟨D, 1, none⟩) (Nat.le_refl _) (Nat.lt_succ_self _) _
    have D_12 : RowL wp D 48 [.int .i64 x, .int .i64 (1 + u), .int .i64 0] := by rw [hwy]; exact D_11.set 1 _ (by simp)
    have HO12 := hide (HO11.out.step (hon.below (B := w.heap.size) (by omega) (by omega)) (Nat.le_refl _))
    have HR12 := hide (HR11.out.keep (hon.below (B := w.heap.size) (by omega) (by omega)) hlt)
    have A_12 := A_11.other hon (by omega)
    have Z_12 := Z_11.other hon (by omega)
    have hz12 := hon.size
    clear hwy hon
    refine (pick_in R _ 5 wp HR12.out (by omega) (by omega) (by omega)).mono ?_
    rintro e w13 ⟨a, rfl, aa, ab, ho, hr⟩
    have HO13 := hide (HO12.out.trans ho)
    have HR13 := hide hr
    have A_13 := A_12.other ho (by omega)
    have Z_13 := Z_12.other ho (by omega)
    have D_13 := D_12.other ho (by omega)
    have hz13 := ho.size
    clear ho hr
    have cD0 : w13.cell? ⟨D, 0, none⟩ = some (.int .i64 x) := D_13.c 0 rfl
    have cD1 : w13.cell? ⟨D, 1, none⟩ = some (.int .i64 (1 + u)) := D_13.c 1 rfl
    have cD2 : w13.cell? ⟨D, 2, none⟩ = some (.int .i64 0) := D_13.c 2 rfl
    have fD1 := D_13.frozen 1
    go_wp2_with fail
    clear cD0 cD1 cD2 fD1
    obtain ⟨wq, hwy⟩ : ∃ uw : World, uw = w13.setCell ⟨D, 1, none⟩ (.int .i64 (3 + a)) := ⟨_, rfl⟩
    rw [← hwy]
    have hon : Other D (D + 1) w13 wq := by rw [hwy]; exact (Other.refl _ _ _).setCell (p := ⟨D, 1, none⟩) (Nat.le_refl _) (Nat.lt_succ_self _) _
    have D_14 : RowL wq D 48 [.int .i64 x, .int .i64 (3 + a), .int .i64 0] := by rw [hwy]; exact D_13.set 1 _ (by simp)
    have HO14 := hide (HO13.out.step (hon.below (B := w.heap.size) (by omega) (by omega)) (Nat.le_refl _))
    have HR14 := hide (HR13.out.keep (hon.below (B := w.heap.size) (by omega) (by omega)) hlt)
    have A_14 := A_13.other hon (by omega)
    have Z_14 := Z_13.other hon (by omega)
    have hz14 := hon.size
    clear hwy hon
    have cD0 : wq.cell? ⟨D, 0, none⟩ = some (.int .i64 x) := D_14.c 0 rfl
    have cD1 : wq.cell? ⟨D, 1, none⟩ = some (.int .i64 (3 + a)) := D_14.c 1 rfl
    have cD2 : wq.cell? ⟨D, 2, none⟩ = some (.int .i64 0) := D_14.c 2 rfl
    have fD2 := D_14.frozen 2
    have hI : (World.drew wq).cell? ⟨D, 1, none⟩ = some (.int .i64 (3 + a)) := D_14.c 1 rfl
    have HRd := hide (show Rd R _ (World.drew wq) from HR14.out.keep ((Below.refl _ _).drew) HR14.out.lt)
    have HOd := hide (show Other R (R + 1) w (World.drew wq) from HO14.out.step ((Below.refl wq.heap.size wq).drew) (by omega))
    have hDd := RowL.drew D_14
    have hZd := RowL.drew Z_14
    go_region_held (fun W => W.cell? ⟨D, 1, none⟩ = some (.int .i64 (3 + a))) (first | (with_reducible exact hI) | (with_reducible exact hS1) | (with_reducible exact hS2) | exact (D_t.set 2 _ (by simp)).c 1 rfl) (first
      | (go_at_call 61; (with_reducible refine (pick_in R _ 20 _ HRs.out (by omega) (by omega) (by omega)).mono ?_); rintro e wt ⟨b2, rfl, ba2, bb2, ho, hr⟩; obtain ⟨q, hq, hqa, hqb⟩ := tdiv01 (n := 19) ba2 (by omega) (by omega); have D_t := D_s.other ho (by omega); have Z_t := Z_s.other ho (by omega); have HOt := hide (HOs.out.trans ho); have HRt := hide hr; have hzt := ho.size; have hS2 : wt.cell? ⟨D, 1, none⟩ = some (.int .i64 (3 + a)) := D_t.c 1 rfl; have cq : wt.cell? ⟨D, 2, none⟩ = some (.int .i64 0) := D_t.c 2 rfl; have fq : wt.frozen? ⟨D, 2, none⟩ = false := D_t.frozen 2; clear ho hr)
      | (go_at_call 61; (with_reducible refine (pick_in R _ 6 _ HRd.out (by omega) (by omega) (by omega)).mono ?_); rintro e ws ⟨b1, rfl, ba1, bb1, ho, hr⟩; have D_s := hDd.other ho (by omega); have Z_s := hZd.other ho (by omega); have HOs := hide (HOd.out.trans ho); have HRs := hide hr; have hzs := ho.size; have hS1 : ws.cell? ⟨D, 1, none⟩ = some (.int .i64 (3 + a)) := D_s.c 1 rfl; clear ho hr))
    clear hI hS1 hS2 HRd HOd cq fq
    clear cD0 cD1 cD2 fD2
    have cZ0 : wt.cell? ⟨w.heap.size + 1, 0, none⟩ = some (.int .i64 0) := Z_t.c 0 rfl
    have cZ1 : wt.cell? ⟨w.heap.size + 1, 1, none⟩ = some (.int .i64 0) := Z_t.c 1 rfl
    have cZ2 : wt.cell? ⟨w.heap.size + 1, 2, none⟩ = some (.int .i64 0) := Z_t.c 2 rfl
    have fZ0 := Z_t.frozen 0
    have fZ1 := Z_t.frozen 1
    have fZ2 := Z_t.frozen 2
    have cD0 : wt.cell? ⟨D, 0, none⟩ = some (.int .i64 x) := D_t.c 0 rfl
    have cD1 : wt.cell? ⟨D, 1, none⟩ = some (.int .i64 (3 + a)) := D_t.c 1 rfl
    have cD2 : wt.cell? ⟨D, 2, none⟩ = some (.int .i64 0) := D_t.c 2 rfl
    have fD0 := D_t.frozen 0
    have fD1 := D_t.frozen 1
    have fD2 := D_t.frozen 2
    go_wp2_with fail
    refine bodyPost_ret (by simp [results, Tryz.results106, go_sem, cZ0, cZ1, cZ2]; try rfl) rfl ?_
    exact ⟨⟨_, 3 + a, _⟩, rfl, by dsimp only; omega, by dsimp only; omega, HOt.out.step (B := w.heap.size) (by go_grown) (Nat.le_refl _), (HRt.out.keep (B := w.heap.size) (by go_grown) hlt).mono (by omega)⟩
  by_cases e2 : x = 2
  · have hx0 : (x == 0) = false := by simp [e0]
    have hx1 : (x == 1) = false := by simp [e1]
    have hx2 : (x == 2) = true := by simp [e2]
    go_wp2_with fail
    clear cD0 cD1 cD2 fD1
    refine calls_at fun wp hwy => ?_
    have hon : Other D (D + 1) w11 wp := by rw [hwy]; exact (Other.refl _ _ _).setCell (p := ⟨D, 1, none⟩) (Nat.le_refl _) (Nat.lt_succ_self _) _
    have D_12 : RowL wp D 48 [.int .i64 x, .int .i64 (1 + u), .int .i64 0] := by rw [hwy]; exact D_11.set 1 _ (by simp)
    have HO12 := hide (HO11.out.step (hon.below (B := w.heap.size) (by omega) (by omega)) (Nat.le_refl _))
    have HR12 := hide (HR11.out.keep (hon.below (B := w.heap.size) (by omega) (by omega)) hlt)
    have A_12 := A_11.other hon (by omega)
    have Z_12 := Z_11.other hon (by omega)
    have hz12 := hon.size
    clear hwy hon
    refine (pick_in R _ _ wp HR12.out (by omega) (by omega) (by omega)).mono ?_
    rintro e w13 ⟨a, rfl, aa, ab, ho, hr⟩
    have HO13 := hide (HO12.out.trans ho)
    have HR13 := hide hr
    have A_13 := A_12.other ho (by omega)
    have Z_13 := Z_12.other ho (by omega)
    have D_13 := D_12.other ho (by omega)
    have hz13 := ho.size
    clear ho hr
    go_wp2_with fail
    refine (pick_in R _ 40 w13 HR13.out (by omega) (by omega) (by omega)).mono ?_
    rintro e w14 ⟨b, rfl, ba, bb, ho, hr⟩
    have HO14 := hide (HO13.out.trans ho)
    have HR14 := hide hr
    have A_14 := A_13.other ho (by omega)
    have Z_14 := Z_13.other ho (by omega)
    have D_14 := D_13.other ho (by omega)
    have hz14 := ho.size
    clear ho hr
    obtain ⟨q, hq, hqa, hqb⟩ := tdiv01 (n := 39) ba (by omega) (by omega)
    have cZ0 : w14.cell? ⟨w.heap.size + 1, 0, none⟩ = some (.int .i64 0) := Z_14.c 0 rfl
    have cZ1 : w14.cell? ⟨w.heap.size + 1, 1, none⟩ = some (.int .i64 0) := Z_14.c 1 rfl
    have cZ2 : w14.cell? ⟨w.heap.size + 1, 2, none⟩ = some (.int .i64 0) := Z_14.c 2 rfl
    have fZ0 := Z_14.frozen 0
    have fZ1 := Z_14.frozen 1
    have fZ2 := Z_14.frozen 2
    have cD0 : w14.cell? ⟨D, 0, none⟩ = some (.int .i64 x) := D_14.c 0 rfl
    have cD1 : w14.cell? ⟨D, 1, none⟩ = some (.int .i64 (1 + u)) := D_14.c 1 rfl
    have cD2 : w14.cell? ⟨D, 2, none⟩ = some (.int .i64 0) := D_14.c 2 rfl
    have fD0 := D_14.frozen 0
    have fD1 := D_14.frozen 1
    have fD2 := D_14.frozen 2
    go_wp2_with fail
    refine bodyPost_ret (by simp [results, Tryz.results106, go_sem, cZ0, cZ1, cZ2]; try rfl) rfl ?_
    exact ⟨⟨_, 1 + u, _⟩, rfl, by dsimp only; omega, by dsimp only; omega, HO14.out.step (B := w.heap.size) (by go_grown) (Nat.le_refl _), (HR14.out.keep (B := w.heap.size) (by go_grown) hlt).mono (by omega)⟩
  by_cases e3 : x = 3
  · have hx0 : (x == 0) = false := by simp [e0]
    have hx1 : (x == 1) = false := by simp [e1]
    have hx2 : (x == 2) = false := by simp [e2]
    have hx3 : (x == 3) = true := by simp [e3]
    go_wp2_with fail
    clear cD0 cD1 cD2 fD1
    refine calls_at fun wp hwy => ?_
    have hon : Other D (D + 1) w11 wp := by rw [hwy]; exact (Other.refl _ _ _).setCell (p := ⟨D, 1, none⟩) (Nat.le_refl _) (Nat.lt_succ_self _) _
    have D_12 : RowL wp D 48 [.int .i64 x, .int .i64 (1 + u), .int .i64 0] := by rw [hwy]; exact D_11.set 1 _ (by simp)
    have HO12 := hide (HO11.out.step (hon.below (B := w.heap.size) (by omega) (by omega)) (Nat.le_refl _))
    have HR12 := hide (HR11.out.keep (hon.below (B := w.heap.size) (by omega) (by omega)) hlt)
    have A_12 := A_11.other hon (by omega)
    have Z_12 := Z_11.other hon (by omega)
    have hz12 := hon.size
    clear hwy hon
    refine (pick_in R _ _ wp HR12.out (by omega) (by omega) (by omega)).mono ?_
    rintro e w13 ⟨a, rfl, aa, ab, ho, hr⟩
    have HO13 := hide (HO12.out.trans ho)
    have HR13 := hide hr
    have A_13 := A_12.other ho (by omega)
    have Z_13 := Z_12.other ho (by omega)
    have D_13 := D_12.other ho (by omega)
    have hz13 := ho.size
    clear ho hr
    go_wp2_with fail
    refine (pick_in R _ 40 w13 HR13.out (by omega) (by omega) (by omega)).mono ?_
    rintro e w14 ⟨b, rfl, ba, bb, ho, hr⟩
    have HO14 := hide (HO13.out.trans ho)
    have HR14 := hide hr
    have A_14 := A_13.other ho (by omega)
    have Z_14 := Z_13.other ho (by omega)
    have D_14 := D_13.other ho (by omega)
    have hz14 := ho.size
    clear ho hr
    obtain ⟨q, hq, hqa, hqb⟩ := tdiv01 (n := 39) ba (by omega) (by omega)
    have cD0 : w14.cell? ⟨D, 0, none⟩ = some (.int .i64 x) := D_14.c 0 rfl
    have cD1 : w14.cell? ⟨D, 1, none⟩ = some (.int .i64 (1 + u)) := D_14.c 1 rfl
    have cD2 : w14.cell? ⟨D, 2, none⟩ = some (.int .i64 0) := D_14.c 2 rfl
    have fD1 := D_14.frozen 1
    go_wp2_with fail
    clear cD0 cD1 cD2 fD1
    refine calls_at fun wq hwy => ?_
    have hon : Other D (D + 1) w14 wq := by rw [hwy]; exact (Other.refl _ _ _).setCell (p := ⟨D, 1, none⟩) (Nat.le_refl _) (Nat.lt_succ_self _) _
    have D_15 : RowL wq D 48 [.int .i64 x, .int .i64 (a - q * 9), .int .i64 0] := by rw [hwy]; exact D_14.set 1 _ (by simp)
    have HO15 := hide (HO14.out.step (hon.below (B := w.heap.size) (by omega) (by omega)) (Nat.le_refl _))
    have HR15 := hide (HR14.out.keep (hon.below (B := w.heap.size) (by omega) (by omega)) hlt)
    have A_15 := A_14.other hon (by omega)
    have Z_15 := Z_14.other hon (by omega)
    have hz15 := hon.size
    clear hwy hon
    refine (pick_in R _ _ wq HR15.out (by omega) (by omega) (by omega)).mono ?_
    rintro e w16 ⟨c, rfl, ca, cb, ho, hr⟩
    have HO16 := hide (HO15.out.trans ho)
    have HR16 := hide hr
    have A_16 := A_15.other ho (by omega)
    have Z_16 := Z_15.other ho (by omega)
    have D_16 := D_15.other ho (by omega)
    have hz16 := ho.size
    clear ho hr
    have cZ0 : w16.cell? ⟨w.heap.size + 1, 0, none⟩ = some (.int .i64 0) := Z_16.c 0 rfl
    have cZ1 : w16.cell? ⟨w.heap.size + 1, 1, none⟩ = some (.int .i64 0) := Z_16.c 1 rfl
    have cZ2 : w16.cell? ⟨w.heap.size + 1, 2, none⟩ = some (.int .i64 0) := Z_16.c 2 rfl
    have fZ0 := Z_16.frozen 0
    have fZ1 := Z_16.frozen 1
    have fZ2 := Z_16.frozen 2
    have cD0 : w16.cell? ⟨D, 0, none⟩ = some (.int .i64 x) := D_16.c 0 rfl
    have cD1 : w16.cell? ⟨D, 1, none⟩ = some (.int .i64 (a - q * 9)) := D_16.c 1 rfl
    have cD2 : w16.cell? ⟨D, 2, none⟩ = some (.int .i64 0) := D_16.c 2 rfl
    have fD0 := D_16.frozen 0
    have fD1 := D_16.frozen 1
    have fD2 := D_16.frozen 2
    go_wp2_with fail
    refine bodyPost_ret (by simp [results, Tryz.results106, go_sem, cZ0, cZ1, cZ2]; try rfl) rfl ?_
    exact ⟨⟨_, a - q * 9, c⟩, rfl, by dsimp only; omega, by dsimp only; omega, HO16.out.step (B := w.heap.size) (by go_grown) (Nat.le_refl _), (HR16.out.keep (B := w.heap.size) (by go_grown) hlt).mono (by omega)⟩
  have hx0 : (x == 0) = false := by simp [e0]
  have hx1 : (x == 1) = false := by simp [e1]
  have hx2 : (x == 2) = false := by simp [e2]
  have hx3 : (x == 3) = false := by simp [e3]
  clear cD0 cD1 cD2 fD1
  have cZ0 : w11.cell? ⟨w.heap.size + 1, 0, none⟩ = some (.int .i64 0) := Z_11.c 0 rfl
  have cZ1 : w11.cell? ⟨w.heap.size + 1, 1, none⟩ = some (.int .i64 0) := Z_11.c 1 rfl
  have cZ2 : w11.cell? ⟨w.heap.size + 1, 2, none⟩ = some (.int .i64 0) := Z_11.c 2 rfl
  have fZ0 := Z_11.frozen 0
  have fZ1 := Z_11.frozen 1
  have fZ2 := Z_11.frozen 2
  have cD0 : w11.cell? ⟨D, 0, none⟩ = some (.int .i64 x) := D_11.c 0 rfl
  have cD1 : w11.cell? ⟨D, 1, none⟩ = some (.int .i64 0) := D_11.c 1 rfl
  have cD2 : w11.cell? ⟨D, 2, none⟩ = some (.int .i64 0) := D_11.c 2 rfl
  have fD0 := D_11.frozen 0
  have fD1 := D_11.frozen 1
  have fD2 := D_11.frozen 2
  go_wp2_with fail
  refine bodyPost_ret (by simp [results, Tryz.results106, go_sem, cZ0, cZ1, cZ2]; try rfl) rfl ?_
  exact ⟨⟨_, 1 + u, 0⟩, rfl, by dsimp only; omega, by dsimp only; omega, HO11.out.step (B := w.heap.size) (by go_grown) (Nat.le_refl _), (HR11.out.keep (B := w.heap.size) (by go_grown) hlt).mono (by omega)⟩
end Go.Proofs.YtmemgbklgcjobaaGreatDoor
